/- The document's records by their order (ref14.Sorted), walked. -/
import Derived.Test.YtckbeppofnnfkaaLt0
import Derived.Test.YtckbeppofnnfkaaRf1
import Derived.Deep.CutBlock
namespace Go.Proofs.Ytckbeppofnnfkaa
open Go.RowKit Go.Und
attribute [local go_sem] Oper.semAt_some

theorem cell_frK {w w' : World} {a : Addr} {v : Value} (f : Fr None w w') (h : w.cell? a = some v) : w'.cell? a = some v :=
  (World.cell?_of_block (f.block _ (World.block_lt_of_cell? w _ h) (fun h => h))).trans h
theorem sortR_take {l : List Rc} {i : Nat} {r : Rc} (h : l[i]? = some r) : sortR (l.take (i + 1)) = insR r (sortR (l.take i)) := by
  have e : l.take (i + 1) = l.take i ++ [r] := by
    rw [List.take_add_one, h]; rfl
  unfold sortR
  rw [e, List.foldl_append]; rfl
theorem sortR_perm (l : List Rc) : (sortR l).Perm l := by
  have h : ∀ (l out : List Rc), (l.foldl (fun out r => insR r out) out).Perm (out ++ l) := by
    intro l
    induction l with
    | nil => intro out; simp
    | cons r l ih => intro out; exact (ih (insR r out)).trans (((insR_perm r out).append_right l).trans List.perm_middle.symm)
  have h1 := h l []
  rw [List.nil_append] at h1
  exact h1
theorem takeWhile_len {α : Type} (p : α → Bool) (l : List α) {k : Nat} (hk : k ≤ l.length) (h1 : ∀ j x, j < k → l[j]? = some x → p x = true) (h2 : ∀ x, l[k]? = some x → p x = false) : (l.takeWhile p) = l.take k ∧ l.dropWhile p = l.drop k := by
  induction l generalizing k with
  | nil => simp
  | cons a l ih =>
    cases k with
    | zero =>
      have := h2 a rfl
      simp [this]
    | succ k =>
      have h0 := h1 0 a (by omega) rfl
      obtain ⟨i1, i2⟩ := ih (k := k) (by simpa using hk) (fun j x hj hx => h1 (j + 1) x (by omega) (by simpa using hx)) (fun x hx => h2 x (by simpa using hx))
      rw [List.takeWhile_cons_of_pos h0, List.dropWhile_cons_of_pos h0, i1, i2]
      exact ⟨rfl, rfl⟩

set_option maxRecDepth 100000 in
set_option maxHeartbeats 4000000 in
theorem rfSorted_any (p : Option Addr) (cap : Nat) (l : List Rc) (w : World) (hr : Reads w 7 p l.length cap (fc rcl l)) (hs : l.length ≤ 1000) :
    Calls Try.prog 71 #[.slice p l.length cap] w fun e w' => ∃ q c, e = .returned (.slice q (sortR l).length c) ∧ Owns rcl 7 Rc2T w' (.slice q (sortR l).length c) (sortR l) ∧ Fr None w w' := by
  have HR := Lib.hid hr
  clear hr
  obtain ⟨i, hi, hz0, hz1, hz2⟩ := info_parts rc2Info
  have HI := Lib.hid (And.intro hi (And.intro hz0 (And.intro hz1 hz2))); clear hi hz0 hz1 hz2
  go_enter Try.func71, Try.ntmps71
  go_wp2_with fail
  go_loopg [3, 4] l.length (fun n ov iv wr => ∃ (k : Nat) (q : Option Addr) (c : Nat) (out : List Rc), k + n = l.length ∧ iv = .int .i64 k ∧ ov = .slice q out.length c ∧ out = sortR (l.take k) ∧ Owns rcl 7 Rc2T wr (.slice q out.length c) out ∧ Fr None w wr)
  case atStart => exact ⟨0, none, 0, [], by omega, rfl, rfl, rfl, Owns.nil rcl 7 Rc2T w, Fr.refl None w⟩
  case round =>
    obtain ⟨k, q, c, out, hk0, rfl, rfl, ho, hO, hF⟩ := hrel
    have HO := Lib.hid hO
    have HF := Lib.hid hF
    have HE := Lib.hid ho
    have hol : out.length ≤ 1000 := by
      rw [ho, (sortR_perm _).length_eq, List.length_take]; omega
    clear hO hF ho
    by_cases g : k < l.length
    · have ex := List.getElem?_eq_getElem g
      obtain ⟨b, off, rfl, hc⟩ := (HR.out.fr HF.out (fun _ _ h => h)).elem rcl_len (by decide) ex
      generalize l[k] = r at *
      have c3 : wr.cell? ⟨b, off + k * 7 + 3, none⟩ = some (.int .i64 r.order) := hc 3 _ rfl
      have HC := Lib.hid hc
      have EX := Lib.hid ex
      clear hc ex
      go_upto_block 2 with fail
      go_cut [5] from 13 to 31 (fun kv wx => ∃ (j m : Nat), kv = .int .i64 j ∧ wx = wr.drewN m ∧ j ≤ out.length ∧ (out.takeWhile fun x => decide (x.order < r.order)) = out.take j ∧ (out.dropWhile fun x => decide (x.order < r.order)) = out.drop j)
      case first =>
        go_wp2_with fail
        go_loopg [5] (out.length + 1) (fun n kv wx => ∃ (j m : Nat), j + n = out.length + 1 ∧ kv = .int .i64 j ∧ wx = wr.drewN m ∧ j ≤ out.length ∧ ∀ jj x, jj < j → out[jj]? = some x → x.order < r.order)
        case atStart => exact ⟨0, 0, by omega, rfl, rfl, Nat.zero_le _, fun jj x h => absurd h (by omega)⟩
        case round =>
          obtain ⟨j, m, hj0, rfl, rfl, hjl, hb⟩ := hrel
          have HB := Lib.hid hb
          clear hb
          by_cases gj : j < out.length
          · have ej := List.getElem?_eq_getElem gj
            obtain ⟨b2, rfl, -, hc2, -⟩ := HO.out.elem rcl_len (by decide) ej
            have d3 : wr.cell? ⟨b2, j * 7 + 3, none⟩ = some (.int .i64 out[j].order) := hc2 3 _ rfl
            clear hc2
            by_cases go : out[j].order < r.order
            · have EJ := Lib.hid ej
              have GO := Lib.hid go
              clear ej
              generalize out[j] = y at *
              go_wp2_with fail
              go_quiet (fail)
              go_wp2_with fail
              go_roundg (gk - 1)
              case measure => omega
              case rel =>
                refine ⟨j + 1, _, by omega, by go_num, rfl, by omega, fun jj x hj hx => ?_⟩
                rcases Nat.lt_succ_iff_lt_or_eq.1 hj with h | rfl
                · exact HB.out jj x h hx
                · rw [EJ.out] at hx; cases hx; exact GO.out
            · have TW := Lib.hid (takeWhile_len (fun x => decide (x.order < r.order)) out hjl (fun jj x hj hx => by simpa using HB.out jj x hj hx) (fun x hx => by rw [ej] at hx; cases hx; simpa using go))
              clear ej
              generalize out[j] = y at *
              go_wp2_with fail
              go_quiet (fail)
              go_wp2_with fail
              go_meet
              exact ⟨j, m + nq, rfl, World.drewN_drewN _ _ _, hjl, TW.out.1, TW.out.2⟩
          · have TW := Lib.hid (takeWhile_len (fun x => decide (x.order < r.order)) out hjl (fun jj x hj hx => by simpa using HB.out jj x hj hx) (fun x hx => by have := (List.getElem?_eq_some_iff.1 hx).1; omega))
            go_wp2_with fail
            go_quiet (fail)
            go_wp2_with fail
            go_meet
            exact ⟨j, m + nq, rfl, World.drewN_drewN _ _ _, hjl, TW.out.1, TW.out.2⟩
      case rest =>
        obtain ⟨j, m, rfl, rfl, hjl, ht, hd⟩ := hcut
        have HT := Lib.hid (And.intro ht hd)
        have HRO := Lib.hid (fun W (f : Fr None wr W) => HO.out.reads.2.1.fr f (fun _ _ h => h))
        clear ht hd
        have j0 : (0 : Int) ≤ j := by omega
        have hdw := Lib.hid ((Fr.refl None wr).drewN m)
        generalize wr.drewN m = V at *
        go_wp2_with (with_reducible refine wpList_cut_to _ rfl _ _ _ Rc2T rfl i 7 Try.underlying50 HI.out.1 HI.out.2.2.1 q out.length c (fc rcl out) rfl (HRO.out _ (hdw.out.alloc _)) .i64 (j : Int) rfl (by omega) (by omega) ?_)
        intro hr2
        rw [fc_take rcl_len] at hr2
        have HG0 := Lib.hid (GrowsR.start rcl 7 Rc2T V)
        have H2 := Lib.hid hr2; clear hr2
        refine wpList_append_row _ rfl _ _ _ rfl 0 Rc2T i _ 7 56 Try.underlying50 HI.out.1 HI.out.2.1 HI.out.2.2.1 HI.out.2.2.2 rfl (by omega) _ 0 (fc rcl []) rfl HG0.out.own q j c _ rfl H2.out (fc_one rcl_one _) (by simp [maxLen]; omega) (by omega) (Nat.zero_le _) ?_
        intro q1 c1 w2 ho1 hf1 hb1
        have G1 := HG0.out.step (r := out.take j) (by simp; omega) ho1 hf1 hb1
        simp only [Nat.zero_add, List.nil_append] at G1
        have HG1 := Lib.hid G1; clear G1 ho1 hf1 hb1 HG0 H2
        have d : ∀ jj u, (rcl r)[jj]? = some u → w2.cell? ⟨b, off + k * 7 + jj, none⟩ = some u := fun jj u hu => cell_frK (hdw.out.trans HG1.out.fr) (HC.out jj u hu)
        have d0 : w2.cell? ⟨b, off + k * 7, none⟩ = some (.int .i64 r.fr) := d 0 _ rfl
        have d1 : w2.cell? ⟨b, off + k * 7 + 1, none⟩ = some (.int .i64 r.to) := d 1 _ rfl
        have d2 : w2.cell? ⟨b, off + k * 7 + 2, none⟩ = some (.int .i64 r.sent) := d 2 _ rfl
        have d3 : w2.cell? ⟨b, off + k * 7 + 3, none⟩ = some (.int .i64 r.order) := d 3 _ rfl
        have d4 : w2.cell? ⟨b, off + k * 7 + 4, none⟩ = some (.int .i64 r.times) := d 4 _ rfl
        have d5 : w2.cell? ⟨b, off + k * 7 + 5, none⟩ = some (.int .i64 r.out) := d 5 _ rfl
        have d6 : w2.cell? ⟨b, off + k * 7 + 6, none⟩ = some (.bool r.lost) := d 6 _ rfl
        clear d c3
        go_wp2_with (at_builtin; refine Hold.out ?_)
        refine Hold.mk ?_
        refine wpList_append_row _ rfl _ _ _ rfl 0 Rc2T i _ 7 56 Try.underlying50 HI.out.1 HI.out.2.1 HI.out.2.2.1 HI.out.2.2.2 rfl (by omega) _ j (fc rcl (out.take j)) rfl (HG1.out.row _) (some ⟨w2.heap.size, 0, none⟩) 1 1 (fc rcl [r]) rfl (reads_oneR w2 Rc2T r rcl_len) (fc_one rcl_one _) (by simp [maxLen]; omega) (by omega) (Nat.zero_le _) ?_
        intro q2 c2 w3 ho2 hf2 hb2
        have G2 := (HG1.out.alloc (.cells (rcl r).toArray Rc2T)).step (r := [r]) (m := 1) rfl ho2 hf2 hb2
        have HG2 := Lib.hid G2; clear G2 ho2 hf2 hb2 HG1
        go_wp2_with (with_reducible refine wpList_cut_from _ rfl _ _ _ Rc2T rfl i 7 Try.underlying50 HI.out.1 HI.out.2.2.1 q out.length c (fc rcl out) rfl (HRO.out _ (hdw.out.trans HG2.out.fr)) .i64 (j : Int) rfl (by omega) (by omega) ?_)
        intro q3 hr3
        have hr4 : Reads w3 7 q3 (out.length - j) (c - j) (fc rcl (out.drop j)) := by rw [← fc_drop rcl_len]; exact hr3
        have H4 := Lib.hid hr4; clear hr3 hr4
        refine wpList_append_row _ rfl _ _ _ rfl 0 Rc2T i _ 7 56 Try.underlying50 HI.out.1 HI.out.2.1 HI.out.2.2.1 HI.out.2.2.2 rfl (by omega) _ (j + 1) (fc rcl (out.take j ++ [r])) rfl HG2.out.row0 q3 (out.length - j) _ (fc rcl (out.drop j)) rfl H4.out (fc_one rcl_one _) (by simp [maxLen]; omega) (by omega) (Nat.zero_le _) ?_
        intro q4 c4 w4 ho4 hf4 hb4
        have G3 := HG2.out.step (r := out.drop j) (by simp) ho4 hf4 hb4
        have HG3 := Lib.hid G3; clear G3 ho4 hf4 hb4 HG2 H4
        go_wp2_with fail
        go_roundg (gk - 1)
        case measure => omega
        case rel =>
          have e : out.take j ++ [r] ++ out.drop j = sortR (l.take (k + 1)) := by
            rw [sortR_take EX.out, ← HE.out]
            unfold insR
            rw [HT.out.1, HT.out.2]; simp
          have hz := HG3.out
          have hcnt := hz.cnt
          rw [e] at hz hcnt
          rw [hcnt] at hz ⊢
          exact ⟨k + 1, q4, c4, _, by omega, by go_num, rfl, rfl, hz.own, (HF.out.trans hdw.out).trans hz.fr⟩
    · go_wp2_with fail
      go_ret
      have e : l.take k = l := List.take_of_length_le (by omega)
      have he := HE.out
      rw [e] at he
      rw [← he]
      exact ⟨_, _, rfl, HO.out, HF.out⟩
end Go.Proofs.Ytckbeppofnnfkaa
