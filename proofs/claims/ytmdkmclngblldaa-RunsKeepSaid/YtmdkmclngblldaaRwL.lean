/- RunsKeep: walked. -/
import Derived.Test.YtmdkmclngblldaaRwK
import Derived.Test.YtmdkmclngblldaaEls
set_option linter.unusedVariables false
set_option linter.unusedSimpArgs false
namespace Go.Proofs.Ytmdkmclngblldaa
open Go.RowKit Go.Und Go.Shelf
open Go.ChangeShapes Go.WideShapes Go.ChangeAt Go.RowKit Go.Und
attribute [local go_sem] Oper.semAt_some
attribute [local go_sem ↓] Go.wp_at_zero Go.wp_at_succ

abbrev shSp : Sh := .agg (.cons (.int .i64) (.cons (.int .i64) .nil))
abbrev shOp7 : Sh := .agg (.cons .bool (.cons shSp .nil))
abbrev Op7T : TypeId := 40
theorem span_of {W : World} {u : U} {cs : List Value} (h : shSp.holds W u cs) : ∃ a b : Int, cs = [.int .i64 a, .int .i64 b] := by
  obtain ⟨_, _, g⟩ := h
  obtain ⟨_, _, _, _, _, e0, _, ⟨a, _, rfl, _⟩, g⟩ := g
  obtain ⟨_, _, _, _, _, e1, _, ⟨b, _, rfl, _⟩, g⟩ := g
  obtain ⟨_, rfl⟩ := g
  subst e1 e0
  exact ⟨a, b, rfl⟩
theorem op7_of {W : World} {u : U} {cs : List Value} (h : shOp7.holds W u cs) : ∃ (out : Bool) (a b : Int), cs = [.bool out, .int .i64 a, .int .i64 b] := by
  obtain ⟨_, _, g⟩ := h
  obtain ⟨_, _, _, _, _, e0, _, ⟨out, _, rfl⟩, g⟩ := g
  obtain ⟨_, _, _, _, _, e1, _, hs, g⟩ := g
  obtain ⟨a, b, rfl⟩ := span_of hs
  obtain ⟨_, rfl⟩ := g
  subst e1 e0
  exact ⟨out, a, b, rfl⟩
theorem spans_of {W : World} {v : Value} {u : U} (h : (Sh.slice shSp).holds W u [v]) : ∃ (p : Option Addr) (cap : Nat) (l : List (Int × Int)), v = .slice p l.length cap ∧ l.length ≤ cap ∧ cap ≤ maxLen ∧
    ∀ k x, l[k]? = some x → ∃ b off, p = some ⟨b, off, none⟩ ∧ W.cell? ⟨b, off + k * 2, none⟩ = some (.int .i64 x.1) ∧ W.cell? ⟨b, off + k * 2 + 1, none⟩ = some (.int .i64 x.2) := by
  obtain ⟨p, cap, L, rfl, h1, h2, h3⟩ := elems_of h (by decide)
  obtain ⟨l, hlen, hp⟩ := getElem?_some_of_list (f := fun _ => True) (P := fun k (x : Int × Int) => ∃ b off, p = some ⟨b, off, none⟩ ∧ W.cell? ⟨b, off + k * 2, none⟩ = some (.int .i64 x.1) ∧ W.cell? ⟨b, off + k * 2 + 1, none⟩ = some (.int .i64 x.2)) L.length (fun k hk => by
    obtain ⟨g1, ⟨u, g2⟩, b, off, rfl, hb, hc⟩ := h3 k L[k] (List.getElem?_eq_getElem hk)
    obtain ⟨x, y, e⟩ := span_of g2
    rw [e] at hc
    exact ⟨(x, y), b, off, rfl, (show W.cell? ⟨b, off + (k * 2 + 0), none⟩ = some (.int .i64 x) from hc 0 (by decide)), (show W.cell? ⟨b, off + (k * 2 + 1), none⟩ = some (.int .i64 y) from hc 1 (by decide))⟩)
  exact ⟨p, cap, l, by rw [hlen], by omega, h2, hp⟩
theorem not_pr {a b : Int} (h : ¬ PrS (a, b)) : (mayS (a, b) = false ∨ a = b) ∧ lenS (a, b) = 0 := by
  constructor
  · by_cases hm : mayS (a, b) = true
    · right
      have := (mayS_iff _).1 hm
      by_cases he : a = b
      · exact he
      · exact absurd ⟨this.1, by have := this.2.1; simp only at this ⊢; omega, this.2.2⟩ h
    · left; simpa using hm
  · by_cases he : lenS (a, b) = 0
    · exact he
    · exact absurd (lenS_ne he) h
theorem step_len (out : Bool) {l : List (Int × Int)} (ok : OkL l) (s : Int × Int) : (stepL out l s).length ≤ l.length + 1 := by
  unfold stepL
  split
  · omega
  · rename_i h
    split
    · exact rem_len (lenS_ne h).2.1 ok
    · exact hull_len_add ok (lenS_ne h)
theorem add_all (p : Nat) (q : Option Addr) (cap : Nat) (l : List (Int × Int)) (a b : Int) (w : World) (ok : OkL l) (hl : l.length < 4096) (S : Sep (fpL (rns p q cap l)) w w (rns p q cap l)) :
    Calls Try.prog 15 #[.pointer (at0 p), .agg #[.int .i64 a, .int .i64 b]] w fun e w' => ∃ n c q' c', e = .returned (.tuple #[.int .i64 n, .int .i64 c]) ∧ Sep (fpL (rns p q cap l)) w w' (rns p q' c' (stepL false l (a, b))) := by
  by_cases h : PrS (a, b)
  · have hl2 := hull_len_add ok h
    have e : stepL false l (a, b) = addL l (a, b) := by
      unfold stepL; rw [if_neg (by rw [lenS_of h]; have := h.2.1; simp only at this ⊢; omega)]; rfl
    rw [e]
    refine (add_do p q cap l a b w ok (by omega) h S).mono ?_
    rintro e w' (⟨_, rfl, q', c', T⟩ | ⟨g, _⟩)
    · exact ⟨_, _, q', c', rfl, T⟩
    · omega
  · obtain ⟨h1, h2⟩ := not_pr h
    have e : stepL false l (a, b) = l := by unfold stepL; rw [if_pos h2]
    rw [e]
    refine (add_odd p a b w h1).mono ?_
    rintro e w' ⟨rfl, F⟩
    exact ⟨_, _, q, cap, rfl, S.same F⟩
theorem rem_all2 (p : Nat) (q : Option Addr) (cap : Nat) (l : List (Int × Int)) (a b : Int) (w : World) (ok : OkL l) (hl : l.length < 4096) (S : Sep (fpL (rns p q cap l)) w w (rns p q cap l)) :
    Calls Try.prog 24 #[.pointer (at0 p), .agg #[.int .i64 a, .int .i64 b]] w fun e w' => ∃ n c q' c', e = .returned (.tuple #[.int .i64 n, .int .i64 c]) ∧ Sep (fpL (rns p q cap l)) w w' (rns p q' c' (stepL true l (a, b))) := by
  by_cases h : PrS (a, b)
  · have hl2 := rem_len (s := (a, b)) h.2.1 ok
    have e : stepL true l (a, b) = remL l (a, b) := by
      unfold stepL; rw [if_neg (by rw [lenS_of h]; have := h.2.1; simp only at this ⊢; omega)]; rfl
    rw [e]
    refine (rem_all p q cap l a b w ok (by omega) h S).mono ?_
    rintro e w' (⟨_, rfl, q', c', T⟩ | ⟨g, _⟩)
    · exact ⟨_, _, q', c', rfl, T⟩
    · omega
  · obtain ⟨h1, h2⟩ := not_pr h
    have e : stepL true l (a, b) = l := by unfold stepL; rw [if_pos h2]
    rw [e]
    refine (rem_odd p a b w h1).mono ?_
    rintro e w' ⟨rfl, F⟩
    exact ⟨_, _, q, cap, rfl, S.same F⟩

set_option maxRecDepth 100000 in
set_option maxHeartbeats 8000000 in
theorem runsKeep_walk (w : World) (vl : Value) (ul : U) (hl : (Sh.slice shSp).holds w ul [vl]) (co : Array Value) (uo : U) (ho : shOp7.holds w uo co.toList) (vk : Value) (uk : U) (hk : (Sh.int .i64).holds w uk [vk]) :
    Calls Try.prog 4 #[vl, .agg co, vk] w fun e w' => e = .returned (.bool true) ∧ Below w.heap.size w w' := by
  obtain ⟨pl, capl, l, rfl, hcl, hml, hat⟩ := spans_of hl
  obtain ⟨out, a, b, hco⟩ := op7_of ho
  obtain rfl : co = #[.bool out, .int .i64 a, .int .i64 b] := Array.toList_inj.1 hco
  obtain ⟨off, _, hk, _⟩ := hk
  simp only [List.cons.injEq, and_true] at hk
  subst hk
  have S0 := (Sep.law w).alloc #[.bool out, .int .i64 a, .int .i64 b] Op7T
  have HS0 := Lib.hid S0
  have HAT := Lib.hid hat
  clear S0 hat hl ho hco
  go_enter Try.func4, Try.ntmps4
  go_wp2_with (first
    | ((with_reducible refine (known7_any (w.alloc _)).mono ?_); rintro e0 w0 ⟨rfl, F0⟩; have HS1 := Lib.hid (HS0.out.same F0); clear F0)
    | ((with_reducible refine (new_any w0).mono ?_); rintro e1 w1 ⟨rfl, T⟩; have HS2 := Lib.hid (HS1.out.beside T); clear T)
    | fail)
  go_loopg [8] 100 (fun n i wr => ∃ (k : Nat) (q : Option Addr) (c : Nat) (L : List (Int × Int)), k + n = 100 ∧ k ≤ l.length ∧ i = .int .i64 k ∧ OkL L ∧ L.length ≤ k ∧ Sep None w wr (rns w0.heap.size q c L ++ [Ob.blk w.heap.size Op7T #[.bool out, .int .i64 a, .int .i64 b]]))
  case atStart => exact ⟨0, none, 0, [], by omega, by omega, rfl, trivial, Nat.le_refl _, HS2.out⟩
  case round =>
    clear HS0 HS1 HS2
    obtain ⟨k, q, c, L, hkn, hkl, rfl, okL, hLk, S1⟩ := hrel
    by_cases g : k < l.length ∧ k < 100
    · obtain ⟨g1, g2⟩ := g
      have ex := List.getElem?_eq_getElem g1
      obtain ⟨bb, oo, rfl, c1, c2⟩ := HAT.out k _ ex
      generalize l[k] = x at *
      obtain ⟨x1, x2⟩ := x
      have d1 : wr.cell? ⟨bb, oo + k * 2, none⟩ = some (.int .i64 x1) := cell_frN S1.fr c1
      have d2 : wr.cell? ⟨bb, oo + k * 2 + 1, none⟩ = some (.int .i64 x2) := cell_frN S1.fr c2
      have HC := Lib.hid (add_all w0.heap.size q c L x1 x2 wr okL (by omega) S1.head)
      have hok := (step_ok false okL (x1, x2)).1
      have hlen := step_len false okL (x1, x2)
      have HS := Lib.hid S1
      generalize stepL false L (x1, x2) = L2 at *
      have HOK := Lib.hid hok
      clear S1 okL hok ex c1 c2
      go_wp2_with ((with_reducible refine (HC.out).mono ?_); rintro e2 w2 ⟨n2, r2, q2, c2, rfl, T⟩; have HS2 := Lib.hid (HS.out.did T); clear T)
      go_roundg (gk - 1)
      case measure => omega
      case rel => exact ⟨k + 1, q2, c2, L2, by omega, by omega, by go_num, HOK.out, by omega, HS2.out⟩
    · have HOK := Lib.hid okL
      have HLk := Lib.hid (show L.length < 4096 by omega)
      have hst := step_ok out okL (a, b)
      have hlen := step_len out okL (a, b)
      have HH0 := Lib.hid (has_any w0.heap.size q c L off wr okL (by omega) (rns_row S1).1 (rns_row S1).2)
      have HRH := Lib.hid (fun W => rhas_any a b off W)
      have HS := Lib.hid S1
      obtain ⟨L2, eL2⟩ : ∃ L2, L2 = stepL out L (a, b) := ⟨_, rfl⟩
      rw [← eL2] at hst hlen
      have HL2 := Lib.hid eL2.symm
      have HOK2 := Lib.hid hst.1
      have HLk2 := Lib.hid (show L2.length ≤ 1000000 by omega)
      have hm := hst.2 off
      have hend : decide (k < l.length) = false ∨ (decide (k < l.length) = true ∧ decide ((k : Int) < 100) = false) := by
        by_cases h1 : k < l.length
        · exact .inr ⟨decide_eq_true h1, decide_eq_false (fun h2 => g ⟨h1, by omega⟩)⟩
        · exact .inl (decide_eq_false h1)
      have hm2 : memB L2 off = if out = true then (memB L off && !decide (inS (a, b) off)) else (memB L off || decide (inS (a, b) off)) := by
        cases out
        · rw [if_neg (by decide)] at hm ⊢
          apply Bool.eq_iff_iff.2
          rw [memB_iff, hm, Bool.or_eq_true, memB_iff, decide_eq_true_eq]
        · rw [if_pos rfl] at hm ⊢
          apply Bool.eq_iff_iff.2
          rw [memB_iff, hm, Bool.and_eq_true, memB_iff, Bool.not_eq_true', decide_eq_false_iff_not]
      clear okL hst hlen S1 eL2 hm g hkn hkl hLk
      generalize decide (inS (a, b) off) = ins at *
      generalize memB L off = m0 at *
      cases out <;> cases ins <;> cases m0 <;> simp only [if_true, if_false, Bool.not_true, Bool.not_false, Bool.and_true, Bool.and_false, Bool.or_true, Bool.or_false, Bool.false_and, Bool.true_and, Bool.false_or, Bool.true_or, Bool.false_eq_true] at hm2 <;> have HM2 := Lib.hid hm2 <;> clear hm2 <;> rcases hend with g1 | ⟨g1, g2⟩
      · skip
        go_wp2_with (first
          | ((with_reducible refine HH0.out.mono ?_); rintro e2 w2 ⟨rfl, F2⟩; have HS2 := Lib.hid (HS.out.same F2); have b0 : w2.cell? ⟨w.heap.size, 0, none⟩ = some (.bool false) := (HS2.out.at_ 2 rfl).cell 0; have b1 : w2.cell? ⟨w.heap.size, 1, none⟩ = some (.int .i64 a) := (HS2.out.at_ 2 rfl).cell 1; have b2 : w2.cell? ⟨w.heap.size, 2, none⟩ = some (.int .i64 b) := (HS2.out.at_ 2 rfl).cell 2; clear F2)
          | ((with_reducible refine (add_all w0.heap.size q c L a b w2 HOK.out HLk.out HS2.out.head).mono ?_); rintro e3 w3 ⟨n3, r3, q3, c3, rfl, T⟩; rw [HL2.out] at T; have HS3 := Lib.hid (HS2.out.did T); have f0 : w3.cell? ⟨w.heap.size, 0, none⟩ = some (.bool false) := (HS3.out.at_ 2 rfl).cell 0; have f1 : w3.cell? ⟨w.heap.size, 1, none⟩ = some (.int .i64 a) := (HS3.out.at_ 2 rfl).cell 1; have f2 : w3.cell? ⟨w.heap.size, 2, none⟩ = some (.int .i64 b) := (HS3.out.at_ 2 rfl).cell 2; clear T)
          | ((with_reducible refine (HRH.out w3).mono ?_); rintro e4 w4 ⟨rfl, F4⟩; have HS4 := Lib.hid (HS3.out.same F4); have h0 : w4.cell? ⟨w.heap.size, 0, none⟩ = some (.bool false) := (HS4.out.at_ 2 rfl).cell 0; clear F4)
          | (have HC5 := Lib.hid (fun W (S : Sep None w W (rns w0.heap.size q3 c3 L2 ++ [Ob.blk w.heap.size Op7T #[.bool false, .int .i64 a, .int .i64 b]])) => has_any w0.heap.size q3 c3 L2 off W HOK2.out HLk2.out (rns_row S).1 (rns_row S).2); rw [HM2.out] at HC5; (with_reducible refine (HC5.out _ (by exact HS4.out.same (by repeat (first | exact Fr.refl _ _ | refine Fr.drew ?_)))).mono ?_); rintro e5 w5 ⟨rfl, F5⟩; have HS5 := Lib.hid (HS4.out.same (show Fr None w4 w5 from Fr.trans (by repeat (first | exact Fr.refl _ _ | refine Fr.drew ?_)) F5)); have i0 : w5.cell? ⟨w.heap.size, 0, none⟩ = some (.bool false) := (HS5.out.at_ 2 rfl).cell 0; clear F5 HC5)
          | ((with_reducible refine (known7_any _).mono ?_); rintro e6 w6 ⟨rfl, F6⟩; have HS6 := Lib.hid (HS5.out.same (show Fr None w5 w6 from Fr.trans (by repeat (first | exact Fr.refl _ _ | refine Fr.drew ?_)) F6)); have j0 : w6.cell? ⟨w.heap.size, 0, none⟩ = some (.bool false) := (HS6.out.at_ 2 rfl).cell 0; clear F6)
          | fail)
        go_ret
        exact ⟨rfl, HS6.out.fr.none_below⟩
      · skip
        go_wp2_with (first
          | ((with_reducible refine HH0.out.mono ?_); rintro e2 w2 ⟨rfl, F2⟩; have HS2 := Lib.hid (HS.out.same F2); have b0 : w2.cell? ⟨w.heap.size, 0, none⟩ = some (.bool false) := (HS2.out.at_ 2 rfl).cell 0; have b1 : w2.cell? ⟨w.heap.size, 1, none⟩ = some (.int .i64 a) := (HS2.out.at_ 2 rfl).cell 1; have b2 : w2.cell? ⟨w.heap.size, 2, none⟩ = some (.int .i64 b) := (HS2.out.at_ 2 rfl).cell 2; clear F2)
          | ((with_reducible refine (add_all w0.heap.size q c L a b w2 HOK.out HLk.out HS2.out.head).mono ?_); rintro e3 w3 ⟨n3, r3, q3, c3, rfl, T⟩; rw [HL2.out] at T; have HS3 := Lib.hid (HS2.out.did T); have f0 : w3.cell? ⟨w.heap.size, 0, none⟩ = some (.bool false) := (HS3.out.at_ 2 rfl).cell 0; have f1 : w3.cell? ⟨w.heap.size, 1, none⟩ = some (.int .i64 a) := (HS3.out.at_ 2 rfl).cell 1; have f2 : w3.cell? ⟨w.heap.size, 2, none⟩ = some (.int .i64 b) := (HS3.out.at_ 2 rfl).cell 2; clear T)
          | ((with_reducible refine (HRH.out w3).mono ?_); rintro e4 w4 ⟨rfl, F4⟩; have HS4 := Lib.hid (HS3.out.same F4); have h0 : w4.cell? ⟨w.heap.size, 0, none⟩ = some (.bool false) := (HS4.out.at_ 2 rfl).cell 0; clear F4)
          | (have HC5 := Lib.hid (fun W (S : Sep None w W (rns w0.heap.size q3 c3 L2 ++ [Ob.blk w.heap.size Op7T #[.bool false, .int .i64 a, .int .i64 b]])) => has_any w0.heap.size q3 c3 L2 off W HOK2.out HLk2.out (rns_row S).1 (rns_row S).2); rw [HM2.out] at HC5; (with_reducible refine (HC5.out _ (by exact HS4.out.same (by repeat (first | exact Fr.refl _ _ | refine Fr.drew ?_)))).mono ?_); rintro e5 w5 ⟨rfl, F5⟩; have HS5 := Lib.hid (HS4.out.same (show Fr None w4 w5 from Fr.trans (by repeat (first | exact Fr.refl _ _ | refine Fr.drew ?_)) F5)); have i0 : w5.cell? ⟨w.heap.size, 0, none⟩ = some (.bool false) := (HS5.out.at_ 2 rfl).cell 0; clear F5 HC5)
          | ((with_reducible refine (known7_any _).mono ?_); rintro e6 w6 ⟨rfl, F6⟩; have HS6 := Lib.hid (HS5.out.same (show Fr None w5 w6 from Fr.trans (by repeat (first | exact Fr.refl _ _ | refine Fr.drew ?_)) F6)); have j0 : w6.cell? ⟨w.heap.size, 0, none⟩ = some (.bool false) := (HS6.out.at_ 2 rfl).cell 0; clear F6)
          | fail)
        go_ret
        exact ⟨rfl, HS6.out.fr.none_below⟩
      · skip
        go_wp2_with (first
          | ((with_reducible refine HH0.out.mono ?_); rintro e2 w2 ⟨rfl, F2⟩; have HS2 := Lib.hid (HS.out.same F2); have b0 : w2.cell? ⟨w.heap.size, 0, none⟩ = some (.bool false) := (HS2.out.at_ 2 rfl).cell 0; have b1 : w2.cell? ⟨w.heap.size, 1, none⟩ = some (.int .i64 a) := (HS2.out.at_ 2 rfl).cell 1; have b2 : w2.cell? ⟨w.heap.size, 2, none⟩ = some (.int .i64 b) := (HS2.out.at_ 2 rfl).cell 2; clear F2)
          | ((with_reducible refine (add_all w0.heap.size q c L a b w2 HOK.out HLk.out HS2.out.head).mono ?_); rintro e3 w3 ⟨n3, r3, q3, c3, rfl, T⟩; rw [HL2.out] at T; have HS3 := Lib.hid (HS2.out.did T); have f0 : w3.cell? ⟨w.heap.size, 0, none⟩ = some (.bool false) := (HS3.out.at_ 2 rfl).cell 0; have f1 : w3.cell? ⟨w.heap.size, 1, none⟩ = some (.int .i64 a) := (HS3.out.at_ 2 rfl).cell 1; have f2 : w3.cell? ⟨w.heap.size, 2, none⟩ = some (.int .i64 b) := (HS3.out.at_ 2 rfl).cell 2; clear T)
          | ((with_reducible refine (HRH.out w3).mono ?_); rintro e4 w4 ⟨rfl, F4⟩; have HS4 := Lib.hid (HS3.out.same F4); have h0 : w4.cell? ⟨w.heap.size, 0, none⟩ = some (.bool false) := (HS4.out.at_ 2 rfl).cell 0; clear F4)
          | (have HC5 := Lib.hid (fun W (S : Sep None w W (rns w0.heap.size q3 c3 L2 ++ [Ob.blk w.heap.size Op7T #[.bool false, .int .i64 a, .int .i64 b]])) => has_any w0.heap.size q3 c3 L2 off W HOK2.out HLk2.out (rns_row S).1 (rns_row S).2); rw [HM2.out] at HC5; (with_reducible refine (HC5.out _ (by exact HS4.out.same (by repeat (first | exact Fr.refl _ _ | refine Fr.drew ?_)))).mono ?_); rintro e5 w5 ⟨rfl, F5⟩; have HS5 := Lib.hid (HS4.out.same (show Fr None w4 w5 from Fr.trans (by repeat (first | exact Fr.refl _ _ | refine Fr.drew ?_)) F5)); have i0 : w5.cell? ⟨w.heap.size, 0, none⟩ = some (.bool false) := (HS5.out.at_ 2 rfl).cell 0; clear F5 HC5)
          | ((with_reducible refine (known7_any _).mono ?_); rintro e6 w6 ⟨rfl, F6⟩; have HS6 := Lib.hid (HS5.out.same (show Fr None w5 w6 from Fr.trans (by repeat (first | exact Fr.refl _ _ | refine Fr.drew ?_)) F6)); have j0 : w6.cell? ⟨w.heap.size, 0, none⟩ = some (.bool false) := (HS6.out.at_ 2 rfl).cell 0; clear F6)
          | fail)
        go_ret
        exact ⟨rfl, HS6.out.fr.none_below⟩
      · skip
        go_wp2_with (first
          | ((with_reducible refine HH0.out.mono ?_); rintro e2 w2 ⟨rfl, F2⟩; have HS2 := Lib.hid (HS.out.same F2); have b0 : w2.cell? ⟨w.heap.size, 0, none⟩ = some (.bool false) := (HS2.out.at_ 2 rfl).cell 0; have b1 : w2.cell? ⟨w.heap.size, 1, none⟩ = some (.int .i64 a) := (HS2.out.at_ 2 rfl).cell 1; have b2 : w2.cell? ⟨w.heap.size, 2, none⟩ = some (.int .i64 b) := (HS2.out.at_ 2 rfl).cell 2; clear F2)
          | ((with_reducible refine (add_all w0.heap.size q c L a b w2 HOK.out HLk.out HS2.out.head).mono ?_); rintro e3 w3 ⟨n3, r3, q3, c3, rfl, T⟩; rw [HL2.out] at T; have HS3 := Lib.hid (HS2.out.did T); have f0 : w3.cell? ⟨w.heap.size, 0, none⟩ = some (.bool false) := (HS3.out.at_ 2 rfl).cell 0; have f1 : w3.cell? ⟨w.heap.size, 1, none⟩ = some (.int .i64 a) := (HS3.out.at_ 2 rfl).cell 1; have f2 : w3.cell? ⟨w.heap.size, 2, none⟩ = some (.int .i64 b) := (HS3.out.at_ 2 rfl).cell 2; clear T)
          | ((with_reducible refine (HRH.out w3).mono ?_); rintro e4 w4 ⟨rfl, F4⟩; have HS4 := Lib.hid (HS3.out.same F4); have h0 : w4.cell? ⟨w.heap.size, 0, none⟩ = some (.bool false) := (HS4.out.at_ 2 rfl).cell 0; clear F4)
          | (have HC5 := Lib.hid (fun W (S : Sep None w W (rns w0.heap.size q3 c3 L2 ++ [Ob.blk w.heap.size Op7T #[.bool false, .int .i64 a, .int .i64 b]])) => has_any w0.heap.size q3 c3 L2 off W HOK2.out HLk2.out (rns_row S).1 (rns_row S).2); rw [HM2.out] at HC5; (with_reducible refine (HC5.out _ (by exact HS4.out.same (by repeat (first | exact Fr.refl _ _ | refine Fr.drew ?_)))).mono ?_); rintro e5 w5 ⟨rfl, F5⟩; have HS5 := Lib.hid (HS4.out.same (show Fr None w4 w5 from Fr.trans (by repeat (first | exact Fr.refl _ _ | refine Fr.drew ?_)) F5)); have i0 : w5.cell? ⟨w.heap.size, 0, none⟩ = some (.bool false) := (HS5.out.at_ 2 rfl).cell 0; clear F5 HC5)
          | ((with_reducible refine (known7_any _).mono ?_); rintro e6 w6 ⟨rfl, F6⟩; have HS6 := Lib.hid (HS5.out.same (show Fr None w5 w6 from Fr.trans (by repeat (first | exact Fr.refl _ _ | refine Fr.drew ?_)) F6)); have j0 : w6.cell? ⟨w.heap.size, 0, none⟩ = some (.bool false) := (HS6.out.at_ 2 rfl).cell 0; clear F6)
          | fail)
        go_ret
        exact ⟨rfl, HS6.out.fr.none_below⟩
      · skip
        go_wp2_with (first
          | ((with_reducible refine HH0.out.mono ?_); rintro e2 w2 ⟨rfl, F2⟩; have HS2 := Lib.hid (HS.out.same F2); have b0 : w2.cell? ⟨w.heap.size, 0, none⟩ = some (.bool false) := (HS2.out.at_ 2 rfl).cell 0; have b1 : w2.cell? ⟨w.heap.size, 1, none⟩ = some (.int .i64 a) := (HS2.out.at_ 2 rfl).cell 1; have b2 : w2.cell? ⟨w.heap.size, 2, none⟩ = some (.int .i64 b) := (HS2.out.at_ 2 rfl).cell 2; clear F2)
          | ((with_reducible refine (add_all w0.heap.size q c L a b w2 HOK.out HLk.out HS2.out.head).mono ?_); rintro e3 w3 ⟨n3, r3, q3, c3, rfl, T⟩; rw [HL2.out] at T; have HS3 := Lib.hid (HS2.out.did T); have f0 : w3.cell? ⟨w.heap.size, 0, none⟩ = some (.bool false) := (HS3.out.at_ 2 rfl).cell 0; have f1 : w3.cell? ⟨w.heap.size, 1, none⟩ = some (.int .i64 a) := (HS3.out.at_ 2 rfl).cell 1; have f2 : w3.cell? ⟨w.heap.size, 2, none⟩ = some (.int .i64 b) := (HS3.out.at_ 2 rfl).cell 2; clear T)
          | ((with_reducible refine (HRH.out w3).mono ?_); rintro e4 w4 ⟨rfl, F4⟩; have HS4 := Lib.hid (HS3.out.same F4); have h0 : w4.cell? ⟨w.heap.size, 0, none⟩ = some (.bool false) := (HS4.out.at_ 2 rfl).cell 0; clear F4)
          | fail)
        go_region_held3 (fun w' => w'.cell? ⟨w.heap.size, 0, none⟩ = some (.bool false)) (first | (with_reducible assumption) | (go_keep; done)) (first
          | (have HC5 := Lib.hid (fun W (S : Sep None w W (rns w0.heap.size q3 c3 L2 ++ [Ob.blk w.heap.size Op7T #[.bool false, .int .i64 a, .int .i64 b]])) => has_any w0.heap.size q3 c3 L2 off W HOK2.out HLk2.out (rns_row S).1 (rns_row S).2); rw [HM2.out] at HC5; (with_reducible refine (HC5.out _ (by exact HS4.out.same (by repeat (first | exact Fr.refl _ _ | refine Fr.drew ?_)))).mono ?_); rintro e5 w5 ⟨rfl, F5⟩; have HS5 := Lib.hid (HS4.out.same (show Fr None w4 w5 from Fr.trans (by repeat (first | exact Fr.refl _ _ | refine Fr.drew ?_)) F5)); have i0 : w5.cell? ⟨w.heap.size, 0, none⟩ = some (.bool false) := (HS5.out.at_ 2 rfl).cell 0; clear F5 HC5)
          | ((with_reducible refine (known7_any _).mono ?_); rintro e6 w6 ⟨rfl, F6⟩; have HS6 := Lib.hid (HS5.out.same (show Fr None w5 w6 from Fr.trans (by repeat (first | exact Fr.refl _ _ | refine Fr.drew ?_)) F6)); have j0 : w6.cell? ⟨w.heap.size, 0, none⟩ = some (.bool false) := (HS6.out.at_ 2 rfl).cell 0; clear F6)
          | fail)
        all_goals
          go_wp2_with fail
          go_ret
          exact ⟨rfl, HS6.out.fr.none_below⟩
      · skip
        go_wp2_with (first
          | ((with_reducible refine HH0.out.mono ?_); rintro e2 w2 ⟨rfl, F2⟩; have HS2 := Lib.hid (HS.out.same F2); have b0 : w2.cell? ⟨w.heap.size, 0, none⟩ = some (.bool false) := (HS2.out.at_ 2 rfl).cell 0; have b1 : w2.cell? ⟨w.heap.size, 1, none⟩ = some (.int .i64 a) := (HS2.out.at_ 2 rfl).cell 1; have b2 : w2.cell? ⟨w.heap.size, 2, none⟩ = some (.int .i64 b) := (HS2.out.at_ 2 rfl).cell 2; clear F2)
          | ((with_reducible refine (add_all w0.heap.size q c L a b w2 HOK.out HLk.out HS2.out.head).mono ?_); rintro e3 w3 ⟨n3, r3, q3, c3, rfl, T⟩; rw [HL2.out] at T; have HS3 := Lib.hid (HS2.out.did T); have f0 : w3.cell? ⟨w.heap.size, 0, none⟩ = some (.bool false) := (HS3.out.at_ 2 rfl).cell 0; have f1 : w3.cell? ⟨w.heap.size, 1, none⟩ = some (.int .i64 a) := (HS3.out.at_ 2 rfl).cell 1; have f2 : w3.cell? ⟨w.heap.size, 2, none⟩ = some (.int .i64 b) := (HS3.out.at_ 2 rfl).cell 2; clear T)
          | ((with_reducible refine (HRH.out w3).mono ?_); rintro e4 w4 ⟨rfl, F4⟩; have HS4 := Lib.hid (HS3.out.same F4); have h0 : w4.cell? ⟨w.heap.size, 0, none⟩ = some (.bool false) := (HS4.out.at_ 2 rfl).cell 0; clear F4)
          | fail)
        go_region_held3 (fun w' => w'.cell? ⟨w.heap.size, 0, none⟩ = some (.bool false)) (first | (with_reducible assumption) | (go_keep; done)) (first
          | (have HC5 := Lib.hid (fun W (S : Sep None w W (rns w0.heap.size q3 c3 L2 ++ [Ob.blk w.heap.size Op7T #[.bool false, .int .i64 a, .int .i64 b]])) => has_any w0.heap.size q3 c3 L2 off W HOK2.out HLk2.out (rns_row S).1 (rns_row S).2); rw [HM2.out] at HC5; (with_reducible refine (HC5.out _ (by exact HS4.out.same (by repeat (first | exact Fr.refl _ _ | refine Fr.drew ?_)))).mono ?_); rintro e5 w5 ⟨rfl, F5⟩; have HS5 := Lib.hid (HS4.out.same (show Fr None w4 w5 from Fr.trans (by repeat (first | exact Fr.refl _ _ | refine Fr.drew ?_)) F5)); have i0 : w5.cell? ⟨w.heap.size, 0, none⟩ = some (.bool false) := (HS5.out.at_ 2 rfl).cell 0; clear F5 HC5)
          | ((with_reducible refine (known7_any _).mono ?_); rintro e6 w6 ⟨rfl, F6⟩; have HS6 := Lib.hid (HS5.out.same (show Fr None w5 w6 from Fr.trans (by repeat (first | exact Fr.refl _ _ | refine Fr.drew ?_)) F6)); have j0 : w6.cell? ⟨w.heap.size, 0, none⟩ = some (.bool false) := (HS6.out.at_ 2 rfl).cell 0; clear F6)
          | fail)
        all_goals
          go_wp2_with fail
          go_ret
          exact ⟨rfl, HS6.out.fr.none_below⟩
      · skip
        go_wp2_with (first
          | ((with_reducible refine HH0.out.mono ?_); rintro e2 w2 ⟨rfl, F2⟩; have HS2 := Lib.hid (HS.out.same F2); have b0 : w2.cell? ⟨w.heap.size, 0, none⟩ = some (.bool false) := (HS2.out.at_ 2 rfl).cell 0; have b1 : w2.cell? ⟨w.heap.size, 1, none⟩ = some (.int .i64 a) := (HS2.out.at_ 2 rfl).cell 1; have b2 : w2.cell? ⟨w.heap.size, 2, none⟩ = some (.int .i64 b) := (HS2.out.at_ 2 rfl).cell 2; clear F2)
          | ((with_reducible refine (add_all w0.heap.size q c L a b w2 HOK.out HLk.out HS2.out.head).mono ?_); rintro e3 w3 ⟨n3, r3, q3, c3, rfl, T⟩; rw [HL2.out] at T; have HS3 := Lib.hid (HS2.out.did T); have f0 : w3.cell? ⟨w.heap.size, 0, none⟩ = some (.bool false) := (HS3.out.at_ 2 rfl).cell 0; have f1 : w3.cell? ⟨w.heap.size, 1, none⟩ = some (.int .i64 a) := (HS3.out.at_ 2 rfl).cell 1; have f2 : w3.cell? ⟨w.heap.size, 2, none⟩ = some (.int .i64 b) := (HS3.out.at_ 2 rfl).cell 2; clear T)
          | ((with_reducible refine (HRH.out w3).mono ?_); rintro e4 w4 ⟨rfl, F4⟩; have HS4 := Lib.hid (HS3.out.same F4); have h0 : w4.cell? ⟨w.heap.size, 0, none⟩ = some (.bool false) := (HS4.out.at_ 2 rfl).cell 0; clear F4)
          | fail)
        go_region_held3 (fun w' => w'.cell? ⟨w.heap.size, 0, none⟩ = some (.bool false)) (first | (with_reducible assumption) | (go_keep; done)) (first
          | (have HC5 := Lib.hid (fun W (S : Sep None w W (rns w0.heap.size q3 c3 L2 ++ [Ob.blk w.heap.size Op7T #[.bool false, .int .i64 a, .int .i64 b]])) => has_any w0.heap.size q3 c3 L2 off W HOK2.out HLk2.out (rns_row S).1 (rns_row S).2); rw [HM2.out] at HC5; (with_reducible refine (HC5.out _ (by exact HS4.out.same (by repeat (first | exact Fr.refl _ _ | refine Fr.drew ?_)))).mono ?_); rintro e5 w5 ⟨rfl, F5⟩; have HS5 := Lib.hid (HS4.out.same (show Fr None w4 w5 from Fr.trans (by repeat (first | exact Fr.refl _ _ | refine Fr.drew ?_)) F5)); have i0 : w5.cell? ⟨w.heap.size, 0, none⟩ = some (.bool false) := (HS5.out.at_ 2 rfl).cell 0; clear F5 HC5)
          | ((with_reducible refine (known7_any _).mono ?_); rintro e6 w6 ⟨rfl, F6⟩; have HS6 := Lib.hid (HS5.out.same (show Fr None w5 w6 from Fr.trans (by repeat (first | exact Fr.refl _ _ | refine Fr.drew ?_)) F6)); have j0 : w6.cell? ⟨w.heap.size, 0, none⟩ = some (.bool false) := (HS6.out.at_ 2 rfl).cell 0; clear F6)
          | fail)
        all_goals
          go_wp2_with fail
          go_ret
          exact ⟨rfl, HS6.out.fr.none_below⟩
      · skip
        go_wp2_with (first
          | ((with_reducible refine HH0.out.mono ?_); rintro e2 w2 ⟨rfl, F2⟩; have HS2 := Lib.hid (HS.out.same F2); have b0 : w2.cell? ⟨w.heap.size, 0, none⟩ = some (.bool false) := (HS2.out.at_ 2 rfl).cell 0; have b1 : w2.cell? ⟨w.heap.size, 1, none⟩ = some (.int .i64 a) := (HS2.out.at_ 2 rfl).cell 1; have b2 : w2.cell? ⟨w.heap.size, 2, none⟩ = some (.int .i64 b) := (HS2.out.at_ 2 rfl).cell 2; clear F2)
          | ((with_reducible refine (add_all w0.heap.size q c L a b w2 HOK.out HLk.out HS2.out.head).mono ?_); rintro e3 w3 ⟨n3, r3, q3, c3, rfl, T⟩; rw [HL2.out] at T; have HS3 := Lib.hid (HS2.out.did T); have f0 : w3.cell? ⟨w.heap.size, 0, none⟩ = some (.bool false) := (HS3.out.at_ 2 rfl).cell 0; have f1 : w3.cell? ⟨w.heap.size, 1, none⟩ = some (.int .i64 a) := (HS3.out.at_ 2 rfl).cell 1; have f2 : w3.cell? ⟨w.heap.size, 2, none⟩ = some (.int .i64 b) := (HS3.out.at_ 2 rfl).cell 2; clear T)
          | ((with_reducible refine (HRH.out w3).mono ?_); rintro e4 w4 ⟨rfl, F4⟩; have HS4 := Lib.hid (HS3.out.same F4); have h0 : w4.cell? ⟨w.heap.size, 0, none⟩ = some (.bool false) := (HS4.out.at_ 2 rfl).cell 0; clear F4)
          | fail)
        go_region_held3 (fun w' => w'.cell? ⟨w.heap.size, 0, none⟩ = some (.bool false)) (first | (with_reducible assumption) | (go_keep; done)) (first
          | (have HC5 := Lib.hid (fun W (S : Sep None w W (rns w0.heap.size q3 c3 L2 ++ [Ob.blk w.heap.size Op7T #[.bool false, .int .i64 a, .int .i64 b]])) => has_any w0.heap.size q3 c3 L2 off W HOK2.out HLk2.out (rns_row S).1 (rns_row S).2); rw [HM2.out] at HC5; (with_reducible refine (HC5.out _ (by exact HS4.out.same (by repeat (first | exact Fr.refl _ _ | refine Fr.drew ?_)))).mono ?_); rintro e5 w5 ⟨rfl, F5⟩; have HS5 := Lib.hid (HS4.out.same (show Fr None w4 w5 from Fr.trans (by repeat (first | exact Fr.refl _ _ | refine Fr.drew ?_)) F5)); have i0 : w5.cell? ⟨w.heap.size, 0, none⟩ = some (.bool false) := (HS5.out.at_ 2 rfl).cell 0; clear F5 HC5)
          | ((with_reducible refine (known7_any _).mono ?_); rintro e6 w6 ⟨rfl, F6⟩; have HS6 := Lib.hid (HS5.out.same (show Fr None w5 w6 from Fr.trans (by repeat (first | exact Fr.refl _ _ | refine Fr.drew ?_)) F6)); have j0 : w6.cell? ⟨w.heap.size, 0, none⟩ = some (.bool false) := (HS6.out.at_ 2 rfl).cell 0; clear F6)
          | fail)
        all_goals
          go_wp2_with fail
          go_ret
          exact ⟨rfl, HS6.out.fr.none_below⟩
      · skip
        go_wp2_with (first
          | ((with_reducible refine HH0.out.mono ?_); rintro e2 w2 ⟨rfl, F2⟩; have HS2 := Lib.hid (HS.out.same F2); have b0 : w2.cell? ⟨w.heap.size, 0, none⟩ = some (.bool true) := (HS2.out.at_ 2 rfl).cell 0; have b1 : w2.cell? ⟨w.heap.size, 1, none⟩ = some (.int .i64 a) := (HS2.out.at_ 2 rfl).cell 1; have b2 : w2.cell? ⟨w.heap.size, 2, none⟩ = some (.int .i64 b) := (HS2.out.at_ 2 rfl).cell 2; clear F2)
          | ((with_reducible refine (rem_all2 w0.heap.size q c L a b w2 HOK.out HLk.out HS2.out.head).mono ?_); rintro e3 w3 ⟨n3, r3, q3, c3, rfl, T⟩; rw [HL2.out] at T; have HS3 := Lib.hid (HS2.out.did T); have f0 : w3.cell? ⟨w.heap.size, 0, none⟩ = some (.bool true) := (HS3.out.at_ 2 rfl).cell 0; have f1 : w3.cell? ⟨w.heap.size, 1, none⟩ = some (.int .i64 a) := (HS3.out.at_ 2 rfl).cell 1; have f2 : w3.cell? ⟨w.heap.size, 2, none⟩ = some (.int .i64 b) := (HS3.out.at_ 2 rfl).cell 2; clear T)
          | ((with_reducible refine (HRH.out w3).mono ?_); rintro e4 w4 ⟨rfl, F4⟩; have HS4 := Lib.hid (HS3.out.same F4); have h0 : w4.cell? ⟨w.heap.size, 0, none⟩ = some (.bool true) := (HS4.out.at_ 2 rfl).cell 0; clear F4)
          | (have HC5 := Lib.hid (fun W (S : Sep None w W (rns w0.heap.size q3 c3 L2 ++ [Ob.blk w.heap.size Op7T #[.bool true, .int .i64 a, .int .i64 b]])) => has_any w0.heap.size q3 c3 L2 off W HOK2.out HLk2.out (rns_row S).1 (rns_row S).2); rw [HM2.out] at HC5; (with_reducible refine (HC5.out _ (by exact HS4.out.same (by repeat (first | exact Fr.refl _ _ | refine Fr.drew ?_)))).mono ?_); rintro e5 w5 ⟨rfl, F5⟩; have HS5 := Lib.hid (HS4.out.same (show Fr None w4 w5 from Fr.trans (by repeat (first | exact Fr.refl _ _ | refine Fr.drew ?_)) F5)); have i0 : w5.cell? ⟨w.heap.size, 0, none⟩ = some (.bool true) := (HS5.out.at_ 2 rfl).cell 0; clear F5 HC5)
          | ((with_reducible refine (known7_any _).mono ?_); rintro e6 w6 ⟨rfl, F6⟩; have HS6 := Lib.hid (HS5.out.same (show Fr None w5 w6 from Fr.trans (by repeat (first | exact Fr.refl _ _ | refine Fr.drew ?_)) F6)); have j0 : w6.cell? ⟨w.heap.size, 0, none⟩ = some (.bool true) := (HS6.out.at_ 2 rfl).cell 0; clear F6)
          | fail)
        go_ret
        exact ⟨rfl, HS6.out.fr.none_below⟩
      · skip
        go_wp2_with (first
          | ((with_reducible refine HH0.out.mono ?_); rintro e2 w2 ⟨rfl, F2⟩; have HS2 := Lib.hid (HS.out.same F2); have b0 : w2.cell? ⟨w.heap.size, 0, none⟩ = some (.bool true) := (HS2.out.at_ 2 rfl).cell 0; have b1 : w2.cell? ⟨w.heap.size, 1, none⟩ = some (.int .i64 a) := (HS2.out.at_ 2 rfl).cell 1; have b2 : w2.cell? ⟨w.heap.size, 2, none⟩ = some (.int .i64 b) := (HS2.out.at_ 2 rfl).cell 2; clear F2)
          | ((with_reducible refine (rem_all2 w0.heap.size q c L a b w2 HOK.out HLk.out HS2.out.head).mono ?_); rintro e3 w3 ⟨n3, r3, q3, c3, rfl, T⟩; rw [HL2.out] at T; have HS3 := Lib.hid (HS2.out.did T); have f0 : w3.cell? ⟨w.heap.size, 0, none⟩ = some (.bool true) := (HS3.out.at_ 2 rfl).cell 0; have f1 : w3.cell? ⟨w.heap.size, 1, none⟩ = some (.int .i64 a) := (HS3.out.at_ 2 rfl).cell 1; have f2 : w3.cell? ⟨w.heap.size, 2, none⟩ = some (.int .i64 b) := (HS3.out.at_ 2 rfl).cell 2; clear T)
          | ((with_reducible refine (HRH.out w3).mono ?_); rintro e4 w4 ⟨rfl, F4⟩; have HS4 := Lib.hid (HS3.out.same F4); have h0 : w4.cell? ⟨w.heap.size, 0, none⟩ = some (.bool true) := (HS4.out.at_ 2 rfl).cell 0; clear F4)
          | (have HC5 := Lib.hid (fun W (S : Sep None w W (rns w0.heap.size q3 c3 L2 ++ [Ob.blk w.heap.size Op7T #[.bool true, .int .i64 a, .int .i64 b]])) => has_any w0.heap.size q3 c3 L2 off W HOK2.out HLk2.out (rns_row S).1 (rns_row S).2); rw [HM2.out] at HC5; (with_reducible refine (HC5.out _ (by exact HS4.out.same (by repeat (first | exact Fr.refl _ _ | refine Fr.drew ?_)))).mono ?_); rintro e5 w5 ⟨rfl, F5⟩; have HS5 := Lib.hid (HS4.out.same (show Fr None w4 w5 from Fr.trans (by repeat (first | exact Fr.refl _ _ | refine Fr.drew ?_)) F5)); have i0 : w5.cell? ⟨w.heap.size, 0, none⟩ = some (.bool true) := (HS5.out.at_ 2 rfl).cell 0; clear F5 HC5)
          | ((with_reducible refine (known7_any _).mono ?_); rintro e6 w6 ⟨rfl, F6⟩; have HS6 := Lib.hid (HS5.out.same (show Fr None w5 w6 from Fr.trans (by repeat (first | exact Fr.refl _ _ | refine Fr.drew ?_)) F6)); have j0 : w6.cell? ⟨w.heap.size, 0, none⟩ = some (.bool true) := (HS6.out.at_ 2 rfl).cell 0; clear F6)
          | fail)
        go_ret
        exact ⟨rfl, HS6.out.fr.none_below⟩
      · skip
        go_wp2_with (first
          | ((with_reducible refine HH0.out.mono ?_); rintro e2 w2 ⟨rfl, F2⟩; have HS2 := Lib.hid (HS.out.same F2); have b0 : w2.cell? ⟨w.heap.size, 0, none⟩ = some (.bool true) := (HS2.out.at_ 2 rfl).cell 0; have b1 : w2.cell? ⟨w.heap.size, 1, none⟩ = some (.int .i64 a) := (HS2.out.at_ 2 rfl).cell 1; have b2 : w2.cell? ⟨w.heap.size, 2, none⟩ = some (.int .i64 b) := (HS2.out.at_ 2 rfl).cell 2; clear F2)
          | ((with_reducible refine (rem_all2 w0.heap.size q c L a b w2 HOK.out HLk.out HS2.out.head).mono ?_); rintro e3 w3 ⟨n3, r3, q3, c3, rfl, T⟩; rw [HL2.out] at T; have HS3 := Lib.hid (HS2.out.did T); have f0 : w3.cell? ⟨w.heap.size, 0, none⟩ = some (.bool true) := (HS3.out.at_ 2 rfl).cell 0; have f1 : w3.cell? ⟨w.heap.size, 1, none⟩ = some (.int .i64 a) := (HS3.out.at_ 2 rfl).cell 1; have f2 : w3.cell? ⟨w.heap.size, 2, none⟩ = some (.int .i64 b) := (HS3.out.at_ 2 rfl).cell 2; clear T)
          | ((with_reducible refine (HRH.out w3).mono ?_); rintro e4 w4 ⟨rfl, F4⟩; have HS4 := Lib.hid (HS3.out.same F4); have h0 : w4.cell? ⟨w.heap.size, 0, none⟩ = some (.bool true) := (HS4.out.at_ 2 rfl).cell 0; clear F4)
          | (have HC5 := Lib.hid (fun W (S : Sep None w W (rns w0.heap.size q3 c3 L2 ++ [Ob.blk w.heap.size Op7T #[.bool true, .int .i64 a, .int .i64 b]])) => has_any w0.heap.size q3 c3 L2 off W HOK2.out HLk2.out (rns_row S).1 (rns_row S).2); rw [HM2.out] at HC5; (with_reducible refine (HC5.out _ (by exact HS4.out.same (by repeat (first | exact Fr.refl _ _ | refine Fr.drew ?_)))).mono ?_); rintro e5 w5 ⟨rfl, F5⟩; have HS5 := Lib.hid (HS4.out.same (show Fr None w4 w5 from Fr.trans (by repeat (first | exact Fr.refl _ _ | refine Fr.drew ?_)) F5)); have i0 : w5.cell? ⟨w.heap.size, 0, none⟩ = some (.bool true) := (HS5.out.at_ 2 rfl).cell 0; clear F5 HC5)
          | ((with_reducible refine (known7_any _).mono ?_); rintro e6 w6 ⟨rfl, F6⟩; have HS6 := Lib.hid (HS5.out.same (show Fr None w5 w6 from Fr.trans (by repeat (first | exact Fr.refl _ _ | refine Fr.drew ?_)) F6)); have j0 : w6.cell? ⟨w.heap.size, 0, none⟩ = some (.bool true) := (HS6.out.at_ 2 rfl).cell 0; clear F6)
          | fail)
        go_ret
        exact ⟨rfl, HS6.out.fr.none_below⟩
      · skip
        go_wp2_with (first
          | ((with_reducible refine HH0.out.mono ?_); rintro e2 w2 ⟨rfl, F2⟩; have HS2 := Lib.hid (HS.out.same F2); have b0 : w2.cell? ⟨w.heap.size, 0, none⟩ = some (.bool true) := (HS2.out.at_ 2 rfl).cell 0; have b1 : w2.cell? ⟨w.heap.size, 1, none⟩ = some (.int .i64 a) := (HS2.out.at_ 2 rfl).cell 1; have b2 : w2.cell? ⟨w.heap.size, 2, none⟩ = some (.int .i64 b) := (HS2.out.at_ 2 rfl).cell 2; clear F2)
          | ((with_reducible refine (rem_all2 w0.heap.size q c L a b w2 HOK.out HLk.out HS2.out.head).mono ?_); rintro e3 w3 ⟨n3, r3, q3, c3, rfl, T⟩; rw [HL2.out] at T; have HS3 := Lib.hid (HS2.out.did T); have f0 : w3.cell? ⟨w.heap.size, 0, none⟩ = some (.bool true) := (HS3.out.at_ 2 rfl).cell 0; have f1 : w3.cell? ⟨w.heap.size, 1, none⟩ = some (.int .i64 a) := (HS3.out.at_ 2 rfl).cell 1; have f2 : w3.cell? ⟨w.heap.size, 2, none⟩ = some (.int .i64 b) := (HS3.out.at_ 2 rfl).cell 2; clear T)
          | ((with_reducible refine (HRH.out w3).mono ?_); rintro e4 w4 ⟨rfl, F4⟩; have HS4 := Lib.hid (HS3.out.same F4); have h0 : w4.cell? ⟨w.heap.size, 0, none⟩ = some (.bool true) := (HS4.out.at_ 2 rfl).cell 0; clear F4)
          | (have HC5 := Lib.hid (fun W (S : Sep None w W (rns w0.heap.size q3 c3 L2 ++ [Ob.blk w.heap.size Op7T #[.bool true, .int .i64 a, .int .i64 b]])) => has_any w0.heap.size q3 c3 L2 off W HOK2.out HLk2.out (rns_row S).1 (rns_row S).2); rw [HM2.out] at HC5; (with_reducible refine (HC5.out _ (by exact HS4.out.same (by repeat (first | exact Fr.refl _ _ | refine Fr.drew ?_)))).mono ?_); rintro e5 w5 ⟨rfl, F5⟩; have HS5 := Lib.hid (HS4.out.same (show Fr None w4 w5 from Fr.trans (by repeat (first | exact Fr.refl _ _ | refine Fr.drew ?_)) F5)); have i0 : w5.cell? ⟨w.heap.size, 0, none⟩ = some (.bool true) := (HS5.out.at_ 2 rfl).cell 0; clear F5 HC5)
          | ((with_reducible refine (known7_any _).mono ?_); rintro e6 w6 ⟨rfl, F6⟩; have HS6 := Lib.hid (HS5.out.same (show Fr None w5 w6 from Fr.trans (by repeat (first | exact Fr.refl _ _ | refine Fr.drew ?_)) F6)); have j0 : w6.cell? ⟨w.heap.size, 0, none⟩ = some (.bool true) := (HS6.out.at_ 2 rfl).cell 0; clear F6)
          | fail)
        go_ret
        exact ⟨rfl, HS6.out.fr.none_below⟩
      · skip
        go_wp2_with (first
          | ((with_reducible refine HH0.out.mono ?_); rintro e2 w2 ⟨rfl, F2⟩; have HS2 := Lib.hid (HS.out.same F2); have b0 : w2.cell? ⟨w.heap.size, 0, none⟩ = some (.bool true) := (HS2.out.at_ 2 rfl).cell 0; have b1 : w2.cell? ⟨w.heap.size, 1, none⟩ = some (.int .i64 a) := (HS2.out.at_ 2 rfl).cell 1; have b2 : w2.cell? ⟨w.heap.size, 2, none⟩ = some (.int .i64 b) := (HS2.out.at_ 2 rfl).cell 2; clear F2)
          | ((with_reducible refine (rem_all2 w0.heap.size q c L a b w2 HOK.out HLk.out HS2.out.head).mono ?_); rintro e3 w3 ⟨n3, r3, q3, c3, rfl, T⟩; rw [HL2.out] at T; have HS3 := Lib.hid (HS2.out.did T); have f0 : w3.cell? ⟨w.heap.size, 0, none⟩ = some (.bool true) := (HS3.out.at_ 2 rfl).cell 0; have f1 : w3.cell? ⟨w.heap.size, 1, none⟩ = some (.int .i64 a) := (HS3.out.at_ 2 rfl).cell 1; have f2 : w3.cell? ⟨w.heap.size, 2, none⟩ = some (.int .i64 b) := (HS3.out.at_ 2 rfl).cell 2; clear T)
          | ((with_reducible refine (HRH.out w3).mono ?_); rintro e4 w4 ⟨rfl, F4⟩; have HS4 := Lib.hid (HS3.out.same F4); have h0 : w4.cell? ⟨w.heap.size, 0, none⟩ = some (.bool true) := (HS4.out.at_ 2 rfl).cell 0; clear F4)
          | fail)
        go_region_held3 (fun w' => w'.cell? ⟨w.heap.size, 0, none⟩ = some (.bool true)) (first | (with_reducible assumption) | (go_keep; done)) (first
          | (have HC5 := Lib.hid (fun W (S : Sep None w W (rns w0.heap.size q3 c3 L2 ++ [Ob.blk w.heap.size Op7T #[.bool true, .int .i64 a, .int .i64 b]])) => has_any w0.heap.size q3 c3 L2 off W HOK2.out HLk2.out (rns_row S).1 (rns_row S).2); rw [HM2.out] at HC5; (with_reducible refine (HC5.out _ (by exact HS4.out.same (by repeat (first | exact Fr.refl _ _ | refine Fr.drew ?_)))).mono ?_); rintro e5 w5 ⟨rfl, F5⟩; have HS5 := Lib.hid (HS4.out.same (show Fr None w4 w5 from Fr.trans (by repeat (first | exact Fr.refl _ _ | refine Fr.drew ?_)) F5)); have i0 : w5.cell? ⟨w.heap.size, 0, none⟩ = some (.bool true) := (HS5.out.at_ 2 rfl).cell 0; clear F5 HC5)
          | ((with_reducible refine (known7_any _).mono ?_); rintro e6 w6 ⟨rfl, F6⟩; have HS6 := Lib.hid (HS5.out.same (show Fr None w5 w6 from Fr.trans (by repeat (first | exact Fr.refl _ _ | refine Fr.drew ?_)) F6)); have j0 : w6.cell? ⟨w.heap.size, 0, none⟩ = some (.bool true) := (HS6.out.at_ 2 rfl).cell 0; clear F6)
          | fail)
        all_goals
          go_wp2_with fail
          go_ret
          exact ⟨rfl, HS6.out.fr.none_below⟩
      · skip
        go_wp2_with (first
          | ((with_reducible refine HH0.out.mono ?_); rintro e2 w2 ⟨rfl, F2⟩; have HS2 := Lib.hid (HS.out.same F2); have b0 : w2.cell? ⟨w.heap.size, 0, none⟩ = some (.bool true) := (HS2.out.at_ 2 rfl).cell 0; have b1 : w2.cell? ⟨w.heap.size, 1, none⟩ = some (.int .i64 a) := (HS2.out.at_ 2 rfl).cell 1; have b2 : w2.cell? ⟨w.heap.size, 2, none⟩ = some (.int .i64 b) := (HS2.out.at_ 2 rfl).cell 2; clear F2)
          | ((with_reducible refine (rem_all2 w0.heap.size q c L a b w2 HOK.out HLk.out HS2.out.head).mono ?_); rintro e3 w3 ⟨n3, r3, q3, c3, rfl, T⟩; rw [HL2.out] at T; have HS3 := Lib.hid (HS2.out.did T); have f0 : w3.cell? ⟨w.heap.size, 0, none⟩ = some (.bool true) := (HS3.out.at_ 2 rfl).cell 0; have f1 : w3.cell? ⟨w.heap.size, 1, none⟩ = some (.int .i64 a) := (HS3.out.at_ 2 rfl).cell 1; have f2 : w3.cell? ⟨w.heap.size, 2, none⟩ = some (.int .i64 b) := (HS3.out.at_ 2 rfl).cell 2; clear T)
          | ((with_reducible refine (HRH.out w3).mono ?_); rintro e4 w4 ⟨rfl, F4⟩; have HS4 := Lib.hid (HS3.out.same F4); have h0 : w4.cell? ⟨w.heap.size, 0, none⟩ = some (.bool true) := (HS4.out.at_ 2 rfl).cell 0; clear F4)
          | fail)
        go_region_held3 (fun w' => w'.cell? ⟨w.heap.size, 0, none⟩ = some (.bool true)) (first | (with_reducible assumption) | (go_keep; done)) (first
          | (have HC5 := Lib.hid (fun W (S : Sep None w W (rns w0.heap.size q3 c3 L2 ++ [Ob.blk w.heap.size Op7T #[.bool true, .int .i64 a, .int .i64 b]])) => has_any w0.heap.size q3 c3 L2 off W HOK2.out HLk2.out (rns_row S).1 (rns_row S).2); rw [HM2.out] at HC5; (with_reducible refine (HC5.out _ (by exact HS4.out.same (by repeat (first | exact Fr.refl _ _ | refine Fr.drew ?_)))).mono ?_); rintro e5 w5 ⟨rfl, F5⟩; have HS5 := Lib.hid (HS4.out.same (show Fr None w4 w5 from Fr.trans (by repeat (first | exact Fr.refl _ _ | refine Fr.drew ?_)) F5)); have i0 : w5.cell? ⟨w.heap.size, 0, none⟩ = some (.bool true) := (HS5.out.at_ 2 rfl).cell 0; clear F5 HC5)
          | ((with_reducible refine (known7_any _).mono ?_); rintro e6 w6 ⟨rfl, F6⟩; have HS6 := Lib.hid (HS5.out.same (show Fr None w5 w6 from Fr.trans (by repeat (first | exact Fr.refl _ _ | refine Fr.drew ?_)) F6)); have j0 : w6.cell? ⟨w.heap.size, 0, none⟩ = some (.bool true) := (HS6.out.at_ 2 rfl).cell 0; clear F6)
          | fail)
        all_goals
          go_wp2_with fail
          go_ret
          exact ⟨rfl, HS6.out.fr.none_below⟩
      · skip
        go_wp2_with (first
          | ((with_reducible refine HH0.out.mono ?_); rintro e2 w2 ⟨rfl, F2⟩; have HS2 := Lib.hid (HS.out.same F2); have b0 : w2.cell? ⟨w.heap.size, 0, none⟩ = some (.bool true) := (HS2.out.at_ 2 rfl).cell 0; have b1 : w2.cell? ⟨w.heap.size, 1, none⟩ = some (.int .i64 a) := (HS2.out.at_ 2 rfl).cell 1; have b2 : w2.cell? ⟨w.heap.size, 2, none⟩ = some (.int .i64 b) := (HS2.out.at_ 2 rfl).cell 2; clear F2)
          | ((with_reducible refine (rem_all2 w0.heap.size q c L a b w2 HOK.out HLk.out HS2.out.head).mono ?_); rintro e3 w3 ⟨n3, r3, q3, c3, rfl, T⟩; rw [HL2.out] at T; have HS3 := Lib.hid (HS2.out.did T); have f0 : w3.cell? ⟨w.heap.size, 0, none⟩ = some (.bool true) := (HS3.out.at_ 2 rfl).cell 0; have f1 : w3.cell? ⟨w.heap.size, 1, none⟩ = some (.int .i64 a) := (HS3.out.at_ 2 rfl).cell 1; have f2 : w3.cell? ⟨w.heap.size, 2, none⟩ = some (.int .i64 b) := (HS3.out.at_ 2 rfl).cell 2; clear T)
          | ((with_reducible refine (HRH.out w3).mono ?_); rintro e4 w4 ⟨rfl, F4⟩; have HS4 := Lib.hid (HS3.out.same F4); have h0 : w4.cell? ⟨w.heap.size, 0, none⟩ = some (.bool true) := (HS4.out.at_ 2 rfl).cell 0; clear F4)
          | fail)
        go_region_held3 (fun w' => w'.cell? ⟨w.heap.size, 0, none⟩ = some (.bool true)) (first | (with_reducible assumption) | (go_keep; done)) (first
          | (have HC5 := Lib.hid (fun W (S : Sep None w W (rns w0.heap.size q3 c3 L2 ++ [Ob.blk w.heap.size Op7T #[.bool true, .int .i64 a, .int .i64 b]])) => has_any w0.heap.size q3 c3 L2 off W HOK2.out HLk2.out (rns_row S).1 (rns_row S).2); rw [HM2.out] at HC5; (with_reducible refine (HC5.out _ (by exact HS4.out.same (by repeat (first | exact Fr.refl _ _ | refine Fr.drew ?_)))).mono ?_); rintro e5 w5 ⟨rfl, F5⟩; have HS5 := Lib.hid (HS4.out.same (show Fr None w4 w5 from Fr.trans (by repeat (first | exact Fr.refl _ _ | refine Fr.drew ?_)) F5)); have i0 : w5.cell? ⟨w.heap.size, 0, none⟩ = some (.bool true) := (HS5.out.at_ 2 rfl).cell 0; clear F5 HC5)
          | ((with_reducible refine (known7_any _).mono ?_); rintro e6 w6 ⟨rfl, F6⟩; have HS6 := Lib.hid (HS5.out.same (show Fr None w5 w6 from Fr.trans (by repeat (first | exact Fr.refl _ _ | refine Fr.drew ?_)) F6)); have j0 : w6.cell? ⟨w.heap.size, 0, none⟩ = some (.bool true) := (HS6.out.at_ 2 rfl).cell 0; clear F6)
          | fail)
        all_goals
          go_wp2_with fail
          go_ret
          exact ⟨rfl, HS6.out.fr.none_below⟩
      · skip
        go_wp2_with (first
          | ((with_reducible refine HH0.out.mono ?_); rintro e2 w2 ⟨rfl, F2⟩; have HS2 := Lib.hid (HS.out.same F2); have b0 : w2.cell? ⟨w.heap.size, 0, none⟩ = some (.bool true) := (HS2.out.at_ 2 rfl).cell 0; have b1 : w2.cell? ⟨w.heap.size, 1, none⟩ = some (.int .i64 a) := (HS2.out.at_ 2 rfl).cell 1; have b2 : w2.cell? ⟨w.heap.size, 2, none⟩ = some (.int .i64 b) := (HS2.out.at_ 2 rfl).cell 2; clear F2)
          | ((with_reducible refine (rem_all2 w0.heap.size q c L a b w2 HOK.out HLk.out HS2.out.head).mono ?_); rintro e3 w3 ⟨n3, r3, q3, c3, rfl, T⟩; rw [HL2.out] at T; have HS3 := Lib.hid (HS2.out.did T); have f0 : w3.cell? ⟨w.heap.size, 0, none⟩ = some (.bool true) := (HS3.out.at_ 2 rfl).cell 0; have f1 : w3.cell? ⟨w.heap.size, 1, none⟩ = some (.int .i64 a) := (HS3.out.at_ 2 rfl).cell 1; have f2 : w3.cell? ⟨w.heap.size, 2, none⟩ = some (.int .i64 b) := (HS3.out.at_ 2 rfl).cell 2; clear T)
          | ((with_reducible refine (HRH.out w3).mono ?_); rintro e4 w4 ⟨rfl, F4⟩; have HS4 := Lib.hid (HS3.out.same F4); have h0 : w4.cell? ⟨w.heap.size, 0, none⟩ = some (.bool true) := (HS4.out.at_ 2 rfl).cell 0; clear F4)
          | fail)
        go_region_held3 (fun w' => w'.cell? ⟨w.heap.size, 0, none⟩ = some (.bool true)) (first | (with_reducible assumption) | (go_keep; done)) (first
          | (have HC5 := Lib.hid (fun W (S : Sep None w W (rns w0.heap.size q3 c3 L2 ++ [Ob.blk w.heap.size Op7T #[.bool true, .int .i64 a, .int .i64 b]])) => has_any w0.heap.size q3 c3 L2 off W HOK2.out HLk2.out (rns_row S).1 (rns_row S).2); rw [HM2.out] at HC5; (with_reducible refine (HC5.out _ (by exact HS4.out.same (by repeat (first | exact Fr.refl _ _ | refine Fr.drew ?_)))).mono ?_); rintro e5 w5 ⟨rfl, F5⟩; have HS5 := Lib.hid (HS4.out.same (show Fr None w4 w5 from Fr.trans (by repeat (first | exact Fr.refl _ _ | refine Fr.drew ?_)) F5)); have i0 : w5.cell? ⟨w.heap.size, 0, none⟩ = some (.bool true) := (HS5.out.at_ 2 rfl).cell 0; clear F5 HC5)
          | ((with_reducible refine (known7_any _).mono ?_); rintro e6 w6 ⟨rfl, F6⟩; have HS6 := Lib.hid (HS5.out.same (show Fr None w5 w6 from Fr.trans (by repeat (first | exact Fr.refl _ _ | refine Fr.drew ?_)) F6)); have j0 : w6.cell? ⟨w.heap.size, 0, none⟩ = some (.bool true) := (HS6.out.at_ 2 rfl).cell 0; clear F6)
          | fail)
        all_goals
          go_wp2_with fail
          go_ret
          exact ⟨rfl, HS6.out.fr.none_below⟩
end Go.Proofs.Ytmdkmclngblldaa
