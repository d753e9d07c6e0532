/- The document's sets: Gaps, With: walked. -/
import Derived.Test.YtfobeheplficgaaRwR
set_option linter.unusedVariables false
set_option linter.unusedSimpArgs false
namespace Go.Proofs.Ytfobeheplficgaa
open Go.RowKit Go.Und Go.Shelf
attribute [local go_sem] Oper.semAt_some
attribute [local go_sem ↓] Go.wp_at_zero Go.wp_at_succ
attribute [local go_sem] field_sa0 field_sa1

set_option maxRecDepth 100000 in
set_option maxHeartbeats 4000000 in
/-- A span that has no offsets takes nothing out. -/
theorem rwithout_no (p : Option Addr) (n c : Nat) (s1 s2 : Int) (w : World) (hs : lenS (s1, s2) = 0) :
    Calls Try.prog 67 #[.slice p n c, .agg #[.int .i64 s1, .int .i64 s2]] w fun e w' => e = .returned (.slice p n c) ∧ Fr None w w' := by
  have S0 := (Sep.law w).alloc #[.int .i64 s1, .int .i64 s2] SpT
  have HS0 := Lib.hid S0
  have HL0 := Lib.hid (rlenS_any s1 s2 (w.alloc (.cells #[.int .i64 s1, .int .i64 s2] SpT)))
  rw [hs] at HL0
  clear S0 hs
  go_enter Try.func67, Try.ntmps67
  go_wp2_with ((with_reducible refine (HL0.out).mono ?_); rintro e0 w0 ⟨rfl, F0⟩; have HS := Lib.hid (HS0.out.same F0); clear F0)
  go_ret
  exact ⟨rfl, HS.out.fr⟩
set_option maxRecDepth 100000 in
set_option maxHeartbeats 4000000 in
theorem rwith_no (p : Option Addr) (n c : Nat) (s1 s2 : Int) (w : World) (hs : lenS (s1, s2) = 0) :
    Calls Try.prog 66 #[.slice p n c, .agg #[.int .i64 s1, .int .i64 s2]] w fun e w' => e = .returned (.slice p n c) ∧ Fr None w w' := by
  have S0 := (Sep.law w).alloc #[.int .i64 s1, .int .i64 s2] SpT
  have HS0 := Lib.hid S0
  have HL0 := Lib.hid (rlenS_any s1 s2 (w.alloc (.cells #[.int .i64 s1, .int .i64 s2] SpT)))
  rw [hs] at HL0
  clear S0 hs
  go_enter Try.func66, Try.ntmps66
  go_wp2_with ((with_reducible refine (HL0.out).mono ?_); rintro e0 w0 ⟨rfl, F0⟩; have HS := Lib.hid (HS0.out.same F0); clear F0)
  go_ret
  exact ⟨rfl, HS.out.fr⟩
/-- Gaps, round by round. -/
def gstep (out : List (Int × Int)) (x : Int × Int) : List (Int × Int) := if lenS x = 0 then out else remL out x
theorem gstep_ok {out : List (Int × Int)} (ok : OkL out) (x : Int × Int) : OkL (gstep out x) ∧ (gstep out x).length ≤ out.length + 1 := by
  unfold gstep
  split
  · exact ⟨ok, by omega⟩
  · rename_i h
    exact ⟨(rem_ok (lenS_ne h).2.1 ok).1, rem_len (lenS_ne h).2.1 ok⟩
theorem rwithout_any (p : Option Addr) (c : Nat) (l : List (Int × Int)) (s1 s2 : Int) (w : World) {D : Nat → Prop} {w0 : World} {R : List Ob} (S : Sep D w0 w (srow p c l :: R)) (hl : l.length ≤ 100000) :
    Calls Try.prog 67 #[.slice p l.length c, .agg #[.int .i64 s1, .int .i64 s2]] w fun e w' => ∃ q' c', e = .returned (.slice q' (gstep l (s1, s2)).length c') ∧ Sep D w0 w' (srow q' c' (gstep l (s1, s2)) :: R) := by
  unfold gstep
  by_cases h : lenS (s1, s2) = 0
  · rw [if_pos h]
    refine (rwithout_no p l.length c s1 s2 w h).mono ?_
    rintro e w' ⟨rfl, F⟩
    exact ⟨p, c, rfl, S.same F⟩
  · rw [if_neg h]
    refine (rwithout_do p c l s1 s2 w (lenS_ne h) (row_reads (S.at_ 0 rfl)) hl).mono ?_
    rintro e w' ⟨q', c', rfl, T⟩
    exact ⟨q', c', rfl, (S.beside T).drop (.cons_cons _ (.cons _ (.refl _)))⟩
set_option maxRecDepth 100000 in
set_option maxHeartbeats 4000000 in
theorem rgaps_any (p : Option Addr) (c : Nat) (l : List (Int × Int)) (s1 s2 : Int) (w : World) (hr : Reads w 2 p l.length c (fc spc l)) (hl : l.length ≤ 10000) :
    Calls Try.prog 37 #[.slice p l.length c, .agg #[.int .i64 s1, .int .i64 s2]] w fun e w' => ∃ q' c', e = .returned (.slice q' (gapsR l (s1, s2)).length c') ∧ Sep None w w' [srow q' c' (gapsR l (s1, s2))] := by
  have HR := Lib.hid hr
  have S0 := (Sep.law w).alloc #[.int .i64 s1, .int .i64 s2] SpT
  have HS0 := Lib.hid S0
  have HL0 := Lib.hid (rlenS_any s1 s2 (w.alloc (.cells #[.int .i64 s1, .int .i64 s2] SpT)))
  clear S0 hr
  by_cases hs : lenS (s1, s2) = 0
  · rw [show gapsR l (s1, s2) = [] by unfold gapsR; rw [if_pos hs]]
    rw [hs] at HL0
    clear hs
    go_enter Try.func37, Try.ntmps37
    go_wp2_with ((with_reducible refine (HL0.out).mono ?_); rintro e0 w0 ⟨rfl, F0⟩; have HS := Lib.hid (HS0.out.same F0); clear F0)
    go_ret
    exact ⟨none, 0, rfl, ((Sep.law w).same HS.out.fr).add (srow none 0 []) (Fr.refl None _) (Owns.nil spc 2 SpT _) (fun k hk => by cases hk)⟩
  · rw [show gapsR l (s1, s2) = l.foldl gstep [(s1, s2)] by unfold gapsR gstep; rw [if_neg hs]]
    have h0 : (lenS (s1, s2) == 0) = false := ne_beq hs
    have HOK := Lib.hid (show OkL [(s1, s2)] from ⟨lenS_ne hs, fun y hy => (by cases hy), trivial⟩)
    generalize lenS (s1, s2) = n0 at *
    clear hs
    go_enter Try.func37, Try.ntmps37
    go_wp2_with ((with_reducible refine (HL0.out).mono ?_); rintro e0 w0 ⟨rfl, F0⟩; have S := HS0.out.same F0; have d1 : w0.cell? ⟨w.heap.size, 0, none⟩ = some (.int .i64 s1) := (S.at_ 0 rfl).cell 0; have d2 : w0.cell? ⟨w.heap.size, 1, none⟩ = some (.int .i64 s2) := (S.at_ 0 rfl).cell 1; have HS := Lib.hid S; clear F0 S)
    go_loopg [5, 6] l.length (fun r lf i wr => ∃ (k : Nat) (q : Option Addr) (d : Nat) (out : List (Int × Int)), k + r = l.length ∧ i = .int .i64 k ∧ lf = .slice q out.length d ∧ out = (l.take k).foldl gstep [(s1, s2)] ∧ OkL out ∧ out.length ≤ k + 1 ∧ Sep None w wr [srow q d out])
    case atStart => exact ⟨0, some ⟨w0.heap.size, 0, none⟩, 1, [(s1, s2)], by omega, rfl, rfl, rfl, HOK.out, Nat.le_refl _, to_srow (L := []) (x := (s1, s2)) ((HS.out.drop (List.nil_sublist _)).alloc #[.int .i64 s1, .int .i64 s2] SpT)⟩
    case round =>
      obtain ⟨k, q, d, out, hk, rfl, rfl, ho, ok, hlen, S⟩ := hrel
      clear HS0 HL0 HS d1 d2
      by_cases g : k < l.length
      · have ex := List.getElem?_eq_getElem g
        have hnx : (l.take (k + 1)).foldl gstep [(s1, s2)] = gstep out l[k] := by rw [← take_next ex, List.foldl_append, ← ho]; rfl
        obtain ⟨b, off, rfl, hc⟩ := (HR.out.fr S.fr (fun _ _ h => h)).elem spc_len (by decide) ex
        generalize l[k] = x at *
        obtain ⟨x1, x2⟩ := x
        have c1 : wr.cell? ⟨b, off + k * 2, none⟩ = some (.int .i64 x1) := hc 0 _ rfl
        have c2 : wr.cell? ⟨b, off + k * 2 + 1, none⟩ = some (.int .i64 x2) := hc 1 _ rfl
        have HW := Lib.hid (rwithout_any q d out x1 x2 wr S (by omega))
        have hst := gstep_ok ok (x1, x2)
        have HN := Lib.hid hnx
        have HST := Lib.hid hst
        clear hc ex S hnx hst ok ho
        go_wp2_with ((with_reducible refine (HW.out).mono ?_); rintro e1 w1 ⟨q1, d1, rfl, T⟩; have HT := Lib.hid T; clear T)
        go_roundg (gk - 1)
        case measure => omega
        case rel => exact ⟨k + 1, q1, d1, gstep out (x1, x2), by omega, by go_num, rfl, HN.out.symm, HST.out.1, by have := HST.out.2; omega, HT.out⟩
      · obtain rfl : k = l.length := by omega
        rw [List.take_length] at ho
        have HS := Lib.hid S
        have HO := Lib.hid ho
        clear S ho
        go_wp2_with fail
        go_ret
        exact ⟨q, d, by rw [← HO.out]; rfl, by rw [← HO.out]; exact HS.out⟩

theorem hull_two_pr {x y : Int × Int} (hx : PrS x) (hy : PrS y) : PrS (hullS [x, y]) := by
  rw [hull_two hx hy]
  have := hx.1; have := hx.2.1; have := hx.2.2; have := hy.1; have := hy.2.1; have := hy.2.2
  refine ⟨?_, ?_, ?_⟩ <;> simp only <;> omega
theorem allR_snoc (l : List (Int × Int)) (s x : Int × Int) : allR (l ++ [x]) s = if touchS x (s) = true then hullS [allR l s, x] else allR l s := by
  unfold allR
  rw [List.foldl_append]
  rfl
theorem allR_pr {l : List (Int × Int)} (h : ∀ x ∈ l, PrS x) {s : Int × Int} (hs : PrS s) : PrS (allR l s) := (all_is hs l h).1
theorem outR_len (all : Int × Int) (l : List (Int × Int)) : (l.foldl (outR all) ([], false)).1.length ≤ 2 * l.length ∧ ((l.foldl (outR all) ([], false)).2 = false → (l.foldl (outR all) ([], false)).1.length ≤ l.length) := by
  induction l using snoc_ind with
  | h0 => simp
  | h1 l x ih =>
    rw [List.foldl_append]
    simp only [List.foldl_cons, List.foldl_nil, List.length_append, List.length_cons, List.length_nil]
    generalize l.foldl (outR all) ([], false) = st at ih ⊢
    unfold outR
    split
    · exact ⟨by omega, fun h => by have := ih.2 h; omega⟩
    · split
      · simp only [List.length_append, List.length_cons, List.length_nil]
        rename_i h
        exact ⟨by have := ih.2 h.1; omega, fun h => by cases h⟩
      · simp only [List.length_append, List.length_cons, List.length_nil]
        exact ⟨by omega, fun h => by have := ih.2 h; omega⟩
/-- What a round of With's second loop says. -/
theorem outR_next {l : List (Int × Int)} {k : Nat} {x : Int × Int} (h : l[k]? = some x) (all : Int × Int) : (l.take (k + 1)).foldl (outR all) ([], false) = outR all ((l.take k).foldl (outR all) ([], false)) x := by
  rw [← take_next h, List.foldl_append]; rfl

/-- Where an element lies. -/
theorem elem_at {V : World} {b off n c : Nat} {l : List (Int × Int)} (hr : Reads V 2 (some ⟨b, off, none⟩) n c (fc spc l)) {k : Nat} {x : Int × Int} (hx : l[k]? = some x) (hn : n = l.length) :
    ∀ j u, (spc x)[j]? = some u → V.cell? ⟨b, off + k * 2 + j, none⟩ = some u := by
  subst hn
  obtain ⟨b', off', hb, hc⟩ := hr.elem spc_len (by decide) hx
  obtain ⟨rfl, rfl⟩ : b = b' ∧ off = off' := by simpa using hb
  exact hc
set_option maxRecDepth 100000 in
set_option maxHeartbeats 16000000 in
theorem rwith_do (p : Option Addr) (c : Nat) (l : List (Int × Int)) (s1 s2 : Int) (w : World) (ok : OkL l) (hs : PrS (s1, s2)) (hr : Reads w 2 p l.length c (fc spc l)) (hl : l.length ≤ 100000) :
    Calls Try.prog 66 #[.slice p l.length c, .agg #[.int .i64 s1, .int .i64 s2]] w fun e w' => ∃ q' c', e = .returned (.slice q' (withR l (s1, s2)).length c') ∧ Sep None w w' [srow q' c' (withR l (s1, s2))] := by
  have HR := Lib.hid hr
  have S0 := (Sep.law w).alloc #[.int .i64 s1, .int .i64 s2] SpT
  have HS0 := Lib.hid S0
  have HL0 := Lib.hid (rlenS_any s1 s2 (w.alloc (.cells #[.int .i64 s1, .int .i64 s2] SpT)))
  have hz : lenS (s1, s2) ≠ 0 := by rw [hs.len]; have := hs.2.1; simp only at this ⊢; omega
  have h0 : (lenS (s1, s2) == 0) = false := ne_beq hz
  have HWR := Lib.hid (show withR l (s1, s2) = if (l.foldl (outR (allR l (s1, s2))) ([], false)).2 = true then (l.foldl (outR (allR l (s1, s2))) ([], false)).1 else (l.foldl (outR (allR l (s1, s2))) ([], false)).1 ++ [allR l (s1, s2)] by unfold withR; rw [if_neg hz])
  generalize withR l (s1, s2) = res at *
  generalize lenS (s1, s2) = n0 at *
  have HP := Lib.hid (And.intro hs ok.pr)
  clear hr S0 hs ok hz
  go_enter Try.func66, Try.ntmps66
  go_upto_block 0 with (first
    | ((with_reducible refine (HL0.out).mono ?_); rintro e0 w0 ⟨rfl, F0⟩; have S := HS0.out.same F0; have d1 : w0.cell? ⟨w.heap.size, 0, none⟩ = some (.int .i64 s1) := (S.at_ 0 rfl).cell 0; have d2 : w0.cell? ⟨w.heap.size, 1, none⟩ = some (.int .i64 s2) := (S.at_ 0 rfl).cell 1; have HS := Lib.hid (S.alloc #[.int .i64 s1, .int .i64 s2] SpT); have hb0 := (S.at_ 0 rfl).lt; clear F0 S)
    | fail)
  clear HL0 h0
  go_cut [6] from 15 to 33 (fun v wx => ∃ a1 a2 : Int, allR l (s1, s2) = (a1, a2) ∧ Sep None w wx [Ob.blk w0.heap.size SpT #[.int .i64 a1, .int .i64 a2], Ob.blk w.heap.size SpT #[.int .i64 s1, .int .i64 s2]])
  case first =>
    go_wp2_with fail
    go_loopg [6] l.length (fun r i wr => ∃ (k : Nat) (a1 a2 : Int), k + r = l.length ∧ i = .int .i64 k ∧ allR (l.take k) (s1, s2) = (a1, a2) ∧ Sep None w wr [Ob.blk w0.heap.size SpT #[.int .i64 a1, .int .i64 a2], Ob.blk w.heap.size SpT #[.int .i64 s1, .int .i64 s2]])
    case atStart => exact ⟨0, s1, s2, by omega, rfl, rfl, HS.out⟩
    case round =>
      obtain ⟨k, a1, a2, hk, rfl, ha, S⟩ := hrel
      clear HS HS0 d1 d2
      by_cases g : k < l.length
      · have ex := List.getElem?_eq_getElem g
        have hsn := allR_snoc (l.take k) (s1, s2) l[k]
        rw [take_next ex, ha] at hsn
        have hpa := allR_pr (l := l.take k) (fun x hx => HP.out.2 x (List.mem_of_mem_take hx)) HP.out.1
        rw [ha] at hpa
        have hpx := HP.out.2 _ (List.getElem_mem g)
        obtain ⟨b, off, rfl, hc⟩ := (HR.out.fr S.fr (fun _ _ h => h)).elem spc_len (by decide) ex
        generalize l[k] = x at *
        obtain ⟨x1, x2⟩ := x
        have c1 : wr.cell? ⟨b, off + k * 2, none⟩ = some (.int .i64 x1) := hc 0 _ rfl
        have c2 : wr.cell? ⟨b, off + k * 2 + 1, none⟩ = some (.int .i64 x2) := hc 1 _ rfl
        have c3 : wr.cell? ⟨w.heap.size, 0, none⟩ = some (.int .i64 s1) := (S.at_ 1 rfl).cell 0
        have c4 : wr.cell? ⟨w.heap.size, 1, none⟩ = some (.int .i64 s2) := (S.at_ 1 rfl).cell 1
        have HT := Lib.hid (fun W => rtouch_any x1 x2 s1 s2 W)
        have HS := Lib.hid S
        have HSN := Lib.hid hsn
        have HPH := Lib.hid (And.intro hpa hpx)
        clear hc ex S hsn ha hpa hpx
        cases ht : touchS (x1, x2) (s1, s2)
        · rw [ht] at HT HSN
          rw [if_neg (by decide)] at HSN
          clear ht
          go_wp2_with fail
          refine (wpIn_wide (n := 5)).1 ?_
          refine wpIn_region_segs (by kernel_rfl) ?_
          refine seg_still 5 (by kernel_rfl) ?_
          simp only [List.drop_zero, List.take_succ_cons, List.take_zero, Nat.reduceSub]
          repeat (go_big_quiet_step (fail))
          refine wpQuiet_nil ?_
          refine seg_one (by kernel_rfl) fun K hK => ?_
          simp only [List.drop_succ_cons, List.drop_zero, List.take_succ_cons, List.take_zero]
          gi_wp2_with fail
          first | refine ⟨trivial, (callsIn_wide.2 (HT.out _)).mono ?_⟩ | refine ⟨trivial, fun h => (by cases h), (callsIn_wide.2 (HT.out _)).mono ?_⟩
          rintro e w1 ⟨rfl, f1⟩
          have HS1 := Lib.hid (HS.out.drew.same f1)
          clear f1 HS
          gi_wp2_with fail
          refine seg_done (by rfl) (by kernel_rfl) ?_
          go_wp2_with fail
          go_roundg (gk - 1)
          case measure => omega
          case rel => exact ⟨k + 1, a1, a2, by omega, by go_num, HSN.out, HS1.out⟩
        · rw [ht] at HT HSN
          rw [if_pos rfl] at HSN
          clear ht
          have HHL := Lib.hid (fun (W : World) (B : Nat) (hB : Blk W B SpT #[.int .i64 a1, .int .i64 a2, .int .i64 x1, .int .i64 x2]) => rhull_any (some ⟨B, 0, none⟩) 2 [(a1, a2), (x1, x2)] W (by
            intro x hx
            rcases List.mem_cons.1 hx with rfl | hx
            · exact HPH.out.1
            · rw [List.mem_singleton.1 hx]; exact HPH.out.2) (reads_two hB) (by simp))
          generalize hullS [(a1, a2), (x1, x2)] = hh at *
          obtain ⟨h1, h2⟩ := hh
          go_wp2_with fail
          refine (wpIn_wide (n := 5)).1 ?_
          refine wpIn_region_segs (by kernel_rfl) ?_
          refine seg_still 5 (by kernel_rfl) ?_
          simp only [List.drop_zero, List.take_succ_cons, List.take_zero, Nat.reduceSub]
          repeat (go_big_quiet_step (fail))
          refine wpQuiet_nil ?_
          refine seg_one (by kernel_rfl) fun K hK => ?_
          simp only [List.drop_succ_cons, List.drop_zero, List.take_succ_cons, List.take_zero]
          gi_wp2_with fail
          first | refine ⟨trivial, (callsIn_wide.2 (HT.out _)).mono ?_⟩ | refine ⟨trivial, fun h => (by cases h), (callsIn_wide.2 (HT.out _)).mono ?_⟩
          rintro e w1 ⟨rfl, f1⟩
          have S1 := HS.out.drew.same f1
          have u1 : w1.cell? ⟨b, off + k * 2, none⟩ = some (.int .i64 x1) := cell_frN (Fr.trans (Fr.drew (Fr.refl None wr)) f1) c1
          have u2 : w1.cell? ⟨b, off + k * 2 + 1, none⟩ = some (.int .i64 x2) := cell_frN (Fr.trans (Fr.drew (Fr.refl None wr)) f1) c2
          have u3 : w1.cell? ⟨w0.heap.size, 0, none⟩ = some (.int .i64 a1) := (S1.at_ 0 rfl).cell 0
          have u4 : w1.cell? ⟨w0.heap.size, 1, none⟩ = some (.int .i64 a2) := (S1.at_ 0 rfl).cell 1
          have HS1 := Lib.hid S1
          clear f1 HS S1 c1 c2 c3 c4
          gi_wp2_with fail
          refine seg_done (by rfl) (by kernel_rfl) ?_
          go_wp2_with fail
          refine (wpIn_wide (n := 5)).1 ?_
          refine wpIn_region_segs (by kernel_rfl) ?_
          refine seg_still 5 (by kernel_rfl) ?_
          simp only [List.drop_zero, List.take_succ_cons, List.take_zero, Nat.reduceSub]
          repeat (go_big_quiet_step (fail))
          refine wpQuiet_nil ?_
          refine seg_one (by kernel_rfl) fun K hK => ?_
          simp only [List.drop_succ_cons, List.drop_zero, List.take_succ_cons, List.take_zero]
          gi_wp2_with fail
          refine seg_one (by kernel_rfl) fun K hK => ?_
          simp only [List.drop_succ_cons, List.drop_zero, List.take_succ_cons, List.take_zero]
          gi_wp2_with fail
          first | refine ⟨trivial, (callsIn_wide.2 (HHL.out _ _ (Blk.new w1.drew SpT _))).mono ?_⟩ | refine ⟨trivial, fun h => (by cases h), (callsIn_wide.2 (HHL.out _ _ (Blk.new w1.drew SpT _))).mono ?_⟩
          rintro e w2 ⟨rfl, f2⟩
          have S2 := (HS1.out.drew.skip (.cells #[.int .i64 a1, .int .i64 a2, .int .i64 x1, .int .i64 x2] SpT)).same f2
          have v3 : w2.cell? ⟨w0.heap.size, 0, none⟩ = some (.int .i64 a1) := (S2.at_ 0 rfl).cell 0
          have v4 : w2.cell? ⟨w0.heap.size, 1, none⟩ = some (.int .i64 a2) := (S2.at_ 0 rfl).cell 1
          have z3 : w2.frozen? ⟨w0.heap.size, 0, none⟩ = false := (S2.at_ 0 rfl).frozen 0
          have z4 : w2.frozen? ⟨w0.heap.size, 1, none⟩ = false := (S2.at_ 0 rfl).frozen 1
          have HS2 := Lib.hid S2
          clear f2 S2 u1 u2 u3 u4
          gi_wp2_with fail
          refine seg_one (by kernel_rfl) fun K hK => ?_
          simp only [List.drop_succ_cons, List.drop_zero, List.take_succ_cons, List.take_zero]
          gi_wp2_with fail
          refine seg_done (by rfl) (by kernel_rfl) ?_
          go_wp2_with fail
          go_roundg (gk - 1)
          case measure => omega
          case rel => exact ⟨k + 1, h1, h2, by omega, by go_num, HSN.out, (HS2.out.set 0 rfl 0 (.int .i64 h1)).set 0 rfl 1 (.int .i64 h2)⟩
      · obtain rfl : k = l.length := by omega
        rw [List.take_length] at ha
        go_wp2_with fail
        go_meet
        exact ⟨a1, a2, ha, S⟩
  case rest =>
    clear HS HS0 d1 d2
    obtain ⟨a1, a2, ha, S0⟩ := hcut
    rw [ha] at HWR
    have HS0 := Lib.hid (S0.drop (L' := [Ob.blk w0.heap.size SpT #[.int .i64 a1, .int .i64 a2]]) (.cons_cons _ (.cons _ .slnil)))
    have e1 : wc.cell? ⟨w0.heap.size, 0, none⟩ = some (.int .i64 a1) := (S0.at_ 0 rfl).cell 0
    have e2 : wc.cell? ⟨w0.heap.size, 1, none⟩ = some (.int .i64 a2) := (S0.at_ 0 rfl).cell 1
    clear ha S0
    generalize w0.heap.size = B at *
    go_wp2_with fail
    go_loopg [7, 8, 9] l.length (fun r lf pv i wr => ∃ (k : Nat) (q : Option Addr) (d : Nat), k + r = l.length ∧ i = .int .i64 k ∧ lf = .slice q ((l.take k).foldl (outR (a1, a2)) ([], false)).1.length d ∧ pv = .bool ((l.take k).foldl (outR (a1, a2)) ([], false)).2 ∧ Sep None w wr [srow q d ((l.take k).foldl (outR (a1, a2)) ([], false)).1, Ob.blk B SpT #[.int .i64 a1, .int .i64 a2]])
    case atStart => exact ⟨0, none, 0, by omega, rfl, rfl, rfl, HS0.out.add (srow none 0 []) (Fr.refl None _) (Owns.nil spc 2 SpT _) (fun k hk => by cases hk)⟩
    case round =>
      obtain ⟨k, q, d, hk, rfl, rfl, rfl, S⟩ := hrel
      clear HS0 e1 e2
      have hol := outR_len (a1, a2) (l.take k)
      rw [List.length_take] at hol
      by_cases g : k < l.length
      · have ex := List.getElem?_eq_getElem g
        have hnx := outR_next ex (a1, a2)
        obtain ⟨b, off, rfl, hc⟩ := (HR.out.fr S.fr (fun _ _ h => h)).elem spc_len (by decide) ex
        generalize l[k] = x at *
        generalize (l.take k).foldl (outR (a1, a2)) ([], false) = st at *
        obtain ⟨out, put⟩ := st
        obtain ⟨x1, x2⟩ := x
        simp only at S hol ⊢
        have hol2 : out.length ≤ 200000 := by omega
        have c1 : wr.cell? ⟨b, off + k * 2, none⟩ = some (.int .i64 x1) := hc 0 _ rfl
        have c2 : wr.cell? ⟨b, off + k * 2 + 1, none⟩ = some (.int .i64 x2) := hc 1 _ rfl
        have c3 : wr.cell? ⟨B, 0, none⟩ = some (.int .i64 a1) := (S.at_ 1 rfl).cell 0
        have c4 : wr.cell? ⟨B, 1, none⟩ = some (.int .i64 a2) := (S.at_ 1 rfl).cell 1
        have HT := Lib.hid (fun W => rtouch_any x1 x2 a1 a2 W)
        have HS := Lib.hid S
        have HN := Lib.hid hnx
        have HEX := Lib.hid ex
        clear hc ex S hnx hol
        cases ht : touchS (x1, x2) (a1, a2)
        · rw [ht] at HT
          by_cases hp : put = false ∧ a1 < x1
          · obtain ⟨rfl, hp2⟩ := hp
            have HN2 := Lib.hid (show (l.take (k + 1)).foldl (outR (a1, a2)) ([], false) = ((out ++ [(a1, a2)]) ++ [(x1, x2)], true) by rw [HN.out]; unfold outR; rw [ht, if_neg (by decide), if_pos ⟨rfl, hp2⟩]; simp)
            have g1 : decide (a1 < x1) = true := decide_eq_true hp2
            clear ht hp2 HN
            go_wp2_with fail
            have HEL := Lib.hid (fun (V : World) (f : Fr None w V) => show ∀ j u, (spc (x1, x2))[j]? = some u → V.cell? ⟨b, off + k * 2 + j, none⟩ = some u from elem_at (HR.out.fr f (fun _ _ h => h)) HEX.out rfl)
            refine (wpIn_wide (n := 5)).1 ?_
            refine wpIn_region_segs (by kernel_rfl) ?_
            refine seg_still 5 (by kernel_rfl) ?_
            simp only [List.drop_zero, List.take_succ_cons, List.take_zero, Nat.reduceSub]
            repeat (go_big_quiet_step (fail))
            refine wpQuiet_nil ?_
            refine seg_one (by kernel_rfl) fun K hK => ?_
            simp only [List.drop_succ_cons, List.drop_zero, List.take_succ_cons, List.take_zero]
            gi_wp2_with fail
            first | refine ⟨trivial, (callsIn_wide.2 (HT.out _)).mono ?_⟩ | refine ⟨trivial, fun h => (by cases h), (callsIn_wide.2 (HT.out _)).mono ?_⟩
            rintro e w1 ⟨rfl, f1⟩
            have S1 := HS.out.drew.same f1
            have u1 : w1.cell? ⟨b, off + k * 2, none⟩ = some (.int .i64 x1) := HEL.out _ S1.fr 0 _ rfl
            have u2 : w1.cell? ⟨b, off + k * 2 + 1, none⟩ = some (.int .i64 x2) := HEL.out _ S1.fr 1 _ rfl
            have u3 : w1.cell? ⟨B, 0, none⟩ = some (.int .i64 a1) := (S1.at_ 1 rfl).cell 0
            have u4 : w1.cell? ⟨B, 1, none⟩ = some (.int .i64 a2) := (S1.at_ 1 rfl).cell 1
            have HS1 := Lib.hid S1
            clear f1 HS S1 c1 c2 c3 c4
            gi_wp2_with fail
            refine seg_done (by rfl) (by kernel_rfl) ?_
            go_wp2_with fail
            go_quiet (fail)
            have HQ := Lib.hid (HS1.out.drewN nq)
            go_wp2_with (at_builtin; refine Hold.out ?_)
            refine Hold.mk ?_
            refine wpList_push HQ.out 0 rfl a1 a2 rfl _ _ rfl rfl rfl (by omega) ?_
            intro q5 d5 w5 S5
            simp only [List.set_cons_succ, List.set_cons_zero] at S5
            have y1 : w5.cell? ⟨b, off + k * 2, none⟩ = some (.int .i64 x1) := HEL.out _ S5.fr 0 _ rfl
            have y2 : w5.cell? ⟨b, off + k * 2 + 1, none⟩ = some (.int .i64 x2) := HEL.out _ S5.fr 1 _ rfl
            have HS5 := Lib.hid S5
            clear S5 HQ HS1
            go_wp2_with (at_builtin; refine Hold.out ?_)
            refine Hold.mk ?_
            refine wpList_push HS5.out 0 rfl x1 x2 rfl _ _ rfl (by rw [List.length_append]; rfl) rfl (by simp only [List.length_append, List.length_cons, List.length_nil]; omega) ?_
            intro q7 d7 w7 S7
            simp only [List.set_cons_succ, List.set_cons_zero] at S7
            have HS7 := Lib.hid S7
            clear S7
            go_wp2_with fail
            go_roundg (gk - 1)
            case measure => omega
            case rel => exact ⟨k + 1, q7, d7, by omega, by go_num, by rw [HN2.out]; simp, by rw [HN2.out], by rw [HN2.out]; exact HS7.out⟩
          · have HN2 := Lib.hid (show (l.take (k + 1)).foldl (outR (a1, a2)) ([], false) = (out ++ [(x1, x2)], put) by rw [HN.out]; unfold outR; rw [ht, if_neg (by decide), if_neg hp])
            have hp3 : put = true ∨ (put = false ∧ decide (a1 < x1) = false) := by
              cases put
              · exact .inr ⟨rfl, decide_eq_false (fun h => hp ⟨rfl, h⟩)⟩
              · exact .inl rfl
            clear ht hp HN
            rcases hp3 with rfl | ⟨rfl, g1⟩
            all_goals
              go_wp2_with fail
              have HEL := Lib.hid (fun (V : World) (f : Fr None w V) => show ∀ j u, (spc (x1, x2))[j]? = some u → V.cell? ⟨b, off + k * 2 + j, none⟩ = some u from elem_at (HR.out.fr f (fun _ _ h => h)) HEX.out rfl)
              refine (wpIn_wide (n := 5)).1 ?_
              refine wpIn_region_segs (by kernel_rfl) ?_
              refine seg_still 5 (by kernel_rfl) ?_
              simp only [List.drop_zero, List.take_succ_cons, List.take_zero, Nat.reduceSub]
              repeat (go_big_quiet_step (fail))
              refine wpQuiet_nil ?_
              refine seg_one (by kernel_rfl) fun K hK => ?_
              simp only [List.drop_succ_cons, List.drop_zero, List.take_succ_cons, List.take_zero]
              gi_wp2_with fail
              first | refine ⟨trivial, (callsIn_wide.2 (HT.out _)).mono ?_⟩ | refine ⟨trivial, fun h => (by cases h), (callsIn_wide.2 (HT.out _)).mono ?_⟩
              rintro e w1 ⟨rfl, f1⟩
              have S1 := HS.out.drew.same f1
              have u1 : w1.cell? ⟨b, off + k * 2, none⟩ = some (.int .i64 x1) := HEL.out _ S1.fr 0 _ rfl
              have u2 : w1.cell? ⟨b, off + k * 2 + 1, none⟩ = some (.int .i64 x2) := HEL.out _ S1.fr 1 _ rfl
              have u3 : w1.cell? ⟨B, 0, none⟩ = some (.int .i64 a1) := (S1.at_ 1 rfl).cell 0
              have u4 : w1.cell? ⟨B, 1, none⟩ = some (.int .i64 a2) := (S1.at_ 1 rfl).cell 1
              have HS1 := Lib.hid S1
              clear f1 HS S1 c1 c2 c3 c4
              gi_wp2_with fail
              refine seg_done (by rfl) (by kernel_rfl) ?_
              go_wp2_with fail
              go_quiet (fail)
              have HQ := Lib.hid (HS1.out.drewN nq)
              go_wp2_with (at_builtin; refine Hold.out ?_)
              refine Hold.mk ?_
              refine wpList_push HQ.out 0 rfl x1 x2 rfl _ _ rfl rfl rfl (by omega) ?_
              intro q7 d7 w7 S7
              simp only [List.set_cons_succ, List.set_cons_zero] at S7
              have HS7 := Lib.hid S7
              clear S7
              go_wp2_with fail
              go_roundg (gk - 1)
              case measure => omega
              case rel => exact ⟨k + 1, q7, d7, by omega, by go_num, by rw [HN2.out]; simp, by rw [HN2.out], by rw [HN2.out]; exact HS7.out⟩
        · rw [ht] at HT
          have HN2 := Lib.hid (show (l.take (k + 1)).foldl (outR (a1, a2)) ([], false) = (out, put) by rw [HN.out]; unfold outR; rw [if_pos ht])
          clear ht HN
          go_wp2_with fail
          have HEL := Lib.hid (fun (V : World) (f : Fr None w V) => show ∀ j u, (spc (x1, x2))[j]? = some u → V.cell? ⟨b, off + k * 2 + j, none⟩ = some u from elem_at (HR.out.fr f (fun _ _ h => h)) HEX.out rfl)
          refine (wpIn_wide (n := 5)).1 ?_
          refine wpIn_region_segs (by kernel_rfl) ?_
          refine seg_still 5 (by kernel_rfl) ?_
          simp only [List.drop_zero, List.take_succ_cons, List.take_zero, Nat.reduceSub]
          repeat (go_big_quiet_step (fail))
          refine wpQuiet_nil ?_
          refine seg_one (by kernel_rfl) fun K hK => ?_
          simp only [List.drop_succ_cons, List.drop_zero, List.take_succ_cons, List.take_zero]
          gi_wp2_with fail
          first | refine ⟨trivial, (callsIn_wide.2 (HT.out _)).mono ?_⟩ | refine ⟨trivial, fun h => (by cases h), (callsIn_wide.2 (HT.out _)).mono ?_⟩
          rintro e w1 ⟨rfl, f1⟩
          have S1 := HS.out.drew.same f1
          have u1 : w1.cell? ⟨b, off + k * 2, none⟩ = some (.int .i64 x1) := HEL.out _ S1.fr 0 _ rfl
          have u2 : w1.cell? ⟨b, off + k * 2 + 1, none⟩ = some (.int .i64 x2) := HEL.out _ S1.fr 1 _ rfl
          have u3 : w1.cell? ⟨B, 0, none⟩ = some (.int .i64 a1) := (S1.at_ 1 rfl).cell 0
          have u4 : w1.cell? ⟨B, 1, none⟩ = some (.int .i64 a2) := (S1.at_ 1 rfl).cell 1
          have HS1 := Lib.hid S1
          clear f1 HS S1 c1 c2 c3 c4
          gi_wp2_with fail
          refine seg_done (by rfl) (by kernel_rfl) ?_
          go_wp2_with fail
          go_roundg (gk - 1)
          case measure => omega
          case rel => exact ⟨k + 1, q, d, by omega, by go_num, by rw [HN2.out], by rw [HN2.out], by rw [HN2.out]; exact HS1.out⟩
      · obtain rfl : k = l.length := by omega
        rw [List.take_length] at S hol ⊢
        generalize l.foldl (outR (a1, a2)) ([], false) = st at *
        obtain ⟨out, put⟩ := st
        simp only at S hol HWR ⊢
        have hol2 : out.length ≤ 200000 := by omega
        have c3 : wr.cell? ⟨B, 0, none⟩ = some (.int .i64 a1) := (S.at_ 1 rfl).cell 0
        have c4 : wr.cell? ⟨B, 1, none⟩ = some (.int .i64 a2) := (S.at_ 1 rfl).cell 1
        have HS := Lib.hid S
        clear S hol
        cases put
        · rw [if_neg (by decide)] at HWR
          go_wp2_with (at_builtin; refine Hold.out ?_)
          refine Hold.mk ?_
          refine wpList_push HS.out 0 rfl a1 a2 rfl _ _ rfl rfl rfl (by omega) ?_
          intro q7 d7 w7 S7
          simp only [List.set_cons_succ, List.set_cons_zero] at S7
          have HS7 := Lib.hid S7
          clear S7
          go_wp2_with fail
          go_ret
          exact ⟨q7, d7, by rw [HWR.out]; simp, by rw [HWR.out]; exact HS7.out.drop (.cons_cons _ (.cons _ .slnil))⟩
        · rw [if_pos rfl] at HWR
          go_wp2_with fail
          go_ret
          exact ⟨q, d, by rw [HWR.out]; rfl, by rw [HWR.out]; exact HS.out.drop (.cons_cons _ (.cons _ .slnil))⟩
end Go.Proofs.Ytfobeheplficgaa
