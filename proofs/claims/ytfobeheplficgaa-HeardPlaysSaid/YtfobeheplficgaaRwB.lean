/- Run, Has, Gap: walked. -/
import Derived.Test.YtfobeheplficgaaRwA
import Derived.BigQuiet
set_option linter.unusedVariables false
set_option linter.unusedSimpArgs false
namespace Go.Proofs.Ytfobeheplficgaa
open Go.RowKit Go.Und Go.Shelf
attribute [local go_sem] Oper.semAt_some
attribute [local go_sem ↓] Go.wp_at_zero Go.wp_at_succ

theorem mono_to2 {l : List (Int × Int)} (ok : OkL l) (k : Int) : l.Pairwise fun a b => decide (k < a.2) = true → decide (k < b.2) = true := ok.rises.imp fun h => by simp only [decide_eq_true_eq]; omega
theorem memB_true {l : List (Int × Int)} {o : Int} (h : memL l o) : memB l o = true := (memB_iff l o).2 h
theorem memB_false {l : List (Int × Int)} {o : Int} (h : ¬ memL l o) : memB l o = false := by
  cases e : memB l o
  · rfl
  · exact absurd ((memB_iff l o).1 e) h
set_option maxRecDepth 100000 in
set_option maxHeartbeats 4000000 in
theorem run_any (p : Nat) (q : Option Addr) (cap : Nat) (l : List (Int × Int)) (off : Int) (w : World) (ok : OkL l) (hl : l.length ≤ 1000000) (c3 : w.cell? ⟨p, 0, none⟩ = some (.slice q l.length cap)) (hr : Reads w 2 q l.length cap (fc spc l)) :
    Calls Try.prog 30 #[.pointer (at0 p), .int .i64 off] w fun e w' => e = .returned (.tuple #[spV (runL l off), .bool (memB l off)]) ∧ Fr None w w' := by
  have S0 := ((Sep.law w).alloc #[.int .i64 off] IntT).alloc #[.int .i64 0, .int .i64 0] SpT
  rw [World.size_alloc] at S0
  have hp : p < w.heap.size := World.block_lt_of_cell? w _ c3
  have HS0 := Lib.hid S0
  obtain ⟨V, hV⟩ : ∃ V, V = (w.alloc (.cells #[.int .i64 off] IntT)).alloc (.cells #[.int .i64 0, .int .i64 0] SpT) := ⟨_, rfl⟩
  have m3 : V.cell? ⟨p, 0, none⟩ = some (.slice q l.length cap) := by rw [hV]; exact cell_frN S0.fr c3
  have hr1 : Reads V 2 q l.length cap (fc spc l) := by rw [hV]; exact hr.fr S0.fr (fun _ _ h => h)
  have m1 : V.cell? ⟨w.heap.size, 0, none⟩ = some (.int .i64 off) := by rw [hV]; exact (S0.at_ 1 rfl).cell 0
  have HF := Lib.hid (first_any p q cap l 69 #[.pointer (at0 w.heap.size)] (fun x => decide (off < x.2)) V (enters_of Try.func69 (by kernel_rfl) rfl) m3 hr1 (run1_pred _ _ _ m1) hl (mono_to2 ok off))
  rw [show fstP (fun x => decide (off < x.2)) l = atL l off from rfl, hV] at HF
  clear hV m3 m1 hr1 S0
  have hat : atL l off ≤ l.length := fstP_le _ l
  have HOK := Lib.hid ok
  by_cases hi : atL l off = l.length
  · have hout := run_out ok off (fun x hx => by rw [hi] at hx; simp at hx)
    have HO := Lib.hid hout
    rw [hi] at HF
    have HR := Lib.hid hr
    have g1 : ((l.length : Int) == l.length) = true := beq_self_eq_true _
    clear hr ok hat hi hout
    go_enter Try.func30, Try.ntmps30
    go_wp2_with ((with_reducible refine (HF.out).mono ?_); rintro e1 w1 ⟨rfl, F1⟩; have S1 := HS0.out.same F1; clear F1; have d1 : w1.cell? ⟨w.heap.size, 0, none⟩ = some (.int .i64 off) := (S1.at_ 1 rfl).cell 0; have d2 : w1.cell? ⟨w.heap.size + 1, 0, none⟩ = some (.int .i64 0) := (S1.at_ 0 rfl).cell 0; have d3 : w1.cell? ⟨w.heap.size + 1, 1, none⟩ = some (.int .i64 0) := (S1.at_ 0 rfl).cell 1; have d4 : w1.frozen? ⟨w.heap.size + 1, 0, none⟩ = false := (S1.at_ 0 rfl).frozen 0; have d5 : w1.frozen? ⟨w.heap.size + 1, 1, none⟩ = false := (S1.at_ 0 rfl).frozen 1; have d6 : w1.cell? ⟨p, 0, none⟩ = some (.slice q l.length cap) := cell_frN S1.fr c3; have HS1 := Lib.hid S1; clear S1)
    go_quiet (fail)
    go_wp2_with fail
    exact bodyPost_ret (v := .tuple #[spV (runL l off), .bool (memB l off)]) (by rw [HO.out.1, memB_false HO.out.2]; simp [results, Try.results30, go_sem, d2, d3]) rfl ⟨rfl, (((HS1.out.drewN _).set 0 rfl 0 (.int .i64 0)).set 0 rfl 1 (.int .i64 0)).fr⟩
  · obtain ⟨x, hx⟩ : ∃ x, l[atL l off]? = some x := ⟨_, List.getElem?_eq_getElem (by omega)⟩
    obtain ⟨b, o2, rfl, hc⟩ := hr.elem spc_len (by decide) hx
    have k1 : w.cell? ⟨b, o2 + atL l off * 2, none⟩ = some (.int .i64 x.1) := hc 0 _ rfl
    have k2 : w.cell? ⟨b, o2 + atL l off * 2 + 1, none⟩ = some (.int .i64 x.2) := hc 1 _ rfl
    have g1 : ((atL l off : Int) == l.length) = false := beq_eq_false_iff_ne.2 (by omega)
    have hlt : atL l off < l.length := by omega
    obtain ⟨i, ei⟩ : ∃ i, i = atL l off := ⟨_, rfl⟩
    obtain ⟨x1, x2⟩ := x
    simp only at k1 k2
    have HRun := Lib.hid (And.intro (fun (h : x1 ≤ off) => run_at ok off hx h) (fun (h : off < x1) => run_out ok off (fun y hy => by rw [hx] at hy; cases hy; exact h)))
    rw [← ei] at HF k1 k2 g1 hlt
    clear hc hr ok hat hi hx ei
    by_cases hin : off < x1
    · have g2 : decide (off < x1) = true := decide_eq_true hin
      have HO := Lib.hid (HRun.out.2 hin)
      clear hin HRun
      go_enter Try.func30, Try.ntmps30
      go_wp2_with ((with_reducible refine (HF.out).mono ?_); rintro e1 w1 ⟨rfl, F1⟩; have S1 := HS0.out.same F1; clear F1; have d1 : w1.cell? ⟨w.heap.size, 0, none⟩ = some (.int .i64 off) := (S1.at_ 1 rfl).cell 0; have d2 : w1.cell? ⟨w.heap.size + 1, 0, none⟩ = some (.int .i64 0) := (S1.at_ 0 rfl).cell 0; have d3 : w1.cell? ⟨w.heap.size + 1, 1, none⟩ = some (.int .i64 0) := (S1.at_ 0 rfl).cell 1; have d4 : w1.frozen? ⟨w.heap.size + 1, 0, none⟩ = false := (S1.at_ 0 rfl).frozen 0; have d5 : w1.frozen? ⟨w.heap.size + 1, 1, none⟩ = false := (S1.at_ 0 rfl).frozen 1; have d6 : w1.cell? ⟨p, 0, none⟩ = some (.slice (some ⟨b, o2, none⟩) l.length cap) := cell_frN S1.fr c3; have d7 : w1.cell? ⟨b, o2 + i * 2, none⟩ = some (.int .i64 x1) := cell_frN S1.fr k1; have d8 : w1.cell? ⟨b, o2 + i * 2 + 1, none⟩ = some (.int .i64 x2) := cell_frN S1.fr k2; have HS1 := Lib.hid S1; clear S1)
      go_quiet (fail)
      go_wp2_with fail
      exact bodyPost_ret (v := .tuple #[spV (runL l off), .bool (memB l off)]) (by rw [HO.out.1, memB_false HO.out.2]; simp [results, Try.results30, go_sem, d2, d3]) rfl ⟨rfl, (((HS1.out.drewN _).set 0 rfl 0 (.int .i64 0)).set 0 rfl 1 (.int .i64 0)).fr⟩
    · have g2 : decide (off < x1) = false := decide_eq_false hin
      have HO := Lib.hid (HRun.out.1 (by omega))
      clear hin HRun
      go_enter Try.func30, Try.ntmps30
      go_wp2_with ((with_reducible refine (HF.out).mono ?_); rintro e1 w1 ⟨rfl, F1⟩; have S1 := HS0.out.same F1; clear F1; have d1 : w1.cell? ⟨w.heap.size, 0, none⟩ = some (.int .i64 off) := (S1.at_ 1 rfl).cell 0; have d2 : w1.cell? ⟨w.heap.size + 1, 0, none⟩ = some (.int .i64 0) := (S1.at_ 0 rfl).cell 0; have d3 : w1.cell? ⟨w.heap.size + 1, 1, none⟩ = some (.int .i64 0) := (S1.at_ 0 rfl).cell 1; have d4 : w1.frozen? ⟨w.heap.size + 1, 0, none⟩ = false := (S1.at_ 0 rfl).frozen 0; have d5 : w1.frozen? ⟨w.heap.size + 1, 1, none⟩ = false := (S1.at_ 0 rfl).frozen 1; have d6 : w1.cell? ⟨p, 0, none⟩ = some (.slice (some ⟨b, o2, none⟩) l.length cap) := cell_frN S1.fr c3; have d7 : w1.cell? ⟨b, o2 + i * 2, none⟩ = some (.int .i64 x1) := cell_frN S1.fr k1; have d8 : w1.cell? ⟨b, o2 + i * 2 + 1, none⟩ = some (.int .i64 x2) := cell_frN S1.fr k2; have HS1 := Lib.hid S1; clear S1)
      go_quiet (fail)
      go_wp2_with fail
      exact bodyPost_ret (v := .tuple #[spV (runL l off), .bool (memB l off)]) (by rw [HO.out.1, memB_true HO.out.2]; simp [results, Try.results30, go_sem, d2, d3]) rfl ⟨rfl, (((HS1.out.drewN _).set 0 rfl 0 (.int .i64 x1)).set 0 rfl 1 (.int .i64 x2)).fr⟩

set_option maxRecDepth 100000 in
set_option maxHeartbeats 4000000 in
theorem has_any (p : Nat) (q : Option Addr) (cap : Nat) (l : List (Int × Int)) (off : Int) (w : World) (ok : OkL l) (hl : l.length ≤ 1000000) (c3 : w.cell? ⟨p, 0, none⟩ = some (.slice q l.length cap)) (hr : Reads w 2 q l.length cap (fc spc l)) :
    Calls Try.prog 23 #[.pointer (at0 p), .int .i64 off] w fun e w' => e = .returned (.bool (memB l off)) ∧ Fr None w w' := by
  have HR := Lib.hid (run_any p q cap l off w ok hl c3 hr)
  generalize runL l off = r at HR
  obtain ⟨r1, r2⟩ := r
  clear ok hr c3
  go_enter Try.func23, Try.ntmps23
  go_wp2_with ((with_reducible refine (HR.out).mono ?_); rintro e1 w1 ⟨rfl, F1⟩; have HF1 := Lib.hid F1; clear F1)
  go_ret
  exact ⟨rfl, HF1.out.alloc _⟩
theorem gap_is (l : List (Int × Int)) (ok : OkL l) (a : Int) : (if lenS (runL l a) = 0 then a else (runL l a).2) = if memB l a = true then (runL l a).2 else a := by
  rcases run_cases ok a with ⟨h, h2, _⟩ | ⟨h, h2⟩
  · have := lenS_of (ok.pr _ h2)
    have h3 := (ok.pr _ h2).2.1
    rw [if_neg (by omega), if_pos (memB_true h)]
  · rw [h2, if_pos (by decide), if_neg (by rw [memB_false h]; decide)]
set_option maxRecDepth 100000 in
set_option maxHeartbeats 4000000 in
theorem gap_any (p : Nat) (q : Option Addr) (cap : Nat) (l : List (Int × Int)) (k : Int) (w : World) (ok : OkL l) (hl : l.length ≤ 1000000) (c3 : w.cell? ⟨p, 0, none⟩ = some (.slice q l.length cap)) (hr : Reads w 2 q l.length cap (fc spc l)) :
    Calls Try.prog 35 #[.pointer (at0 p), .int .i64 k] w fun e w' => e = .returned (.int .i64 (gapL l k)) ∧ Fr None w w' := by
  have HG := Lib.hid (gap_is l ok)
  have HR := Lib.hid (fun a => run_any p q cap l a w ok hl c3 hr)
  obtain ⟨A, hA⟩ : ∃ A, A = min (max k 0) 4611686018427387904 := ⟨_, rfl⟩
  have e : gapL l k = if memB l A = true then (runL l A).2 else A := by
    unfold gapL
    simp only []
    rw [← hA]
    exact HG.out A
  rw [e]
  have HA := Lib.hid hA
  clear ok hr c3 e hA HG
  have HRA := Lib.hid (HR.out A)
  clear HR
  generalize runL l A = r at *
  generalize memB l A = m at *
  obtain ⟨r1, r2⟩ := r
  rcases Int.lt_or_le k 0 with g | g
  · obtain rfl : A = 0 := by have := HA.out; omega
    have g1 : (k < 0) = True := eq_true g
    clear g HA
    cases m
    all_goals
      go_enter Try.func35, Try.ntmps35
      go_wp2_with ((with_reducible refine (HRA.out).mono ?_); rintro e1 w1 ⟨rfl, F1⟩; have HF1 := Lib.hid (F1.alloc (.cells #[.int .i64 r1, .int .i64 r2] SpT)); clear F1)
      go_ret
      exact ⟨rfl, HF1.out⟩
  · have g1 : (k < 0) = False := eq_false (by omega)
    rcases Int.lt_or_le 4611686018427387904 k with h | h
    · obtain rfl : A = 4611686018427387904 := by have := HA.out; omega
      have g2 : ((4611686018427387904 : Int) < k) = True := eq_true h
      clear g h HA
      cases m
      all_goals
        go_enter Try.func35, Try.ntmps35
        go_wp2_with ((with_reducible refine (HRA.out).mono ?_); rintro e1 w1 ⟨rfl, F1⟩; have HF1 := Lib.hid (F1.alloc (.cells #[.int .i64 r1, .int .i64 r2] SpT)); clear F1)
        go_ret
        exact ⟨rfl, HF1.out⟩
    · have g2 : ((4611686018427387904 : Int) < k) = False := eq_false (by omega)
      have e2 : A = k := by have := HA.out; omega
      clear g h HA
      subst e2
      cases m
      all_goals
        go_enter Try.func35, Try.ntmps35
        go_wp2_with ((with_reducible refine (HRA.out).mono ?_); rintro e1 w1 ⟨rfl, F1⟩; have HF1 := Lib.hid (F1.alloc (.cells #[.int .i64 r1, .int .i64 r2] SpT)); clear F1)
        go_ret
        exact ⟨rfl, HF1.out⟩
end Go.Proofs.Ytfobeheplficgaa
