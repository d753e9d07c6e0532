/- The document's spans: From, Below, Touch, Same, Hull: walked. -/
import Derived.Test.YtfobeheplficgaaRwO
set_option linter.unusedVariables false
set_option linter.unusedSimpArgs false
namespace Go.Proofs.Ytfobeheplficgaa
open Go.RowKit Go.Und Go.Shelf
attribute [local go_sem] Oper.semAt_some
attribute [local go_sem ↓] Go.wp_at_zero Go.wp_at_succ
attribute [local go_sem] field_sa0 field_sa1

set_option maxRecDepth 100000 in
set_option maxHeartbeats 2000000 in
theorem rfrom_any (a b k : Int) (w : World) : Calls Try.prog 71 #[.agg #[.int .i64 a, .int .i64 b], .int .i64 k] w fun e w' => e = .returned (spV (fromS (a, b) k)) ∧ Fr None w w' := by
  have S0 := ((Sep.law w).alloc #[.int .i64 a, .int .i64 b] SpT).alloc #[.int .i64 0, .int .i64 0] SpT
  simp only [World.size_alloc] at S0
  have HS0 := Lib.hid S0
  have P := Lib.hid (fun W => rmeetS_any a b (max k 0) 4611686018427387904 W)
  rw [← fromR_eq]
  unfold fromR
  clear S0
  by_cases h : 4611686018427387904 < k
  · rw [if_pos h]
    have h1 : decide (4611686018427387904 < k) = true := decide_eq_true h
    clear h P
    go_enter Try.func71, Try.ntmps71
    go_wp2_with fail
    exact bodyPost_ret (v := spV (0, 0)) (by simp [results, Try.results71, go_sem]) rfl ⟨rfl, HS0.out.fr⟩
  · rw [if_neg h]
    have h1 : decide (4611686018427387904 < k) = false := decide_eq_false h
    generalize meetS (a, b) (max k 0, 4611686018427387904) = r at P
    obtain ⟨r1, r2⟩ := r
    rcases Int.lt_or_le k 0 with g | g
    · have g1 : (k < 0) = True := eq_true g
      rw [show max k 0 = 0 by omega] at P
      clear h g
      go_enter Try.func71, Try.ntmps71
      go_wp2_with (first
        | ((with_reducible refine (P.out _).mono ?_); rintro e1 w1 ⟨rfl, F1⟩; have S1 := HS0.out.same F1; clear F1; have k0 : w1.cell? ⟨w.heap.size + 1, 0, none⟩ = some (.int .i64 0) := (S1.at_ 0 rfl).cell 0; have k1 : w1.cell? ⟨w.heap.size + 1, 1, none⟩ = some (.int .i64 0) := (S1.at_ 0 rfl).cell 1; have y0 : w1.frozen? ⟨w.heap.size + 1, 0, none⟩ = false := (S1.at_ 0 rfl).frozen 0; have y1 : w1.frozen? ⟨w.heap.size + 1, 1, none⟩ = false := (S1.at_ 0 rfl).frozen 1; have HS1 := Lib.hid S1; clear S1)
        | fail)
      exact bodyPost_ret (v := spV (r1, r2)) (by simp [results, Try.results71, go_sem, k0, k1]) rfl ⟨rfl, ((HS1.out.set 0 rfl 0 (.int .i64 r1)).set 0 rfl 1 (.int .i64 r2)).fr⟩
    · have g1 : (k < 0) = False := eq_false (by omega)
      rw [show max k 0 = k by omega] at P
      clear h g
      go_enter Try.func71, Try.ntmps71
      go_wp2_with (first
        | ((with_reducible refine (P.out _).mono ?_); rintro e1 w1 ⟨rfl, F1⟩; have S1 := HS0.out.same F1; clear F1; have k0 : w1.cell? ⟨w.heap.size + 1, 0, none⟩ = some (.int .i64 0) := (S1.at_ 0 rfl).cell 0; have k1 : w1.cell? ⟨w.heap.size + 1, 1, none⟩ = some (.int .i64 0) := (S1.at_ 0 rfl).cell 1; have y0 : w1.frozen? ⟨w.heap.size + 1, 0, none⟩ = false := (S1.at_ 0 rfl).frozen 0; have y1 : w1.frozen? ⟨w.heap.size + 1, 1, none⟩ = false := (S1.at_ 0 rfl).frozen 1; have HS1 := Lib.hid S1; clear S1)
        | fail)
      exact bodyPost_ret (v := spV (r1, r2)) (by simp [results, Try.results71, go_sem, k0, k1]) rfl ⟨rfl, ((HS1.out.set 0 rfl 0 (.int .i64 r1)).set 0 rfl 1 (.int .i64 r2)).fr⟩

set_option maxRecDepth 100000 in
set_option maxHeartbeats 2000000 in
theorem rbelow_any (a b k : Int) (w : World) : Calls Try.prog 95 #[.agg #[.int .i64 a, .int .i64 b], .int .i64 k] w fun e w' => e = .returned (spV (belowS (a, b) k)) ∧ Fr None w w' := by
  have S0 := ((Sep.law w).alloc #[.int .i64 a, .int .i64 b] SpT).alloc #[.int .i64 0, .int .i64 0] SpT
  simp only [World.size_alloc] at S0
  have HS0 := Lib.hid S0
  have P := Lib.hid (fun W => rmeetS_any a b 0 (min k 4611686018427387904) W)
  rw [← belowR_eq]
  unfold belowR
  clear S0
  by_cases h : k < 0
  · rw [if_pos h]
    have h1 : decide (k < 0) = true := decide_eq_true h
    clear h P
    go_enter Try.func95, Try.ntmps95
    go_wp2_with fail
    exact bodyPost_ret (v := spV (0, 0)) (by simp [results, Try.results95, go_sem]) rfl ⟨rfl, HS0.out.fr⟩
  · rw [if_neg h]
    have h1 : decide (k < 0) = false := decide_eq_false h
    generalize meetS (a, b) (0, min k 4611686018427387904) = r at P
    obtain ⟨r1, r2⟩ := r
    rcases Int.lt_or_le 4611686018427387904 k with g | g
    · have g1 : ((4611686018427387904 : Int) < k) = True := eq_true g
      rw [show min k 4611686018427387904 = 4611686018427387904 by omega] at P
      clear h g
      go_enter Try.func95, Try.ntmps95
      go_wp2_with (first
        | ((with_reducible refine (P.out _).mono ?_); rintro e1 w1 ⟨rfl, F1⟩; have S1 := HS0.out.same F1; clear F1; have k0 : w1.cell? ⟨w.heap.size + 1, 0, none⟩ = some (.int .i64 0) := (S1.at_ 0 rfl).cell 0; have k1 : w1.cell? ⟨w.heap.size + 1, 1, none⟩ = some (.int .i64 0) := (S1.at_ 0 rfl).cell 1; have y0 : w1.frozen? ⟨w.heap.size + 1, 0, none⟩ = false := (S1.at_ 0 rfl).frozen 0; have y1 : w1.frozen? ⟨w.heap.size + 1, 1, none⟩ = false := (S1.at_ 0 rfl).frozen 1; have HS1 := Lib.hid S1; clear S1)
        | fail)
      exact bodyPost_ret (v := spV (r1, r2)) (by simp [results, Try.results95, go_sem, k0, k1]) rfl ⟨rfl, ((HS1.out.set 0 rfl 0 (.int .i64 r1)).set 0 rfl 1 (.int .i64 r2)).fr⟩
    · have g1 : ((4611686018427387904 : Int) < k) = False := eq_false (by omega)
      rw [show min k 4611686018427387904 = k by omega] at P
      clear h g
      go_enter Try.func95, Try.ntmps95
      go_wp2_with (first
        | ((with_reducible refine (P.out _).mono ?_); rintro e1 w1 ⟨rfl, F1⟩; have S1 := HS0.out.same F1; clear F1; have k0 : w1.cell? ⟨w.heap.size + 1, 0, none⟩ = some (.int .i64 0) := (S1.at_ 0 rfl).cell 0; have k1 : w1.cell? ⟨w.heap.size + 1, 1, none⟩ = some (.int .i64 0) := (S1.at_ 0 rfl).cell 1; have y0 : w1.frozen? ⟨w.heap.size + 1, 0, none⟩ = false := (S1.at_ 0 rfl).frozen 0; have y1 : w1.frozen? ⟨w.heap.size + 1, 1, none⟩ = false := (S1.at_ 0 rfl).frozen 1; have HS1 := Lib.hid S1; clear S1)
        | fail)
      exact bodyPost_ret (v := spV (r1, r2)) (by simp [results, Try.results95, go_sem, k0, k1]) rfl ⟨rfl, ((HS1.out.set 0 rfl 0 (.int .i64 r1)).set 0 rfl 1 (.int .i64 r2)).fr⟩

theorem eq_uptoL {α : Type} {l m : List α} (hl : l.length = m.length) {k : Nat} (h : l.take k = m.take k) {x y : α} (hx : l[k]? = some x) (hy : m[k]? = some y) : (l.take (k + 1) = m.take (k + 1) ↔ x = y) ∧ (x ≠ y → l ≠ m) := by
  rw [List.take_add_one, List.take_add_one, hx, hy, h]
  refine ⟨by simp, fun hne e => ?_⟩
  subst e
  rw [hx] at hy
  exact hne (Option.some.inj hy)
theorem nqSp (a b c d : Int) (w : World) : (binOp .neq SpT (.agg #[.int .i64 a, .int .i64 b]) (.agg #[.int .i64 c, .int .i64 d])).run Try.prog w = .ok (.bool (!(a == c && b == d))) w := by
  have h := eqSp a b c d w
  rw [run_eql_struct] at h
  rw [run_neq_struct]
  revert h
  generalize (Op.equalIn 10000 SpT (.agg #[.int .i64 a, .int .i64 b]) (.agg #[.int .i64 c, .int .i64 d])).run Try.prog w = r
  intro h
  cases r with
  | ok x w' => simp only [Result.andThen] at h ⊢; cases h; rfl
  | halt x w' => simp only [Result.andThen] at h; cases h
theorem ne_beq {x y : Int} (h : x ≠ y) : (x == y) = false := beq_eq_false_iff_ne.2 h
set_option maxRecDepth 100000 in
set_option maxHeartbeats 4000000 in
theorem rtouch_any (a b c d : Int) (w : World) : Calls Try.prog 93 #[.agg #[.int .i64 a, .int .i64 b], .agg #[.int .i64 c, .int .i64 d]] w fun e w' => e = .returned (.bool (touchS (a, b) (c, d))) ∧ Fr None w w' := by
  have S0 := ((Sep.law w).alloc #[.int .i64 a, .int .i64 b] SpT).alloc #[.int .i64 c, .int .i64 d] SpT
  simp only [World.size_alloc] at S0
  have P1 := Lib.hid (fun W => rof_any a b W)
  have P2 := Lib.hid (fun W => rof_any c d W)
  have HS0 := Lib.hid S0
  have L1 := Lib.hid (fun W => rlenS_any (plainS (a, b)).1 (plainS (a, b)).2 W)
  have L2 := Lib.hid (fun W => rlenS_any (plainS (c, d)).1 (plainS (c, d)).2 W)
  have PM := Lib.hid (fun W => rmeetS_any (plainS (a, b)).1 (plainS (a, b)).2 (plainS (c, d)).1 (plainS (c, d)).2 W)
  have LM := Lib.hid (fun W => rlenS_any (meetS (plainS (a, b)) (plainS (c, d))).1 (meetS (plainS (a, b)) (plainS (c, d))).2 W)
  rw [← touchR_eq]
  unfold touchR
  have e1 : lenS (plainS (a, b)) = lenS (a, b) := by unfold lenS; rw [plain_plain]
  have e2 : lenS (plainS (c, d)) = lenS (c, d) := by unfold lenS; rw [plain_plain]
  rw [← e1, ← e2]
  clear S0 e1 e2
  generalize plainS (a, b) = s at *
  generalize plainS (c, d) = t at *
  generalize hmt : meetS s t = mm at *
  obtain ⟨s1, s2⟩ := s
  obtain ⟨t1, t2⟩ := t
  obtain ⟨m1', m2'⟩ := mm
  simp only at P1 P2 L1 L2 PM LM ⊢
  clear hmt
  generalize lenS (s1, s2) = ls at *
  generalize lenS (t1, t2) = lt at *
  generalize lenS (m1', m2') = lm at *
  by_cases z1 : ls = 0
  · rw [if_pos (.inl z1)]
    have h1 : (ls == 0) = true := beq_iff_eq.2 z1
    clear z1
    go_enter Try.func93, Try.ntmps93
    go_wp2_with (first
      | ((with_reducible refine (P1.out _).mono ?_); rintro e1 w1 ⟨rfl, F1⟩; have S1 := HS0.out.same F1; clear F1; have l1 : w.heap.size + 1 < w1.heap.size := (S1.at_ 0 rfl).lt; have c0 : w1.cell? ⟨w.heap.size + 1, 0, none⟩ = some (.int .i64 c) := (S1.at_ 0 rfl).cell 0; have c1 : w1.cell? ⟨w.heap.size + 1, 1, none⟩ = some (.int .i64 d) := (S1.at_ 0 rfl).cell 1; have HS1 := Lib.hid (S1.alloc #[.int .i64 s1, .int .i64 s2] SpT); clear S1)
      | ((with_reducible refine (P2.out _).mono ?_); rintro e2 w2 ⟨rfl, F2⟩; have S2 := HS1.out.same F2; clear F2; have l2 : w1.heap.size < w2.heap.size := (S2.at_ 0 rfl).lt; have d0 : w2.cell? ⟨w1.heap.size, 0, none⟩ = some (.int .i64 s1) := (S2.at_ 0 rfl).cell 0; have d1 : w2.cell? ⟨w1.heap.size, 1, none⟩ = some (.int .i64 s2) := (S2.at_ 0 rfl).cell 1; have HS2 := Lib.hid (S2.alloc #[.int .i64 t1, .int .i64 t2] SpT); clear S2)
      | ((with_reducible refine (L1.out _).mono ?_); rintro e3 w3 ⟨rfl, F3⟩; have S3 := HS2.out.same F3; clear F3; have m0 : w3.cell? ⟨w1.heap.size, 0, none⟩ = some (.int .i64 s1) := (S3.at_ 1 rfl).cell 0; have m1 : w3.cell? ⟨w1.heap.size, 1, none⟩ = some (.int .i64 s2) := (S3.at_ 1 rfl).cell 1; have n0 : w3.cell? ⟨w2.heap.size, 0, none⟩ = some (.int .i64 t1) := (S3.at_ 0 rfl).cell 0; have n1 : w3.cell? ⟨w2.heap.size, 1, none⟩ = some (.int .i64 t2) := (S3.at_ 0 rfl).cell 1; have HS3 := Lib.hid S3; clear S3)
      | ((with_reducible refine (L2.out _).mono ?_); rintro e4 w4 ⟨rfl, F4⟩; have S4 := HS3.out.same F4; clear F4; have o0 : w4.cell? ⟨w1.heap.size, 0, none⟩ = some (.int .i64 s1) := (S4.at_ 1 rfl).cell 0; have o1 : w4.cell? ⟨w1.heap.size, 1, none⟩ = some (.int .i64 s2) := (S4.at_ 1 rfl).cell 1; have p0 : w4.cell? ⟨w2.heap.size, 0, none⟩ = some (.int .i64 t1) := (S4.at_ 0 rfl).cell 0; have p1 : w4.cell? ⟨w2.heap.size, 1, none⟩ = some (.int .i64 t2) := (S4.at_ 0 rfl).cell 1; have HS4 := Lib.hid S4; clear S4)
      | ((with_reducible refine (PM.out _).mono ?_); rintro e5 w5 ⟨rfl, F5⟩; have S5 := HS4.out.same F5; clear F5; have HS5 := Lib.hid S5; clear S5)
      | ((with_reducible refine (LM.out _).mono ?_); rintro e6 w6 ⟨rfl, F6⟩; have S6 := HS5.out.same F6; clear F6; have q0 : w6.cell? ⟨w1.heap.size, 0, none⟩ = some (.int .i64 s1) := (S6.at_ 1 rfl).cell 0; have q1 : w6.cell? ⟨w1.heap.size, 1, none⟩ = some (.int .i64 s2) := (S6.at_ 1 rfl).cell 1; have r0 : w6.cell? ⟨w2.heap.size, 0, none⟩ = some (.int .i64 t1) := (S6.at_ 0 rfl).cell 0; have r1 : w6.cell? ⟨w2.heap.size, 1, none⟩ = some (.int .i64 t2) := (S6.at_ 0 rfl).cell 1; have HS6 := Lib.hid S6; clear S6)
      | fail)
    go_ret
    exact ⟨rfl, HS3.out.fr⟩
  · have h1 : (ls == 0) = false := ne_beq z1
    by_cases z2 : lt = 0
    · rw [if_pos (.inr z2)]
      have h2 : (lt == 0) = true := beq_iff_eq.2 z2
      clear z1 z2
      go_enter Try.func93, Try.ntmps93
      go_wp2_with (first
        | ((with_reducible refine (P1.out _).mono ?_); rintro e1 w1 ⟨rfl, F1⟩; have S1 := HS0.out.same F1; clear F1; have l1 : w.heap.size + 1 < w1.heap.size := (S1.at_ 0 rfl).lt; have c0 : w1.cell? ⟨w.heap.size + 1, 0, none⟩ = some (.int .i64 c) := (S1.at_ 0 rfl).cell 0; have c1 : w1.cell? ⟨w.heap.size + 1, 1, none⟩ = some (.int .i64 d) := (S1.at_ 0 rfl).cell 1; have HS1 := Lib.hid (S1.alloc #[.int .i64 s1, .int .i64 s2] SpT); clear S1)
        | ((with_reducible refine (P2.out _).mono ?_); rintro e2 w2 ⟨rfl, F2⟩; have S2 := HS1.out.same F2; clear F2; have l2 : w1.heap.size < w2.heap.size := (S2.at_ 0 rfl).lt; have d0 : w2.cell? ⟨w1.heap.size, 0, none⟩ = some (.int .i64 s1) := (S2.at_ 0 rfl).cell 0; have d1 : w2.cell? ⟨w1.heap.size, 1, none⟩ = some (.int .i64 s2) := (S2.at_ 0 rfl).cell 1; have HS2 := Lib.hid (S2.alloc #[.int .i64 t1, .int .i64 t2] SpT); clear S2)
        | ((with_reducible refine (L1.out _).mono ?_); rintro e3 w3 ⟨rfl, F3⟩; have S3 := HS2.out.same F3; clear F3; have m0 : w3.cell? ⟨w1.heap.size, 0, none⟩ = some (.int .i64 s1) := (S3.at_ 1 rfl).cell 0; have m1 : w3.cell? ⟨w1.heap.size, 1, none⟩ = some (.int .i64 s2) := (S3.at_ 1 rfl).cell 1; have n0 : w3.cell? ⟨w2.heap.size, 0, none⟩ = some (.int .i64 t1) := (S3.at_ 0 rfl).cell 0; have n1 : w3.cell? ⟨w2.heap.size, 1, none⟩ = some (.int .i64 t2) := (S3.at_ 0 rfl).cell 1; have HS3 := Lib.hid S3; clear S3)
        | ((with_reducible refine (L2.out _).mono ?_); rintro e4 w4 ⟨rfl, F4⟩; have S4 := HS3.out.same F4; clear F4; have o0 : w4.cell? ⟨w1.heap.size, 0, none⟩ = some (.int .i64 s1) := (S4.at_ 1 rfl).cell 0; have o1 : w4.cell? ⟨w1.heap.size, 1, none⟩ = some (.int .i64 s2) := (S4.at_ 1 rfl).cell 1; have p0 : w4.cell? ⟨w2.heap.size, 0, none⟩ = some (.int .i64 t1) := (S4.at_ 0 rfl).cell 0; have p1 : w4.cell? ⟨w2.heap.size, 1, none⟩ = some (.int .i64 t2) := (S4.at_ 0 rfl).cell 1; have HS4 := Lib.hid S4; clear S4)
        | ((with_reducible refine (PM.out _).mono ?_); rintro e5 w5 ⟨rfl, F5⟩; have S5 := HS4.out.same F5; clear F5; have HS5 := Lib.hid S5; clear S5)
        | ((with_reducible refine (LM.out _).mono ?_); rintro e6 w6 ⟨rfl, F6⟩; have S6 := HS5.out.same F6; clear F6; have q0 : w6.cell? ⟨w1.heap.size, 0, none⟩ = some (.int .i64 s1) := (S6.at_ 1 rfl).cell 0; have q1 : w6.cell? ⟨w1.heap.size, 1, none⟩ = some (.int .i64 s2) := (S6.at_ 1 rfl).cell 1; have r0 : w6.cell? ⟨w2.heap.size, 0, none⟩ = some (.int .i64 t1) := (S6.at_ 0 rfl).cell 0; have r1 : w6.cell? ⟨w2.heap.size, 1, none⟩ = some (.int .i64 t2) := (S6.at_ 0 rfl).cell 1; have HS6 := Lib.hid S6; clear S6)
        | fail)
      go_ret
      exact ⟨rfl, HS4.out.fr⟩
    · rw [if_neg (by rintro (h | h); exact z1 h; exact z2 h)]
      have h2 : (lt == 0) = false := ne_beq z2
      by_cases g1 : 0 < lm
      · have k1 : decide (0 < lm) = true := decide_eq_true g1
        rw [k1, Bool.true_or, Bool.true_or]
        clear z1 z2 g1
        go_enter Try.func93, Try.ntmps93
        go_wp2_with (first
          | ((with_reducible refine (P1.out _).mono ?_); rintro e1 w1 ⟨rfl, F1⟩; have S1 := HS0.out.same F1; clear F1; have l1 : w.heap.size + 1 < w1.heap.size := (S1.at_ 0 rfl).lt; have c0 : w1.cell? ⟨w.heap.size + 1, 0, none⟩ = some (.int .i64 c) := (S1.at_ 0 rfl).cell 0; have c1 : w1.cell? ⟨w.heap.size + 1, 1, none⟩ = some (.int .i64 d) := (S1.at_ 0 rfl).cell 1; have HS1 := Lib.hid (S1.alloc #[.int .i64 s1, .int .i64 s2] SpT); clear S1)
          | ((with_reducible refine (P2.out _).mono ?_); rintro e2 w2 ⟨rfl, F2⟩; have S2 := HS1.out.same F2; clear F2; have l2 : w1.heap.size < w2.heap.size := (S2.at_ 0 rfl).lt; have d0 : w2.cell? ⟨w1.heap.size, 0, none⟩ = some (.int .i64 s1) := (S2.at_ 0 rfl).cell 0; have d1 : w2.cell? ⟨w1.heap.size, 1, none⟩ = some (.int .i64 s2) := (S2.at_ 0 rfl).cell 1; have HS2 := Lib.hid (S2.alloc #[.int .i64 t1, .int .i64 t2] SpT); clear S2)
          | ((with_reducible refine (L1.out _).mono ?_); rintro e3 w3 ⟨rfl, F3⟩; have S3 := HS2.out.same F3; clear F3; have m0 : w3.cell? ⟨w1.heap.size, 0, none⟩ = some (.int .i64 s1) := (S3.at_ 1 rfl).cell 0; have m1 : w3.cell? ⟨w1.heap.size, 1, none⟩ = some (.int .i64 s2) := (S3.at_ 1 rfl).cell 1; have n0 : w3.cell? ⟨w2.heap.size, 0, none⟩ = some (.int .i64 t1) := (S3.at_ 0 rfl).cell 0; have n1 : w3.cell? ⟨w2.heap.size, 1, none⟩ = some (.int .i64 t2) := (S3.at_ 0 rfl).cell 1; have HS3 := Lib.hid S3; clear S3)
          | ((with_reducible refine (L2.out _).mono ?_); rintro e4 w4 ⟨rfl, F4⟩; have S4 := HS3.out.same F4; clear F4; have o0 : w4.cell? ⟨w1.heap.size, 0, none⟩ = some (.int .i64 s1) := (S4.at_ 1 rfl).cell 0; have o1 : w4.cell? ⟨w1.heap.size, 1, none⟩ = some (.int .i64 s2) := (S4.at_ 1 rfl).cell 1; have p0 : w4.cell? ⟨w2.heap.size, 0, none⟩ = some (.int .i64 t1) := (S4.at_ 0 rfl).cell 0; have p1 : w4.cell? ⟨w2.heap.size, 1, none⟩ = some (.int .i64 t2) := (S4.at_ 0 rfl).cell 1; have HS4 := Lib.hid S4; clear S4)
          | ((with_reducible refine (PM.out _).mono ?_); rintro e5 w5 ⟨rfl, F5⟩; have S5 := HS4.out.same F5; clear F5; have HS5 := Lib.hid S5; clear S5)
          | ((with_reducible refine (LM.out _).mono ?_); rintro e6 w6 ⟨rfl, F6⟩; have S6 := HS5.out.same F6; clear F6; have q0 : w6.cell? ⟨w1.heap.size, 0, none⟩ = some (.int .i64 s1) := (S6.at_ 1 rfl).cell 0; have q1 : w6.cell? ⟨w1.heap.size, 1, none⟩ = some (.int .i64 s2) := (S6.at_ 1 rfl).cell 1; have r0 : w6.cell? ⟨w2.heap.size, 0, none⟩ = some (.int .i64 t1) := (S6.at_ 0 rfl).cell 0; have r1 : w6.cell? ⟨w2.heap.size, 1, none⟩ = some (.int .i64 t2) := (S6.at_ 0 rfl).cell 1; have HS6 := Lib.hid S6; clear S6)
          | fail)
        go_ret
        exact ⟨rfl, HS6.out.fr⟩
      · have k1 : decide (0 < lm) = false := decide_eq_false g1
        rw [k1, Bool.false_or]
        by_cases g2 : s2 = t1
        · have k2 : (s2 == t1) = true := beq_iff_eq.2 g2
          rw [decide_eq_true g2, Bool.true_or]
          clear z1 z2 g1 g2
          go_enter Try.func93, Try.ntmps93
          go_wp2_with (first
            | ((with_reducible refine (P1.out _).mono ?_); rintro e1 w1 ⟨rfl, F1⟩; have S1 := HS0.out.same F1; clear F1; have l1 : w.heap.size + 1 < w1.heap.size := (S1.at_ 0 rfl).lt; have c0 : w1.cell? ⟨w.heap.size + 1, 0, none⟩ = some (.int .i64 c) := (S1.at_ 0 rfl).cell 0; have c1 : w1.cell? ⟨w.heap.size + 1, 1, none⟩ = some (.int .i64 d) := (S1.at_ 0 rfl).cell 1; have HS1 := Lib.hid (S1.alloc #[.int .i64 s1, .int .i64 s2] SpT); clear S1)
            | ((with_reducible refine (P2.out _).mono ?_); rintro e2 w2 ⟨rfl, F2⟩; have S2 := HS1.out.same F2; clear F2; have l2 : w1.heap.size < w2.heap.size := (S2.at_ 0 rfl).lt; have d0 : w2.cell? ⟨w1.heap.size, 0, none⟩ = some (.int .i64 s1) := (S2.at_ 0 rfl).cell 0; have d1 : w2.cell? ⟨w1.heap.size, 1, none⟩ = some (.int .i64 s2) := (S2.at_ 0 rfl).cell 1; have HS2 := Lib.hid (S2.alloc #[.int .i64 t1, .int .i64 t2] SpT); clear S2)
            | ((with_reducible refine (L1.out _).mono ?_); rintro e3 w3 ⟨rfl, F3⟩; have S3 := HS2.out.same F3; clear F3; have m0 : w3.cell? ⟨w1.heap.size, 0, none⟩ = some (.int .i64 s1) := (S3.at_ 1 rfl).cell 0; have m1 : w3.cell? ⟨w1.heap.size, 1, none⟩ = some (.int .i64 s2) := (S3.at_ 1 rfl).cell 1; have n0 : w3.cell? ⟨w2.heap.size, 0, none⟩ = some (.int .i64 t1) := (S3.at_ 0 rfl).cell 0; have n1 : w3.cell? ⟨w2.heap.size, 1, none⟩ = some (.int .i64 t2) := (S3.at_ 0 rfl).cell 1; have HS3 := Lib.hid S3; clear S3)
            | ((with_reducible refine (L2.out _).mono ?_); rintro e4 w4 ⟨rfl, F4⟩; have S4 := HS3.out.same F4; clear F4; have o0 : w4.cell? ⟨w1.heap.size, 0, none⟩ = some (.int .i64 s1) := (S4.at_ 1 rfl).cell 0; have o1 : w4.cell? ⟨w1.heap.size, 1, none⟩ = some (.int .i64 s2) := (S4.at_ 1 rfl).cell 1; have p0 : w4.cell? ⟨w2.heap.size, 0, none⟩ = some (.int .i64 t1) := (S4.at_ 0 rfl).cell 0; have p1 : w4.cell? ⟨w2.heap.size, 1, none⟩ = some (.int .i64 t2) := (S4.at_ 0 rfl).cell 1; have HS4 := Lib.hid S4; clear S4)
            | ((with_reducible refine (PM.out _).mono ?_); rintro e5 w5 ⟨rfl, F5⟩; have S5 := HS4.out.same F5; clear F5; have HS5 := Lib.hid S5; clear S5)
            | ((with_reducible refine (LM.out _).mono ?_); rintro e6 w6 ⟨rfl, F6⟩; have S6 := HS5.out.same F6; clear F6; have q0 : w6.cell? ⟨w1.heap.size, 0, none⟩ = some (.int .i64 s1) := (S6.at_ 1 rfl).cell 0; have q1 : w6.cell? ⟨w1.heap.size, 1, none⟩ = some (.int .i64 s2) := (S6.at_ 1 rfl).cell 1; have r0 : w6.cell? ⟨w2.heap.size, 0, none⟩ = some (.int .i64 t1) := (S6.at_ 0 rfl).cell 0; have r1 : w6.cell? ⟨w2.heap.size, 1, none⟩ = some (.int .i64 t2) := (S6.at_ 0 rfl).cell 1; have HS6 := Lib.hid S6; clear S6)
            | fail)
          go_ret
          exact ⟨rfl, HS6.out.fr⟩
        · have k2 : (s2 == t1) = false := ne_beq g2
          rw [decide_eq_false g2, Bool.false_or]
          have k3 : decide (t2 = s1) = (t2 == s1) := rfl
          rw [k3]
          clear z1 z2 g1 g2 k3
          go_enter Try.func93, Try.ntmps93
          go_wp2_with (first
            | ((with_reducible refine (P1.out _).mono ?_); rintro e1 w1 ⟨rfl, F1⟩; have S1 := HS0.out.same F1; clear F1; have l1 : w.heap.size + 1 < w1.heap.size := (S1.at_ 0 rfl).lt; have c0 : w1.cell? ⟨w.heap.size + 1, 0, none⟩ = some (.int .i64 c) := (S1.at_ 0 rfl).cell 0; have c1 : w1.cell? ⟨w.heap.size + 1, 1, none⟩ = some (.int .i64 d) := (S1.at_ 0 rfl).cell 1; have HS1 := Lib.hid (S1.alloc #[.int .i64 s1, .int .i64 s2] SpT); clear S1)
            | ((with_reducible refine (P2.out _).mono ?_); rintro e2 w2 ⟨rfl, F2⟩; have S2 := HS1.out.same F2; clear F2; have l2 : w1.heap.size < w2.heap.size := (S2.at_ 0 rfl).lt; have d0 : w2.cell? ⟨w1.heap.size, 0, none⟩ = some (.int .i64 s1) := (S2.at_ 0 rfl).cell 0; have d1 : w2.cell? ⟨w1.heap.size, 1, none⟩ = some (.int .i64 s2) := (S2.at_ 0 rfl).cell 1; have HS2 := Lib.hid (S2.alloc #[.int .i64 t1, .int .i64 t2] SpT); clear S2)
            | ((with_reducible refine (L1.out _).mono ?_); rintro e3 w3 ⟨rfl, F3⟩; have S3 := HS2.out.same F3; clear F3; have m0 : w3.cell? ⟨w1.heap.size, 0, none⟩ = some (.int .i64 s1) := (S3.at_ 1 rfl).cell 0; have m1 : w3.cell? ⟨w1.heap.size, 1, none⟩ = some (.int .i64 s2) := (S3.at_ 1 rfl).cell 1; have n0 : w3.cell? ⟨w2.heap.size, 0, none⟩ = some (.int .i64 t1) := (S3.at_ 0 rfl).cell 0; have n1 : w3.cell? ⟨w2.heap.size, 1, none⟩ = some (.int .i64 t2) := (S3.at_ 0 rfl).cell 1; have HS3 := Lib.hid S3; clear S3)
            | ((with_reducible refine (L2.out _).mono ?_); rintro e4 w4 ⟨rfl, F4⟩; have S4 := HS3.out.same F4; clear F4; have o0 : w4.cell? ⟨w1.heap.size, 0, none⟩ = some (.int .i64 s1) := (S4.at_ 1 rfl).cell 0; have o1 : w4.cell? ⟨w1.heap.size, 1, none⟩ = some (.int .i64 s2) := (S4.at_ 1 rfl).cell 1; have p0 : w4.cell? ⟨w2.heap.size, 0, none⟩ = some (.int .i64 t1) := (S4.at_ 0 rfl).cell 0; have p1 : w4.cell? ⟨w2.heap.size, 1, none⟩ = some (.int .i64 t2) := (S4.at_ 0 rfl).cell 1; have HS4 := Lib.hid S4; clear S4)
            | ((with_reducible refine (PM.out _).mono ?_); rintro e5 w5 ⟨rfl, F5⟩; have S5 := HS4.out.same F5; clear F5; have HS5 := Lib.hid S5; clear S5)
            | ((with_reducible refine (LM.out _).mono ?_); rintro e6 w6 ⟨rfl, F6⟩; have S6 := HS5.out.same F6; clear F6; have q0 : w6.cell? ⟨w1.heap.size, 0, none⟩ = some (.int .i64 s1) := (S6.at_ 1 rfl).cell 0; have q1 : w6.cell? ⟨w1.heap.size, 1, none⟩ = some (.int .i64 s2) := (S6.at_ 1 rfl).cell 1; have r0 : w6.cell? ⟨w2.heap.size, 0, none⟩ = some (.int .i64 t1) := (S6.at_ 0 rfl).cell 0; have r1 : w6.cell? ⟨w2.heap.size, 1, none⟩ = some (.int .i64 t2) := (S6.at_ 0 rfl).cell 1; have HS6 := Lib.hid S6; clear S6)
            | fail)
          go_ret
          exact ⟨rfl, HS6.out.fr⟩

set_option maxRecDepth 100000 in
set_option maxHeartbeats 4000000 in
/-- Two lists are the same. -/
theorem spSame_any (p q : Option Addr) (c d : Nat) (l m : List (Int × Int)) (w : World) (hr : Reads w 2 p l.length c (fc spc l)) (hq : Reads w 2 q m.length d (fc spc m)) (hs : l.length ≤ 1000000) (hs2 : m.length ≤ 1000000) :
    Calls Try.prog 27 #[.slice p l.length c, .slice q m.length d] w fun e w' => e = .returned (.bool (decide (l = m))) ∧ Fr None w w' := by
  by_cases hlm : l.length = m.length
  · have HR := Lib.hid hr; clear hr
    have HQ := Lib.hid hq; clear hq
    have HL := Lib.hid hlm
    rw [← hlm]
    have hz : ((l.length : Int) != l.length) = false := by simp
    clear hlm hs2
    go_enter Try.func27, Try.ntmps27
    go_wp2_with fail
    go_loopg [5] l.length (fun r i wr => ∃ k n : Nat, k + r = l.length ∧ i = .int .i64 k ∧ wr = w.drewN n ∧ l.take k = m.take k)
    case atStart => exact ⟨0, 0, by omega, rfl, rfl, rfl⟩
    case round =>
      obtain ⟨k, n, hk0, rfl, rfl, he⟩ := hrel
      have HE := Lib.hid he
      clear he
      by_cases g : k < l.length
      · have ex := List.getElem?_eq_getElem g
        have ey : m[k]? = some (m[k]'(by have := HL.out; omega)) := List.getElem?_eq_getElem _
        obtain ⟨b, off, rfl, hc⟩ := HR.out.elem spc_len (by decide) ex
        obtain ⟨b2, off2, rfl, hd⟩ := HQ.out.elem spc_len (by decide) ey
        have hst := eq_uptoL HL.out HE.out ex ey
        generalize l[k] = x at *
        generalize m[k]'_ = y at *
        obtain ⟨x1, x2⟩ := x
        obtain ⟨y1, y2⟩ := y
        have c1 : w.cell? ⟨b, off + k * 2, none⟩ = some (.int .i64 x1) := hc 0 _ rfl
        have c2 : w.cell? ⟨b, off + k * 2 + 1, none⟩ = some (.int .i64 x2) := hc 1 _ rfl
        have d1 : w.cell? ⟨b2, off2 + k * 2, none⟩ = some (.int .i64 y1) := hd 0 _ rfl
        have d2 : w.cell? ⟨b2, off2 + k * 2 + 1, none⟩ = some (.int .i64 y2) := hd 1 _ rfl
        have hdl : (k : Int) < m.length := by have := HL.out; omega
        have HST := Lib.hid hst
        clear hc hd ex ey hst
        by_cases hxy : (x1, x2) = (y1, y2)
        · obtain ⟨rfl, rfl⟩ := Prod.mk.inj hxy
          clear hxy
          have he : ∀ W, (binOp .neq SpT (.agg #[.int .i64 x1, .int .i64 x2]) (.agg #[.int .i64 x1, .int .i64 x2])).run Try.prog W = .ok (.bool false) W := fun W => by rw [nqSp]; simp
          go_wp2_with fail
          go_quiet (fail)
          go_wp2_with fail
          go_roundg (gk - 1)
          case measure => omega
          case rel => exact ⟨k + 1, _, by omega, by go_num, rfl, HST.out.1.2 (by first | rfl | trivial)⟩
        · have hb : (x1 == y1 && x2 == y2) = false := by
            rw [Bool.eq_false_iff]
            intro h
            rw [Bool.and_eq_true, beq_iff_eq, beq_iff_eq] at h
            exact hxy (by rw [h.1, h.2])
          have he : ∀ W, (binOp .neq SpT (.agg #[.int .i64 x1, .int .i64 x2]) (.agg #[.int .i64 y1, .int .i64 y2])).run Try.prog W = .ok (.bool true) W := fun W => by rw [nqSp, hb]; rfl
          have HN := Lib.hid (show decide (l = m) = false from decide_eq_false (HST.out.2 hxy))
          clear hxy hb
          go_wp2_with fail
          go_quiet (fail)
          go_wp2_with fail
          go_ret
          exact ⟨by rw [HN.out]; rfl, ((Fr.refl None w).drewN _).drewN _⟩
      · have hk1 : k = l.length := by omega
        subst hk1
        have e1 : l = m := by have := HE.out; rw [List.take_length] at this; rw [this, HL.out, List.take_length]
        have HM := Lib.hid (show decide (l = m) = true from decide_eq_true e1)
        clear e1
        go_wp2_with fail
        go_ret
        exact ⟨by rw [HM.out]; rfl, (Fr.refl None w).drewN _⟩
  · have HM := Lib.hid (show decide (l = m) = false from decide_eq_false (fun e => hlm (by rw [e])))
    have hz : ((l.length : Int) != m.length) = true := by simp only [bne_iff_ne]; omega
    clear hr hq
    go_enter Try.func27, Try.ntmps27
    go_wp2_with fail
    go_ret
    exact ⟨by rw [HM.out]; rfl, Fr.refl None w⟩
end Go.Proofs.Ytfobeheplficgaa
