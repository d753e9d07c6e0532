/- The document's spans: Len, Meet, From, Below, Touch: walked. -/
import Derived.Test.YtfobeheplficgaaRwN
set_option linter.unusedVariables false
set_option linter.unusedSimpArgs false
namespace Go.Proofs.Ytfobeheplficgaa
open Go.RowKit Go.Und Go.Shelf
attribute [local go_sem] Oper.semAt_some
attribute [local go_sem ↓] Go.wp_at_zero Go.wp_at_succ
attribute [local go_sem] field_sa0 field_sa1

theorem keep_sp {k : Nat} {a b : Int} {V V' : World} (f : Fr None V V') (h : V.cell? ⟨k, 0, none⟩ = some (.int .i64 a) ∧ V.cell? ⟨k, 1, none⟩ = some (.int .i64 b)) : V'.cell? ⟨k, 0, none⟩ = some (.int .i64 a) ∧ V'.cell? ⟨k, 1, none⟩ = some (.int .i64 b) :=
  ⟨cell_frN f h.1, cell_frN f h.2⟩
set_option maxRecDepth 100000 in
set_option maxHeartbeats 1000000 in
theorem rlenS_any (a b : Int) (w : World) : Calls Try.prog 17 #[.agg #[.int .i64 a, .int .i64 b]] w fun e w' => e = .returned (.int .i64 (lenS (a, b))) ∧ Fr None w w' := by
  have HM := Lib.hid (fun W => rof_any a b W)
  have S := Lib.hid ((Sep.law w).alloc #[.int .i64 a, .int .i64 b] SpT)
  have B := plainS_bounds (a, b)
  have E := Lib.hid (show (plainS (a, b)).2 - (plainS (a, b)).1 = lenS (a, b) from rfl)
  generalize plainS (a, b) = s at *
  obtain ⟨s1, s2⟩ := s
  simp only at B HM E
  go_enter Try.func17, Try.ntmps17
  go_wp2_with fail
  refine Sep.gen _ S.out ?_
  intro V SV
  have c0 : V.cell? ⟨w.heap.size, 0, none⟩ = some (.int .i64 a) := (SV.at_ 0 rfl).cell 0
  have c1 : V.cell? ⟨w.heap.size, 1, none⟩ = some (.int .i64 b) := (SV.at_ 0 rfl).cell 1
  have HV := Lib.hid SV
  clear SV
  have qi := keep_sp ((Fr.refl None V).drew) ⟨c0, c1⟩
  have F0 := Lib.hid ((Fr.refl None V).drew)
  have hw : IntKind.i64.wrap (s2 - s1) = s2 - s1 := by simp [IntKind.wrap, IntKind.bits, IntKind.signed]; omega
  go_region_held3 (fun w' => w'.cell? ⟨w.heap.size, 0, none⟩ = some (.int .i64 a) ∧ w'.cell? ⟨w.heap.size, 1, none⟩ = some (.int .i64 b)) (with_reducible assumption) (first
    | ((with_reducible refine (HM.out _).mono ?_); rintro e w2 ⟨rfl, f2⟩; have qq := keep_sp f2 (by with_reducible assumption); (first | (have F2 := Lib.hid (F1.out.trans f2)) | (have F1 := Lib.hid f2)); clear f2)
    | fail)
  all_goals
    go_wp2_with fail
    exact bodyPost_ret (v := .int .i64 (lenS (a, b))) (by simp [results, Try.results17, go_sem, hw, ← E.out]) rfl ⟨rfl, (HV.out.fr.trans F0.out).trans F2.out⟩
set_option maxRecDepth 100000 in
set_option maxHeartbeats 4000000 in
theorem rmeetS_any (a b c d : Int) (w : World) : Calls Try.prog 20 #[.agg #[.int .i64 a, .int .i64 b], .agg #[.int .i64 c, .int .i64 d]] w fun e w' => e = .returned (spV (meetS (a, b) (c, d))) ∧ Fr None w w' := by
  have S0 := (((Sep.law w).alloc #[.int .i64 a, .int .i64 b] SpT).alloc #[.int .i64 c, .int .i64 d] SpT).alloc #[.int .i64 0, .int .i64 0] SpT
  simp only [World.size_alloc] at S0
  have P1 := Lib.hid (fun W => rof_any a b W)
  have P2 := Lib.hid (fun W => rof_any c d W)
  have HS0 := Lib.hid S0
  have P3 := Lib.hid (fun W => rof_any (max (plainS (a, b)).1 (plainS (c, d)).1) (min (plainS (a, b)).2 (plainS (c, d)).2) W)
  have E : plainS (max (plainS (a, b)).1 (plainS (c, d)).1, min (plainS (a, b)).2 (plainS (c, d)).2) = meetS (a, b) (c, d) := rfl
  rw [E] at P3
  clear S0 E
  generalize plainS (a, b) = s at *
  generalize plainS (c, d) = t at *
  obtain ⟨s1, s2⟩ := s
  obtain ⟨t1, t2⟩ := t
  obtain ⟨r1, r2, er⟩ : ∃ r1 r2, meetS (a, b) (c, d) = (r1, r2) := ⟨_, _, rfl⟩
  rw [er] at P3
  have EQ := Lib.hid er
  clear er
  dsimp only at P1 P2 P3
  by_cases g1 : s1 < t1 <;> by_cases g2 : t2 < s2
  · have h1 : decide (s1 < t1) = true := decide_eq_true g1
    have h2 : decide (t2 < s2) = true := decide_eq_true g2
    rw [show max s1 t1 = t1 by omega, show min s2 t2 = t2 by omega] at P3
    have mkS : ∀ {b1 : Nat} {R : List Ob} {w2 : World}, Sep None w w2 (Ob.blk b1 SpT #[.int .i64 s1, .int .i64 s2] :: R) → Sep None w (((w2.setCell ⟨b1, 0, none⟩ (.int .i64 t1)).setCell ⟨b1, 1, none⟩ (.int .i64 t2)).alloc (.cells #[.int .i64 t1, .int .i64 t2] SpT)) (Ob.blk w2.heap.size SpT #[.int .i64 t1, .int .i64 t2] :: Ob.blk b1 SpT #[.int .i64 t1, .int .i64 t2] :: R) := fun S => by
      have S' := ((S.set 0 rfl 0 (.int .i64 t1)).set 0 rfl 1 (.int .i64 t2)).alloc #[.int .i64 t1, .int .i64 t2] SpT
      try simp only [size_setCell'] at S'
      exact S'
    clear g1 g2
    go_enter Try.func20, Try.ntmps20
    go_wp2_with (first
      | ((with_reducible refine (P1.out _).mono ?_); rintro e1 w1 ⟨rfl, F1⟩; have S1 := HS0.out.same F1; clear F1; have l1 : w.heap.size + 1 < w1.heap.size := (S1.at_ 1 rfl).lt; have c0 : w1.cell? ⟨w.heap.size + 1, 0, none⟩ = some (.int .i64 c) := (S1.at_ 1 rfl).cell 0; have c1 : w1.cell? ⟨w.heap.size + 1, 1, none⟩ = some (.int .i64 d) := (S1.at_ 1 rfl).cell 1; have HS1 := Lib.hid (S1.alloc #[.int .i64 s1, .int .i64 s2] SpT); clear S1)
      | ((with_reducible refine (P2.out _).mono ?_); rintro e2 w2 ⟨rfl, F2⟩; have S2 := HS1.out.same F2; clear F2; have l2 : w1.heap.size < w2.heap.size := (S2.at_ 0 rfl).lt; have d0 : w2.cell? ⟨w1.heap.size, 0, none⟩ = some (.int .i64 s1) := (S2.at_ 0 rfl).cell 0; have d1 : w2.cell? ⟨w1.heap.size, 1, none⟩ = some (.int .i64 s2) := (S2.at_ 0 rfl).cell 1; have z0 : w2.frozen? ⟨w1.heap.size, 0, none⟩ = false := (S2.at_ 0 rfl).frozen 0; have z1 : w2.frozen? ⟨w1.heap.size, 1, none⟩ = false := (S2.at_ 0 rfl).frozen 1; have HS2 := Lib.hid S2; clear S2)
      | ((with_reducible refine (P3.out _).mono ?_); rintro e3 w3 ⟨rfl, F3⟩; have S3 := (mkS HS2.out).same F3; clear F3; have k0 : w3.cell? ⟨w.heap.size + 1 + 1, 0, none⟩ = some (.int .i64 0) := (S3.at_ 2 rfl).cell 0; have k1 : w3.cell? ⟨w.heap.size + 1 + 1, 1, none⟩ = some (.int .i64 0) := (S3.at_ 2 rfl).cell 1; have y0 : w3.frozen? ⟨w.heap.size + 1 + 1, 0, none⟩ = false := (S3.at_ 2 rfl).frozen 0; have y1 : w3.frozen? ⟨w.heap.size + 1 + 1, 1, none⟩ = false := (S3.at_ 2 rfl).frozen 1; have HS3 := Lib.hid S3; clear S3)
      | fail)
    exact bodyPost_ret (v := spV (meetS (a, b) (c, d))) (by simp [results, Try.results20, go_sem, k0, k1, EQ.out]) rfl ⟨rfl, ((HS3.out.set 2 rfl 0 (.int .i64 r1)).set 2 rfl 1 (.int .i64 r2)).fr⟩
  · have h1 : decide (s1 < t1) = true := decide_eq_true g1
    have h2 : decide (t2 < s2) = false := decide_eq_false g2
    rw [show max s1 t1 = t1 by omega, show min s2 t2 = s2 by omega] at P3
    have mkS : ∀ {b1 : Nat} {R : List Ob} {w2 : World}, Sep None w w2 (Ob.blk b1 SpT #[.int .i64 s1, .int .i64 s2] :: R) → Sep None w ((w2.setCell ⟨b1, 0, none⟩ (.int .i64 t1)).alloc (.cells #[.int .i64 t1, .int .i64 t2] SpT)) (Ob.blk w2.heap.size SpT #[.int .i64 t1, .int .i64 t2] :: Ob.blk b1 SpT #[.int .i64 t1, .int .i64 s2] :: R) := fun S => by
      have S' := (S.set 0 rfl 0 (.int .i64 t1)).alloc #[.int .i64 t1, .int .i64 t2] SpT
      try simp only [size_setCell'] at S'
      exact S'
    clear g1 g2
    go_enter Try.func20, Try.ntmps20
    go_wp2_with (first
      | ((with_reducible refine (P1.out _).mono ?_); rintro e1 w1 ⟨rfl, F1⟩; have S1 := HS0.out.same F1; clear F1; have l1 : w.heap.size + 1 < w1.heap.size := (S1.at_ 1 rfl).lt; have c0 : w1.cell? ⟨w.heap.size + 1, 0, none⟩ = some (.int .i64 c) := (S1.at_ 1 rfl).cell 0; have c1 : w1.cell? ⟨w.heap.size + 1, 1, none⟩ = some (.int .i64 d) := (S1.at_ 1 rfl).cell 1; have HS1 := Lib.hid (S1.alloc #[.int .i64 s1, .int .i64 s2] SpT); clear S1)
      | ((with_reducible refine (P2.out _).mono ?_); rintro e2 w2 ⟨rfl, F2⟩; have S2 := HS1.out.same F2; clear F2; have l2 : w1.heap.size < w2.heap.size := (S2.at_ 0 rfl).lt; have d0 : w2.cell? ⟨w1.heap.size, 0, none⟩ = some (.int .i64 s1) := (S2.at_ 0 rfl).cell 0; have d1 : w2.cell? ⟨w1.heap.size, 1, none⟩ = some (.int .i64 s2) := (S2.at_ 0 rfl).cell 1; have z0 : w2.frozen? ⟨w1.heap.size, 0, none⟩ = false := (S2.at_ 0 rfl).frozen 0; have z1 : w2.frozen? ⟨w1.heap.size, 1, none⟩ = false := (S2.at_ 0 rfl).frozen 1; have HS2 := Lib.hid S2; clear S2)
      | ((with_reducible refine (P3.out _).mono ?_); rintro e3 w3 ⟨rfl, F3⟩; have S3 := (mkS HS2.out).same F3; clear F3; have k0 : w3.cell? ⟨w.heap.size + 1 + 1, 0, none⟩ = some (.int .i64 0) := (S3.at_ 2 rfl).cell 0; have k1 : w3.cell? ⟨w.heap.size + 1 + 1, 1, none⟩ = some (.int .i64 0) := (S3.at_ 2 rfl).cell 1; have y0 : w3.frozen? ⟨w.heap.size + 1 + 1, 0, none⟩ = false := (S3.at_ 2 rfl).frozen 0; have y1 : w3.frozen? ⟨w.heap.size + 1 + 1, 1, none⟩ = false := (S3.at_ 2 rfl).frozen 1; have HS3 := Lib.hid S3; clear S3)
      | fail)
    exact bodyPost_ret (v := spV (meetS (a, b) (c, d))) (by simp [results, Try.results20, go_sem, k0, k1, EQ.out]) rfl ⟨rfl, ((HS3.out.set 2 rfl 0 (.int .i64 r1)).set 2 rfl 1 (.int .i64 r2)).fr⟩
  · have h1 : decide (s1 < t1) = false := decide_eq_false g1
    have h2 : decide (t2 < s2) = true := decide_eq_true g2
    rw [show max s1 t1 = s1 by omega, show min s2 t2 = t2 by omega] at P3
    have mkS : ∀ {b1 : Nat} {R : List Ob} {w2 : World}, Sep None w w2 (Ob.blk b1 SpT #[.int .i64 s1, .int .i64 s2] :: R) → Sep None w ((w2.setCell ⟨b1, 1, none⟩ (.int .i64 t2)).alloc (.cells #[.int .i64 t1, .int .i64 t2] SpT)) (Ob.blk w2.heap.size SpT #[.int .i64 t1, .int .i64 t2] :: Ob.blk b1 SpT #[.int .i64 s1, .int .i64 t2] :: R) := fun S => by
      have S' := (S.set 0 rfl 1 (.int .i64 t2)).alloc #[.int .i64 t1, .int .i64 t2] SpT
      try simp only [size_setCell'] at S'
      exact S'
    clear g1 g2
    go_enter Try.func20, Try.ntmps20
    go_wp2_with (first
      | ((with_reducible refine (P1.out _).mono ?_); rintro e1 w1 ⟨rfl, F1⟩; have S1 := HS0.out.same F1; clear F1; have l1 : w.heap.size + 1 < w1.heap.size := (S1.at_ 1 rfl).lt; have c0 : w1.cell? ⟨w.heap.size + 1, 0, none⟩ = some (.int .i64 c) := (S1.at_ 1 rfl).cell 0; have c1 : w1.cell? ⟨w.heap.size + 1, 1, none⟩ = some (.int .i64 d) := (S1.at_ 1 rfl).cell 1; have HS1 := Lib.hid (S1.alloc #[.int .i64 s1, .int .i64 s2] SpT); clear S1)
      | ((with_reducible refine (P2.out _).mono ?_); rintro e2 w2 ⟨rfl, F2⟩; have S2 := HS1.out.same F2; clear F2; have l2 : w1.heap.size < w2.heap.size := (S2.at_ 0 rfl).lt; have d0 : w2.cell? ⟨w1.heap.size, 0, none⟩ = some (.int .i64 s1) := (S2.at_ 0 rfl).cell 0; have d1 : w2.cell? ⟨w1.heap.size, 1, none⟩ = some (.int .i64 s2) := (S2.at_ 0 rfl).cell 1; have z0 : w2.frozen? ⟨w1.heap.size, 0, none⟩ = false := (S2.at_ 0 rfl).frozen 0; have z1 : w2.frozen? ⟨w1.heap.size, 1, none⟩ = false := (S2.at_ 0 rfl).frozen 1; have HS2 := Lib.hid S2; clear S2)
      | ((with_reducible refine (P3.out _).mono ?_); rintro e3 w3 ⟨rfl, F3⟩; have S3 := (mkS HS2.out).same F3; clear F3; have k0 : w3.cell? ⟨w.heap.size + 1 + 1, 0, none⟩ = some (.int .i64 0) := (S3.at_ 2 rfl).cell 0; have k1 : w3.cell? ⟨w.heap.size + 1 + 1, 1, none⟩ = some (.int .i64 0) := (S3.at_ 2 rfl).cell 1; have y0 : w3.frozen? ⟨w.heap.size + 1 + 1, 0, none⟩ = false := (S3.at_ 2 rfl).frozen 0; have y1 : w3.frozen? ⟨w.heap.size + 1 + 1, 1, none⟩ = false := (S3.at_ 2 rfl).frozen 1; have HS3 := Lib.hid S3; clear S3)
      | fail)
    exact bodyPost_ret (v := spV (meetS (a, b) (c, d))) (by simp [results, Try.results20, go_sem, k0, k1, EQ.out]) rfl ⟨rfl, ((HS3.out.set 2 rfl 0 (.int .i64 r1)).set 2 rfl 1 (.int .i64 r2)).fr⟩
  · have h1 : decide (s1 < t1) = false := decide_eq_false g1
    have h2 : decide (t2 < s2) = false := decide_eq_false g2
    rw [show max s1 t1 = s1 by omega, show min s2 t2 = s2 by omega] at P3
    have mkS : ∀ {b1 : Nat} {R : List Ob} {w2 : World}, Sep None w w2 (Ob.blk b1 SpT #[.int .i64 s1, .int .i64 s2] :: R) → Sep None w ((w2).alloc (.cells #[.int .i64 t1, .int .i64 t2] SpT)) (Ob.blk w2.heap.size SpT #[.int .i64 t1, .int .i64 t2] :: Ob.blk b1 SpT #[.int .i64 s1, .int .i64 s2] :: R) := fun S => by
      have S' := (S).alloc #[.int .i64 t1, .int .i64 t2] SpT
      try simp only [size_setCell'] at S'
      exact S'
    clear g1 g2
    go_enter Try.func20, Try.ntmps20
    go_wp2_with (first
      | ((with_reducible refine (P1.out _).mono ?_); rintro e1 w1 ⟨rfl, F1⟩; have S1 := HS0.out.same F1; clear F1; have l1 : w.heap.size + 1 < w1.heap.size := (S1.at_ 1 rfl).lt; have c0 : w1.cell? ⟨w.heap.size + 1, 0, none⟩ = some (.int .i64 c) := (S1.at_ 1 rfl).cell 0; have c1 : w1.cell? ⟨w.heap.size + 1, 1, none⟩ = some (.int .i64 d) := (S1.at_ 1 rfl).cell 1; have HS1 := Lib.hid (S1.alloc #[.int .i64 s1, .int .i64 s2] SpT); clear S1)
      | ((with_reducible refine (P2.out _).mono ?_); rintro e2 w2 ⟨rfl, F2⟩; have S2 := HS1.out.same F2; clear F2; have l2 : w1.heap.size < w2.heap.size := (S2.at_ 0 rfl).lt; have d0 : w2.cell? ⟨w1.heap.size, 0, none⟩ = some (.int .i64 s1) := (S2.at_ 0 rfl).cell 0; have d1 : w2.cell? ⟨w1.heap.size, 1, none⟩ = some (.int .i64 s2) := (S2.at_ 0 rfl).cell 1; have z0 : w2.frozen? ⟨w1.heap.size, 0, none⟩ = false := (S2.at_ 0 rfl).frozen 0; have z1 : w2.frozen? ⟨w1.heap.size, 1, none⟩ = false := (S2.at_ 0 rfl).frozen 1; have HS2 := Lib.hid S2; clear S2)
      | ((with_reducible refine (P3.out _).mono ?_); rintro e3 w3 ⟨rfl, F3⟩; have S3 := (mkS HS2.out).same F3; clear F3; have k0 : w3.cell? ⟨w.heap.size + 1 + 1, 0, none⟩ = some (.int .i64 0) := (S3.at_ 2 rfl).cell 0; have k1 : w3.cell? ⟨w.heap.size + 1 + 1, 1, none⟩ = some (.int .i64 0) := (S3.at_ 2 rfl).cell 1; have y0 : w3.frozen? ⟨w.heap.size + 1 + 1, 0, none⟩ = false := (S3.at_ 2 rfl).frozen 0; have y1 : w3.frozen? ⟨w.heap.size + 1 + 1, 1, none⟩ = false := (S3.at_ 2 rfl).frozen 1; have HS3 := Lib.hid S3; clear S3)
      | fail)
    exact bodyPost_ret (v := spV (meetS (a, b) (c, d))) (by simp [results, Try.results20, go_sem, k0, k1, EQ.out]) rfl ⟨rfl, ((HS3.out.set 2 rfl 0 (.int .i64 r1)).set 2 rfl 1 (.int .i64 r2)).fr⟩
end Go.Proofs.Ytfobeheplficgaa
