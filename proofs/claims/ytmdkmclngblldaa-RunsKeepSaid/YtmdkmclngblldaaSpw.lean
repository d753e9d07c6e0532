/- Spans: may, plain, Len: walked. -/
import Derived.Test.YtmdkmclngblldaaSep
import Derived.Test.YtmdkmclngblldaaSp0
import Derived.WalkSpells
import Derived.WalkLawsBesides
import Derived.Deep.QuietTactic
import Derived.BigQuiet
import Derived.Handy
set_option linter.unusedVariables false
set_option linter.unusedSimpArgs false

namespace Go.Proofs.Ytmdkmclngblldaa
open Go.RowKit Go.Und

abbrev SpT : TypeId := 24

set_option maxHeartbeats 400000 in
theorem may_any (a b : Int) (w : World) : Calls Try.prog 84 #[.agg #[.int .i64 a, .int .i64 b]] w fun e w' => e = .returned (.bool (mayS (a, b))) ∧ Fr None w w' := by
  have f := (Fr.refl None w).alloc (.cells #[.int .i64 a, .int .i64 b] SpT)
  have F := Lib.hid f; clear f
  by_cases h1 : 0 ≤ a
  · by_cases h2 : a ≤ b
    · have E := Lib.hid (show decide (b ≤ 4611686018427387904) = mayS (a, b) by simp [mayS, h1, h2])
      go_enter Try.func84, Try.ntmps84
      go_wp2_with fail
      go_ret
      exact ⟨by rw [← E.out]; rfl, F.out⟩
    · have E := Lib.hid (show false = mayS (a, b) by simp [mayS, h2])
      go_enter Try.func84, Try.ntmps84
      go_wp2_with fail
      go_ret
      exact ⟨by rw [← E.out]; rfl, F.out⟩
  · have E := Lib.hid (show false = mayS (a, b) by simp [mayS, h1])
    go_enter Try.func84, Try.ntmps84
    go_wp2_with fail
    go_ret
    exact ⟨by rw [← E.out]; rfl, F.out⟩

set_option maxHeartbeats 1000000 in
theorem plain_any (a b : Int) (w : World) : Calls Try.prog 89 #[.agg #[.int .i64 a, .int .i64 b]] w fun e w' => e = .returned (.agg #[.int .i64 (plainS (a, b)).1, .int .i64 (plainS (a, b)).2]) ∧ Fr None w w' := by
  have HM := Lib.hid (may_any a b ((w.alloc (.cells #[.int .i64 a, .int .i64 b] SpT)).alloc (.cells #[.int .i64 0, .int .i64 0] SpT)))
  have S0 := Lib.hid (((Sep.law w).alloc #[.int .i64 a, .int .i64 b] SpT).alloc #[.int .i64 0, .int .i64 0] SpT)
  go_enter Try.func89, Try.ntmps89
  go_wp2_with fail
  refine HM.out.mono ?_
  rintro e w1 ⟨rfl, f1⟩
  have S1 := Lib.hid (S0.out.same f1)
  simp only [World.size_alloc] at S1
  have b0 := S1.out.at_ 0 rfl; have b1 := S1.out.at_ 1 rfl
  have c1 := Blk.cell b0; have z1 := Blk.frozen b0; have l1 := Blk.lt b0
  have c0 := Blk.cell b1
  clear f1 b0 b1 S0 HM
  by_cases hm : mayS (a, b) = true
  · by_cases he : a = b
    · subst he
      have E := Lib.hid (show plainS (a, a) = (0, 0) by simp [plainS])
      have S2 := Lib.hid ((S1.out.set 0 rfl 0 (.int .i64 0)).set 0 rfl 1 (.int .i64 0))
      go_wp2_with fail
      refine bodyPost_ret (v := .agg #[.int .i64 0, .int .i64 0]) (by simp [results, Try.results89, go_sem, c1]) rfl ⟨by rw [E.out], S2.out.fr⟩
    · have E := Lib.hid (show plainS (a, b) = (a, b) by simp [plainS, hm, he])
      have S2 := Lib.hid ((S1.out.set 0 rfl 0 (.int .i64 a)).set 0 rfl 1 (.int .i64 b))
      go_wp2_with fail
      refine bodyPost_ret (v := .agg #[.int .i64 a, .int .i64 b]) (by simp [results, Try.results89, go_sem, c1]) rfl ⟨by rw [E.out], S2.out.fr⟩
  · have hm' : mayS (a, b) = false := by simpa using hm
    have E := Lib.hid (show plainS (a, b) = (0, 0) by simp [plainS, hm'])
    have S2 := Lib.hid ((S1.out.set 0 rfl 0 (.int .i64 0)).set 0 rfl 1 (.int .i64 0))
    go_wp2_with fail
    refine bodyPost_ret (v := .agg #[.int .i64 0, .int .i64 0]) (by simp [results, Try.results89, go_sem, c1]) rfl ⟨by rw [E.out], S2.out.fr⟩

set_option maxHeartbeats 1000000 in
theorem len_any (a b : Int) (w : World) : Calls Try.prog 57 #[.agg #[.int .i64 a, .int .i64 b]] w fun e w' => e = .returned (.int .i64 (lenS (a, b))) ∧ Fr None w w' := by
  have HM := Lib.hid (plain_any a b (w.alloc (.cells #[.int .i64 a, .int .i64 b] SpT)))
  have S0 := Lib.hid ((Sep.law w).alloc #[.int .i64 a, .int .i64 b] SpT)
  have B := plainS_bounds (a, b)
  have E := Lib.hid (show (plainS (a, b)).2 - (plainS (a, b)).1 = lenS (a, b) from rfl)
  generalize plainS (a, b) = s at *
  obtain ⟨s1, s2⟩ := s
  simp only at B HM E
  go_enter Try.func57, Try.ntmps57
  go_wp2_with fail
  refine HM.out.mono ?_
  rintro e w1 ⟨rfl, f1⟩
  have S1 := Lib.hid (S0.out.same f1)
  have b0 := S1.out.at_ 0 rfl
  have c1 := Blk.cell b0; have z1 := Blk.frozen b0; have l1 := Blk.lt b0
  have S2 := Lib.hid ((S1.out.set 0 rfl 0 (.int .i64 s1)).set 0 rfl 1 (.int .i64 s2))
  clear f1 b0 S0 HM
  go_wp2_with fail
  go_ret
  exact ⟨by rw [← E.out]; rfl, S2.out.fr⟩
end Go.Proofs.Ytmdkmclngblldaa
