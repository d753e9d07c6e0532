/- Spans: what they count, plain; and how long one is. -/
import Derived.Test.YtckbeppofnnfkaaSep
import Derived.WalkSpells
import Derived.WalkLawsBesides
import Derived.Deep.QuietTactic
import Derived.BigQuiet
import Derived.Handy

namespace Go.Und
abbrev at0S (b : Nat) : Option Addr := some ⟨b, 0, none⟩
/-- May a span be. -/
def mayS (s : Int × Int) : Bool := decide (0 ≤ s.1) && decide (s.1 ≤ s.2) && decide (s.2 ≤ 4611686018427387904)
/-- A span that counts. -/
def plainS (s : Int × Int) : Int × Int := if mayS s = true ∧ s.1 ≠ s.2 then s else (0, 0)
def lenS (s : Int × Int) : Int := (plainS s).2 - (plainS s).1
theorem mayS_iff (s : Int × Int) : mayS s = true ↔ 0 ≤ s.1 ∧ s.1 ≤ s.2 ∧ s.2 ≤ 4611686018427387904 := by simp [mayS, and_assoc]
theorem plainS_cases (s : Int × Int) : (plainS s = s ∧ 0 ≤ s.1 ∧ s.1 < s.2 ∧ s.2 ≤ 4611686018427387904) ∨ (plainS s = (0, 0) ∧ ¬ (0 ≤ s.1 ∧ s.1 < s.2 ∧ s.2 ≤ 4611686018427387904)) := by
  unfold plainS
  by_cases h : mayS s = true ∧ s.1 ≠ s.2
  · rw [if_pos h]
    have := (mayS_iff s).1 h.1
    exact .inl ⟨rfl, this.1, by omega, this.2.2⟩
  · rw [if_neg h]
    refine .inr ⟨rfl, fun h' => h ⟨(mayS_iff s).2 ⟨h'.1, by omega, h'.2.2⟩, by omega⟩⟩
theorem plainS_bounds (s : Int × Int) : 0 ≤ (plainS s).1 ∧ (plainS s).1 ≤ (plainS s).2 ∧ (plainS s).2 ≤ 4611686018427387904 := by
  rcases plainS_cases s with ⟨h, h1, h2, h3⟩ | ⟨h, _⟩
  · rw [h]; exact ⟨h1, by omega, h3⟩
  · rw [h]; simp
theorem lenS_bounds (s : Int × Int) : 0 ≤ lenS s ∧ lenS s ≤ 4611686018427387904 := by
  have := plainS_bounds s; unfold lenS; omega
theorem lenS_pos {s : Int × Int} (h : lenS s ≠ 0) : plainS s = s ∧ 0 ≤ s.1 ∧ s.1 < s.2 ∧ s.2 ≤ 4611686018427387904 := by
  rcases plainS_cases s with h' | ⟨h', _⟩
  · exact h'
  · exact absurd (by unfold lenS; rw [h']; rfl) h
theorem lenS_of {s : Int × Int} (h : 0 ≤ s.1 ∧ s.1 < s.2 ∧ s.2 ≤ 4611686018427387904) : lenS s = s.2 - s.1 := by
  rcases plainS_cases s with ⟨h', _⟩ | ⟨_, h'⟩
  · unfold lenS; rw [h']
  · exact absurd h h'
end Go.Und
namespace Go.Proofs.Ytckbeppofnnfkaa
open Go.RowKit Go.Und

abbrev SpT : TypeId := 34

set_option maxHeartbeats 400000 in
theorem may_any (a b : Int) (w : World) : Calls Try.prog 153 #[.agg #[.int .i64 a, .int .i64 b]] w fun e w' => e = .returned (.bool (mayS (a, b))) ∧ Fr None w w' := by
  have f := (Fr.refl None w).alloc (.cells #[.int .i64 a, .int .i64 b] SpT)
  have F := Lib.hid f; clear f
  by_cases h1 : 0 ≤ a
  · by_cases h2 : a ≤ b
    · have E := Lib.hid (show decide (b ≤ 4611686018427387904) = mayS (a, b) by simp [mayS, h1, h2])
      go_enter Try.func153, Try.ntmps153
      go_wp2_with fail
      go_ret
      exact ⟨by rw [← E.out]; rfl, F.out⟩
    · have E := Lib.hid (show false = mayS (a, b) by simp [mayS, h2])
      go_enter Try.func153, Try.ntmps153
      go_wp2_with fail
      go_ret
      exact ⟨by rw [← E.out]; rfl, F.out⟩
  · have E := Lib.hid (show false = mayS (a, b) by simp [mayS, h1])
    go_enter Try.func153, Try.ntmps153
    go_wp2_with fail
    go_ret
    exact ⟨by rw [← E.out]; rfl, F.out⟩

set_option maxHeartbeats 1000000 in
theorem plain_any (a b : Int) (w : World) : Calls Try.prog 121 #[.agg #[.int .i64 a, .int .i64 b]] w fun e w' => e = .returned (.agg #[.int .i64 (plainS (a, b)).1, .int .i64 (plainS (a, b)).2]) ∧ Fr None w w' := by
  have HM := Lib.hid (may_any a b ((w.alloc (.cells #[.int .i64 a, .int .i64 b] SpT)).alloc (.cells #[.int .i64 0, .int .i64 0] SpT)))
  have S0 := Lib.hid (((Sep.law w).alloc #[.int .i64 a, .int .i64 b] SpT).alloc #[.int .i64 0, .int .i64 0] SpT)
  go_enter Try.func121, Try.ntmps121
  go_wp2_with fail
  refine HM.out.mono ?_
  rintro e w1 ⟨rfl, f1⟩
  have S1 := Lib.hid (S0.out.same f1)
  simp only [World.size_alloc] at S1
  have b0 := S1.out.at_ 0 rfl; have b1 := S1.out.at_ 1 rfl
  have c1 := Blk.cell b0; have z1 := Blk.frozen b0; have l1 := Blk.lt b0
  have c0 := Blk.cell b1
  clear f1 b0 b1 S0 HM
  by_cases hm : mayS (a, b) = true
  · by_cases he : a = b
    · subst he
      have E := Lib.hid (show plainS (a, a) = (0, 0) by simp [plainS])
      have S2 := Lib.hid ((S1.out.set 0 rfl 0 (.int .i64 0)).set 0 rfl 1 (.int .i64 0))
      go_wp2_with fail
      refine bodyPost_ret (v := .agg #[.int .i64 0, .int .i64 0]) (by simp [results, Try.results121, go_sem, c1]) rfl ⟨by rw [E.out], S2.out.fr⟩
    · have E := Lib.hid (show plainS (a, b) = (a, b) by simp [plainS, hm, he])
      have S2 := Lib.hid ((S1.out.set 0 rfl 0 (.int .i64 a)).set 0 rfl 1 (.int .i64 b))
      go_wp2_with fail
      refine bodyPost_ret (v := .agg #[.int .i64 a, .int .i64 b]) (by simp [results, Try.results121, go_sem, c1]) rfl ⟨by rw [E.out], S2.out.fr⟩
  · have hm' : mayS (a, b) = false := by simpa using hm
    have E := Lib.hid (show plainS (a, b) = (0, 0) by simp [plainS, hm'])
    have S2 := Lib.hid ((S1.out.set 0 rfl 0 (.int .i64 0)).set 0 rfl 1 (.int .i64 0))
    go_wp2_with fail
    refine bodyPost_ret (v := .agg #[.int .i64 0, .int .i64 0]) (by simp [results, Try.results121, go_sem, c1]) rfl ⟨by rw [E.out], S2.out.fr⟩

set_option maxHeartbeats 1000000 in
theorem len_any (a b : Int) (w : World) : Calls Try.prog 77 #[.agg #[.int .i64 a, .int .i64 b]] w fun e w' => e = .returned (.int .i64 (lenS (a, b))) ∧ Fr None w w' := by
  have HM := Lib.hid (plain_any a b (w.alloc (.cells #[.int .i64 a, .int .i64 b] SpT)))
  have S0 := Lib.hid ((Sep.law w).alloc #[.int .i64 a, .int .i64 b] SpT)
  have B := plainS_bounds (a, b)
  have E := Lib.hid (show (plainS (a, b)).2 - (plainS (a, b)).1 = lenS (a, b) from rfl)
  generalize plainS (a, b) = s at *
  obtain ⟨s1, s2⟩ := s
  simp only at B HM E
  go_enter Try.func77, Try.ntmps77
  go_wp2_with fail
  refine HM.out.mono ?_
  rintro e w1 ⟨rfl, f1⟩
  have S1 := Lib.hid (S0.out.same f1)
  have b0 := S1.out.at_ 0 rfl
  have c1 := Blk.cell b0; have z1 := Blk.frozen b0; have l1 := Blk.lt b0
  have S2 := Lib.hid ((S1.out.set 0 rfl 0 (.int .i64 s1)).set 0 rfl 1 (.int .i64 s2))
  clear f1 b0 S0 HM
  go_wp2_with fail
  go_ret
  exact ⟨by rw [← E.out]; rfl, S2.out.fr⟩
end Go.Proofs.Ytckbeppofnnfkaa
