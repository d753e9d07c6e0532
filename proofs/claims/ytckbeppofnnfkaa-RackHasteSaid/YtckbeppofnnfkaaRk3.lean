/- The rack: what a record tells; walked. -/
import Derived.Test.YtckbeppofnnfkaaRk1
namespace Go.Proofs.Ytckbeppofnnfkaa
open Go.RowKit Go.Und Go.Shelf
attribute [local go_sem] Oper.semAt_some
abbrev EcT : TypeId := 39

theorem wrap_any (n : Int) : ∃ v, ∀ w, Calls Try.prog 114 #[.int .i64 n] w fun e w' => e = .returned (.int .u32 v) ∧ w' = w := by
  apply Exists.intro
  intro w
  go_enter Try.func114, Try.ntmps114
  go_wp2_with fail
  go_ret
  exact ⟨rfl, rfl⟩
theorem dist_any (a b : Int) : ∃ v, ∀ w, Calls Try.prog 148 #[.int .u32 a, .int .u32 b] w fun e w' => e = .returned (.int .i64 v) ∧ w' = w := by
  apply Exists.intro
  intro w
  go_enter Try.func148, Try.ntmps148
  go_wp2_with fail
  go_ret
  exact ⟨rfl, rfl⟩
theorem less_any (a b : Int) : ∃ v : Bool, ∀ w, Calls Try.prog 113 #[.int .u32 a, .int .u32 b] w fun e w' => e = .returned (.bool v) ∧ w' = w := by
  obtain ⟨d, hd⟩ := dist_any a b
  apply Exists.intro
  intro w
  go_enter Try.func113, Try.ntmps113
  go_wp2_with fail
  refine (hd w).mono ?_
  rintro e w1 ⟨rfl, rfl⟩
  go_wp2_with fail
  go_ret
  exact ⟨rfl, rfl⟩

/-- Does a record count? -/
def CountsS (r : Rc) (took least : Int) (has told : Bool) (c : Bool) : Prop :=
  (took < 0 → c = false) ∧ (0 ≤ took → r.times ≤ 1 → c = true) ∧ (0 ≤ took → 1 < r.times → told = false → c = (has && decide (least ≤ took)))
set_option maxHeartbeats 1000000 in
theorem counts_any (r : Rc) (took least : Int) (has told : Bool) (val : Int) (w : World) : ∃ c, CountsS r took least has told c ∧ ∀ w, Calls Try.prog 69 #[rcv r, .int .i64 took, .int .i64 least, .bool has, .agg #[.bool told, .int .u32 val]] w fun e w' => e = .returned (.bool c) ∧ Fr None w w' := by
  by_cases g0 : took < 0
  · refine ⟨false, ⟨fun _ => rfl, fun h => (by omega), fun h => (by omega)⟩, fun w => ?_⟩
    have S := Lib.hid (((Fr.refl None w).alloc (.cells (rcc r) RcT)).alloc (.cells #[.bool told, .int .u32 val] EcT))
    go_enter Try.func69, Try.ntmps69
    go_wp2_with fail
    go_ret
    exact ⟨rfl, S.out⟩
  by_cases g1 : r.times ≤ 1
  · refine ⟨true, ⟨fun h => (by omega), fun _ _ => rfl, fun _ h => (by omega)⟩, fun w => ?_⟩
    have S := Lib.hid (((Fr.refl None w).alloc (.cells (rcc r) RcT)).alloc (.cells #[.bool told, .int .u32 val] EcT))
    go_enter Try.func69, Try.ntmps69
    go_wp2_with fail
    go_ret
    exact ⟨rfl, S.out⟩
  have key : ∀ b : Bool, (told = false → b = false) → (∀ w, Calls Try.prog 69 #[rcv r, .int .i64 took, .int .i64 least, .bool has, .agg #[.bool told, .int .u32 val]] w fun e w' => e = .returned (.bool (!b && (has && decide (least ≤ took)))) ∧ Fr None w w') →
      ∃ c, CountsS r took least has told c ∧ ∀ w, Calls Try.prog 69 #[rcv r, .int .i64 took, .int .i64 least, .bool has, .agg #[.bool told, .int .u32 val]] w fun e w' => e = .returned (.bool c) ∧ Fr None w w' := fun b hb h =>
    ⟨_, ⟨fun h => (by omega), fun _ h => (by omega), fun _ _ ht => by simp [hb ht]⟩, h⟩
  obtain ⟨v, hv⟩ := wrap_any r.sent
  obtain ⟨b, hb⟩ := less_any val v
  cases told with
  | false =>
    refine key false (fun _ => rfl) fun w => ?_
    clear key hb hv
    have S := Lib.hid (((Fr.refl None w).alloc (.cells (rcc r) RcT)).alloc (.cells #[.bool false, .int .u32 val] EcT))
    by_cases g2 : val = 0
    · subst g2
      cases has <;> by_cases g3 : least ≤ took
      all_goals
        go_enter Try.func69, Try.ntmps69
        go_wp2_with fail
        go_quiet (fail)
        go_wp2_with fail
        go_ret
        exact ⟨by simp [g3], S.out.drewN _⟩
    · cases has <;> by_cases g3 : least ≤ took
      all_goals
        go_enter Try.func69, Try.ntmps69
        go_wp2_with fail
        go_quiet (fail)
        go_wp2_with fail
        go_ret
        exact ⟨by simp [g3], S.out.drewN _⟩
  | true =>
    refine key b (fun h => (by cases h)) fun w => ?_
    clear key
    have S := Lib.hid (((Fr.refl None w).alloc (.cells (rcc r) RcT)).alloc (.cells #[.bool true, .int .u32 val] EcT))
    cases b <;> cases has <;> by_cases g3 : least ≤ took
    all_goals
      go_enter Try.func69, Try.ntmps69
      go_wp2_with fail
      go_quiet (first | exact (hv _).mono (by rintro e w1 ⟨rfl, rfl⟩; exact ⟨rfl, _, rfl⟩) | exact (hb _).mono (by rintro e w1 ⟨rfl, rfl⟩; exact ⟨rfl, _, rfl⟩))
      go_wp2_with fail
      go_ret
      exact ⟨by simp [g3], S.out.drewN _⟩
end Go.Proofs.Ytckbeppofnnfkaa
