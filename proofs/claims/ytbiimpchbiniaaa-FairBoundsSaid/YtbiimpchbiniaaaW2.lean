import Derived.Test.YtbiimpchbiniaaaW1
namespace Go.Proofs.Ytbiimpchbiniaaa
open Go.RowKit

/-- The numbers that Bound takes. -/
abbrev numsOk (b k t d : Int) : Prop := 0 ≤ b ∧ b ≤ 65536 ∧ 1 ≤ k ∧ k ≤ 16 ∧ 0 ≤ t ∧ t ≤ 68719476736 ∧ 1 ≤ d ∧ d ≤ 68719476736
def boundV (c : Cfg) (b k t d : Int) : Int :=
  if c.right ∧ numsOk b k t d then b * (k * k * (c.maxRto + d) + 2 * (t + d) + d) + d else 0

theorem mul_in {a b A B : Int} (h0 : 0 ≤ a) (h1 : a ≤ A) (h2 : 0 ≤ b) (h3 : b ≤ B) : 0 ≤ a * b ∧ a * b ≤ A * B :=
  ⟨Int.mul_nonneg h0 h2, Int.mul_le_mul h1 h3 h2 (Int.le_trans h0 h1)⟩

theorem bound_in {b k t d m : Int} (hm : 1 ≤ m ∧ m ≤ 68719476736) (h : numsOk b k t d) :
    (0 ≤ k * k ∧ k * k ≤ 256) ∧ (0 ≤ k * k * (m + d) ∧ k * k * (m + d) ≤ 35184372088832) ∧
    (0 ≤ b * (k * k * (m + d) + 2 * (t + d) + d) ∧ b * (k * k * (m + d) + 2 * (t + d) + d) ≤ 2400000000000000000) := by
  obtain ⟨h1, h2, h3, h4, h5, h6, h7, h8⟩ := h
  have e1 := mul_in (a := k) (b := k) (A := 16) (B := 16) (by omega) h4 (by omega) h4
  have e2 := mul_in (a := k * k) (b := m + d) (A := 256) (B := 137438953472) (by omega) (by omega) (by omega) (by omega)
  have e3 := mul_in (a := b) (b := k * k * (m + d) + 2 * (t + d) + d) (A := 65536) (B := 36000000000000) (by omega) (by omega) (by omega) (by omega)
  refine ⟨⟨e1.1, by omega⟩, ⟨e2.1, by omega⟩, e3.1, by omega⟩

set_option maxHeartbeats 800000 in
theorem bound_any (c : Cfg) (b k t d : Int) (w : World) :
    Calls Try.prog 5 #[c.val, .int .i64 b, .int .i64 k, .int .i64 t, .int .i64 d] w fun e w' => e = .returned (.int .i64 (boundV c b k t d)) ∧ Below w.heap.size w w' := by
  by_cases hc : c.right
  · by_cases hn : numsOk b k t d
    · have hV : boundV c b k t d = b * (k * k * (c.maxRto + d) + 2 * (t + d) + d) + d := by unfold boundV; rw [if_pos ⟨hc, hn⟩]
      have HV := Lib.hid hV; clear hV
      have hE : c.e = 0 := by unfold Cfg.e; rw [if_pos hc]
      obtain ⟨B1, B2, B3⟩ := bound_in (m := c.maxRto) ⟨by omega, by omega⟩ hn
      obtain ⟨n1, n2, n3, n4, n5, n6, n7, n8⟩ := hn
      obtain ⟨m1, m2⟩ : 1 ≤ c.maxRto ∧ c.maxRto ≤ 68719476736 := ⟨by omega, by omega⟩
      clear hc
      have hcheck := fun w => check_any c w
      obtain ⟨c0, c1, c2, c3, c4, c5, c6, c7⟩ := c
      simp only [Cfg.val] at *
      have hr0 := Reads.new w #[.int .u32 c0, .int .i64 c1, .int .i64 c2, .int .i64 c3, .int .i64 c4, .int .i64 c5, .int .i64 c6, .int .i64 c7] 24
      have Hr0 := Lib.hid hr0; clear hr0
      have HE := Lib.hid hE; clear hE
      have HC := Lib.hid hcheck; clear hcheck
      go_enter Try.func5, Try.ntmps5
      go_wp2_with ((go_at_call 7; refine (HC.out _).mono ?_; rintro e w1 ⟨rfl, hb1⟩; rw [HE.out]; obtain ⟨_, hc1⟩ := Hr0.out.below hb1))
      all_goals go_ret
      refine ⟨by rw [HV.out]; rfl, ((Below.refl _ _).alloc (Nat.le_refl _) _).trans (hb1.mono (by simp))⟩
    · have hV : boundV c b k t d = 0 := by unfold boundV; rw [if_neg (fun h => hn h.2)]
      have HV := Lib.hid hV; clear hV
      have hE : c.e = 0 := by unfold Cfg.e; rw [if_pos hc]
      have hcheck := fun w => check_any c w
      clear hc
      obtain ⟨c0, c1, c2, c3, c4, c5, c6, c7⟩ := c
      simp only [Cfg.val] at *
      have HE := Lib.hid hE; clear hE
      have HC := Lib.hid hcheck; clear hcheck
      have HN := Lib.hid hn; clear hn
      go_enter Try.func5, Try.ntmps5
      go_wp2_with ((go_at_call 7; refine (HC.out _).mono ?_; rintro e w1 ⟨rfl, hb1⟩; rw [HE.out]))
      all_goals first
        | (go_ret; refine ⟨by rw [HV.out]; rfl, ((Below.refl _ _).alloc (Nat.le_refl _) _).trans (hb1.mono (by simp))⟩; done)
        | (exact (HN.out (by omega)).elim)
  · have hV : boundV c b k t d = 0 := by unfold boundV; rw [if_neg (fun h => hc h.1)]
    have HV := Lib.hid hV; clear hV
    have hE : c.e = 2 := by unfold Cfg.e; rw [if_neg hc]
    have hcheck := fun w => check_any c w
    clear hc
    obtain ⟨c0, c1, c2, c3, c4, c5, c6, c7⟩ := c
    simp only [Cfg.val] at *
    have HE := Lib.hid hE; clear hE
    have HC := Lib.hid hcheck; clear hcheck
    go_enter Try.func5, Try.ntmps5
    go_wp2_with ((go_at_call 7; refine (HC.out _).mono ?_; rintro e w1 ⟨rfl, hb1⟩; rw [HE.out]))
    all_goals (go_ret; refine ⟨by rw [HV.out]; rfl, ((Below.refl _ _).alloc (Nat.le_refl _) _).trans (hb1.mono (by simp))⟩)

set_option maxHeartbeats 800000 in
theorem refBound_any (c : Cfg) (b k t d : Int) (w : World) :
    Calls Try.prog 6 #[c.val, .int .i64 b, .int .i64 k, .int .i64 t, .int .i64 d] w fun e w' => e = .returned (.int .i64 (boundV c b k t d)) ∧ Below w.heap.size w w' := by
  by_cases hc : c.right
  · by_cases hn : numsOk b k t d
    · have hV : boundV c b k t d = b * (k * k * (c.maxRto + d) + 2 * (t + d) + d) + d := by unfold boundV; rw [if_pos ⟨hc, hn⟩]
      have HV := Lib.hid hV; clear hV
      have hE : c.e = 0 := by unfold Cfg.e; rw [if_pos hc]
      obtain ⟨B1, B2, B3⟩ := bound_in (m := c.maxRto) ⟨by omega, by omega⟩ hn
      obtain ⟨n1, n2, n3, n4, n5, n6, n7, n8⟩ := hn
      obtain ⟨m1, m2⟩ : 1 ≤ c.maxRto ∧ c.maxRto ≤ 68719476736 := ⟨by omega, by omega⟩
      clear hc
      have hcheck := fun w => refCheck_any c w
      obtain ⟨c0, c1, c2, c3, c4, c5, c6, c7⟩ := c
      simp only [Cfg.val] at *
      have hr0 := Reads.new w #[.int .u32 c0, .int .i64 c1, .int .i64 c2, .int .i64 c3, .int .i64 c4, .int .i64 c5, .int .i64 c6, .int .i64 c7] 24
      have Hr0 := Lib.hid hr0; clear hr0
      have HE := Lib.hid hE; clear hE
      have HC := Lib.hid hcheck; clear hcheck
      go_enter Try.func6, Try.ntmps6
      go_wp2_with ((go_at_call 8; refine (HC.out _).mono ?_; rintro e w1 ⟨rfl, hb1⟩; rw [HE.out]; obtain ⟨_, hc1⟩ := Hr0.out.below hb1))
      all_goals go_ret
      refine ⟨by rw [HV.out]; rfl, ((Below.refl _ _).alloc (Nat.le_refl _) _).trans (hb1.mono (by simp))⟩
    · have hV : boundV c b k t d = 0 := by unfold boundV; rw [if_neg (fun h => hn h.2)]
      have HV := Lib.hid hV; clear hV
      have hE : c.e = 0 := by unfold Cfg.e; rw [if_pos hc]
      have hcheck := fun w => refCheck_any c w
      clear hc
      obtain ⟨c0, c1, c2, c3, c4, c5, c6, c7⟩ := c
      simp only [Cfg.val] at *
      have HE := Lib.hid hE; clear hE
      have HC := Lib.hid hcheck; clear hcheck
      have HN := Lib.hid hn; clear hn
      go_enter Try.func6, Try.ntmps6
      go_wp2_with ((go_at_call 8; refine (HC.out _).mono ?_; rintro e w1 ⟨rfl, hb1⟩; rw [HE.out]))
      all_goals first
        | (go_ret; refine ⟨by rw [HV.out]; rfl, ((Below.refl _ _).alloc (Nat.le_refl _) _).trans (hb1.mono (by simp))⟩; done)
        | (exact (HN.out (by omega)).elim)
  · have hV : boundV c b k t d = 0 := by unfold boundV; rw [if_neg (fun h => hc h.1)]
    have HV := Lib.hid hV; clear hV
    have hE : c.e = 2 := by unfold Cfg.e; rw [if_neg hc]
    have hcheck := fun w => refCheck_any c w
    clear hc
    obtain ⟨c0, c1, c2, c3, c4, c5, c6, c7⟩ := c
    simp only [Cfg.val] at *
    have HE := Lib.hid hE; clear hE
    have HC := Lib.hid hcheck; clear hcheck
    go_enter Try.func6, Try.ntmps6
    go_wp2_with ((go_at_call 8; refine (HC.out _).mono ?_; rintro e w1 ⟨rfl, hb1⟩; rw [HE.out]))
    all_goals (go_ret; refine ⟨by rw [HV.out]; rfl, ((Below.refl _ _).alloc (Nat.le_refl _) _).trans (hb1.mono (by simp))⟩)

theorem known_any (w : World) : Calls Try.prog 4 #[] w fun e w' => e = .returned (.bool true) ∧ Below w.heap.size w w' := by
  have hk := fun w => bound_any ⟨0, 10, 100, 10, 1000, 100, 1000, 0⟩ 10 1 50 100 w
  have hv : boundV ⟨0, 10, 100, 10, 1000, 100, 1000, 0⟩ 10 1 50 100 = 15100 := by decide
  simp only [hv, Cfg.val] at hk
  have HK := Lib.hid hk; clear hk
  go_enter Try.func4, Try.ntmps4
  go_wp2_with ((go_at_call 5; refine (HK.out _).mono ?_; rintro e w1 ⟨rfl, hb1⟩))
  go_ret
  exact ⟨rfl, hb1⟩

end Go.Proofs.Ytbiimpchbiniaaa
