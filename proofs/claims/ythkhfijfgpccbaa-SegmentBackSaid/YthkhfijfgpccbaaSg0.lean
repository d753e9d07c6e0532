/- The sum of a segment's bytes (plain). -/
import Derived.Test.YthkhfijfgpccbaaOp0
set_option linter.unusedVariables false
set_option linter.unusedSimpArgs false
namespace Go.Und

/-- What goes over is added at the lowest place. -/
def oc (n : Int) : Int := if n ≤ 0 then 0 else (n - 1) % 65535 + 1
theorem oc_bound (n : Int) : 0 ≤ oc n ∧ oc n ≤ 65535 := by unfold oc; split <;> omega
theorem oc_small {n : Int} (h0 : 0 ≤ n) (h : n ≤ 65535) : oc n = n := by unfold oc; split <;> omega
theorem oc_add {a b : Int} (ha : 0 ≤ a) (hb : 0 ≤ b) : oc (oc a + b) = oc (a + b) := by unfold oc; split <;> split <;> split <;> omega
theorem oc_fold {n : Int} (h0 : 65536 ≤ n) (h : n ≤ 131070) : oc n = n % 65536 + n / 65536 := by unfold oc; split <;> omega
/-- The bytes' sum as words, from an odd place or an even one. -/
def sumP : Bool → List Int → Int
  | _, [] => 0
  | false, b :: l => 256 * b + sumP true l
  | true, b :: l => b + sumP false l
def odd (l : List Int) : Bool := l.length % 2 == 1
theorem sumP_append : ∀ (a b : List Int) (o : Bool), sumP o (a ++ b) = sumP o a + sumP (o != (a.length % 2 == 1)) b
  | [], b, o => by cases o <;> simp [sumP]
  | x :: a, b, o => by
    have e : ((x :: a).length % 2 == 1) = !(a.length % 2 == 1) := by
      rw [List.length_cons, Bool.eq_iff_iff]; simp; omega
    rw [e]
    cases o with
    | false =>
      rw [List.cons_append, sumP, sumP, sumP_append a b true, Int.add_assoc]
      cases (a.length % 2 == 1) <;> rfl
    | true =>
      rw [List.cons_append, sumP, sumP, sumP_append a b false, Int.add_assoc]
      cases (a.length % 2 == 1) <;> rfl
theorem sumP_nonneg : ∀ (l : List Int) (o : Bool), (∀ c ∈ l, 0 ≤ c) → 0 ≤ sumP o l
  | [], o, _ => by cases o <;> simp [sumP]
  | b :: l, o, h => by
    have h1 := h b List.mem_cons_self
    have h2 := fun o => sumP_nonneg l o fun c hc => h c (List.mem_cons_of_mem _ hc)
    have := h2 true
    have := h2 false
    cases o <;> rw [sumP] <;> omega
def sumB (l : List Int) : Int := oc (sumP false l)

/-- The bytes with a check among them. -/
theorem sum_check {a r : List Int} {k : Int} (ha : a.length = 2) (h0 : ∀ c ∈ a, 0 ≤ c) (h1 : ∀ c ∈ r, 0 ≤ c) (hk : k = 65535 - sumB (a ++ (0 :: 0 :: r))) : sumB (a ++ (k / 256 :: k % 256 :: r)) = 65535 := by
  have e : (false != (a.length % 2 == 1)) = false := by rw [ha]; rfl
  have e1 : sumP false (a ++ (0 :: 0 :: r)) = sumP false a + sumP false r := by rw [sumP_append, e]; simp [sumP]
  have e2 : sumP false (a ++ (k / 256 :: k % 256 :: r)) = sumP false a + (256 * (k / 256) + (k % 256 + sumP false r)) := by rw [sumP_append, e, sumP, sumP]
  rw [sumB, e1] at hk
  rw [sumB, e2]
  have n1 := sumP_nonneg a false h0
  have n2 := sumP_nonneg r false h1
  have := oc_bound (sumP false a + sumP false r)
  unfold oc at *
  split at hk <;> split <;> omega
theorem sumP_set : ∀ (l : List Int) (o : Bool) (i : Nat) (x y : Int), l[i]? = some x → ∃ m : Int, (m = 1 ∨ m = 256) ∧ sumP o (l.set i y) = sumP o l + m * (y - x)
  | [], _, i, _, _, h => by simp at h
  | b :: l, o, 0, x, y, h => by
    obtain rfl : b = x := by simpa using h
    cases o with
    | false => exact ⟨256, .inr rfl, by rw [List.set_cons_zero, sumP, sumP]; omega⟩
    | true => exact ⟨1, .inl rfl, by rw [List.set_cons_zero, sumP, sumP]; omega⟩
  | b :: l, o, i + 1, x, y, h => by
    have h' : l[i]? = some x := by simpa using h
    cases o with
    | false =>
      obtain ⟨m, hm, e⟩ := sumP_set l true i x y h'
      exact ⟨m, hm, by rw [List.set_cons_succ, sumP, sumP, e]; omega⟩
    | true =>
      obtain ⟨m, hm, e⟩ := sumP_set l false i x y h'
      exact ⟨m, hm, by rw [List.set_cons_succ, sumP, sumP, e]; omega⟩
/-- One byte that has changed is told. -/
theorem sum_told {l : List Int} {i : Nat} {x y : Int} (hx : l[i]? = some x) (h0 : ∀ c ∈ l, 0 ≤ c) (hy : 0 ≤ y) (hs : sumB l = 65535) (hd : x ≠ y) (hr : -255 ≤ y - x ∧ y - x ≤ 255) : sumB (l.set i y) ≠ 65535 := by
  obtain ⟨m, hm, e⟩ := sumP_set l false i x y hx
  have n1 := sumP_nonneg l false h0
  have n2 := sumP_nonneg (l.set i y) false fun c hc => by
    rcases List.mem_or_eq_of_mem_set hc with h | rfl
    · exact h0 c h
    · exact hy
  unfold sumB at *
  rw [e] at n2 ⊢
  generalize sumP false l = S at *
  unfold oc at *
  split at hs
  · cases hs
  · split
    · decide
    · rcases hm with rfl | rfl <;> omega
end Go.Und
