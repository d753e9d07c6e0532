/- Numerals, hex digits and lines: plain. -/
import Derived.Lib.ItoaNum
set_option linter.unusedVariables false
set_option linter.unusedSimpArgs false
namespace Go.Und
open Go.Lib

/-- The digits of u; none at nought. -/
def dd (u : Nat) : List UInt8 := if u = 0 then [] else decDigits u
theorem dd_step {u : Nat} (h : 0 < u) : dd u = dd (u / 10) ++ [UInt8.ofNat (48 + u % 10)] := by
  unfold dd
  rw [if_neg (by omega), decDigits]
  by_cases g : u < 10
  · rw [dif_pos g, if_pos (by omega), Nat.mod_eq_of_lt g]; rfl
  · rw [dif_neg g, if_neg (by omega)]
theorem dd_pos {u : Nat} (h : 0 < u) : dd u = decDigits u := by unfold dd; rw [if_neg (by omega)]
/-- What the document writes for a number. -/
theorem itoa_dd (n : Int) : itoa n = if n = 0 then [48] else if n < 0 then 45 :: dd n.natAbs else dd n.natAbs := by
  unfold itoa
  by_cases h0 : n = 0
  · subst h0
    rw [if_pos rfl, if_neg (by omega)]
    rw [show (0 : Int).toNat = 0 from rfl, decDigits, dif_pos (by omega)]
    rfl
  · rw [if_neg h0]
    by_cases h1 : n < 0
    · rw [if_pos h1, if_pos h1, dd_pos (by omega)]
    · rw [if_neg h1, if_neg h1, dd_pos (by omega), show n.toNat = n.natAbs by omega]
/-- The digit that a round of the document's loop finds, and what it leaves. -/
theorem tdiv_abs (m : Int) : (m.tdiv 10).natAbs = m.natAbs / 10 := by
  rw [Int.natAbs_tdiv]; rfl
theorem tmod_abs (m : Int) : (m.tmod 10).natAbs = m.natAbs % 10 := by
  rw [Int.natAbs_tmod]; rfl
/-- A digit of 16. -/
def hx (d : Nat) : UInt8 := if d < 10 then UInt8.ofNat (48 + d) else UInt8.ofNat (87 + d)
def hexL : List Nat → List UInt8
  | [] => []
  | b :: l => hx (b / 16) :: hx (b % 16) :: hexL l
theorem hx_inj : ∀ a b : Fin 16, hx a.val = hx b.val → a = b := by decide +kernel
theorem hexL_inj : ∀ {a b : List Nat}, (∀ x ∈ a, x < 256) → (∀ x ∈ b, x < 256) → hexL a = hexL b → a = b
  | [], [], _, _, _ => rfl
  | [], _ :: _, _, _, h => by simp [hexL] at h
  | _ :: _, [], _, _, h => by simp [hexL] at h
  | x :: a, y :: b, ha, hb, h => by
    simp only [hexL, List.cons.injEq] at h
    obtain ⟨h1, h2, h3⟩ := h
    have hx1 := ha x (List.mem_cons_self ..)
    have hy1 := hb y (List.mem_cons_self ..)
    have e1 := congrArg Fin.val (hx_inj ⟨x / 16, by omega⟩ ⟨y / 16, by omega⟩ h1)
    have e2 := congrArg Fin.val (hx_inj ⟨x % 16, by omega⟩ ⟨y % 16, by omega⟩ h2)
    simp only at e1 e2
    rw [show x = y by omega, hexL_inj (fun z hz => ha z (List.mem_cons_of_mem _ hz)) (fun z hz => hb z (List.mem_cons_of_mem _ hz)) h3]
theorem hexL_append (a b : List Nat) : hexL (a ++ b) = hexL a ++ hexL b := by
  induction a with
  | nil => rfl
  | cons x a ih => simp [hexL, ih]
theorem hexL_len (a : List Nat) : (hexL a).length = 2 * a.length := by
  induction a with
  | nil => rfl
  | cons x a ih => simp [hexL, ih]; omega
/-- Numerals that are alike are of one number. -/
theorem digit_inj {a b : Nat} (ha : a < 10) (hb : b < 10) (h : UInt8.ofNat (48 + a) = UInt8.ofNat (48 + b)) : a = b := by
  have := congrArg UInt8.toNat h
  simp [UInt8.toNat_ofNat'] at this
  omega
theorem dd_inj : ∀ {a b : Nat}, dd a = dd b → a = b := by
  intro a
  induction a using Nat.strongRecOn with
  | _ a ih =>
    intro b h
    by_cases ha : a = 0
    · subst ha
      by_cases hb : b = 0
      · exact hb.symm
      · rw [dd_step (show 0 < b by omega), show dd 0 = [] from rfl] at h
        simp at h
    · by_cases hb : b = 0
      · subst hb
        rw [dd_step (show 0 < a by omega), show dd 0 = [] from rfl] at h
        simp at h
      · rw [dd_step (show 0 < a by omega), dd_step (show 0 < b by omega)] at h
        obtain ⟨h1, h2⟩ := List.append_inj' h rfl
        have h3 := ih (a / 10) (by omega) h1
        simp only [List.cons.injEq, and_true] at h2
        have h4 := digit_inj (Nat.mod_lt _ (by decide)) (Nat.mod_lt _ (by decide)) h2
        omega
theorem digit_bd : ∀ a : Fin 10, UInt8.ofNat (48 + a.val) ≠ 45 ∧ UInt8.ofNat (48 + a.val) ≠ 10 ∧ UInt8.ofNat (48 + a.val) ≠ 32 := by decide +kernel
theorem dd_mem : ∀ {a : Nat} {x : UInt8}, x ∈ dd a → x ≠ 45 ∧ x ≠ 10 ∧ x ≠ 32 := by
  intro a
  induction a using Nat.strongRecOn with
  | _ a ih =>
    intro x h
    by_cases ha : a = 0
    · subst ha; simp [dd] at h
    · rw [dd_step (by omega)] at h
      rcases List.mem_append.1 h with h | h
      · exact ih (a / 10) (by omega) h
      · obtain rfl := List.mem_singleton.1 h
        exact digit_bd ⟨a % 10, Nat.mod_lt _ (by decide)⟩
theorem itoa_mem {n : Int} {x : UInt8} (h : x ∈ itoa n) : x ≠ 10 ∧ x ≠ 32 := by
  have key : ∀ u, x ∈ decDigits u → x ≠ 10 ∧ x ≠ 32 := fun u h => by
    by_cases hu : u = 0
    · subst hu
      rw [decDigits, dif_pos (by omega)] at h
      obtain rfl := List.mem_singleton.1 h
      decide
    · exact (dd_mem (show x ∈ dd u by unfold dd; rw [if_neg hu]; exact h)).2
  unfold itoa at h
  split at h
  · rcases List.mem_cons.1 h with rfl | h
    · decide
    · exact key _ h
  · exact key _ h
theorem dd_ne {a : Nat} {l : List UInt8} : dd a ≠ 45 :: l := fun h => (dd_mem (a := a) (x := 45) (by rw [h]; exact List.mem_cons_self ..)).1 rfl
theorem dd_48 {a : Nat} (h : 0 < a) : dd a ≠ [48] := fun e => by
  have h1 : dd a = dd 0 ++ [UInt8.ofNat (48 + 0)] := by rw [e]; rfl
  rw [dd_step h] at h1
  obtain ⟨h2, h3⟩ := List.append_inj' h1 rfl
  have h4 := dd_inj h2
  simp only [List.cons.injEq, and_true] at h3
  have h5 := digit_inj (Nat.mod_lt _ (by decide)) (by decide) h3
  omega
theorem itoa_inj {a b : Int} (h : itoa a = itoa b) : a = b := by
  rw [itoa_dd, itoa_dd] at h
  by_cases a0 : a = 0 <;> by_cases b0 : b = 0
  · rw [a0, b0]
  · rw [if_pos a0, if_neg b0] at h
    by_cases b1 : b < 0
    · rw [if_pos b1] at h; simp at h
    · rw [if_neg b1] at h; exact absurd h.symm (dd_48 (by omega))
  · rw [if_neg a0, if_pos b0] at h
    by_cases a1 : a < 0
    · rw [if_pos a1] at h; simp at h
    · rw [if_neg a1] at h; exact absurd h (dd_48 (by omega))
  · rw [if_neg a0, if_neg b0] at h
    by_cases a1 : a < 0 <;> by_cases b1 : b < 0
    · rw [if_pos a1, if_pos b1] at h
      simp only [List.cons.injEq, true_and] at h
      have := dd_inj h; omega
    · rw [if_pos a1, if_neg b1] at h; exact absurd h.symm dd_ne
    · rw [if_neg a1, if_pos b1] at h; exact absurd h dd_ne
    · rw [if_neg a1, if_neg b1] at h
      have := dd_inj h; omega
end Go.Und
