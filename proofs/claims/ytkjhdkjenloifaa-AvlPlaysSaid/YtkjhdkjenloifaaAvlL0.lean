/- The document's list of pairs: what its functions come to, plain. -/
import Derived.Test.YtkjhdkjenloifaaAvl3
namespace Go.Und
namespace Tr
variable {α : Type}

def rk (key : Int) (l : List (Int × α)) : Nat := (l.takeWhile fun x => decide (x.1 < key)).length
def hasR (key : Int) (l : List (Int × α)) : Bool := match l[rk key l]? with | some x => x.1 == key | none => false

theorem rk_le (key : Int) (l : List (Int × α)) : rk key l ≤ l.length := List.Sublist.length_le (List.takeWhile_sublist _)
theorem rk_lt {key : Int} : ∀ {l : List (Int × α)} {j : Nat} {x : Int × α}, l[j]? = some x → j < rk key l → x.1 < key
  | y :: l, j, x, hx, h => by
    unfold rk at h
    rw [List.takeWhile_cons] at h
    split at h
    · cases j with
      | zero => simp at hx; subst hx; rename_i g; simpa using g
      | succ j => exact rk_lt (l := l) (by simpa using hx) (by unfold rk; simpa using h)
    · simp at h
theorem rk_at {key : Int} : ∀ {l : List (Int × α)} {x : Int × α}, l[rk key l]? = some x → ¬ x.1 < key
  | y :: l, x, hx => by
    unfold rk at hx
    rw [List.takeWhile_cons] at hx
    split at hx
    · exact rk_at (l := l) (by unfold rk; simpa using hx)
    · rename_i g; simp at hx; subst hx; simpa using g
/-- The first place whose key is not below. -/
theorem rk_eq {key : Int} {l : List (Int × α)} {k : Nat} (hk : k ≤ l.length) (h1 : ∀ j x, j < k → l[j]? = some x → x.1 < key) (h2 : ∀ x, l[k]? = some x → ¬ x.1 < key) : rk key l = k := by
  rcases Nat.lt_trichotomy (rk key l) k with h | h | h
  · have hlt : rk key l < l.length := by omega
    have e := List.getElem?_eq_getElem hlt
    exact absurd (h1 _ _ h e) (rk_at e)
  · exact h
  · have := rk_le key l
    have hlt : k < l.length := by omega
    have e := List.getElem?_eq_getElem hlt
    exact absurd (rk_lt e h) (h2 _ e)

theorem rise_cons {x : Int × α} {l : List (Int × α)} (h : Rise (x :: l)) : Rise l ∧ ∀ y ∈ l, x.1 < y.1 := ⟨(List.pairwise_cons.1 h).2, (List.pairwise_cons.1 h).1⟩

theorem rk_cons_lt {key : Int} {x : Int × α} {l : List (Int × α)} (h : x.1 < key) : rk key (x :: l) = rk key l + 1 := by
  unfold rk; rw [List.takeWhile_cons, if_pos (by simpa using h)]; simp
theorem rk_cons_ge {key : Int} {x : Int × α} {l : List (Int × α)} (h : ¬ x.1 < key) : rk key (x :: l) = 0 := by
  unfold rk; rw [List.takeWhile_cons, if_neg (by simpa using h)]; simp

theorem rk_rank {key : Int} : ∀ {l : List (Int × α)}, Rise l → rk key l = rankL key l
  | [], _ => rfl
  | x :: l, h => by
    obtain ⟨h1, h2⟩ := rise_cons h
    by_cases g : x.1 < key
    · rw [rk_cons_lt g, rk_rank h1]; simp [rankL, g]
    · rw [rk_cons_ge g]
      symm
      unfold rankL
      rw [List.countP_eq_zero]
      intro y hy
      rcases List.mem_cons.1 hy with rfl | hy
      · simpa using g
      · have := h2 y hy; simp; omega
theorem hasR_has {key : Int} : ∀ {l : List (Int × α)}, Rise l → hasR key l = hasL key l
  | [], _ => rfl
  | x :: l, h => by
    obtain ⟨h1, h2⟩ := rise_cons h
    have ih := hasR_has (key := key) h1
    unfold hasR hasL at *
    by_cases g : x.1 < key
    · rw [rk_cons_lt g, List.getElem?_cons_succ, ih, List.any_cons]
      have : (x.1 == key) = false := by simp; omega
      rw [this, Bool.false_or]
    · rw [rk_cons_ge g, List.getElem?_cons_zero, List.any_cons]
      by_cases e : x.1 = key
      · simp [e]
      · have : l.any (fun x => x.1 == key) = false := by
          rw [List.any_eq_false]; intro y hy; have := h2 y hy; simp; omega
        rw [this, Bool.or_false]
theorem putR_put {key : Int} {v : α} : ∀ {l : List (Int × α)}, Rise l → l.take (rk key l) ++ (key, v) :: l.drop (if hasR key l = true then rk key l + 1 else rk key l) = putL key v l
  | [], _ => by simp [rk, putL]
  | x :: l, h => by
    obtain ⟨h1, h2⟩ := rise_cons h
    have ih := putR_put (key := key) (v := v) h1
    by_cases g : x.1 < key
    · have hh : hasR key (x :: l) = hasR key l := by unfold hasR; rw [rk_cons_lt g, List.getElem?_cons_succ]
      have hp : putL key v (x :: l) = x :: putL key v l := by simp only [putL]; rw [if_neg (by omega), if_pos (by omega)]
      rw [rk_cons_lt g, hh, hp, ← ih, List.take_succ_cons]
      split <;> simp
    · rw [rk_cons_ge g]
      have hh : hasR key (x :: l) = (x.1 == key) := by unfold hasR; rw [rk_cons_ge g, List.getElem?_cons_zero]
      rw [hh]
      by_cases e : x.1 = key
      · have hp : putL key v (x :: l) = (key, v) :: l := by simp only [putL]; rw [if_neg (by omega), if_neg (by omega)]
        rw [hp, if_pos (by simpa using e)]; simp
      · have hp : putL key v (x :: l) = (key, v) :: x :: l := by simp only [putL]; rw [if_pos (by omega)]
        rw [hp, if_neg (by simpa using e)]; simp
theorem delR_del {key : Int} : ∀ {l : List (Int × α)}, Rise l → (if hasR key l = true then l.take (rk key l) ++ l.drop (rk key l + 1) else l) = delL key l
  | [], _ => by simp [delL]
  | x :: l, h => by
    obtain ⟨h1, h2⟩ := rise_cons h
    have ih := delR_del (key := key) h1
    by_cases g : x.1 < key
    · have hh : hasR key (x :: l) = hasR key l := by unfold hasR; rw [rk_cons_lt g, List.getElem?_cons_succ]
      rw [rk_cons_lt g, hh]
      unfold delL at ih ⊢
      rw [List.filter_cons_of_pos (by simp; omega), ← ih]
      split <;> simp
    · rw [rk_cons_ge g]
      have hh : hasR key (x :: l) = (x.1 == key) := by unfold hasR; rw [rk_cons_ge g, List.getElem?_cons_zero]
      have hl : l.filter (fun x => x.1 != key) = l := List.filter_eq_self.2 fun y hy => by have := h2 y hy; simp; omega
      rw [hh]
      unfold delL
      by_cases e : x.1 = key
      · rw [if_pos (by simpa using e), List.filter_cons_of_neg (by simpa using e), hl]; simp
      · rw [if_neg (by simpa using e), List.filter_cons_of_pos (by simpa using e), hl]
theorem fromL_drop {key : Int} : ∀ {l : List (Int × α)}, Rise l → l.filter (fun x => decide (key ≤ x.1)) = l.drop (rk key l)
  | [], _ => rfl
  | x :: l, h => by
    obtain ⟨h1, h2⟩ := rise_cons h
    by_cases g : x.1 < key
    · rw [rk_cons_lt g, List.filter_cons_of_neg (by simp; omega), fromL_drop h1]; rfl
    · rw [rk_cons_ge g, List.drop_zero]
      refine List.filter_eq_self.2 fun y hy => ?_
      rcases List.mem_cons.1 hy with rfl | hy
      · simp; omega
      · have := h2 y hy; simp; omega
end Tr
end Go.Und
