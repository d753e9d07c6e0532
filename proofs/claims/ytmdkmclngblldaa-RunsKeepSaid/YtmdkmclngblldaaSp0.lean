/- Spans, as data (plain). -/
import Derived.Test.YtmdkmclngblldaaHeap
set_option linter.unusedVariables false
set_option linter.unusedSimpArgs false
namespace Go.Und

/-- May a span be. -/
def mayS (s : Int × Int) : Bool := decide (0 ≤ s.1) && decide (s.1 ≤ s.2) && decide (s.2 ≤ 4611686018427387904)
/-- A span that counts. -/
def plainS (s : Int × Int) : Int × Int := if mayS s = true ∧ s.1 ≠ s.2 then s else (0, 0)
def lenS (s : Int × Int) : Int := (plainS s).2 - (plainS s).1
theorem mayS_iff (s : Int × Int) : mayS s = true ↔ 0 ≤ s.1 ∧ s.1 ≤ s.2 ∧ s.2 ≤ 4611686018427387904 := by simp [mayS, and_assoc]
/-- A span that has offsets. -/
def PrS (s : Int × Int) : Prop := 0 ≤ s.1 ∧ s.1 < s.2 ∧ s.2 ≤ 4611686018427387904
theorem plainS_cases (s : Int × Int) : (plainS s = s ∧ 0 ≤ s.1 ∧ s.1 < s.2 ∧ s.2 ≤ 4611686018427387904) ∨ (plainS s = (0, 0) ∧ ¬ (0 ≤ s.1 ∧ s.1 < s.2 ∧ s.2 ≤ 4611686018427387904)) := by
  unfold plainS
  by_cases h : mayS s = true ∧ s.1 ≠ s.2
  · rw [if_pos h]
    have := (mayS_iff s).1 h.1
    exact .inl ⟨rfl, this.1, by omega, this.2.2⟩
  · rw [if_neg h]
    refine .inr ⟨rfl, fun h' => h ⟨(mayS_iff s).2 ⟨h'.1, by omega, h'.2.2⟩, by omega⟩⟩
theorem plainS_bounds (s : Int × Int) : 0 ≤ (plainS s).1 ∧ (plainS s).1 ≤ (plainS s).2 ∧ (plainS s).2 ≤ 4611686018427387904 := by
  rcases plainS_cases s with ⟨h, h1, h2, h3⟩ | ⟨h, _⟩
  · rw [h]; exact ⟨h1, by omega, h3⟩
  · rw [h]; simp
theorem lenS_bounds (s : Int × Int) : 0 ≤ lenS s ∧ lenS s ≤ 4611686018427387904 := by
  have := plainS_bounds s; unfold lenS; omega
theorem lenS_pos {s : Int × Int} (h : lenS s ≠ 0) : plainS s = s ∧ 0 ≤ s.1 ∧ s.1 < s.2 ∧ s.2 ≤ 4611686018427387904 := by
  rcases plainS_cases s with h' | ⟨h', _⟩
  · exact h'
  · exact absurd (by unfold lenS; rw [h']; rfl) h
theorem lenS_of {s : Int × Int} (h : 0 ≤ s.1 ∧ s.1 < s.2 ∧ s.2 ≤ 4611686018427387904) : lenS s = s.2 - s.1 := by
  rcases plainS_cases s with ⟨h', _⟩ | ⟨_, h'⟩
  · unfold lenS; rw [h']
  · exact absurd h h'
theorem PrS.plain {s : Int × Int} (h : PrS s) : plainS s = s := by
  rcases plainS_cases s with ⟨h', _⟩ | ⟨_, h'⟩
  · exact h'
  · exact absurd h h'
theorem PrS.len {s : Int × Int} (h : PrS s) : lenS s = s.2 - s.1 := lenS_of h
theorem lenS_zero {s : Int × Int} (h : lenS s = 0) : plainS s = (0, 0) := by
  rcases plainS_cases s with ⟨h', h1, h2, h3⟩ | ⟨h', _⟩
  · unfold lenS at h; rw [h'] at h; omega
  · exact h'
theorem lenS_ne {s : Int × Int} (h : lenS s ≠ 0) : PrS s := (lenS_pos h).2
theorem plain_pr_or (s : Int × Int) : (PrS (plainS s) ∧ plainS s = s) ∨ plainS s = (0, 0) := by
  rcases plainS_cases s with ⟨h, h'⟩ | ⟨h, _⟩
  · exact .inl ⟨by rw [h]; exact h', h⟩
  · exact .inr h
theorem plain_zero : plainS (0, 0) = (0, 0) := by decide
theorem plain_plain (s : Int × Int) : plainS (plainS s) = plainS s := by
  rcases plain_pr_or s with ⟨h, e⟩ | h
  · rw [e, e]
  · rw [h]; exact plain_zero
/-- Does it have an offset. -/
def inS (s : Int × Int) (o : Int) : Prop := (plainS s).1 ≤ o ∧ o < (plainS s).2
instance (s : Int × Int) (o : Int) : Decidable (inS s o) := inferInstanceAs (Decidable (_ ∧ _))
theorem inS_pr {s : Int × Int} (h : PrS s) (o : Int) : inS s o ↔ s.1 ≤ o ∧ o < s.2 := by unfold inS; rw [h.plain]
theorem inS_zero {s : Int × Int} (h : lenS s = 0) (o : Int) : ¬ inS s o := by unfold inS; rw [lenS_zero h]; omega
theorem inS_range {s : Int × Int} {o : Int} (h : inS s o) : 0 ≤ o ∧ o < 4611686018427387904 := by
  have := plainS_bounds s; unfold inS at h; omega
/-- Of two ends within what may be. -/
theorem inS_of {a b : Int} (h0 : 0 ≤ a) (h1 : b ≤ 4611686018427387904) (o : Int) : inS (a, b) o ↔ a ≤ o ∧ o < b := by
  by_cases h : a < b
  · exact inS_pr (s := (a, b)) ⟨h0, h, h1⟩ o
  · rcases plainS_cases (a, b) with ⟨_, _, h', _⟩ | ⟨h', _⟩
    · exact absurd h' h
    · unfold inS; rw [h']; dsimp only; omega
def meetS (s t : Int × Int) : Int × Int := plainS (max (plainS s).1 (plainS t).1, min (plainS s).2 (plainS t).2)
def belowS (s : Int × Int) (o : Int) : Int × Int := plainS ((plainS s).1, min (plainS s).2 o)
def fromS (s : Int × Int) (o : Int) : Int × Int := plainS (max (plainS s).1 o, (plainS s).2)
/-- Is there nothing between two. -/
def touchS (s t : Int × Int) : Bool := decide (lenS s ≠ 0) && decide (lenS t ≠ 0) && decide ((plainS s).1 ≤ (plainS t).2) && decide ((plainS t).1 ≤ (plainS s).2)
theorem inS_plain (s : Int × Int) (o : Int) : inS (plainS s) o ↔ inS s o := by unfold inS; rw [plain_plain]
theorem in_meet (s t : Int × Int) (o : Int) : inS (meetS s t) o ↔ inS s o ∧ inS t o := by
  have h1 := plainS_bounds s
  have h2 := plainS_bounds t
  unfold meetS
  rw [inS_plain, inS_of (by omega) (by omega)]
  unfold inS
  omega
theorem in_below (s : Int × Int) (k o : Int) : inS (belowS s k) o ↔ inS s o ∧ o < k := by
  have h1 := plainS_bounds s
  unfold belowS
  rw [inS_plain, inS_of (by omega) (by omega)]
  unfold inS
  omega
theorem in_from (s : Int × Int) (k o : Int) : inS (fromS s k) o ↔ inS s o ∧ k ≤ o := by
  have h1 := plainS_bounds s
  unfold fromS
  rw [inS_plain, inS_of (by omega) (by omega)]
  unfold inS
  omega
theorem meet_plain (s t : Int × Int) : plainS (meetS s t) = meetS s t := plain_plain _
theorem below_plain (s : Int × Int) (k : Int) : plainS (belowS s k) = belowS s k := plain_plain _
theorem from_plain (s : Int × Int) (k : Int) : plainS (fromS s k) = fromS s k := plain_plain _
/-- A plain span is told by its offsets. -/
theorem plain_ext {s t : Int × Int} (hs : plainS s = s) (ht : plainS t = t) (h : ∀ o, inS s o ↔ inS t o) : s = t := by
  have e : ∀ a b : Int × Int, plainS a = a → plainS b = b → (∀ o, inS a o → inS b o) → PrS a → PrS b ∧ b.1 ≤ a.1 ∧ a.2 ≤ b.2 := by
    intro a b ha hb hab pa
    have i1 := hab a.1 ((inS_pr pa _).2 ⟨Int.le_refl _, pa.2.1⟩)
    have i2 := hab (a.2 - 1) ((inS_pr pa _).2 ⟨by have := pa.2.1; omega, by omega⟩)
    rcases plain_pr_or b with ⟨pb, eb⟩ | hz
    · rw [eb] at pb
      rw [inS_pr pb] at i1 i2
      exact ⟨pb, i1.1, by omega⟩
    · unfold inS at i1; rw [hz] at i1; exfalso; dsimp only at i1; omega
  rcases plain_pr_or s with ⟨ps, es⟩ | hz
  · rw [es] at ps
    obtain ⟨pt, h1, h2⟩ := e s t hs ht (fun o => (h o).1) ps
    obtain ⟨_, h3, h4⟩ := e t s ht hs (fun o => (h o).2) pt
    exact Prod.ext (by omega) (by omega)
  · rcases plain_pr_or t with ⟨pt, et⟩ | hz'
    · rw [et] at pt
      obtain ⟨ps, _⟩ := e t s ht hs (fun o => (h o).2) pt
      exact absurd (ps.plain.symm.trans hz) (fun e => by have := ps.2.1; rw [e] at this; simp at this)
    · rw [← hs, ← ht, hz, hz']
/-- The least span that holds all of some. -/
def hullS (l : List (Int × Int)) : Int × Int := l.foldl (fun out s => if lenS s = 0 then out else if lenS out = 0 then s else (min out.1 s.1, max out.2 s.2)) (0, 0)
theorem hull_snoc (l : List (Int × Int)) (s : Int × Int) : hullS (l ++ [s]) = if lenS s = 0 then hullS l else if lenS (hullS l) = 0 then s else (min (hullS l).1 s.1, max (hullS l).2 s.2) := by
  unfold hullS
  rw [List.foldl_append]
  rfl
theorem hull_nil : hullS [] = (0, 0) := rfl
theorem snoc_ind {α : Type} {P : List α → Prop} (h0 : P []) (h1 : ∀ l a, P l → P (l ++ [a])) (l : List α) : P l := by
  have h : ∀ m : List α, P m.reverse := by
    intro m
    induction m with
    | nil => exact h0
    | cons a m ih => rw [List.reverse_cons]; exact h1 _ _ ih
  have := h l.reverse
  rwa [List.reverse_reverse] at this
/-- What a hull of proper spans is. -/
theorem hull_is (l : List (Int × Int)) (h : ∀ x ∈ l, PrS x) (hne : l ≠ []) : PrS (hullS l) ∧ (∀ x ∈ l, (hullS l).1 ≤ x.1 ∧ x.2 ≤ (hullS l).2) ∧ (∃ x ∈ l, x.1 = (hullS l).1) ∧ ∃ x ∈ l, x.2 = (hullS l).2 := by
  have key : ∀ k : List (Int × Int), (∀ x ∈ k, PrS x) → ∀ s : Int × Int, PrS s → PrS (hullS (k ++ [s])) ∧ (∀ x ∈ k ++ [s], (hullS (k ++ [s])).1 ≤ x.1 ∧ x.2 ≤ (hullS (k ++ [s])).2) ∧ (∃ x ∈ k ++ [s], x.1 = (hullS (k ++ [s])).1) ∧ ∃ x ∈ k ++ [s], x.2 = (hullS (k ++ [s])).2 := by
    intro k
    refine snoc_ind (P := fun k => (∀ x ∈ k, PrS x) → ∀ s : Int × Int, PrS s → PrS (hullS (k ++ [s])) ∧ (∀ x ∈ k ++ [s], (hullS (k ++ [s])).1 ≤ x.1 ∧ x.2 ≤ (hullS (k ++ [s])).2) ∧ (∃ x ∈ k ++ [s], x.1 = (hullS (k ++ [s])).1) ∧ ∃ x ∈ k ++ [s], x.2 = (hullS (k ++ [s])).2) ?_ ?_ k
    · intro _ s ps
      have hl : lenS s ≠ 0 := by rw [ps.len]; have := ps.2.1; omega
      have e : hullS ([] ++ [s]) = s := by rw [hull_snoc, if_neg hl, if_pos (by decide)]
      rw [e]
      exact ⟨ps, fun x hx => by simp at hx; subst hx; omega, ⟨s, by simp, rfl⟩, s, by simp, rfl⟩
    · intro k t ih hk s ps
      obtain ⟨p1, p2, ⟨x, hx, ex⟩, y, hy, ey⟩ := ih (fun x hx => hk x (List.mem_append_left _ hx)) t (hk t (by simp))
      have hl : lenS s ≠ 0 := by rw [ps.len]; have := ps.2.1; omega
      have hl2 : lenS (hullS (k ++ [t])) ≠ 0 := by rw [p1.len]; have := p1.2.1; omega
      have e : hullS (k ++ [t] ++ [s]) = (min (hullS (k ++ [t])).1 s.1, max (hullS (k ++ [t])).2 s.2) := by rw [hull_snoc, if_neg hl, if_neg hl2]
      rw [e]
      generalize hullS (k ++ [t]) = g at *
      obtain ⟨a0, a1, a2⟩ := p1
      obtain ⟨b0, b1, b2⟩ := ps
      refine ⟨⟨by dsimp only; omega, by dsimp only; omega, by dsimp only; omega⟩, fun z hz => ?_, ?_, ?_⟩
      · rcases List.mem_append.1 hz with hz | hz
        · have := p2 z hz; dsimp only; omega
        · simp at hz; subst hz; dsimp only; omega
      · rcases Int.le_total g.1 s.1 with h | h
        · exact ⟨x, List.mem_append_left _ hx, by dsimp only; omega⟩
        · exact ⟨s, by simp, by dsimp only; omega⟩
      · rcases Int.le_total g.2 s.2 with h | h
        · exact ⟨s, by simp, by dsimp only; omega⟩
        · exact ⟨y, List.mem_append_left _ hy, by dsimp only; omega⟩
  obtain ⟨k, s, rfl⟩ : ∃ k s, l = k ++ [s] := ⟨l.dropLast, l.getLast hne, (List.dropLast_concat_getLast hne).symm⟩
  exact key k (fun x hx => h x (List.mem_append_left _ hx)) s (h s (by simp))
end Go.Und
