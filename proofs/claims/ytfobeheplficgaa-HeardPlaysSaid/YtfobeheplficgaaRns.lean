/- Spans and sets of offsets as lists of spans (plain). -/
import Derived.Test.YtfobeheplficgaaHeap
set_option linter.unusedVariables false
set_option linter.unusedSimpArgs false
namespace Go.Und

/-- May a span be. -/
def mayS (s : Int × Int) : Bool := decide (0 ≤ s.1) && decide (s.1 ≤ s.2) && decide (s.2 ≤ 4611686018427387904)
/-- A span that counts. -/
def plainS (s : Int × Int) : Int × Int := if mayS s = true ∧ s.1 ≠ s.2 then s else (0, 0)
def lenS (s : Int × Int) : Int := (plainS s).2 - (plainS s).1
theorem mayS_iff (s : Int × Int) : mayS s = true ↔ 0 ≤ s.1 ∧ s.1 ≤ s.2 ∧ s.2 ≤ 4611686018427387904 := by simp [mayS, and_assoc]
/-- A span that has offsets. -/
def PrS (s : Int × Int) : Prop := 0 ≤ s.1 ∧ s.1 < s.2 ∧ s.2 ≤ 4611686018427387904
theorem plainS_cases (s : Int × Int) : (plainS s = s ∧ 0 ≤ s.1 ∧ s.1 < s.2 ∧ s.2 ≤ 4611686018427387904) ∨ (plainS s = (0, 0) ∧ ¬ (0 ≤ s.1 ∧ s.1 < s.2 ∧ s.2 ≤ 4611686018427387904)) := by
  unfold plainS
  by_cases h : mayS s = true ∧ s.1 ≠ s.2
  · rw [if_pos h]
    have := (mayS_iff s).1 h.1
    exact .inl ⟨rfl, this.1, by omega, this.2.2⟩
  · rw [if_neg h]
    refine .inr ⟨rfl, fun h' => h ⟨(mayS_iff s).2 ⟨h'.1, by omega, h'.2.2⟩, by omega⟩⟩
theorem plainS_bounds (s : Int × Int) : 0 ≤ (plainS s).1 ∧ (plainS s).1 ≤ (plainS s).2 ∧ (plainS s).2 ≤ 4611686018427387904 := by
  rcases plainS_cases s with ⟨h, h1, h2, h3⟩ | ⟨h, _⟩
  · rw [h]; exact ⟨h1, by omega, h3⟩
  · rw [h]; simp
theorem lenS_bounds (s : Int × Int) : 0 ≤ lenS s ∧ lenS s ≤ 4611686018427387904 := by
  have := plainS_bounds s; unfold lenS; omega
theorem lenS_pos {s : Int × Int} (h : lenS s ≠ 0) : plainS s = s ∧ 0 ≤ s.1 ∧ s.1 < s.2 ∧ s.2 ≤ 4611686018427387904 := by
  rcases plainS_cases s with h' | ⟨h', _⟩
  · exact h'
  · exact absurd (by unfold lenS; rw [h']; rfl) h
theorem lenS_of {s : Int × Int} (h : 0 ≤ s.1 ∧ s.1 < s.2 ∧ s.2 ≤ 4611686018427387904) : lenS s = s.2 - s.1 := by
  rcases plainS_cases s with ⟨h', _⟩ | ⟨_, h'⟩
  · unfold lenS; rw [h']
  · exact absurd h h'
theorem PrS.plain {s : Int × Int} (h : PrS s) : plainS s = s := by
  rcases plainS_cases s with ⟨h', _⟩ | ⟨_, h'⟩
  · exact h'
  · exact absurd h h'
theorem PrS.len {s : Int × Int} (h : PrS s) : lenS s = s.2 - s.1 := lenS_of h
theorem lenS_zero {s : Int × Int} (h : lenS s = 0) : plainS s = (0, 0) := by
  rcases plainS_cases s with ⟨h', h1, h2, h3⟩ | ⟨h', _⟩
  · unfold lenS at h; rw [h'] at h; omega
  · exact h'
theorem lenS_ne {s : Int × Int} (h : lenS s ≠ 0) : PrS s := (lenS_pos h).2
theorem plain_pr_or (s : Int × Int) : (PrS (plainS s) ∧ plainS s = s) ∨ plainS s = (0, 0) := by
  rcases plainS_cases s with ⟨h, h'⟩ | ⟨h, _⟩
  · exact .inl ⟨by rw [h]; exact h', h⟩
  · exact .inr h
theorem plain_zero : plainS (0, 0) = (0, 0) := by decide
theorem plain_plain (s : Int × Int) : plainS (plainS s) = plainS s := by
  rcases plain_pr_or s with ⟨h, e⟩ | h
  · rw [e, e]
  · rw [h]; exact plain_zero
/-- Does it have an offset. -/
def inS (s : Int × Int) (o : Int) : Prop := (plainS s).1 ≤ o ∧ o < (plainS s).2
instance (s : Int × Int) (o : Int) : Decidable (inS s o) := inferInstanceAs (Decidable (_ ∧ _))
theorem inS_pr {s : Int × Int} (h : PrS s) (o : Int) : inS s o ↔ s.1 ≤ o ∧ o < s.2 := by unfold inS; rw [h.plain]
theorem inS_zero {s : Int × Int} (h : lenS s = 0) (o : Int) : ¬ inS s o := by unfold inS; rw [lenS_zero h]; omega
theorem inS_range {s : Int × Int} {o : Int} (h : inS s o) : 0 ≤ o ∧ o < 4611686018427387904 := by
  have := plainS_bounds s; unfold inS at h; omega
/-- Of two ends within what may be. -/
theorem inS_of {a b : Int} (h0 : 0 ≤ a) (h1 : b ≤ 4611686018427387904) (o : Int) : inS (a, b) o ↔ a ≤ o ∧ o < b := by
  by_cases h : a < b
  · exact inS_pr (s := (a, b)) ⟨h0, h, h1⟩ o
  · rcases plainS_cases (a, b) with ⟨_, _, h', _⟩ | ⟨h', _⟩
    · exact absurd h' h
    · unfold inS; rw [h']; dsimp only; omega
def meetS (s t : Int × Int) : Int × Int := plainS (max (plainS s).1 (plainS t).1, min (plainS s).2 (plainS t).2)
def belowS (s : Int × Int) (o : Int) : Int × Int := plainS ((plainS s).1, min (plainS s).2 o)
def fromS (s : Int × Int) (o : Int) : Int × Int := plainS (max (plainS s).1 o, (plainS s).2)
/-- Is there nothing between two. -/
def touchS (s t : Int × Int) : Bool := decide (lenS s ≠ 0) && decide (lenS t ≠ 0) && decide ((plainS s).1 ≤ (plainS t).2) && decide ((plainS t).1 ≤ (plainS s).2)
theorem inS_plain (s : Int × Int) (o : Int) : inS (plainS s) o ↔ inS s o := by unfold inS; rw [plain_plain]
theorem in_meet (s t : Int × Int) (o : Int) : inS (meetS s t) o ↔ inS s o ∧ inS t o := by
  have h1 := plainS_bounds s
  have h2 := plainS_bounds t
  unfold meetS
  rw [inS_plain, inS_of (by omega) (by omega)]
  unfold inS
  omega
theorem in_below (s : Int × Int) (k o : Int) : inS (belowS s k) o ↔ inS s o ∧ o < k := by
  have h1 := plainS_bounds s
  unfold belowS
  rw [inS_plain, inS_of (by omega) (by omega)]
  unfold inS
  omega
theorem in_from (s : Int × Int) (k o : Int) : inS (fromS s k) o ↔ inS s o ∧ k ≤ o := by
  have h1 := plainS_bounds s
  unfold fromS
  rw [inS_plain, inS_of (by omega) (by omega)]
  unfold inS
  omega
theorem meet_plain (s t : Int × Int) : plainS (meetS s t) = meetS s t := plain_plain _
theorem below_plain (s : Int × Int) (k : Int) : plainS (belowS s k) = belowS s k := plain_plain _
theorem from_plain (s : Int × Int) (k : Int) : plainS (fromS s k) = fromS s k := plain_plain _
/-- A plain span is told by its offsets. -/
theorem plain_ext {s t : Int × Int} (hs : plainS s = s) (ht : plainS t = t) (h : ∀ o, inS s o ↔ inS t o) : s = t := by
  have e : ∀ a b : Int × Int, plainS a = a → plainS b = b → (∀ o, inS a o → inS b o) → PrS a → PrS b ∧ b.1 ≤ a.1 ∧ a.2 ≤ b.2 := by
    intro a b ha hb hab pa
    have i1 := hab a.1 ((inS_pr pa _).2 ⟨Int.le_refl _, pa.2.1⟩)
    have i2 := hab (a.2 - 1) ((inS_pr pa _).2 ⟨by have := pa.2.1; omega, by omega⟩)
    rcases plain_pr_or b with ⟨pb, eb⟩ | hz
    · rw [eb] at pb
      rw [inS_pr pb] at i1 i2
      exact ⟨pb, i1.1, by omega⟩
    · unfold inS at i1; rw [hz] at i1; exfalso; dsimp only at i1; omega
  rcases plain_pr_or s with ⟨ps, es⟩ | hz
  · rw [es] at ps
    obtain ⟨pt, h1, h2⟩ := e s t hs ht (fun o => (h o).1) ps
    obtain ⟨_, h3, h4⟩ := e t s ht hs (fun o => (h o).2) pt
    exact Prod.ext (by omega) (by omega)
  · rcases plain_pr_or t with ⟨pt, et⟩ | hz'
    · rw [et] at pt
      obtain ⟨ps, _⟩ := e t s ht hs (fun o => (h o).2) pt
      exact absurd (ps.plain.symm.trans hz) (fun e => by have := ps.2.1; rw [e] at this; simp at this)
    · rw [← hs, ← ht, hz, hz']
/-- The least span that holds all of some. -/
def hullS (l : List (Int × Int)) : Int × Int := l.foldl (fun out s => if lenS s = 0 then out else if lenS out = 0 then s else (min out.1 s.1, max out.2 s.2)) (0, 0)
theorem hull_snoc (l : List (Int × Int)) (s : Int × Int) : hullS (l ++ [s]) = if lenS s = 0 then hullS l else if lenS (hullS l) = 0 then s else (min (hullS l).1 s.1, max (hullS l).2 s.2) := by
  unfold hullS
  rw [List.foldl_append]
  rfl
theorem hull_nil : hullS [] = (0, 0) := rfl
theorem snoc_ind {α : Type} {P : List α → Prop} (h0 : P []) (h1 : ∀ l a, P l → P (l ++ [a])) (l : List α) : P l := by
  have h : ∀ m : List α, P m.reverse := by
    intro m
    induction m with
    | nil => exact h0
    | cons a m ih => rw [List.reverse_cons]; exact h1 _ _ ih
  have := h l.reverse
  rwa [List.reverse_reverse] at this
/-- What a hull of proper spans is. -/
theorem hull_is (l : List (Int × Int)) (h : ∀ x ∈ l, PrS x) (hne : l ≠ []) : PrS (hullS l) ∧ (∀ x ∈ l, (hullS l).1 ≤ x.1 ∧ x.2 ≤ (hullS l).2) ∧ (∃ x ∈ l, x.1 = (hullS l).1) ∧ ∃ x ∈ l, x.2 = (hullS l).2 := by
  have key : ∀ k : List (Int × Int), (∀ x ∈ k, PrS x) → ∀ s : Int × Int, PrS s → PrS (hullS (k ++ [s])) ∧ (∀ x ∈ k ++ [s], (hullS (k ++ [s])).1 ≤ x.1 ∧ x.2 ≤ (hullS (k ++ [s])).2) ∧ (∃ x ∈ k ++ [s], x.1 = (hullS (k ++ [s])).1) ∧ ∃ x ∈ k ++ [s], x.2 = (hullS (k ++ [s])).2 := by
    intro k
    refine snoc_ind (P := fun k => (∀ x ∈ k, PrS x) → ∀ s : Int × Int, PrS s → PrS (hullS (k ++ [s])) ∧ (∀ x ∈ k ++ [s], (hullS (k ++ [s])).1 ≤ x.1 ∧ x.2 ≤ (hullS (k ++ [s])).2) ∧ (∃ x ∈ k ++ [s], x.1 = (hullS (k ++ [s])).1) ∧ ∃ x ∈ k ++ [s], x.2 = (hullS (k ++ [s])).2) ?_ ?_ k
    · intro _ s ps
      have hl : lenS s ≠ 0 := by rw [ps.len]; have := ps.2.1; omega
      have e : hullS ([] ++ [s]) = s := by rw [hull_snoc, if_neg hl, if_pos (by decide)]
      rw [e]
      exact ⟨ps, fun x hx => by simp at hx; subst hx; omega, ⟨s, by simp, rfl⟩, s, by simp, rfl⟩
    · intro k t ih hk s ps
      obtain ⟨p1, p2, ⟨x, hx, ex⟩, y, hy, ey⟩ := ih (fun x hx => hk x (List.mem_append_left _ hx)) t (hk t (by simp))
      have hl : lenS s ≠ 0 := by rw [ps.len]; have := ps.2.1; omega
      have hl2 : lenS (hullS (k ++ [t])) ≠ 0 := by rw [p1.len]; have := p1.2.1; omega
      have e : hullS (k ++ [t] ++ [s]) = (min (hullS (k ++ [t])).1 s.1, max (hullS (k ++ [t])).2 s.2) := by rw [hull_snoc, if_neg hl, if_neg hl2]
      rw [e]
      generalize hullS (k ++ [t]) = g at *
      obtain ⟨a0, a1, a2⟩ := p1
      obtain ⟨b0, b1, b2⟩ := ps
      refine ⟨⟨by dsimp only; omega, by dsimp only; omega, by dsimp only; omega⟩, fun z hz => ?_, ?_, ?_⟩
      · rcases List.mem_append.1 hz with hz | hz
        · have := p2 z hz; dsimp only; omega
        · simp at hz; subst hz; dsimp only; omega
      · rcases Int.le_total g.1 s.1 with h | h
        · exact ⟨x, List.mem_append_left _ hx, by dsimp only; omega⟩
        · exact ⟨s, by simp, by dsimp only; omega⟩
      · rcases Int.le_total g.2 s.2 with h | h
        · exact ⟨s, by simp, by dsimp only; omega⟩
        · exact ⟨y, List.mem_append_left _ hy, by dsimp only; omega⟩
  obtain ⟨k, s, rfl⟩ : ∃ k s, l = k ++ [s] := ⟨l.dropLast, l.getLast hne, (List.dropLast_concat_getLast hne).symm⟩
  exact key k (fun x hx => h x (List.mem_append_left _ hx)) s (h s (by simp))
end Go.Und
namespace Go.Und

/-- Rising, none empty, none touching the next one. -/
def OkL : List (Int × Int) → Prop
  | [] => True
  | x :: r => PrS x ∧ (∀ y ∈ r, x.2 < y.1) ∧ OkL r
def memL (l : List (Int × Int)) (o : Int) : Prop := ∃ x ∈ l, x.1 ≤ o ∧ o < x.2
theorem memL_nil (o : Int) : ¬ memL [] o := fun ⟨_, h, _⟩ => by cases h
theorem memL_cons (x : Int × Int) (r : List (Int × Int)) (o : Int) : memL (x :: r) o ↔ (x.1 ≤ o ∧ o < x.2) ∨ memL r o := by
  unfold memL; simp
theorem memL_append (a b : List (Int × Int)) (o : Int) : memL (a ++ b) o ↔ memL a o ∨ memL b o := by
  unfold memL
  simp only [List.mem_append]
  constructor
  · rintro ⟨x, h | h, h'⟩
    · exact .inl ⟨x, h, h'⟩
    · exact .inr ⟨x, h, h'⟩
  · rintro (⟨x, h, h'⟩ | ⟨x, h, h'⟩)
    · exact ⟨x, .inl h, h'⟩
    · exact ⟨x, .inr h, h'⟩
theorem OkL.pr : ∀ {l : List (Int × Int)}, OkL l → ∀ x ∈ l, PrS x
  | _ :: _, h, x, hx => by
    rcases List.mem_cons.1 hx with rfl | hx
    · exact h.1
    · exact OkL.pr h.2.2 x hx
theorem okL_append : ∀ {a b : List (Int × Int)}, OkL (a ++ b) ↔ OkL a ∧ OkL b ∧ ∀ x ∈ a, ∀ y ∈ b, x.2 < y.1
  | [], b => by simp [OkL]
  | x :: a, b => by
    simp only [List.cons_append, OkL, okL_append (a := a), List.mem_append, List.mem_cons]
    constructor
    · rintro ⟨h1, h2, h3, h4, h5⟩
      refine ⟨⟨h1, fun y hy => h2 y (.inl hy), h3⟩, h4, fun z hz y hy => ?_⟩
      rcases hz with rfl | hz
      · exact h2 y (.inr hy)
      · exact h5 z hz y hy
    · rintro ⟨⟨h1, h2, h3⟩, h4, h5⟩
      refine ⟨h1, fun y hy => ?_, h3, h4, fun z hz y hy => h5 z (.inr hz) y hy⟩
      rcases hy with hy | hy
      · exact h2 y hy
      · exact h5 x (.inl rfl) y hy
/-- A set is told by its offsets. -/
theorem ok_ext : ∀ {l m : List (Int × Int)}, OkL l → OkL m → (∀ o, memL l o ↔ memL m o) → l = m
  | [], [], _, _, _ => rfl
  | [], y :: m, _, hm, h => by
    exact absurd ((h y.1).2 ⟨y, List.mem_cons_self, Int.le_refl _, hm.1.2.1⟩) (memL_nil _)
  | x :: l, [], hl, _, h => by
    exact absurd ((h x.1).1 ⟨x, List.mem_cons_self, Int.le_refl _, hl.1.2.1⟩) (memL_nil _)
  | x :: l, y :: m, hl, hm, h => by
    obtain ⟨px, lx, ol⟩ := hl
    obtain ⟨py, ly, om⟩ := hm
    have px1 := px.2.1
    have py1 := py.2.1
    have low : ∀ {x : Int × Int} {l : List (Int × Int)}, PrS x → (∀ y ∈ l, x.2 < y.1) → ∀ o, memL (x :: l) o → x.1 ≤ o := fun px lx o ho => by
      rcases (memL_cons _ _ _).1 ho with h | ⟨z, hz, h1, _⟩
      · exact h.1
      · have := lx z hz; have := px.2.1; omega
    have e1 : x.1 = y.1 := by
      have a := low py ly x.1 ((h x.1).1 ⟨x, List.mem_cons_self, Int.le_refl _, px1⟩)
      have b := low px lx y.1 ((h y.1).2 ⟨y, List.mem_cons_self, Int.le_refl _, py1⟩)
      omega
    have gap : ∀ {x : Int × Int} {l : List (Int × Int)}, PrS x → (∀ y ∈ l, x.2 < y.1) → ¬ memL (x :: l) x.2 := fun px lx ho => by
      rcases (memL_cons _ _ _).1 ho with h | ⟨z, hz, h1, _⟩
      · omega
      · have := lx z hz; omega
    have e2 : x.2 = y.2 := by
      rcases Int.lt_trichotomy x.2 y.2 with g | g | g
      · exact absurd ((h x.2).2 ⟨y, List.mem_cons_self, by omega, g⟩) (gap px lx)
      · exact g
      · exact absurd ((h y.2).1 ⟨x, List.mem_cons_self, by omega, g⟩) (gap py ly)
    have far : ∀ {x : Int × Int} {l : List (Int × Int)}, (∀ y ∈ l, x.2 < y.1) → ∀ o, memL l o → x.2 < o := fun lx o ⟨z, hz, h1, _⟩ => by have := lx z hz; omega
    have et : l = m := ok_ext ol om fun o => by
      constructor
      · intro ho
        have := far lx o ho
        rcases (memL_cons _ _ _).1 ((h o).1 ((memL_cons _ _ _).2 (.inr ho))) with g | g
        · omega
        · exact g
      · intro ho
        have := far ly o ho
        rcases (memL_cons _ _ _).1 ((h o).2 ((memL_cons _ _ _).2 (.inr ho))) with g | g
        · omega
        · exact g
    rw [et, Prod.ext e1 e2]

/-! Places. -/
/-- The first place at which something holds. -/
def fstP (p : Int × Int → Bool) (l : List (Int × Int)) : Nat := (l.takeWhile fun x => !p x).length
theorem fstP_le (p : Int × Int → Bool) : ∀ l, fstP p l ≤ l.length
  | [] => Nat.le_refl _
  | x :: l => by
    have := fstP_le p l
    unfold fstP at *
    rw [List.takeWhile_cons]
    split <;> simp <;> omega
theorem take_fst (p : Int × Int → Bool) (l : List (Int × Int)) : l.take (fstP p l) = l.takeWhile fun x => !p x := by
  unfold fstP
  exact (List.prefix_iff_eq_take.1 (List.takeWhile_prefix _)).symm
theorem drop_fst (p : Int × Int → Bool) : ∀ l : List (Int × Int), l.drop (fstP p l) = l.dropWhile fun x => !p x
  | [] => rfl
  | x :: l => by
    have ih := drop_fst p l
    unfold fstP at *
    rw [List.takeWhile_cons, List.dropWhile_cons]
    split <;> simp [ih]
theorem below_fst (p : Int × Int → Bool) : ∀ (l : List (Int × Int)), ∀ x ∈ l.take (fstP p l), p x = false
  | [], x, hx => by simp at hx
  | y :: l, x, hx => by
    rw [take_fst, List.takeWhile_cons] at hx
    split at hx
    · rename_i hp
      rcases List.mem_cons.1 hx with rfl | hx
      · simpa using hp
      · rw [← take_fst] at hx; exact below_fst p l x hx
    · cases hx
/-- Behind it, it holds of all, if it does not cease to hold. -/
theorem above_fst (p : Int × Int → Bool) : ∀ {l : List (Int × Int)}, l.Pairwise (fun a b => p a = true → p b = true) → ∀ x ∈ l.drop (fstP p l), p x = true
  | [], _, x, hx => by simp [fstP] at hx
  | y :: l, hm, x, hx => by
    rw [drop_fst, List.dropWhile_cons] at hx
    obtain ⟨h1, h2⟩ := List.pairwise_cons.1 hm
    split at hx
    · rw [← drop_fst] at hx; exact above_fst p h2 x hx
    · rename_i hp
      have hy : p y = true := by simpa using hp
      rcases List.mem_cons.1 hx with rfl | hx
      · exact hy
      · exact h1 x hx hy
theorem OkL.rises : ∀ {l : List (Int × Int)}, OkL l → l.Pairwise fun a b => a.1 < b.1 ∧ a.2 < b.1 ∧ a.2 < b.2
  | [], _ => List.Pairwise.nil
  | x :: l, h => List.pairwise_cons.2 ⟨fun y hy => by
      have h1 := h.2.1 y hy
      have h2 := h.1.2.1
      have h3 := (OkL.pr h.2.2 y hy).2.1
      omega, OkL.rises h.2.2⟩

/-! Adding. -/
def addL (l : List (Int × Int)) (s : Int × Int) : List (Int × Int) :=
  let lo := fstP (fun x => decide (s.1 ≤ x.2)) l
  let hi := fstP (fun x => decide (s.2 < x.1)) l
  l.take lo ++ hullS ((l.take hi).drop lo ++ [s]) :: l.drop hi
theorem lo_hi (l : List (Int × Int)) (h : OkL l) (s : Int × Int) (hs : s.1 ≤ s.2) : fstP (fun x => decide (s.1 ≤ x.2)) l ≤ fstP (fun x => decide (s.2 < x.1)) l := by
  rcases Nat.lt_or_ge (fstP (fun x => decide (s.2 < x.1)) l) (fstP (fun x => decide (s.1 ≤ x.2)) l) with g | g
  · exfalso
    have hle := fstP_le (fun x => decide (s.1 ≤ x.2)) l
    have hlt : fstP (fun x => decide (s.2 < x.1)) l < l.length := by omega
    have h1 := below_fst (fun x => decide (s.1 ≤ x.2)) l (l[fstP (fun x => decide (s.2 < x.1)) l]) (List.mem_take_iff_getElem.2 ⟨_, by omega, rfl⟩)
    have h2 := above_fst (fun x => decide (s.2 < x.1)) (h.rises.imp fun {a b} hab hp => by simp at hp ⊢; omega) (l[fstP (fun x => decide (s.2 < x.1)) l]) (List.mem_drop_iff_getElem.2 ⟨0, by omega, by simp⟩)
    have h3 := (h.pr _ (List.getElem_mem hlt)).2.1
    simp at h1 h2
    omega
  · exact g
theorem cut3 {α : Type} (l : List α) {a b : Nat} (h : a ≤ b) : l = l.take a ++ ((l.take b).drop a ++ l.drop b) := by
  have : l.drop a = (l.take b).drop a ++ l.drop b := by
    conv => lhs; rw [← List.take_append_drop b l]
    rw [List.drop_append]
    by_cases hb : b ≤ l.length
    · rw [List.length_take, Nat.min_eq_left hb, Nat.sub_eq_zero_of_le h, List.drop_zero]
    · rw [List.drop_eq_nil_of_le (i := b) (by omega)]; simp
  rw [← this, List.take_append_drop]
theorem add_parts {l : List (Int × Int)} (h : OkL l) {s : Int × Int} (hs : PrS s) : ∃ a b c, l = a ++ (b ++ c) ∧ addL l s = a ++ hullS (b ++ [s]) :: c ∧ (∀ x ∈ a, x.2 < s.1) ∧ (∀ x ∈ b, s.1 ≤ x.2 ∧ x.1 ≤ s.2) ∧ (∀ x ∈ c, s.2 < x.1) := by
  have hlh := lo_hi l h s (by have := hs.2.1; omega)
  refine ⟨_, _, _, cut3 l hlh, rfl, fun x hx => ?_, fun x hx => ⟨?_, ?_⟩, fun x hx => ?_⟩
  · have := below_fst _ l x hx; simpa using this
  · have h2 := above_fst (fun x => decide (s.1 ≤ x.2)) (h.rises.imp fun {a b} hab hp => by simp at hp ⊢; omega) x (by
      rw [List.drop_take] at hx
      exact List.mem_of_mem_take hx)
    simpa using h2
  · have := below_fst (fun x => decide (s.2 < x.1)) l x (List.mem_of_mem_drop hx); simpa using this
  · have h2 := above_fst (fun x => decide (s.2 < x.1)) (h.rises.imp fun {a b} hab hp => by simp at hp ⊢; omega) x hx
    simpa using h2
theorem add_ok {l : List (Int × Int)} (h : OkL l) {s : Int × Int} (hs : PrS s) : OkL (addL l s) ∧ ∀ o, memL (addL l s) o ↔ memL l o ∨ (s.1 ≤ o ∧ o < s.2) := by
  obtain ⟨a, b, c, rfl, e, ha, hb, hc⟩ := add_parts h hs
  obtain ⟨oa, obc, hab⟩ := okL_append.1 h
  obtain ⟨ob, oc, hbc⟩ := okL_append.1 obc
  obtain ⟨g1, g2, ⟨x1, hx1, ex1⟩, x2, hx2, ex2⟩ := hull_is (b ++ [s]) (fun x hx => by
    rcases List.mem_append.1 hx with hx | hx
    · exact ob.pr x hx
    · simp at hx; subst hx; exact hs) (by simp)
  have hs1 := hs.2.1
  have gs := g2 s (by simp)
  rw [e]
  generalize hullS (b ++ [s]) = g at *
  refine ⟨okL_append.2 ⟨oa, ⟨g1, fun y hy => ?_, oc⟩, fun x hx y hy => ?_⟩, fun o => ?_⟩
  · rcases List.mem_append.1 hx2 with hx2 | hx2
    · have := hbc x2 hx2 y hy; omega
    · simp at hx2; subst hx2; have := hc y hy; omega
  · rcases List.mem_cons.1 hy with rfl | hy
    · rcases List.mem_append.1 hx1 with hx1 | hx1
      · have := hab x hx x1 (List.mem_append_left _ hx1); omega
      · simp at hx1; subst hx1; have := ha x hx; omega
    · exact hab x hx y (List.mem_append_right _ hy)
  · rw [memL_append, memL_cons, memL_append, memL_append]
    have mid : g.1 ≤ o ∧ o < g.2 ↔ memL b o ∨ (s.1 ≤ o ∧ o < s.2) := by
      constructor
      · rintro ⟨h1, h2⟩
        by_cases k1 : o < s.1
        · rcases List.mem_append.1 hx1 with hx1 | hx1
          · exact .inl ⟨x1, hx1, by omega, by have := hb x1 hx1; omega⟩
          · simp at hx1; subst hx1; omega
        · by_cases k2 : s.2 ≤ o
          · rcases List.mem_append.1 hx2 with hx2 | hx2
            · exact .inl ⟨x2, hx2, by have := hb x2 hx2; omega, by omega⟩
            · simp at hx2; subst hx2; omega
          · exact .inr (by omega)
      · rintro (⟨x, hx, h1, h2⟩ | ⟨h1, h2⟩)
        · have := g2 x (List.mem_append_left _ hx); omega
        · omega
    rw [mid]
    constructor
    · rintro (h | (h | h) | h)
      · exact .inl (.inl h)
      · exact .inl (.inr (.inl h))
      · exact .inr h
      · exact .inl (.inr (.inr h))
    · rintro ((h | h | h) | h)
      · exact .inl h
      · exact .inr (.inl (.inl h))
      · exact .inr (.inr h)
      · exact .inr (.inl (.inr h))
end Go.Und
namespace Go.Und

/-! Removing. -/
/-- What of a span is not in another one. -/
def partsS (s x : Int × Int) : List (Int × Int) := (if lenS (belowS x s.1) = 0 then [] else [belowS x s.1]) ++ (if lenS (fromS x s.2) = 0 then [] else [fromS x s.2])
def remL (l : List (Int × Int)) (s : Int × Int) : List (Int × Int) := l.flatMap (partsS s)
theorem parts_ok (s : Int × Int) (hs : s.1 < s.2) {x : Int × Int} (hx : PrS x) : OkL (partsS s x) ∧ (∀ o, memL (partsS s x) o ↔ (x.1 ≤ o ∧ o < x.2) ∧ ¬ (s.1 ≤ o ∧ o < s.2)) ∧ ∀ y ∈ partsS s x, x.1 ≤ y.1 ∧ y.2 ≤ x.2 := by
  have hb : ∀ o, inS (belowS x s.1) o ↔ (x.1 ≤ o ∧ o < x.2) ∧ o < s.1 := fun o => by rw [in_below, inS_pr hx]
  have hf : ∀ o, inS (fromS x s.2) o ↔ (x.1 ≤ o ∧ o < x.2) ∧ s.2 ≤ o := fun o => by rw [in_from, inS_pr hx]
  have pb := below_plain x s.1
  have pf := from_plain x s.2
  unfold partsS
  have one : ∀ g : Int × Int, plainS g = g → lenS g ≠ 0 → PrS g ∧ ∀ o, inS g o ↔ g.1 ≤ o ∧ o < g.2 := fun g _ h => ⟨lenS_ne h, inS_pr (lenS_ne h)⟩
  by_cases h1 : lenS (belowS x s.1) = 0 <;> by_cases h2 : lenS (fromS x s.2) = 0
  · rw [if_pos h1, if_pos h2]
    refine ⟨trivial, fun o => ⟨fun h => absurd h (memL_nil o), fun ⟨h, h'⟩ => ?_⟩, fun y hy => by cases hy⟩
    have a1 := mt (hb o).2 (inS_zero h1 o)
    have a2 := mt (hf o).2 (inS_zero h2 o)
    omega
  · rw [if_pos h1, if_neg h2]
    obtain ⟨q1, q2⟩ := one _ pf h2
    have l1 := (hf (fromS x s.2).1).1 ((q2 _).2 ⟨Int.le_refl _, q1.2.1⟩)
    have l2 := (hf ((fromS x s.2).2 - 1)).1 ((q2 _).2 ⟨by have := q1.2.1; omega, by omega⟩)
    refine ⟨⟨q1, fun y hy => (by cases hy), trivial⟩, fun o => ?_, fun y hy => ?_⟩
    · have a1 := mt (hb o).2 (inS_zero h1 o)
      rw [List.nil_append, memL_cons, ← q2, hf]
      constructor
      · rintro (h | h)
        · exact ⟨h.1, by omega⟩
        · exact absurd h (memL_nil o)
      · rintro ⟨h, h'⟩; exact .inl ⟨h, by omega⟩
    · simp at hy; subst hy; omega
  · rw [if_neg h1, if_pos h2]
    obtain ⟨q1, q2⟩ := one _ pb h1
    have l1 := (hb (belowS x s.1).1).1 ((q2 _).2 ⟨Int.le_refl _, q1.2.1⟩)
    have l2 := (hb ((belowS x s.1).2 - 1)).1 ((q2 _).2 ⟨by have := q1.2.1; omega, by omega⟩)
    refine ⟨⟨q1, fun y hy => (by cases hy), trivial⟩, fun o => ?_, fun y hy => ?_⟩
    · have a1 := mt (hf o).2 (inS_zero h2 o)
      rw [List.append_nil, memL_cons, ← q2, hb]
      constructor
      · rintro (h | h)
        · exact ⟨h.1, by omega⟩
        · exact absurd h (memL_nil o)
      · rintro ⟨h, h'⟩; exact .inl ⟨h, by omega⟩
    · simp at hy; subst hy; omega
  · rw [if_neg h1, if_neg h2]
    obtain ⟨q1, q2⟩ := one _ pb h1
    obtain ⟨r1, r2⟩ := one _ pf h2
    have l1 := (hb (belowS x s.1).1).1 ((q2 _).2 ⟨Int.le_refl _, q1.2.1⟩)
    have l2 := (hb ((belowS x s.1).2 - 1)).1 ((q2 _).2 ⟨by have := q1.2.1; omega, by omega⟩)
    have m1 := (hf (fromS x s.2).1).1 ((r2 _).2 ⟨Int.le_refl _, r1.2.1⟩)
    have m2 := (hf ((fromS x s.2).2 - 1)).1 ((r2 _).2 ⟨by have := r1.2.1; omega, by omega⟩)
    have hlt : (belowS x s.1).2 < (fromS x s.2).1 := by omega
    refine ⟨⟨q1, fun y hy => (by simp at hy; subst hy; exact hlt), r1, fun y hy => (by cases hy), trivial⟩, fun o => ?_, fun y hy => ?_⟩
    · rw [List.singleton_append, memL_cons, memL_cons, ← q2, ← r2, hb, hf]
      constructor
      · rintro (h | h | h)
        · exact ⟨h.1, by omega⟩
        · exact ⟨h.1, by omega⟩
        · exact absurd h (memL_nil o)
      · rintro ⟨h, h'⟩
        rcases Int.lt_or_le o s.1 with g | g
        · exact .inl ⟨h, g⟩
        · exact .inr (.inl ⟨h, by omega⟩)
    · simp at hy; rcases hy with rfl | rfl <;> omega
theorem rem_ok {s : Int × Int} (hs : s.1 < s.2) : ∀ {l : List (Int × Int)}, OkL l → OkL (remL l s) ∧ (∀ o, memL (remL l s) o ↔ memL l o ∧ ¬ (s.1 ≤ o ∧ o < s.2)) ∧ ∀ y ∈ remL l s, ∃ x ∈ l, x.1 ≤ y.1 ∧ y.2 ≤ x.2
  | [], _ => ⟨trivial, fun o => ⟨fun h => absurd h (memL_nil o), fun h => absurd h.1 (memL_nil o)⟩, fun y hy => by cases hy⟩
  | x :: l, h => by
    obtain ⟨h1, h2, h3⟩ := h
    obtain ⟨i1, i2, i3⟩ := rem_ok hs h3
    obtain ⟨p1, p2, p3⟩ := parts_ok s hs h1
    have e : remL (x :: l) s = partsS s x ++ remL l s := by simp [remL]
    rw [e]
    refine ⟨okL_append.2 ⟨p1, i1, fun a ha b hb => ?_⟩, fun o => ?_, fun y hy => ?_⟩
    · obtain ⟨z, hz, hz1, hz2⟩ := i3 b hb
      have := h2 z hz
      have := p3 a ha
      omega
    · rw [memL_append, memL_cons, p2, i2]
      constructor
      · rintro (h | h)
        · exact ⟨.inl h.1, h.2⟩
        · exact ⟨.inr h.1, h.2⟩
      · rintro ⟨h | h, h'⟩
        · exact .inl ⟨h, h'⟩
        · exact .inr ⟨h, h'⟩
    · rcases List.mem_append.1 hy with hy | hy
      · exact ⟨x, List.mem_cons_self, p3 y hy⟩
      · obtain ⟨z, hz, hz'⟩ := i3 y hy
        exact ⟨z, List.mem_cons_of_mem _ hz, hz'⟩
theorem parts_out {s x : Int × Int} (hs : s.1 < s.2) (hx : PrS x) (h : x.2 ≤ s.1 ∨ s.2 ≤ x.1) : partsS s x = [x] := by
  obtain ⟨p1, p2, _⟩ := parts_ok s hs hx
  refine ok_ext p1 ⟨hx, fun y hy => (by cases hy), trivial⟩ fun o => ?_
  rw [p2, memL_cons]
  constructor
  · rintro ⟨h, _⟩; exact .inl h
  · rintro (h | h)
    · exact ⟨h, by omega⟩
    · exact absurd h (memL_nil o)
/-- What the program does: those that meet are parted, the others stay. -/
def remP (l : List (Int × Int)) (s : Int × Int) : List (Int × Int) :=
  let lo := fstP (fun x => decide (s.1 < x.2)) l
  let hi := fstP (fun x => decide (s.2 ≤ x.1)) l
  l.take lo ++ (((l.take hi).drop lo).flatMap (partsS s) ++ l.drop hi)
theorem lo_hi2 (l : List (Int × Int)) (h : OkL l) (s : Int × Int) (hs : s.1 ≤ s.2) : fstP (fun x => decide (s.1 < x.2)) l ≤ fstP (fun x => decide (s.2 ≤ x.1)) l := by
  rcases Nat.lt_or_ge (fstP (fun x => decide (s.2 ≤ x.1)) l) (fstP (fun x => decide (s.1 < x.2)) l) with g | g
  · exfalso
    have hle := fstP_le (fun x => decide (s.1 < x.2)) l
    have hlt : fstP (fun x => decide (s.2 ≤ x.1)) l < l.length := by omega
    have h1 := below_fst (fun x => decide (s.1 < x.2)) l (l[fstP (fun x => decide (s.2 ≤ x.1)) l]) (List.mem_take_iff_getElem.2 ⟨_, by omega, rfl⟩)
    have h2 := above_fst (fun x => decide (s.2 ≤ x.1)) (h.rises.imp fun {a b} hab hp => by simp at hp ⊢; omega) (l[fstP (fun x => decide (s.2 ≤ x.1)) l]) (List.mem_drop_iff_getElem.2 ⟨0, by omega, by simp⟩)
    have h3 := (h.pr _ (List.getElem_mem hlt)).2.1
    simp at h1 h2
    omega
  · exact g
theorem flatMap_same {f : Int × Int → List (Int × Int)} : ∀ {l : List (Int × Int)}, (∀ x ∈ l, f x = [x]) → l.flatMap f = l
  | [], _ => rfl
  | x :: l, h => by
    rw [List.flatMap_cons, h x List.mem_cons_self, flatMap_same fun y hy => h y (List.mem_cons_of_mem _ hy)]
    rfl
theorem remP_eq {l : List (Int × Int)} (h : OkL l) {s : Int × Int} (hs : s.1 < s.2) : remP l s = remL l s := by
  have hlh := lo_hi2 l h s (by omega)
  have e1 : (l.take (fstP (fun x => decide (s.1 < x.2)) l)).flatMap (partsS s) = l.take (fstP (fun x => decide (s.1 < x.2)) l) := flatMap_same fun x hx => by
    have := below_fst _ l x hx
    exact parts_out hs (h.pr x (List.mem_of_mem_take hx)) (.inl (by simpa using this))
  have e2 : (l.drop (fstP (fun x => decide (s.2 ≤ x.1)) l)).flatMap (partsS s) = l.drop (fstP (fun x => decide (s.2 ≤ x.1)) l) := flatMap_same fun x hx => by
    have := above_fst (fun x => decide (s.2 ≤ x.1)) (h.rises.imp fun {a b} hab hp => by simp at hp ⊢; omega) x hx
    exact parts_out hs (h.pr x (List.mem_of_mem_drop hx)) (.inr (by simpa using this))
  unfold remP remL
  dsimp only
  conv => rhs; rw [cut3 l hlh]
  rw [List.flatMap_append, List.flatMap_append, e1, e2]

/-! The reference's adding. -/
def allR (l : List (Int × Int)) (s : Int × Int) : Int × Int := l.foldl (fun all x => if touchS x s = true then hullS [all, x] else all) s
def outR (all : Int × Int) (st : List (Int × Int) × Bool) (x : Int × Int) : List (Int × Int) × Bool :=
  if touchS x all = true then st else if st.2 = false ∧ all.1 < x.1 then (st.1 ++ [all, x], true) else (st.1 ++ [x], st.2)
def withR (l : List (Int × Int)) (s : Int × Int) : List (Int × Int) :=
  if lenS s = 0 then l else
  let all := allR l s
  let r := l.foldl (outR all) ([], false)
  if r.2 = true then r.1 else r.1 ++ [all]
theorem touch_pr {x y : Int × Int} (hx : PrS x) (hy : PrS y) : touchS x y = true ↔ x.1 ≤ y.2 ∧ y.1 ≤ x.2 := by
  have a := hx.len
  have b := hy.len
  have := hx.2.1
  have := hy.2.1
  unfold touchS
  rw [hx.plain, hy.plain]
  simp
  omega
theorem hull_two {x y : Int × Int} (hx : PrS x) (hy : PrS y) : hullS [x, y] = (min x.1 y.1, max x.2 y.2) := by
  have a := hx.len
  have b := hy.len
  have := hx.2.1
  have := hy.2.1
  unfold hullS
  simp only [List.foldl_cons, List.foldl_nil]
  rw [if_neg (show lenS x ≠ 0 by omega), if_pos (show lenS (0, 0) = 0 by decide), if_neg (show lenS y ≠ 0 by omega), if_neg (show lenS x ≠ 0 by omega)]
/-- What the fold comes to: the least span around s and all that touch it. -/
theorem all_is {s : Int × Int} (hs : PrS s) (l : List (Int × Int)) (h : ∀ x ∈ l, PrS x) : PrS (allR l s) ∧ ((allR l s).1 ≤ s.1 ∧ s.2 ≤ (allR l s).2) ∧ (∀ x ∈ l, touchS x s = true → (allR l s).1 ≤ x.1 ∧ x.2 ≤ (allR l s).2) ∧
    ((allR l s).1 = s.1 ∨ ∃ x ∈ l, touchS x s = true ∧ x.1 = (allR l s).1) ∧ ((allR l s).2 = s.2 ∨ ∃ x ∈ l, touchS x s = true ∧ x.2 = (allR l s).2) := by
  revert h
  refine snoc_ind (P := fun l => (∀ x ∈ l, PrS x) → PrS (allR l s) ∧ ((allR l s).1 ≤ s.1 ∧ s.2 ≤ (allR l s).2) ∧ (∀ x ∈ l, touchS x s = true → (allR l s).1 ≤ x.1 ∧ x.2 ≤ (allR l s).2) ∧
    ((allR l s).1 = s.1 ∨ ∃ x ∈ l, touchS x s = true ∧ x.1 = (allR l s).1) ∧ ((allR l s).2 = s.2 ∨ ∃ x ∈ l, touchS x s = true ∧ x.2 = (allR l s).2)) ?_ ?_ l
  · intro _
    exact ⟨hs, ⟨Int.le_refl _, Int.le_refl _⟩, fun x hx => (by cases hx), .inl rfl, .inl rfl⟩
  · intro l y ih h
    obtain ⟨p, ⟨g1, g2⟩, q, a, b⟩ := ih fun x hx => h x (List.mem_append_left _ hx)
    have py := h y (by simp)
    have e : allR (l ++ [y]) s = if touchS y s = true then hullS [allR l s, y] else allR l s := by
      unfold allR; rw [List.foldl_append]; rfl
    rw [e]
    generalize allR l s = g at *
    by_cases ht : touchS y s = true
    · rw [if_pos ht, hull_two p py]
      obtain ⟨p0, p1, p2⟩ := p
      obtain ⟨y0, y1, y2⟩ := py
      refine ⟨⟨by dsimp only; omega, by dsimp only; omega, by dsimp only; omega⟩, ⟨by dsimp only; omega, by dsimp only; omega⟩, fun x hx hxt => ?_, ?_, ?_⟩
      · rcases List.mem_append.1 hx with hx | hx
        · have := q x hx hxt; dsimp only; omega
        · simp at hx; subst hx; dsimp only; omega
      · rcases Int.le_total g.1 y.1 with k | k
        · rcases a with a | ⟨x, hx, hxt, a⟩
          · exact .inl (by dsimp only; omega)
          · exact .inr ⟨x, List.mem_append_left _ hx, hxt, by dsimp only; omega⟩
        · exact .inr ⟨y, by simp, ht, by dsimp only; omega⟩
      · rcases Int.le_total g.2 y.2 with k | k
        · exact .inr ⟨y, by simp, ht, by dsimp only; omega⟩
        · rcases b with b | ⟨x, hx, hxt, b⟩
          · exact .inl (by dsimp only; omega)
          · exact .inr ⟨x, List.mem_append_left _ hx, hxt, by dsimp only; omega⟩
    · rw [if_neg ht]
      refine ⟨p, ⟨g1, g2⟩, fun x hx hxt => ?_, ?_, ?_⟩
      · rcases List.mem_append.1 hx with hx | hx
        · exact q x hx hxt
        · simp at hx; subst hx; exact absurd hxt ht
      · rcases a with a | ⟨x, hx, hxt, a⟩
        · exact .inl a
        · exact .inr ⟨x, List.mem_append_left _ hx, hxt, a⟩
      · rcases b with b | ⟨x, hx, hxt, b⟩
        · exact .inl b
        · exact .inr ⟨x, List.mem_append_left _ hx, hxt, b⟩
theorem out_left {all : Int × Int} : ∀ (a : List (Int × Int)) (o : List (Int × Int)), (∀ x ∈ a, touchS x all = false ∧ ¬ all.1 < x.1) → a.foldl (outR all) (o, false) = (o ++ a, false)
  | [], o, _ => by simp
  | x :: a, o, h => by
    obtain ⟨h1, h2⟩ := h x List.mem_cons_self
    rw [List.foldl_cons]
    have e : outR all (o, false) x = (o ++ [x], false) := by unfold outR; rw [if_neg (by simp [h1]), if_neg (by simp [h2])]
    rw [e, out_left a _ fun y hy => h y (List.mem_cons_of_mem _ hy)]
    simp
theorem out_mid {all : Int × Int} : ∀ (b : List (Int × Int)) (st : List (Int × Int) × Bool), (∀ x ∈ b, touchS x all = true) → b.foldl (outR all) st = st
  | [], st, _ => rfl
  | x :: b, st, h => by
    rw [List.foldl_cons]
    have e : outR all st x = st := by unfold outR; rw [if_pos (h x List.mem_cons_self)]
    rw [e, out_mid b _ fun y hy => h y (List.mem_cons_of_mem _ hy)]
theorem out_put {all : Int × Int} : ∀ (c : List (Int × Int)) (o : List (Int × Int)), (∀ x ∈ c, touchS x all = false) → c.foldl (outR all) (o, true) = (o ++ c, true)
  | [], o, _ => by simp
  | x :: c, o, h => by
    rw [List.foldl_cons]
    have e : outR all (o, true) x = (o ++ [x], true) := by unfold outR; rw [if_neg (by simp [h x List.mem_cons_self]), if_neg (by simp)]
    rw [e, out_put c _ fun y hy => h y (List.mem_cons_of_mem _ hy)]
    simp
theorem out_right {all : Int × Int} (c o : List (Int × Int)) (h : ∀ x ∈ c, touchS x all = false ∧ all.1 < x.1) : (if (c.foldl (outR all) (o, false)).2 = true then (c.foldl (outR all) (o, false)).1 else (c.foldl (outR all) (o, false)).1 ++ [all]) = o ++ all :: c := by
  cases c with
  | nil => simp
  | cons x c =>
    obtain ⟨h1, h2⟩ := h x List.mem_cons_self
    have e : outR all (o, false) x = (o ++ [all, x], true) := by unfold outR; rw [if_neg (by simp [h1]), if_pos (by simp [h2])]
    rw [List.foldl_cons, e, out_put c _ fun y hy => (h y (List.mem_cons_of_mem _ hy)).1]
    simp
theorem with_eq {l : List (Int × Int)} (h : OkL l) {s : Int × Int} (hs : PrS s) : withR l s = addL l s := by
  obtain ⟨a, b, c, e, ea, ha, hb, hc⟩ := add_parts h hs
  have hl : lenS s ≠ 0 := by rw [hs.len]; have := hs.2.1; omega
  obtain ⟨p, ⟨g1, g2⟩, q, k1, k2⟩ := all_is hs l h.pr
  have hs1 := hs.2.1
  have pr := h.pr
  rw [e] at h
  obtain ⟨oa, obc, hab⟩ := okL_append.1 h
  obtain ⟨ob, oc, hbc⟩ := okL_append.1 obc
  obtain ⟨r1, r2, ⟨x1, hx1, ex1⟩, x2, hx2, ex2⟩ := hull_is (b ++ [s]) (fun x hx => by
    rcases List.mem_append.1 hx with hx | hx
    · exact ob.pr x hx
    · simp at hx; subst hx; exact hs) (by simp)
  have inl : ∀ x ∈ l, touchS x s = true → x ∈ b := fun x hx ht => by
    have ht2 := (touch_pr (pr x hx) hs).1 ht
    rw [e] at hx
    rcases List.mem_append.1 hx with hx | hx
    · have := ha x hx; omega
    · rcases List.mem_append.1 hx with hx | hx
      · exact hx
      · have := hc x hx; omega
  have inb : ∀ x ∈ b, x ∈ l ∧ touchS x s = true := fun x hx => by
    have hxl : x ∈ l := by rw [e]; exact List.mem_append_right _ (List.mem_append_left _ hx)
    have := hb x hx
    exact ⟨hxl, (touch_pr (pr x hxl) hs).2 ⟨this.2, this.1⟩⟩
  have eg : allR l s = hullS (b ++ [s]) := by
    refine Prod.ext ?_ ?_
    · have s1 := r2 s (by simp)
      have u1 : (hullS (b ++ [s])).1 ≤ (allR l s).1 := by
        rcases k1 with k1 | ⟨x, hx, hxt, k1⟩
        · omega
        · have := r2 x (List.mem_append_left _ (inl x hx hxt)); omega
      have u2 : (allR l s).1 ≤ (hullS (b ++ [s])).1 := by
        rcases List.mem_append.1 hx1 with hx1 | hx1
        · have := q x1 (inb x1 hx1).1 (inb x1 hx1).2; omega
        · simp at hx1; subst hx1; omega
      omega
    · have s1 := r2 s (by simp)
      have u1 : (allR l s).2 ≤ (hullS (b ++ [s])).2 := by
        rcases k2 with k2 | ⟨x, hx, hxt, k2⟩
        · omega
        · have := r2 x (List.mem_append_left _ (inl x hx hxt)); omega
      have u2 : (hullS (b ++ [s])).2 ≤ (allR l s).2 := by
        rcases List.mem_append.1 hx2 with hx2 | hx2
        · have := q x2 (inb x2 hx2).1 (inb x2 hx2).2; omega
        · simp at hx2; subst hx2; omega
      omega
  have near : ∀ x : Int × Int, PrS x → (touchS x (hullS (b ++ [s])) = true ↔ x.1 ≤ (hullS (b ++ [s])).2 ∧ (hullS (b ++ [s])).1 ≤ x.2) := fun x hx => touch_pr hx r1
  unfold withR
  rw [if_neg hl]
  dsimp only
  rw [eg, ea]
  generalize hullS (b ++ [s]) = g at *
  have gs := r2 s (by simp)
  have ga : ∀ x ∈ a, x.2 < g.1 := fun x hx => by
    rcases List.mem_append.1 hx1 with hx1 | hx1
    · have := hab x hx x1 (List.mem_append_left _ hx1); omega
    · simp at hx1; subst hx1; have := ha x hx; omega
  have gc : ∀ x ∈ c, g.2 < x.1 := fun x hx => by
    rcases List.mem_append.1 hx2 with hx2 | hx2
    · have := hbc x2 hx2 x hx; omega
    · simp at hx2; subst hx2; have := hc x hx; omega
  have f1 : ∀ x ∈ a, touchS x g = false ∧ ¬ g.1 < x.1 := fun x hx => by
    have h1 := ga x hx
    have h2 := (oa.pr x hx).2.1
    refine ⟨?_, by omega⟩
    cases ht : touchS x g with
    | false => rfl
    | true => have := (near x (oa.pr x hx)).1 ht; omega
  have f2 : ∀ x ∈ b, touchS x g = true := fun x hx => by
    have := r2 x (List.mem_append_left _ hx)
    have h2 := (ob.pr x hx).2.1
    exact (near x (ob.pr x hx)).2 ⟨by omega, by omega⟩
  have f3 : ∀ x ∈ c, touchS x g = false ∧ g.1 < x.1 := fun x hx => by
    have h1 := gc x hx
    have h2 := r1.2.1
    refine ⟨?_, by omega⟩
    cases ht : touchS x g with
    | false => rfl
    | true => have := (near x (oc.pr x hx)).1 ht; omega
  have e4 : l.foldl (outR g) ([], false) = c.foldl (outR g) (a, false) := by
    rw [e, List.foldl_append, out_left a [] f1, List.foldl_append, out_mid b _ f2, List.nil_append]
  rw [e4]
  exact out_right c a f3
end Go.Und
namespace Go.Und

/-! Counting. -/
def cntP (p : Int → Bool) : Nat → Int
  | 0 => 0
  | n + 1 => cntP p n + if p n = true then 1 else 0
theorem cnt_congr {p q : Int → Bool} : ∀ (n : Nat), (∀ o : Int, p o = q o) → cntP p n = cntP q n
  | 0, _ => rfl
  | n + 1, h => by unfold cntP; rw [cnt_congr n h, h]
theorem cnt_none : ∀ (n : Nat), cntP (fun _ => false) n = 0
  | 0 => rfl
  | n + 1 => by unfold cntP; rw [cnt_none n]; simp
theorem cnt_or {p q : Int → Bool} : ∀ (n : Nat), cntP (fun o => p o || q o) n + cntP (fun o => p o && q o) n = cntP p n + cntP q n
  | 0 => rfl
  | n + 1 => by
    have ih := cnt_or (p := p) (q := q) n
    unfold cntP
    cases hp : p n <;> cases hq : q n <;> simp <;> omega
theorem cnt_split {p q : Int → Bool} : ∀ (n : Nat), cntP p n = cntP (fun o => p o && q o) n + cntP (fun o => p o && !q o) n
  | 0 => rfl
  | n + 1 => by
    have ih := cnt_split (p := p) (q := q) n
    unfold cntP
    cases hp : p n <;> cases hq : q n <;> simp <;> omega
theorem cnt_span (a b : Int) (h0 : 0 ≤ a) (hab : a ≤ b) : ∀ (n : Nat), cntP (fun o => decide (a ≤ o) && decide (o < b)) n = min b n - min a n
  | 0 => by unfold cntP; omega
  | n + 1 => by
    have ih := cnt_span a b h0 hab n
    unfold cntP
    rw [ih]
    by_cases h1 : a ≤ (n : Int) <;> by_cases h2 : (n : Int) < b <;> simp [h1, h2] <;> omega
def memB (l : List (Int × Int)) (o : Int) : Bool := l.any fun x => decide (x.1 ≤ o) && decide (o < x.2)
theorem memB_iff (l : List (Int × Int)) (o : Int) : memB l o = true ↔ memL l o := by
  unfold memB memL
  simp
def inB (s : Int × Int) (o : Int) : Bool := decide (inS s o)
def bytesL (l : List (Int × Int)) : Int := (l.map lenS).sum
theorem len_cnt (s : Int × Int) {n : Nat} (hn : 4611686018427387904 ≤ (n : Int)) : lenS s = cntP (inB s) n := by
  have h := plainS_bounds s
  have e : cntP (inB s) n = cntP (fun o => decide ((plainS s).1 ≤ o) && decide (o < (plainS s).2)) n := cnt_congr n fun o => by
    rw [Bool.eq_iff_iff]; unfold inB; rw [decide_eq_true_eq, Bool.and_eq_true, decide_eq_true_eq, decide_eq_true_eq]; exact Iff.rfl
  rw [e, cnt_span _ _ h.1 h.2.1]
  unfold lenS
  omega
theorem bytes_cnt {n : Nat} (hn : 4611686018427387904 ≤ (n : Int)) : ∀ {l : List (Int × Int)}, OkL l → bytesL l = cntP (memB l) n
  | [], _ => (cnt_none n).symm
  | x :: l, h => by
    obtain ⟨h1, h2, h3⟩ := h
    have ih := bytes_cnt hn h3
    have e1 : bytesL (x :: l) = lenS x + bytesL l := by simp [bytesL]
    have e2 : cntP (memB (x :: l)) n = cntP (fun o => inB x o || memB l o) n := cnt_congr n fun o => by
      rw [Bool.eq_iff_iff, Bool.or_eq_true, memB_iff, memB_iff, memL_cons]
      unfold inB
      rw [decide_eq_true_eq, inS_pr h1]
    have e3 : cntP (fun o => inB x o && memB l o) n = 0 := by
      rw [← cnt_none n]
      refine cnt_congr n fun o => ?_
      rw [Bool.eq_false_iff]
      intro hh
      rw [Bool.and_eq_true, memB_iff] at hh
      obtain ⟨ha, z, hz, hz1, _⟩ := hh
      unfold inB at ha
      rw [decide_eq_true_eq, inS_pr h1] at ha
      have := h2 z hz
      omega
    have e4 := cnt_or (p := inB x) (q := memB l) n
    have e5 := len_cnt x hn
    omega
def withinL (l : List (Int × Int)) (s : Int × Int) : Int := (l.map fun x => lenS (meetS x s)).sum
theorem within_cnt {n : Nat} (hn : 4611686018427387904 ≤ (n : Int)) (s : Int × Int) : ∀ {l : List (Int × Int)}, OkL l → withinL l s = cntP (fun o => memB l o && inB s o) n
  | [], _ => (cnt_none n).symm
  | x :: l, h => by
    obtain ⟨h1, h2, h3⟩ := h
    have ih := within_cnt hn s h3
    have e1 : withinL (x :: l) s = lenS (meetS x s) + withinL l s := by simp [withinL]
    have e2 : cntP (fun o => memB (x :: l) o && inB s o) n = cntP (fun o => inB (meetS x s) o || (memB l o && inB s o)) n := cnt_congr n fun o => by
      rw [Bool.eq_iff_iff, Bool.or_eq_true, Bool.and_eq_true, Bool.and_eq_true, memB_iff, memB_iff, memL_cons]
      unfold inB
      rw [decide_eq_true_eq, decide_eq_true_eq, in_meet, inS_pr h1]
      constructor
      · rintro ⟨h | h, h'⟩
        · exact .inl ⟨h, h'⟩
        · exact .inr ⟨h, h'⟩
      · rintro (h | h)
        · exact ⟨.inl h.1, h.2⟩
        · exact ⟨.inr h.1, h.2⟩
    have e3 : cntP (fun o => inB (meetS x s) o && (memB l o && inB s o)) n = 0 := by
      rw [← cnt_none n]
      refine cnt_congr n fun o => ?_
      rw [Bool.eq_false_iff]
      intro hh
      rw [Bool.and_eq_true, Bool.and_eq_true, memB_iff] at hh
      obtain ⟨ha, ⟨z, hz, hz1, _⟩, _⟩ := hh
      unfold inB at ha
      rw [decide_eq_true_eq, in_meet, inS_pr h1] at ha
      have := h2 z hz
      omega
    have e4 := cnt_or (p := inB (meetS x s)) (q := fun o => memB l o && inB s o) n
    have e5 := len_cnt (meetS x s) hn
    omega
theorem enough : ∃ n : Nat, 4611686018427387904 ≤ (n : Int) := ⟨4611686018427387904, by decide⟩
theorem add_bytes {l : List (Int × Int)} (h : OkL l) {s : Int × Int} (hs : PrS s) : bytesL (addL l s) = bytesL l + (lenS s - withinL l s) := by
  obtain ⟨n, hn⟩ := enough
  obtain ⟨o1, o2⟩ := add_ok h hs
  have e1 := bytes_cnt hn o1
  have e2 := bytes_cnt hn h
  have e3 := len_cnt s hn
  have e4 := within_cnt hn s h
  have e5 : cntP (memB (addL l s)) n = cntP (fun o => memB l o || inB s o) n := cnt_congr n fun o => by
    rw [Bool.eq_iff_iff, Bool.or_eq_true, memB_iff, memB_iff, o2]
    unfold inB
    rw [decide_eq_true_eq, inS_pr hs]
  have e6 := cnt_or (p := memB l) (q := inB s) n
  omega
theorem rem_bytes {l : List (Int × Int)} (h : OkL l) {s : Int × Int} (hs : PrS s) : bytesL (remL l s) = bytesL l - withinL l s := by
  obtain ⟨n, hn⟩ := enough
  obtain ⟨o1, o2, _⟩ := rem_ok hs.2.1 h
  have e1 := bytes_cnt hn o1
  have e2 := bytes_cnt hn h
  have e4 := within_cnt hn s h
  have e5 : cntP (memB (remL l s)) n = cntP (fun o => memB l o && !inB s o) n := cnt_congr n fun o => by
    rw [Bool.eq_iff_iff, Bool.and_eq_true, memB_iff, memB_iff, o2]
    unfold inB
    rw [Bool.not_eq_true', decide_eq_false_iff_not, inS_pr hs]
  have e6 := cnt_split (p := memB l) (q := inB s) n
  omega
theorem within_bounds {l : List (Int × Int)} (h : OkL l) (s : Int × Int) : 0 ≤ withinL l s ∧ withinL l s ≤ lenS s := by
  obtain ⟨n, hn⟩ := enough
  have e1 := len_cnt s hn
  have e2 := within_cnt hn s h
  have mono : ∀ (p q : Int → Bool) (n : Nat), (∀ o, p o = true → q o = true) → 0 ≤ cntP p n ∧ cntP p n ≤ cntP q n := by
    intro p q n hpq
    induction n with
    | zero => exact ⟨Int.le_refl _, Int.le_refl _⟩
    | succ n ih =>
      unfold cntP
      have := hpq n
      cases hp : p n <;> cases hq : q n <;> simp_all <;> omega
  have := mono (fun o => memB l o && inB s o) (inB s) n fun o h => (Bool.and_eq_true _ _ ▸ h).2
  omega
theorem bytes_bounds {l : List (Int × Int)} (h : OkL l) : 0 ≤ bytesL l ∧ bytesL l ≤ 4611686018427387904 := by
  have e : ∀ {l : List (Int × Int)}, OkL l → ∀ b : Int, (∀ x ∈ l, b ≤ x.1) → b ≤ 4611686018427387904 → 0 ≤ bytesL l ∧ bytesL l ≤ 4611686018427387904 - b := by
    intro l
    induction l with
    | nil => intro _ b _ hb; simp [bytesL]; omega
    | cons x l ih =>
      intro h b hb h2
      have h3 := hb x List.mem_cons_self
      have := ih h.2.2 x.2 (fun y hy => by have := h.2.1 y hy; omega) h.1.2.2
      have e1 : bytesL (x :: l) = lenS x + bytesL l := by simp [bytesL]
      have e2 := h.1.len
      have := h.1.2.1
      omega
  have := e h 0 (fun x hx => (h.pr x hx).1) (by decide)
  omega
/-- What of the first so many is within a span. -/
theorem within_snoc (l : List (Int × Int)) (x s : Int × Int) : withinL (l ++ [x]) s = withinL l s + lenS (meetS x s) := by simp [withinL]
theorem bytes_snoc (l : List (Int × Int)) (x : Int × Int) : bytesL (l ++ [x]) = bytesL l + lenS x := by simp [bytesL]

/-! What is asked. -/
/-- The run that has an offset, as the reference finds it. -/
def runL (l : List (Int × Int)) (o : Int) : Int × Int := ((l.find? fun x => inB x o).getD (0, 0))
def nextL (l : List (Int × Int)) (o : Int) : Int × Int := (((l.map fun x => fromS x o).find? fun x => decide (lenS x ≠ 0)).getD (0, 0))
theorem find_of_place {p : Int × Int → Bool} : ∀ {l : List (Int × Int)} {i : Nat} {x : Int × Int}, l[i]? = some x → p x = true → (∀ y ∈ l.take i, p y = false) → l.find? p = some x
  | [], _, _, h, _, _ => by simp at h
  | y :: l, 0, x, h, hp, _ => by
    obtain rfl : y = x := by simpa using h
    rw [List.find?_cons, hp]
  | y :: l, i + 1, x, h, hp, hn => by
    rw [List.find?_cons, hn y (by simp)]
    exact find_of_place (by simpa using h) hp fun z hz => hn z (by rw [List.take_succ_cons]; exact List.mem_cons_of_mem _ hz)
theorem find_none {p : Int × Int → Bool} {l : List (Int × Int)} (h : ∀ x ∈ l, p x = false) : l.find? p = none := by
  rw [List.find?_eq_none]
  intro x hx hp
  rw [h x hx] at hp
  cases hp
/-- The program's way: the first run that ends above. -/
def atL (l : List (Int × Int)) (o : Int) : Nat := fstP (fun x => decide (o < x.2)) l
theorem at_split {l : List (Int × Int)} (h : OkL l) (o : Int) : (∀ x ∈ l.take (atL l o), x.2 ≤ o) ∧ ∀ x ∈ l.drop (atL l o), o < x.2 := by
  refine ⟨fun x hx => ?_, fun x hx => ?_⟩
  · have := below_fst _ l x hx; simpa using this
  · have := above_fst (fun x => decide (o < x.2)) (h.rises.imp fun {a b} hab hp => by simp at hp ⊢; omega) x hx; simpa using this
theorem run_at {l : List (Int × Int)} (h : OkL l) (o : Int) {x : Int × Int} (hx : l[atL l o]? = some x) (hin : x.1 ≤ o) : runL l o = x ∧ memL l o := by
  obtain ⟨h1, h2⟩ := at_split h o
  have hm := List.mem_of_getElem? hx
  have px := h.pr x hm
  have hlt : o < x.2 := h2 x (List.mem_drop_iff_getElem.2 ⟨0, by have := (List.getElem?_eq_some_iff.1 hx).1; omega, by have := (List.getElem?_eq_some_iff.1 hx).2; simpa using this⟩)
  refine ⟨?_, x, hm, hin, hlt⟩
  unfold runL
  rw [find_of_place hx (by unfold inB; rw [decide_eq_true_eq, inS_pr px]; exact ⟨hin, hlt⟩) fun y hy => by
    unfold inB; rw [decide_eq_false_iff_not, inS_pr (h.pr y (List.mem_of_mem_take hy))]; have := h1 y hy; omega]
  rfl
theorem run_out {l : List (Int × Int)} (h : OkL l) (o : Int) (hx : ∀ x, l[atL l o]? = some x → o < x.1) : runL l o = (0, 0) ∧ ¬ memL l o := by
  obtain ⟨h1, h2⟩ := at_split h o
  have hno : ¬ memL l o := by
    rintro ⟨y, hy, hy1, hy2⟩
    rw [← List.take_append_drop (atL l o) l] at hy
    rcases List.mem_append.1 hy with hy | hy
    · have := h1 y hy; omega
    · cases hd : l.drop (atL l o) with
      | nil => rw [hd] at hy; cases hy
      | cons z r =>
        have hz : l[atL l o]? = some z := by
          have := congrArg (fun k => k[0]?) hd
          simpa using this
        have h3 := hx z hz
        rw [hd] at hy
        rcases List.mem_cons.1 hy with rfl | hy
        · omega
        · have h4 : OkL (z :: r) := by
            have := h
            rw [← List.take_append_drop (atL l o) l, hd] at this
            exact (okL_append.1 this).2.1
          have := h4.2.1 y hy
          have := h4.1.2.1
          omega
  refine ⟨?_, hno⟩
  unfold runL
  rw [find_none fun x hx => by
    unfold inB; rw [decide_eq_false_iff_not, inS_pr (h.pr x hx)]; exact fun g => hno ⟨x, hx, g⟩]
  rfl
theorem run_cases {l : List (Int × Int)} (h : OkL l) (o : Int) : (memL l o ∧ runL l o ∈ l ∧ (runL l o).1 ≤ o ∧ o < (runL l o).2) ∨ (¬ memL l o ∧ runL l o = (0, 0)) := by
  by_cases hm : ∃ x, l[atL l o]? = some x ∧ x.1 ≤ o
  · obtain ⟨x, hx, h1⟩ := hm
    obtain ⟨e, hm⟩ := run_at h o hx h1
    have hlt : o < x.2 := (at_split h o).2 x (List.mem_drop_iff_getElem.2 ⟨0, by have := (List.getElem?_eq_some_iff.1 hx).1; omega, by have := (List.getElem?_eq_some_iff.1 hx).2; simpa using this⟩)
    rw [e]
    exact .inl ⟨hm, List.mem_of_getElem? hx, h1, hlt⟩
  · obtain ⟨e, hn⟩ := run_out h o fun x hx => by
      rcases Int.lt_or_le o x.1 with g | g
      · exact g
      · exact absurd ⟨x, hx, g⟩ hm
    exact .inr ⟨hn, e⟩
theorem from_none {x : Int × Int} (hx : PrS x) {o : Int} (h : x.2 ≤ o) : lenS (fromS x o) = 0 := by
  rcases Int.lt_trichotomy 0 (lenS (fromS x o)) with g | g | g
  · have p := lenS_ne (s := fromS x o) (by omega)
    have := (in_from x o (fromS x o).1).1 ((inS_pr p _).2 ⟨Int.le_refl _, p.2.1⟩)
    rw [inS_pr hx] at this
    omega
  · exact g.symm
  · have := (lenS_bounds (fromS x o)).1; omega
theorem from_some {x : Int × Int} (hx : PrS x) {o : Int} (h : o < x.2) : lenS (fromS x o) ≠ 0 := fun e => by
  have h1 := mt (in_from x o (max x.1 o)).2 (inS_zero e _)
  rw [inS_pr hx] at h1
  have := hx.2.1
  omega
theorem next_at {l : List (Int × Int)} (h : OkL l) (o : Int) {x : Int × Int} (hx : l[atL l o]? = some x) : nextL l o = fromS x o ∧ lenS (fromS x o) ≠ 0 := by
  obtain ⟨h1, h2⟩ := at_split h o
  have hlt : o < x.2 := h2 x (List.mem_drop_iff_getElem.2 ⟨0, by have := (List.getElem?_eq_some_iff.1 hx).1; omega, by have := (List.getElem?_eq_some_iff.1 hx).2; simpa using this⟩)
  have hl := from_some (h.pr x (List.mem_of_getElem? hx)) hlt
  refine ⟨?_, hl⟩
  unfold nextL
  rw [find_of_place (i := atL l o) (x := fromS x o) (by rw [List.getElem?_map, hx]; rfl) (by simpa using hl) fun y hy => by
    rw [← List.map_take] at hy
    obtain ⟨z, hz, rfl⟩ := List.mem_map.1 hy
    simpa using from_none (h.pr z (List.mem_of_mem_take hz)) (h1 z hz)]
  rfl
theorem next_out {l : List (Int × Int)} (h : OkL l) (o : Int) (hx : atL l o = l.length) : nextL l o = (0, 0) := by
  obtain ⟨h1, _⟩ := at_split h o
  unfold nextL
  rw [find_none fun y hy => by
    obtain ⟨z, hz, rfl⟩ := List.mem_map.1 hy
    simpa using from_none (h.pr z hz) (h1 z (by rw [hx, List.take_length]; exact hz))]
  rfl
/-- The next offset that is not in. -/
def gapL (l : List (Int × Int)) (k : Int) : Int :=
  let a := min (max k 0) 4611686018427387904
  if lenS (runL l a) = 0 then a else (runL l a).2
/-- What of a span is not in. -/
def gapsR (l : List (Int × Int)) (s : Int × Int) : List (Int × Int) := if lenS s = 0 then [] else l.foldl (fun out x => if lenS x = 0 then out else remL out x) [s]
theorem gapsR_ok {s : Int × Int} (hs : PrS s) (l : List (Int × Int)) (h : OkL l) : OkL (gapsR l s) ∧ ∀ o, memL (gapsR l s) o ↔ (s.1 ≤ o ∧ o < s.2) ∧ ¬ memL l o := by
  have hl : lenS s ≠ 0 := by rw [hs.len]; have := hs.2.1; omega
  unfold gapsR
  rw [if_neg hl]
  revert h
  refine snoc_ind (P := fun l => OkL l → OkL (l.foldl (fun out x => if lenS x = 0 then out else remL out x) [s]) ∧ ∀ o, memL (l.foldl (fun out x => if lenS x = 0 then out else remL out x) [s]) o ↔ (s.1 ≤ o ∧ o < s.2) ∧ ¬ memL l o) ?_ ?_ l
  · intro _
    refine ⟨⟨hs, fun y hy => (by cases hy), trivial⟩, fun o => ?_⟩
    show memL [s] o ↔ _
    rw [memL_cons]
    constructor
    · rintro (h | h)
      · exact ⟨h, memL_nil o⟩
      · exact absurd h (memL_nil o)
    · rintro ⟨h, _⟩; exact .inl h
  · intro l x ih h
    obtain ⟨ol, ox, _⟩ := okL_append.1 h
    obtain ⟨i1, i2⟩ := ih ol
    rw [List.foldl_append]
    show OkL (if lenS x = 0 then _ else remL _ x) ∧ ∀ o, memL (if lenS x = 0 then _ else remL _ x) o ↔ _
    rw [if_neg (by rw [ox.1.len]; have := ox.1.2.1; omega)]
    obtain ⟨r1, r2, _⟩ := rem_ok ox.1.2.1 i1
    refine ⟨r1, fun o => ?_⟩
    rw [r2, i2, memL_append, memL_cons]
    constructor
    · rintro ⟨⟨h1, h2⟩, h3⟩
      refine ⟨h1, ?_⟩
      rintro (h | h | h)
      · exact h2 h
      · exact h3 h
      · exact memL_nil o h
    · rintro ⟨h1, h2⟩
      exact ⟨⟨h1, fun h => h2 (.inl h)⟩, fun h => h2 (.inr (.inl h))⟩
/-- The program's gaps: from a place on, in front of the runs that are left. -/
def gapsP (b : Int) : List (Int × Int) → Int → List (Int × Int)
  | [], a => if a < b then [(a, b)] else []
  | x :: r, a => (if a < x.1 then [(a, x.1)] else []) ++ gapsP b r x.2
theorem gapsP_ok (b : Int) (hb : b ≤ 4611686018427387904) : ∀ (r : List (Int × Int)) (a : Int), 0 ≤ a → OkL r → (∀ x ∈ r, a ≤ x.1 ∧ x.2 ≤ b) → OkL (gapsP b r a) ∧ (∀ y ∈ gapsP b r a, a ≤ y.1) ∧ ∀ o, memL (gapsP b r a) o ↔ (a ≤ o ∧ o < b) ∧ ¬ memL r o
  | [], a, h0, _, _ => by
    unfold gapsP
    by_cases hab : a < b
    · rw [if_pos hab]
      refine ⟨⟨⟨h0, hab, hb⟩, fun y hy => (by cases hy), trivial⟩, fun y hy => (by simp at hy; subst hy; exact Int.le_refl _), fun o => ?_⟩
      rw [memL_cons]
      constructor
      · rintro (h | h)
        · exact ⟨h, memL_nil o⟩
        · exact absurd h (memL_nil o)
      · rintro ⟨h, _⟩; exact .inl h
    · rw [if_neg hab]
      exact ⟨trivial, fun y hy => (by cases hy), fun o => ⟨fun h => absurd h (memL_nil o), fun h => by omega⟩⟩
  | x :: r, a, h0, h, hin => by
    obtain ⟨h1, h2, h3⟩ := h
    have hx := hin x List.mem_cons_self
    have hx0 := h1.1
    have hx1 := h1.2.1
    obtain ⟨i1, i2, i3⟩ := gapsP_ok b hb r x.2 (by omega) h3 fun y hy => ⟨by have := h2 y hy; omega, (hin y (List.mem_cons_of_mem _ hy)).2⟩
    have far : ∀ y ∈ gapsP b r x.2, x.2 ≤ y.1 := i2
    have gap0 : ¬ memL (gapsP b r x.2) x.2 ∨ True := .inr trivial
    unfold gapsP
    by_cases hax : a < x.1
    · rw [if_pos hax]
      refine ⟨⟨⟨h0, hax, by have := h1.2.2; omega⟩, fun y hy => ?_, i1⟩, fun y hy => ?_, fun o => ?_⟩
      · have := far y hy; dsimp only; omega
      · rcases List.mem_cons.1 hy with rfl | hy
        · exact Int.le_refl _
        · have := far y hy; omega
      · rw [List.singleton_append, memL_cons, i3, memL_cons]
        dsimp only
        constructor
        · rintro (h | ⟨h, h'⟩)
          · refine ⟨by omega, ?_⟩
            rintro (g | ⟨z, hz, g, _⟩)
            · omega
            · have := h2 z hz; omega
          · refine ⟨by omega, ?_⟩
            rintro (g | g)
            · omega
            · exact h' g
        · rintro ⟨h, h'⟩
          rcases Int.lt_or_le o x.1 with g | g
          · exact .inl (by omega)
          · refine .inr ⟨⟨?_, h.2⟩, fun k => h' (.inr k)⟩
            rcases Int.lt_or_le o x.2 with k | k
            · exact absurd (.inl ⟨g, k⟩) h'
            · exact k
    · rw [if_neg hax, List.nil_append]
      refine ⟨i1, fun y hy => (by have := far y hy; omega), fun o => ?_⟩
      rw [i3, memL_cons]
      constructor
      · rintro ⟨h, h'⟩
        refine ⟨by omega, ?_⟩
        rintro (g | g)
        · omega
        · exact h' g
      · rintro ⟨h, h'⟩
        refine ⟨⟨?_, h.2⟩, fun k => h' (.inr k)⟩
        rcases Int.lt_or_le o x.2 with k | k
        · exact absurd (.inl ⟨by omega, k⟩) h'
        · exact k
end Go.Und
namespace Go.Und

def belowR (s : Int × Int) (o : Int) : Int × Int := if o < 0 then (0, 0) else meetS s (0, min o 4611686018427387904)
def fromR (s : Int × Int) (o : Int) : Int × Int := if 4611686018427387904 < o then (0, 0) else meetS s (max o 0, 4611686018427387904)
theorem belowR_eq (s : Int × Int) (o : Int) : belowR s o = belowS s o := by
  unfold belowR
  refine plain_ext ?_ (below_plain s o) fun k => ?_
  · split
    · exact plain_zero
    · exact meet_plain _ _
  · rw [in_below]
    split
    · constructor
      · intro h; exact absurd h (inS_zero (s := (0, 0)) (by decide) k)
      · rintro ⟨h, h'⟩; have := inS_range h; omega
    · rw [in_meet, inS_of (Int.le_refl _) (by omega)]
      constructor
      · rintro ⟨h, h'⟩; exact ⟨h, by omega⟩
      · rintro ⟨h, h'⟩; exact ⟨h, by have := inS_range h; omega⟩
theorem fromR_eq (s : Int × Int) (o : Int) : fromR s o = fromS s o := by
  unfold fromR
  refine plain_ext ?_ (from_plain s o) fun k => ?_
  · split
    · exact plain_zero
    · exact meet_plain _ _
  · rw [in_from]
    split
    · constructor
      · intro h; exact absurd h (inS_zero (s := (0, 0)) (by decide) k)
      · rintro ⟨h, h'⟩; have := inS_range h; omega
    · rw [in_meet, inS_of (by omega) (Int.le_refl _)]
      constructor
      · rintro ⟨h, h'⟩; exact ⟨h, by omega⟩
      · rintro ⟨h, h'⟩; exact ⟨h, by have := inS_range h; omega⟩
def touchR (s t : Int × Int) : Bool := if lenS s = 0 ∨ lenS t = 0 then false else decide (0 < lenS (meetS (plainS s) (plainS t))) || decide ((plainS s).2 = (plainS t).1) || decide ((plainS t).2 = (plainS s).1)
theorem touchR_eq (s t : Int × Int) : touchR s t = touchS s t := by
  unfold touchR
  by_cases h : lenS s = 0 ∨ lenS t = 0
  · rw [if_pos h]
    symm
    unfold touchS
    rcases h with h | h <;> simp [h]
  · rw [if_neg h]
    have p := lenS_ne (fun e => h (.inl e))
    have q := lenS_ne (fun e => h (.inr e))
    rw [Bool.eq_iff_iff, touch_pr p q, p.plain, q.plain]
    have hb := lenS_bounds (meetS s t)
    have hm : 0 < lenS (meetS s t) ↔ s.1 < t.2 ∧ t.1 < s.2 := by
      constructor
      · intro g
        have pm := lenS_ne (s := meetS s t) (by omega)
        have := (in_meet s t (meetS s t).1).1 ((inS_pr pm _).2 ⟨Int.le_refl _, pm.2.1⟩)
        rw [inS_pr p, inS_pr q] at this
        omega
      · intro g
        have : inS (meetS s t) (max s.1 t.1) := by
          rw [in_meet, inS_pr p, inS_pr q]
          have := p.2.1
          have := q.2.1
          omega
        rcases Int.lt_or_le 0 (lenS (meetS s t)) with k | k
        · exact k
        · exact absurd this (inS_zero (by omega) _)
    have := p.2.1
    have := q.2.1
    simp only [Bool.or_eq_true, decide_eq_true_eq, hm]
    omega
/-- A step of a play: what the document's set is then, how many offsets came or went. -/
def stepL (out : Bool) (l : List (Int × Int)) (s : Int × Int) : List (Int × Int) := if lenS s = 0 then l else if out = true then remL l s else addL l s
def stepN (out : Bool) (l : List (Int × Int)) (s : Int × Int) : Int := if lenS s = 0 then 0 else if out = true then withinL l s else lenS s - withinL l s
theorem step_ok (out : Bool) {l : List (Int × Int)} (h : OkL l) (s : Int × Int) : OkL (stepL out l s) ∧ ∀ o, memL (stepL out l s) o ↔ if out = true then memL l o ∧ ¬ inS s o else memL l o ∨ inS s o := by
  unfold stepL
  by_cases h0 : lenS s = 0
  · rw [if_pos h0]
    refine ⟨h, fun o => ?_⟩
    have := inS_zero h0 o
    split
    · exact ⟨fun h => ⟨h, this⟩, fun h => h.1⟩
    · exact ⟨fun h => .inl h, fun h => h.resolve_right this⟩
  · rw [if_neg h0]
    have p := lenS_ne h0
    cases out with
    | true =>
      obtain ⟨a, b, _⟩ := rem_ok p.2.1 h
      refine ⟨a, fun o => ?_⟩
      rw [if_pos rfl, if_pos rfl, b, inS_pr p]
    | false =>
      obtain ⟨a, b⟩ := add_ok h p
      refine ⟨a, fun o => ?_⟩
      rw [if_neg (by decide), if_neg (by decide), b, inS_pr p]
theorem step_bytes (out : Bool) {l : List (Int × Int)} (h : OkL l) (s : Int × Int) : stepN out l s = if out = true then bytesL l - bytesL (stepL out l s) else bytesL (stepL out l s) - bytesL l := by
  unfold stepN stepL
  by_cases h0 : lenS s = 0
  · simp [h0]
  · have p := lenS_ne h0
    rw [if_neg h0, if_neg h0]
    cases out with
    | true => have := rem_bytes h p; simp; omega
    | false => have := add_bytes h p; simp; omega
theorem hull_len_add {l : List (Int × Int)} (h : OkL l) {s : Int × Int} (hs : PrS s) : (addL l s).length ≤ l.length + 1 := by
  obtain ⟨a, b, c, e, e', _⟩ := add_parts h hs
  rw [e', e]
  simp
  omega
/-- Removing parts one run at most. -/
theorem rem_len {s : Int × Int} (hs : s.1 < s.2) : ∀ {l : List (Int × Int)}, OkL l → (remL l s).length ≤ l.length + 1
  | [], _ => by simp [remL]
  | x :: l, h => by
    obtain ⟨h1, h2, h3⟩ := h
    have e : remL (x :: l) s = partsS s x ++ remL l s := by simp [remL]
    rw [e, List.length_append, List.length_cons]
    by_cases hx : x.2 ≤ s.1 ∨ s.2 ≤ x.1
    · rw [parts_out hs h1 hx]
      have := rem_len hs h3
      simp; omega
    · -- those behind: at most one part each where x reaches beyond, else the ones below are gone
      have two : (partsS s x).length ≤ 2 := by
        unfold partsS; split <;> split <;> simp
      by_cases hr : s.2 < x.2
      · have e2 : remL l s = l := flatMap_same fun y hy => parts_out hs (h3.pr y hy) (.inr (by have := h2 y hy; omega))
        rw [e2]; omega
      · have one : (partsS s x).length ≤ 1 := by
          have : lenS (fromS x s.2) = 0 := from_none h1 (by omega)
          unfold partsS; rw [if_pos this]; split <;> simp
        have := rem_len hs h3
        omega
end Go.Und
