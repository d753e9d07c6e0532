/- Sets of offsets as lists of spans (plain): what is added, removed, asked. -/
import Derived.Test.YtmdkmclngblldaaSp0
set_option linter.unusedVariables false
set_option linter.unusedSimpArgs false
namespace Go.Und

/-- Rising, none empty, none touching the next one. -/
def OkL : List (Int × Int) → Prop
  | [] => True
  | x :: r => PrS x ∧ (∀ y ∈ r, x.2 < y.1) ∧ OkL r
def memL (l : List (Int × Int)) (o : Int) : Prop := ∃ x ∈ l, x.1 ≤ o ∧ o < x.2
theorem memL_nil (o : Int) : ¬ memL [] o := fun ⟨_, h, _⟩ => by cases h
theorem memL_cons (x : Int × Int) (r : List (Int × Int)) (o : Int) : memL (x :: r) o ↔ (x.1 ≤ o ∧ o < x.2) ∨ memL r o := by
  unfold memL; simp
theorem memL_append (a b : List (Int × Int)) (o : Int) : memL (a ++ b) o ↔ memL a o ∨ memL b o := by
  unfold memL
  simp only [List.mem_append]
  constructor
  · rintro ⟨x, h | h, h'⟩
    · exact .inl ⟨x, h, h'⟩
    · exact .inr ⟨x, h, h'⟩
  · rintro (⟨x, h, h'⟩ | ⟨x, h, h'⟩)
    · exact ⟨x, .inl h, h'⟩
    · exact ⟨x, .inr h, h'⟩
theorem OkL.pr : ∀ {l : List (Int × Int)}, OkL l → ∀ x ∈ l, PrS x
  | _ :: _, h, x, hx => by
    rcases List.mem_cons.1 hx with rfl | hx
    · exact h.1
    · exact OkL.pr h.2.2 x hx
theorem okL_append : ∀ {a b : List (Int × Int)}, OkL (a ++ b) ↔ OkL a ∧ OkL b ∧ ∀ x ∈ a, ∀ y ∈ b, x.2 < y.1
  | [], b => by simp [OkL]
  | x :: a, b => by
    simp only [List.cons_append, OkL, okL_append (a := a), List.mem_append, List.mem_cons]
    constructor
    · rintro ⟨h1, h2, h3, h4, h5⟩
      refine ⟨⟨h1, fun y hy => h2 y (.inl hy), h3⟩, h4, fun z hz y hy => ?_⟩
      rcases hz with rfl | hz
      · exact h2 y (.inr hy)
      · exact h5 z hz y hy
    · rintro ⟨⟨h1, h2, h3⟩, h4, h5⟩
      refine ⟨h1, fun y hy => ?_, h3, h4, fun z hz y hy => h5 z (.inr hz) y hy⟩
      rcases hy with hy | hy
      · exact h2 y hy
      · exact h5 x (.inl rfl) y hy
/-- A set is told by its offsets. -/
theorem ok_ext : ∀ {l m : List (Int × Int)}, OkL l → OkL m → (∀ o, memL l o ↔ memL m o) → l = m
  | [], [], _, _, _ => rfl
  | [], y :: m, _, hm, h => by
    exact absurd ((h y.1).2 ⟨y, List.mem_cons_self, Int.le_refl _, hm.1.2.1⟩) (memL_nil _)
  | x :: l, [], hl, _, h => by
    exact absurd ((h x.1).1 ⟨x, List.mem_cons_self, Int.le_refl _, hl.1.2.1⟩) (memL_nil _)
  | x :: l, y :: m, hl, hm, h => by
    obtain ⟨px, lx, ol⟩ := hl
    obtain ⟨py, ly, om⟩ := hm
    have px1 := px.2.1
    have py1 := py.2.1
    have low : ∀ {x : Int × Int} {l : List (Int × Int)}, PrS x → (∀ y ∈ l, x.2 < y.1) → ∀ o, memL (x :: l) o → x.1 ≤ o := fun px lx o ho => by
      rcases (memL_cons _ _ _).1 ho with h | ⟨z, hz, h1, _⟩
      · exact h.1
      · have := lx z hz; have := px.2.1; omega
    have e1 : x.1 = y.1 := by
      have a := low py ly x.1 ((h x.1).1 ⟨x, List.mem_cons_self, Int.le_refl _, px1⟩)
      have b := low px lx y.1 ((h y.1).2 ⟨y, List.mem_cons_self, Int.le_refl _, py1⟩)
      omega
    have gap : ∀ {x : Int × Int} {l : List (Int × Int)}, PrS x → (∀ y ∈ l, x.2 < y.1) → ¬ memL (x :: l) x.2 := fun px lx ho => by
      rcases (memL_cons _ _ _).1 ho with h | ⟨z, hz, h1, _⟩
      · omega
      · have := lx z hz; omega
    have e2 : x.2 = y.2 := by
      rcases Int.lt_trichotomy x.2 y.2 with g | g | g
      · exact absurd ((h x.2).2 ⟨y, List.mem_cons_self, by omega, g⟩) (gap px lx)
      · exact g
      · exact absurd ((h y.2).1 ⟨x, List.mem_cons_self, by omega, g⟩) (gap py ly)
    have far : ∀ {x : Int × Int} {l : List (Int × Int)}, (∀ y ∈ l, x.2 < y.1) → ∀ o, memL l o → x.2 < o := fun lx o ⟨z, hz, h1, _⟩ => by have := lx z hz; omega
    have et : l = m := ok_ext ol om fun o => by
      constructor
      · intro ho
        have := far lx o ho
        rcases (memL_cons _ _ _).1 ((h o).1 ((memL_cons _ _ _).2 (.inr ho))) with g | g
        · omega
        · exact g
      · intro ho
        have := far ly o ho
        rcases (memL_cons _ _ _).1 ((h o).2 ((memL_cons _ _ _).2 (.inr ho))) with g | g
        · omega
        · exact g
    rw [et, Prod.ext e1 e2]

/-! Places. -/
/-- The first place at which something holds. -/
def fstP (p : Int × Int → Bool) (l : List (Int × Int)) : Nat := (l.takeWhile fun x => !p x).length
theorem fstP_le (p : Int × Int → Bool) : ∀ l, fstP p l ≤ l.length
  | [] => Nat.le_refl _
  | x :: l => by
    have := fstP_le p l
    unfold fstP at *
    rw [List.takeWhile_cons]
    split <;> simp <;> omega
theorem take_fst (p : Int × Int → Bool) (l : List (Int × Int)) : l.take (fstP p l) = l.takeWhile fun x => !p x := by
  unfold fstP
  exact (List.prefix_iff_eq_take.1 (List.takeWhile_prefix _)).symm
theorem drop_fst (p : Int × Int → Bool) : ∀ l : List (Int × Int), l.drop (fstP p l) = l.dropWhile fun x => !p x
  | [] => rfl
  | x :: l => by
    have ih := drop_fst p l
    unfold fstP at *
    rw [List.takeWhile_cons, List.dropWhile_cons]
    split <;> simp [ih]
theorem below_fst (p : Int × Int → Bool) : ∀ (l : List (Int × Int)), ∀ x ∈ l.take (fstP p l), p x = false
  | [], x, hx => by simp at hx
  | y :: l, x, hx => by
    rw [take_fst, List.takeWhile_cons] at hx
    split at hx
    · rename_i hp
      rcases List.mem_cons.1 hx with rfl | hx
      · simpa using hp
      · rw [← take_fst] at hx; exact below_fst p l x hx
    · cases hx
/-- Behind it, it holds of all, if it does not cease to hold. -/
theorem above_fst (p : Int × Int → Bool) : ∀ {l : List (Int × Int)}, l.Pairwise (fun a b => p a = true → p b = true) → ∀ x ∈ l.drop (fstP p l), p x = true
  | [], _, x, hx => by simp [fstP] at hx
  | y :: l, hm, x, hx => by
    rw [drop_fst, List.dropWhile_cons] at hx
    obtain ⟨h1, h2⟩ := List.pairwise_cons.1 hm
    split at hx
    · rw [← drop_fst] at hx; exact above_fst p h2 x hx
    · rename_i hp
      have hy : p y = true := by simpa using hp
      rcases List.mem_cons.1 hx with rfl | hx
      · exact hy
      · exact h1 x hx hy
theorem OkL.rises : ∀ {l : List (Int × Int)}, OkL l → l.Pairwise fun a b => a.1 < b.1 ∧ a.2 < b.1 ∧ a.2 < b.2
  | [], _ => List.Pairwise.nil
  | x :: l, h => List.pairwise_cons.2 ⟨fun y hy => by
      have h1 := h.2.1 y hy
      have h2 := h.1.2.1
      have h3 := (OkL.pr h.2.2 y hy).2.1
      omega, OkL.rises h.2.2⟩

/-! Adding. -/
def addL (l : List (Int × Int)) (s : Int × Int) : List (Int × Int) :=
  let lo := fstP (fun x => decide (s.1 ≤ x.2)) l
  let hi := fstP (fun x => decide (s.2 < x.1)) l
  l.take lo ++ hullS ((l.take hi).drop lo ++ [s]) :: l.drop hi
theorem lo_hi (l : List (Int × Int)) (h : OkL l) (s : Int × Int) (hs : s.1 ≤ s.2) : fstP (fun x => decide (s.1 ≤ x.2)) l ≤ fstP (fun x => decide (s.2 < x.1)) l := by
  rcases Nat.lt_or_ge (fstP (fun x => decide (s.2 < x.1)) l) (fstP (fun x => decide (s.1 ≤ x.2)) l) with g | g
  · exfalso
    have hle := fstP_le (fun x => decide (s.1 ≤ x.2)) l
    have hlt : fstP (fun x => decide (s.2 < x.1)) l < l.length := by omega
    have h1 := below_fst (fun x => decide (s.1 ≤ x.2)) l (l[fstP (fun x => decide (s.2 < x.1)) l]) (List.mem_take_iff_getElem.2 ⟨_, by omega, rfl⟩)
    have h2 := above_fst (fun x => decide (s.2 < x.1)) (h.rises.imp fun {a b} hab hp => by simp at hp ⊢; omega) (l[fstP (fun x => decide (s.2 < x.1)) l]) (List.mem_drop_iff_getElem.2 ⟨0, by omega, by simp⟩)
    have h3 := (h.pr _ (List.getElem_mem hlt)).2.1
    simp at h1 h2
    omega
  · exact g
theorem cut3 {α : Type} (l : List α) {a b : Nat} (h : a ≤ b) : l = l.take a ++ ((l.take b).drop a ++ l.drop b) := by
  have : l.drop a = (l.take b).drop a ++ l.drop b := by
    conv => lhs; rw [← List.take_append_drop b l]
    rw [List.drop_append]
    by_cases hb : b ≤ l.length
    · rw [List.length_take, Nat.min_eq_left hb, Nat.sub_eq_zero_of_le h, List.drop_zero]
    · rw [List.drop_eq_nil_of_le (i := b) (by omega)]; simp
  rw [← this, List.take_append_drop]
theorem add_parts {l : List (Int × Int)} (h : OkL l) {s : Int × Int} (hs : PrS s) : ∃ a b c, l = a ++ (b ++ c) ∧ addL l s = a ++ hullS (b ++ [s]) :: c ∧ (∀ x ∈ a, x.2 < s.1) ∧ (∀ x ∈ b, s.1 ≤ x.2 ∧ x.1 ≤ s.2) ∧ (∀ x ∈ c, s.2 < x.1) := by
  have hlh := lo_hi l h s (by have := hs.2.1; omega)
  refine ⟨_, _, _, cut3 l hlh, rfl, fun x hx => ?_, fun x hx => ⟨?_, ?_⟩, fun x hx => ?_⟩
  · have := below_fst _ l x hx; simpa using this
  · have h2 := above_fst (fun x => decide (s.1 ≤ x.2)) (h.rises.imp fun {a b} hab hp => by simp at hp ⊢; omega) x (by
      rw [List.drop_take] at hx
      exact List.mem_of_mem_take hx)
    simpa using h2
  · have := below_fst (fun x => decide (s.2 < x.1)) l x (List.mem_of_mem_drop hx); simpa using this
  · have h2 := above_fst (fun x => decide (s.2 < x.1)) (h.rises.imp fun {a b} hab hp => by simp at hp ⊢; omega) x hx
    simpa using h2
theorem add_ok {l : List (Int × Int)} (h : OkL l) {s : Int × Int} (hs : PrS s) : OkL (addL l s) ∧ ∀ o, memL (addL l s) o ↔ memL l o ∨ (s.1 ≤ o ∧ o < s.2) := by
  obtain ⟨a, b, c, rfl, e, ha, hb, hc⟩ := add_parts h hs
  obtain ⟨oa, obc, hab⟩ := okL_append.1 h
  obtain ⟨ob, oc, hbc⟩ := okL_append.1 obc
  obtain ⟨g1, g2, ⟨x1, hx1, ex1⟩, x2, hx2, ex2⟩ := hull_is (b ++ [s]) (fun x hx => by
    rcases List.mem_append.1 hx with hx | hx
    · exact ob.pr x hx
    · simp at hx; subst hx; exact hs) (by simp)
  have hs1 := hs.2.1
  have gs := g2 s (by simp)
  rw [e]
  generalize hullS (b ++ [s]) = g at *
  refine ⟨okL_append.2 ⟨oa, ⟨g1, fun y hy => ?_, oc⟩, fun x hx y hy => ?_⟩, fun o => ?_⟩
  · rcases List.mem_append.1 hx2 with hx2 | hx2
    · have := hbc x2 hx2 y hy; omega
    · simp at hx2; subst hx2; have := hc y hy; omega
  · rcases List.mem_cons.1 hy with rfl | hy
    · rcases List.mem_append.1 hx1 with hx1 | hx1
      · have := hab x hx x1 (List.mem_append_left _ hx1); omega
      · simp at hx1; subst hx1; have := ha x hx; omega
    · exact hab x hx y (List.mem_append_right _ hy)
  · rw [memL_append, memL_cons, memL_append, memL_append]
    have mid : g.1 ≤ o ∧ o < g.2 ↔ memL b o ∨ (s.1 ≤ o ∧ o < s.2) := by
      constructor
      · rintro ⟨h1, h2⟩
        by_cases k1 : o < s.1
        · rcases List.mem_append.1 hx1 with hx1 | hx1
          · exact .inl ⟨x1, hx1, by omega, by have := hb x1 hx1; omega⟩
          · simp at hx1; subst hx1; omega
        · by_cases k2 : s.2 ≤ o
          · rcases List.mem_append.1 hx2 with hx2 | hx2
            · exact .inl ⟨x2, hx2, by have := hb x2 hx2; omega, by omega⟩
            · simp at hx2; subst hx2; omega
          · exact .inr (by omega)
      · rintro (⟨x, hx, h1, h2⟩ | ⟨h1, h2⟩)
        · have := g2 x (List.mem_append_left _ hx); omega
        · omega
    rw [mid]
    constructor
    · rintro (h | (h | h) | h)
      · exact .inl (.inl h)
      · exact .inl (.inr (.inl h))
      · exact .inr h
      · exact .inl (.inr (.inr h))
    · rintro ((h | h | h) | h)
      · exact .inl h
      · exact .inr (.inl (.inl h))
      · exact .inr (.inr h)
      · exact .inr (.inl (.inr h))
end Go.Und
