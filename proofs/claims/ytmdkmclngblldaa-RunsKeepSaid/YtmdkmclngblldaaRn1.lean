/- Sets of offsets as lists of spans (plain): removing; the reference's adding; counting. -/
import Derived.Test.YtmdkmclngblldaaRn0
set_option linter.unusedVariables false
set_option linter.unusedSimpArgs false
namespace Go.Und

/-! Removing. -/
/-- What of a span is not in another one. -/
def partsS (s x : Int × Int) : List (Int × Int) := (if lenS (belowS x s.1) = 0 then [] else [belowS x s.1]) ++ (if lenS (fromS x s.2) = 0 then [] else [fromS x s.2])
def remL (l : List (Int × Int)) (s : Int × Int) : List (Int × Int) := l.flatMap (partsS s)
theorem parts_ok (s : Int × Int) (hs : s.1 < s.2) {x : Int × Int} (hx : PrS x) : OkL (partsS s x) ∧ (∀ o, memL (partsS s x) o ↔ (x.1 ≤ o ∧ o < x.2) ∧ ¬ (s.1 ≤ o ∧ o < s.2)) ∧ ∀ y ∈ partsS s x, x.1 ≤ y.1 ∧ y.2 ≤ x.2 := by
  have hb : ∀ o, inS (belowS x s.1) o ↔ (x.1 ≤ o ∧ o < x.2) ∧ o < s.1 := fun o => by rw [in_below, inS_pr hx]
  have hf : ∀ o, inS (fromS x s.2) o ↔ (x.1 ≤ o ∧ o < x.2) ∧ s.2 ≤ o := fun o => by rw [in_from, inS_pr hx]
  have pb := below_plain x s.1
  have pf := from_plain x s.2
  unfold partsS
  have one : ∀ g : Int × Int, plainS g = g → lenS g ≠ 0 → PrS g ∧ ∀ o, inS g o ↔ g.1 ≤ o ∧ o < g.2 := fun g _ h => ⟨lenS_ne h, inS_pr (lenS_ne h)⟩
  by_cases h1 : lenS (belowS x s.1) = 0 <;> by_cases h2 : lenS (fromS x s.2) = 0
  · rw [if_pos h1, if_pos h2]
    refine ⟨trivial, fun o => ⟨fun h => absurd h (memL_nil o), fun ⟨h, h'⟩ => ?_⟩, fun y hy => by cases hy⟩
    have a1 := mt (hb o).2 (inS_zero h1 o)
    have a2 := mt (hf o).2 (inS_zero h2 o)
    omega
  · rw [if_pos h1, if_neg h2]
    obtain ⟨q1, q2⟩ := one _ pf h2
    have l1 := (hf (fromS x s.2).1).1 ((q2 _).2 ⟨Int.le_refl _, q1.2.1⟩)
    have l2 := (hf ((fromS x s.2).2 - 1)).1 ((q2 _).2 ⟨by have := q1.2.1; omega, by omega⟩)
    refine ⟨⟨q1, fun y hy => (by cases hy), trivial⟩, fun o => ?_, fun y hy => ?_⟩
    · have a1 := mt (hb o).2 (inS_zero h1 o)
      rw [List.nil_append, memL_cons, ← q2, hf]
      constructor
      · rintro (h | h)
        · exact ⟨h.1, by omega⟩
        · exact absurd h (memL_nil o)
      · rintro ⟨h, h'⟩; exact .inl ⟨h, by omega⟩
    · simp at hy; subst hy; omega
  · rw [if_neg h1, if_pos h2]
    obtain ⟨q1, q2⟩ := one _ pb h1
    have l1 := (hb (belowS x s.1).1).1 ((q2 _).2 ⟨Int.le_refl _, q1.2.1⟩)
    have l2 := (hb ((belowS x s.1).2 - 1)).1 ((q2 _).2 ⟨by have := q1.2.1; omega, by omega⟩)
    refine ⟨⟨q1, fun y hy => (by cases hy), trivial⟩, fun o => ?_, fun y hy => ?_⟩
    · have a1 := mt (hf o).2 (inS_zero h2 o)
      rw [List.append_nil, memL_cons, ← q2, hb]
      constructor
      · rintro (h | h)
        · exact ⟨h.1, by omega⟩
        · exact absurd h (memL_nil o)
      · rintro ⟨h, h'⟩; exact .inl ⟨h, by omega⟩
    · simp at hy; subst hy; omega
  · rw [if_neg h1, if_neg h2]
    obtain ⟨q1, q2⟩ := one _ pb h1
    obtain ⟨r1, r2⟩ := one _ pf h2
    have l1 := (hb (belowS x s.1).1).1 ((q2 _).2 ⟨Int.le_refl _, q1.2.1⟩)
    have l2 := (hb ((belowS x s.1).2 - 1)).1 ((q2 _).2 ⟨by have := q1.2.1; omega, by omega⟩)
    have m1 := (hf (fromS x s.2).1).1 ((r2 _).2 ⟨Int.le_refl _, r1.2.1⟩)
    have m2 := (hf ((fromS x s.2).2 - 1)).1 ((r2 _).2 ⟨by have := r1.2.1; omega, by omega⟩)
    have hlt : (belowS x s.1).2 < (fromS x s.2).1 := by omega
    refine ⟨⟨q1, fun y hy => (by simp at hy; subst hy; exact hlt), r1, fun y hy => (by cases hy), trivial⟩, fun o => ?_, fun y hy => ?_⟩
    · rw [List.singleton_append, memL_cons, memL_cons, ← q2, ← r2, hb, hf]
      constructor
      · rintro (h | h | h)
        · exact ⟨h.1, by omega⟩
        · exact ⟨h.1, by omega⟩
        · exact absurd h (memL_nil o)
      · rintro ⟨h, h'⟩
        rcases Int.lt_or_le o s.1 with g | g
        · exact .inl ⟨h, g⟩
        · exact .inr (.inl ⟨h, by omega⟩)
    · simp at hy; rcases hy with rfl | rfl <;> omega
theorem rem_ok {s : Int × Int} (hs : s.1 < s.2) : ∀ {l : List (Int × Int)}, OkL l → OkL (remL l s) ∧ (∀ o, memL (remL l s) o ↔ memL l o ∧ ¬ (s.1 ≤ o ∧ o < s.2)) ∧ ∀ y ∈ remL l s, ∃ x ∈ l, x.1 ≤ y.1 ∧ y.2 ≤ x.2
  | [], _ => ⟨trivial, fun o => ⟨fun h => absurd h (memL_nil o), fun h => absurd h.1 (memL_nil o)⟩, fun y hy => by cases hy⟩
  | x :: l, h => by
    obtain ⟨h1, h2, h3⟩ := h
    obtain ⟨i1, i2, i3⟩ := rem_ok hs h3
    obtain ⟨p1, p2, p3⟩ := parts_ok s hs h1
    have e : remL (x :: l) s = partsS s x ++ remL l s := by simp [remL]
    rw [e]
    refine ⟨okL_append.2 ⟨p1, i1, fun a ha b hb => ?_⟩, fun o => ?_, fun y hy => ?_⟩
    · obtain ⟨z, hz, hz1, hz2⟩ := i3 b hb
      have := h2 z hz
      have := p3 a ha
      omega
    · rw [memL_append, memL_cons, p2, i2]
      constructor
      · rintro (h | h)
        · exact ⟨.inl h.1, h.2⟩
        · exact ⟨.inr h.1, h.2⟩
      · rintro ⟨h | h, h'⟩
        · exact .inl ⟨h, h'⟩
        · exact .inr ⟨h, h'⟩
    · rcases List.mem_append.1 hy with hy | hy
      · exact ⟨x, List.mem_cons_self, p3 y hy⟩
      · obtain ⟨z, hz, hz'⟩ := i3 y hy
        exact ⟨z, List.mem_cons_of_mem _ hz, hz'⟩
theorem parts_out {s x : Int × Int} (hs : s.1 < s.2) (hx : PrS x) (h : x.2 ≤ s.1 ∨ s.2 ≤ x.1) : partsS s x = [x] := by
  obtain ⟨p1, p2, _⟩ := parts_ok s hs hx
  refine ok_ext p1 ⟨hx, fun y hy => (by cases hy), trivial⟩ fun o => ?_
  rw [p2, memL_cons]
  constructor
  · rintro ⟨h, _⟩; exact .inl h
  · rintro (h | h)
    · exact ⟨h, by omega⟩
    · exact absurd h (memL_nil o)
/-- What the program does: those that meet are parted, the others stay. -/
def remP (l : List (Int × Int)) (s : Int × Int) : List (Int × Int) :=
  let lo := fstP (fun x => decide (s.1 < x.2)) l
  let hi := fstP (fun x => decide (s.2 ≤ x.1)) l
  l.take lo ++ (((l.take hi).drop lo).flatMap (partsS s) ++ l.drop hi)
theorem lo_hi2 (l : List (Int × Int)) (h : OkL l) (s : Int × Int) (hs : s.1 ≤ s.2) : fstP (fun x => decide (s.1 < x.2)) l ≤ fstP (fun x => decide (s.2 ≤ x.1)) l := by
  rcases Nat.lt_or_ge (fstP (fun x => decide (s.2 ≤ x.1)) l) (fstP (fun x => decide (s.1 < x.2)) l) with g | g
  · exfalso
    have hle := fstP_le (fun x => decide (s.1 < x.2)) l
    have hlt : fstP (fun x => decide (s.2 ≤ x.1)) l < l.length := by omega
    have h1 := below_fst (fun x => decide (s.1 < x.2)) l (l[fstP (fun x => decide (s.2 ≤ x.1)) l]) (List.mem_take_iff_getElem.2 ⟨_, by omega, rfl⟩)
    have h2 := above_fst (fun x => decide (s.2 ≤ x.1)) (h.rises.imp fun {a b} hab hp => by simp at hp ⊢; omega) (l[fstP (fun x => decide (s.2 ≤ x.1)) l]) (List.mem_drop_iff_getElem.2 ⟨0, by omega, by simp⟩)
    have h3 := (h.pr _ (List.getElem_mem hlt)).2.1
    simp at h1 h2
    omega
  · exact g
theorem flatMap_same {f : Int × Int → List (Int × Int)} : ∀ {l : List (Int × Int)}, (∀ x ∈ l, f x = [x]) → l.flatMap f = l
  | [], _ => rfl
  | x :: l, h => by
    rw [List.flatMap_cons, h x List.mem_cons_self, flatMap_same fun y hy => h y (List.mem_cons_of_mem _ hy)]
    rfl
theorem remP_eq {l : List (Int × Int)} (h : OkL l) {s : Int × Int} (hs : s.1 < s.2) : remP l s = remL l s := by
  have hlh := lo_hi2 l h s (by omega)
  have e1 : (l.take (fstP (fun x => decide (s.1 < x.2)) l)).flatMap (partsS s) = l.take (fstP (fun x => decide (s.1 < x.2)) l) := flatMap_same fun x hx => by
    have := below_fst _ l x hx
    exact parts_out hs (h.pr x (List.mem_of_mem_take hx)) (.inl (by simpa using this))
  have e2 : (l.drop (fstP (fun x => decide (s.2 ≤ x.1)) l)).flatMap (partsS s) = l.drop (fstP (fun x => decide (s.2 ≤ x.1)) l) := flatMap_same fun x hx => by
    have := above_fst (fun x => decide (s.2 ≤ x.1)) (h.rises.imp fun {a b} hab hp => by simp at hp ⊢; omega) x hx
    exact parts_out hs (h.pr x (List.mem_of_mem_drop hx)) (.inr (by simpa using this))
  unfold remP remL
  dsimp only
  conv => rhs; rw [cut3 l hlh]
  rw [List.flatMap_append, List.flatMap_append, e1, e2]

/-! The reference's adding. -/
def allR (l : List (Int × Int)) (s : Int × Int) : Int × Int := l.foldl (fun all x => if touchS x s = true then hullS [all, x] else all) s
def outR (all : Int × Int) (st : List (Int × Int) × Bool) (x : Int × Int) : List (Int × Int) × Bool :=
  if touchS x all = true then st else if st.2 = false ∧ all.1 < x.1 then (st.1 ++ [all, x], true) else (st.1 ++ [x], st.2)
def withR (l : List (Int × Int)) (s : Int × Int) : List (Int × Int) :=
  if lenS s = 0 then l else
  let all := allR l s
  let r := l.foldl (outR all) ([], false)
  if r.2 = true then r.1 else r.1 ++ [all]
theorem touch_pr {x y : Int × Int} (hx : PrS x) (hy : PrS y) : touchS x y = true ↔ x.1 ≤ y.2 ∧ y.1 ≤ x.2 := by
  have a := hx.len
  have b := hy.len
  have := hx.2.1
  have := hy.2.1
  unfold touchS
  rw [hx.plain, hy.plain]
  simp
  omega
theorem hull_two {x y : Int × Int} (hx : PrS x) (hy : PrS y) : hullS [x, y] = (min x.1 y.1, max x.2 y.2) := by
  have a := hx.len
  have b := hy.len
  have := hx.2.1
  have := hy.2.1
  unfold hullS
  simp only [List.foldl_cons, List.foldl_nil]
  rw [if_neg (show lenS x ≠ 0 by omega), if_pos (show lenS (0, 0) = 0 by decide), if_neg (show lenS y ≠ 0 by omega), if_neg (show lenS x ≠ 0 by omega)]
/-- What the fold comes to: the least span around s and all that touch it. -/
theorem all_is {s : Int × Int} (hs : PrS s) (l : List (Int × Int)) (h : ∀ x ∈ l, PrS x) : PrS (allR l s) ∧ ((allR l s).1 ≤ s.1 ∧ s.2 ≤ (allR l s).2) ∧ (∀ x ∈ l, touchS x s = true → (allR l s).1 ≤ x.1 ∧ x.2 ≤ (allR l s).2) ∧
    ((allR l s).1 = s.1 ∨ ∃ x ∈ l, touchS x s = true ∧ x.1 = (allR l s).1) ∧ ((allR l s).2 = s.2 ∨ ∃ x ∈ l, touchS x s = true ∧ x.2 = (allR l s).2) := by
  revert h
  refine snoc_ind (P := fun l => (∀ x ∈ l, PrS x) → PrS (allR l s) ∧ ((allR l s).1 ≤ s.1 ∧ s.2 ≤ (allR l s).2) ∧ (∀ x ∈ l, touchS x s = true → (allR l s).1 ≤ x.1 ∧ x.2 ≤ (allR l s).2) ∧
    ((allR l s).1 = s.1 ∨ ∃ x ∈ l, touchS x s = true ∧ x.1 = (allR l s).1) ∧ ((allR l s).2 = s.2 ∨ ∃ x ∈ l, touchS x s = true ∧ x.2 = (allR l s).2)) ?_ ?_ l
  · intro _
    exact ⟨hs, ⟨Int.le_refl _, Int.le_refl _⟩, fun x hx => (by cases hx), .inl rfl, .inl rfl⟩
  · intro l y ih h
    obtain ⟨p, ⟨g1, g2⟩, q, a, b⟩ := ih fun x hx => h x (List.mem_append_left _ hx)
    have py := h y (by simp)
    have e : allR (l ++ [y]) s = if touchS y s = true then hullS [allR l s, y] else allR l s := by
      unfold allR; rw [List.foldl_append]; rfl
    rw [e]
    generalize allR l s = g at *
    by_cases ht : touchS y s = true
    · rw [if_pos ht, hull_two p py]
      obtain ⟨p0, p1, p2⟩ := p
      obtain ⟨y0, y1, y2⟩ := py
      refine ⟨⟨by dsimp only; omega, by dsimp only; omega, by dsimp only; omega⟩, ⟨by dsimp only; omega, by dsimp only; omega⟩, fun x hx hxt => ?_, ?_, ?_⟩
      · rcases List.mem_append.1 hx with hx | hx
        · have := q x hx hxt; dsimp only; omega
        · simp at hx; subst hx; dsimp only; omega
      · rcases Int.le_total g.1 y.1 with k | k
        · rcases a with a | ⟨x, hx, hxt, a⟩
          · exact .inl (by dsimp only; omega)
          · exact .inr ⟨x, List.mem_append_left _ hx, hxt, by dsimp only; omega⟩
        · exact .inr ⟨y, by simp, ht, by dsimp only; omega⟩
      · rcases Int.le_total g.2 y.2 with k | k
        · exact .inr ⟨y, by simp, ht, by dsimp only; omega⟩
        · rcases b with b | ⟨x, hx, hxt, b⟩
          · exact .inl (by dsimp only; omega)
          · exact .inr ⟨x, List.mem_append_left _ hx, hxt, by dsimp only; omega⟩
    · rw [if_neg ht]
      refine ⟨p, ⟨g1, g2⟩, fun x hx hxt => ?_, ?_, ?_⟩
      · rcases List.mem_append.1 hx with hx | hx
        · exact q x hx hxt
        · simp at hx; subst hx; exact absurd hxt ht
      · rcases a with a | ⟨x, hx, hxt, a⟩
        · exact .inl a
        · exact .inr ⟨x, List.mem_append_left _ hx, hxt, a⟩
      · rcases b with b | ⟨x, hx, hxt, b⟩
        · exact .inl b
        · exact .inr ⟨x, List.mem_append_left _ hx, hxt, b⟩
theorem out_left {all : Int × Int} : ∀ (a : List (Int × Int)) (o : List (Int × Int)), (∀ x ∈ a, touchS x all = false ∧ ¬ all.1 < x.1) → a.foldl (outR all) (o, false) = (o ++ a, false)
  | [], o, _ => by simp
  | x :: a, o, h => by
    obtain ⟨h1, h2⟩ := h x List.mem_cons_self
    rw [List.foldl_cons]
    have e : outR all (o, false) x = (o ++ [x], false) := by unfold outR; rw [if_neg (by simp [h1]), if_neg (by simp [h2])]
    rw [e, out_left a _ fun y hy => h y (List.mem_cons_of_mem _ hy)]
    simp
theorem out_mid {all : Int × Int} : ∀ (b : List (Int × Int)) (st : List (Int × Int) × Bool), (∀ x ∈ b, touchS x all = true) → b.foldl (outR all) st = st
  | [], st, _ => rfl
  | x :: b, st, h => by
    rw [List.foldl_cons]
    have e : outR all st x = st := by unfold outR; rw [if_pos (h x List.mem_cons_self)]
    rw [e, out_mid b _ fun y hy => h y (List.mem_cons_of_mem _ hy)]
theorem out_put {all : Int × Int} : ∀ (c : List (Int × Int)) (o : List (Int × Int)), (∀ x ∈ c, touchS x all = false) → c.foldl (outR all) (o, true) = (o ++ c, true)
  | [], o, _ => by simp
  | x :: c, o, h => by
    rw [List.foldl_cons]
    have e : outR all (o, true) x = (o ++ [x], true) := by unfold outR; rw [if_neg (by simp [h x List.mem_cons_self]), if_neg (by simp)]
    rw [e, out_put c _ fun y hy => h y (List.mem_cons_of_mem _ hy)]
    simp
theorem out_right {all : Int × Int} (c o : List (Int × Int)) (h : ∀ x ∈ c, touchS x all = false ∧ all.1 < x.1) : (if (c.foldl (outR all) (o, false)).2 = true then (c.foldl (outR all) (o, false)).1 else (c.foldl (outR all) (o, false)).1 ++ [all]) = o ++ all :: c := by
  cases c with
  | nil => simp
  | cons x c =>
    obtain ⟨h1, h2⟩ := h x List.mem_cons_self
    have e : outR all (o, false) x = (o ++ [all, x], true) := by unfold outR; rw [if_neg (by simp [h1]), if_pos (by simp [h2])]
    rw [List.foldl_cons, e, out_put c _ fun y hy => (h y (List.mem_cons_of_mem _ hy)).1]
    simp
theorem with_eq {l : List (Int × Int)} (h : OkL l) {s : Int × Int} (hs : PrS s) : withR l s = addL l s := by
  obtain ⟨a, b, c, e, ea, ha, hb, hc⟩ := add_parts h hs
  have hl : lenS s ≠ 0 := by rw [hs.len]; have := hs.2.1; omega
  obtain ⟨p, ⟨g1, g2⟩, q, k1, k2⟩ := all_is hs l h.pr
  have hs1 := hs.2.1
  have pr := h.pr
  rw [e] at h
  obtain ⟨oa, obc, hab⟩ := okL_append.1 h
  obtain ⟨ob, oc, hbc⟩ := okL_append.1 obc
  obtain ⟨r1, r2, ⟨x1, hx1, ex1⟩, x2, hx2, ex2⟩ := hull_is (b ++ [s]) (fun x hx => by
    rcases List.mem_append.1 hx with hx | hx
    · exact ob.pr x hx
    · simp at hx; subst hx; exact hs) (by simp)
  have inl : ∀ x ∈ l, touchS x s = true → x ∈ b := fun x hx ht => by
    have ht2 := (touch_pr (pr x hx) hs).1 ht
    rw [e] at hx
    rcases List.mem_append.1 hx with hx | hx
    · have := ha x hx; omega
    · rcases List.mem_append.1 hx with hx | hx
      · exact hx
      · have := hc x hx; omega
  have inb : ∀ x ∈ b, x ∈ l ∧ touchS x s = true := fun x hx => by
    have hxl : x ∈ l := by rw [e]; exact List.mem_append_right _ (List.mem_append_left _ hx)
    have := hb x hx
    exact ⟨hxl, (touch_pr (pr x hxl) hs).2 ⟨this.2, this.1⟩⟩
  have eg : allR l s = hullS (b ++ [s]) := by
    refine Prod.ext ?_ ?_
    · have s1 := r2 s (by simp)
      have u1 : (hullS (b ++ [s])).1 ≤ (allR l s).1 := by
        rcases k1 with k1 | ⟨x, hx, hxt, k1⟩
        · omega
        · have := r2 x (List.mem_append_left _ (inl x hx hxt)); omega
      have u2 : (allR l s).1 ≤ (hullS (b ++ [s])).1 := by
        rcases List.mem_append.1 hx1 with hx1 | hx1
        · have := q x1 (inb x1 hx1).1 (inb x1 hx1).2; omega
        · simp at hx1; subst hx1; omega
      omega
    · have s1 := r2 s (by simp)
      have u1 : (allR l s).2 ≤ (hullS (b ++ [s])).2 := by
        rcases k2 with k2 | ⟨x, hx, hxt, k2⟩
        · omega
        · have := r2 x (List.mem_append_left _ (inl x hx hxt)); omega
      have u2 : (hullS (b ++ [s])).2 ≤ (allR l s).2 := by
        rcases List.mem_append.1 hx2 with hx2 | hx2
        · have := q x2 (inb x2 hx2).1 (inb x2 hx2).2; omega
        · simp at hx2; subst hx2; omega
      omega
  have near : ∀ x : Int × Int, PrS x → (touchS x (hullS (b ++ [s])) = true ↔ x.1 ≤ (hullS (b ++ [s])).2 ∧ (hullS (b ++ [s])).1 ≤ x.2) := fun x hx => touch_pr hx r1
  unfold withR
  rw [if_neg hl]
  dsimp only
  rw [eg, ea]
  generalize hullS (b ++ [s]) = g at *
  have gs := r2 s (by simp)
  have ga : ∀ x ∈ a, x.2 < g.1 := fun x hx => by
    rcases List.mem_append.1 hx1 with hx1 | hx1
    · have := hab x hx x1 (List.mem_append_left _ hx1); omega
    · simp at hx1; subst hx1; have := ha x hx; omega
  have gc : ∀ x ∈ c, g.2 < x.1 := fun x hx => by
    rcases List.mem_append.1 hx2 with hx2 | hx2
    · have := hbc x2 hx2 x hx; omega
    · simp at hx2; subst hx2; have := hc x hx; omega
  have f1 : ∀ x ∈ a, touchS x g = false ∧ ¬ g.1 < x.1 := fun x hx => by
    have h1 := ga x hx
    have h2 := (oa.pr x hx).2.1
    refine ⟨?_, by omega⟩
    cases ht : touchS x g with
    | false => rfl
    | true => have := (near x (oa.pr x hx)).1 ht; omega
  have f2 : ∀ x ∈ b, touchS x g = true := fun x hx => by
    have := r2 x (List.mem_append_left _ hx)
    have h2 := (ob.pr x hx).2.1
    exact (near x (ob.pr x hx)).2 ⟨by omega, by omega⟩
  have f3 : ∀ x ∈ c, touchS x g = false ∧ g.1 < x.1 := fun x hx => by
    have h1 := gc x hx
    have h2 := r1.2.1
    refine ⟨?_, by omega⟩
    cases ht : touchS x g with
    | false => rfl
    | true => have := (near x (oc.pr x hx)).1 ht; omega
  have e4 : l.foldl (outR g) ([], false) = c.foldl (outR g) (a, false) := by
    rw [e, List.foldl_append, out_left a [] f1, List.foldl_append, out_mid b _ f2, List.nil_append]
  rw [e4]
  exact out_right c a f3
end Go.Und
