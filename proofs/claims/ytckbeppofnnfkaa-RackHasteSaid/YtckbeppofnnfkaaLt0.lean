/- The document's late records: sorted, then one by one: plain laws. -/
import Derived.Test.YtckbeppofnnfkaaRk1
namespace Go.Proofs.Ytckbeppofnnfkaa
open Go.RowKit Go.Und

/-- A record laid at its place by order. -/
def insR (r : Rc) (l : List Rc) : List Rc := l.takeWhile (fun x => decide (x.order < r.order)) ++ r :: l.dropWhile (fun x => decide (x.order < r.order))
def sortR (l : List Rc) : List Rc := l.foldl (fun out r => insR r out) []
theorem insR_perm (r : Rc) (l : List Rc) : (insR r l).Perm (r :: l) := by
  unfold insR
  refine List.perm_middle.trans ?_
  rw [List.takeWhile_append_dropWhile]
theorem insR_sort (r : Rc) : ∀ l : List Rc, l.Pairwise (fun a b => a.order < b.order) → (∀ x ∈ l, x.order ≠ r.order) → (insR r l).Pairwise (fun a b => a.order < b.order)
  | [], _, _ => by simp [insR]
  | x :: l, h, hn => by
    obtain ⟨h1, h2⟩ := List.pairwise_cons.1 h
    have hx := hn x List.mem_cons_self
    by_cases g : x.order < r.order
    · have e : insR r (x :: l) = x :: insR r l := by simp [insR, g]
      rw [e]
      refine List.pairwise_cons.2 ⟨fun y hy => ?_, insR_sort r l h2 (fun y hy => hn y (List.mem_cons_of_mem _ hy))⟩
      rcases List.mem_cons.1 ((insR_perm r l).mem_iff.1 hy) with rfl | hy
      · exact g
      · exact h1 y hy
    · have e : insR r (x :: l) = r :: x :: l := by simp [insR, g]
      rw [e]
      refine List.pairwise_cons.2 ⟨fun y hy => ?_, h⟩
      rcases List.mem_cons.1 hy with rfl | hy
      · omega
      · have := h1 y hy; omega
theorem sortR_go (l : List Rc) : ∀ out : List Rc, out.Pairwise (fun a b => a.order < b.order) → (out ++ l).Pairwise (fun a b => a.order ≠ b.order) →
    (l.foldl (fun out r => insR r out) out).Perm (out ++ l) ∧ (l.foldl (fun out r => insR r out) out).Pairwise (fun a b => a.order < b.order) := by
  induction l with
  | nil => intro out h _; exact ⟨by simp, h⟩
  | cons r l ih =>
    intro out h hn
    have hp := insR_perm r out
    have h1 : ∀ x ∈ out, x.order ≠ r.order := fun x hx => (List.pairwise_append.1 hn).2.2 x hx r List.mem_cons_self
    have h3 : (out ++ r :: l).Perm (insR r out ++ l) := List.perm_middle.trans (hp.symm.append_right l)
    obtain ⟨g1, g2⟩ := ih (insR r out) (insR_sort r out h h1) ((h3.pairwise_iff (fun h e => h e.symm)).1 hn)
    exact ⟨g1.trans h3.symm, g2⟩
theorem sort_unique : ∀ {l m : List Rc}, l.Perm m → l.Pairwise (fun a b => a.order < b.order) → m.Pairwise (fun a b => a.order < b.order) → l = m
  | [], m, h, _, _ => by simpa using h.symm
  | x :: l, [], h, _, _ => by have := h.length_eq; simp at this
  | x :: l, y :: m, h, hl, hm => by
    obtain ⟨h1, h2⟩ := List.pairwise_cons.1 hl
    obtain ⟨h3, h4⟩ := List.pairwise_cons.1 hm
    have e : x = y := by
      rcases List.mem_cons.1 (h.mem_iff.1 (List.mem_cons_self (a := x))) with e | e
      · exact e
      · rcases List.mem_cons.1 (h.mem_iff.2 (List.mem_cons_self (a := y))) with e' | e'
        · exact e'.symm
        · have := h1 y e'; have := h3 x e; omega
    subst e
    rw [sort_unique (List.Perm.cons_inv h) h2 h4]
theorem sortR_eq {l m : List Rc} (h : l.Perm m) (hm : m.Pairwise (fun a b => a.order < b.order)) : sortR l = m := by
  have hn : l.Pairwise (fun a b => a.order ≠ b.order) := (h.symm.pairwise_iff (fun h e => h e.symm)).1 (hm.imp (fun h => by omega))
  obtain ⟨g1, g2⟩ := sortR_go l [] .nil (by simpa using hn)
  exact sort_unique (g1.trans (by simpa using h)) g2 hm

/-- What the document does with one record. -/
def rfStep (x : Rk) (now win : Int) (t : List (Int × Int) × Int) (r : Rc) : List (Int × Int) × Int :=
  if r.lost = true ∨ x.order ≤ r.order then t
  else if r.sent + x.rtt + timeS win < now then (t.1 ++ [(r.fr, r.to)], t.2)
  else if t.2 < 0 ∨ r.sent + x.rtt + timeS win + 1 < t.2 then (t.1, r.sent + x.rtt + timeS win + 1) else t
def rfLateS (x : Rk) (now win : Int) (l : List Rc) : List (Int × Int) × Int := l.foldl (rfStep x now win) ([], -1)
def LtRel (s : LtS) (t : List (Int × Int) × Int) : Prop := t.1 = s.out ∧ t.2 = (if s.some then s.next else -1) ∧ (s.some = true → 0 ≤ s.next) ∧ (s.some = false → s.next = 0)
theorem rf_step {x : Rk} {now win : Int} {s : LtS} {t : List (Int × Int) × Int} {r : Rc} (h : LtRel s t) (hr : 0 ≤ x.rtt) (hs : 0 ≤ r.sent) (hw : 0 ≤ timeS win) (ho : r.order < x.order) : LtRel (x.step now win s r) (rfStep x now win t r) := by
  obtain ⟨so, sn, ss⟩ := s
  obtain ⟨t1, t2⟩ := t
  obtain ⟨h1, h2, h3, h4⟩ := h
  simp only at h1 h2 h3 h4
  subst h1 h2
  have hat : 0 ≤ r.sent + x.rtt + timeS win := by omega
  have ho' : ¬ x.order ≤ r.order := by omega
  unfold rfStep Rk.step
  generalize r.sent + x.rtt + timeS win = at_ at *
  cases hl : r.lost with
  | true => simpa using (show LtRel ⟨t1, sn, ss⟩ (t1, if ss then sn else -1) from ⟨rfl, rfl, h3, h4⟩)
  | false =>
    simp only [Bool.false_eq_true, false_or, ho', if_false]
    by_cases g1 : at_ < now
    · simp only [g1, if_true]; exact ⟨rfl, rfl, h3, h4⟩
    · simp only [g1, if_false]
      cases ss with
      | false =>
        simp only [Bool.false_eq_true, if_false, true_or, if_true]
        rw [if_pos (.inl (by decide))]
        exact ⟨rfl, rfl, fun _ => by dsimp only; omega, fun h => by cases h⟩
      | true =>
        have hn := h3 rfl
        have hn' : ¬ sn < 0 := by omega
        simp only [if_true, hn', false_or, Bool.true_eq_false]
        by_cases g2 : at_ + 1 < sn
        · simp only [g2, if_true]
          exact ⟨rfl, rfl, fun _ => by dsimp only; omega, fun h => by cases h⟩
        · simp only [g2, if_false]
          exact ⟨rfl, rfl, fun _ => hn, fun h => by cases h⟩
theorem rf_skip {x : Rk} {now win : Int} : ∀ (l : List Rc) (t : List (Int × Int) × Int), (∀ r ∈ l, x.order ≤ r.order) → l.foldl (rfStep x now win) t = t
  | [], _, _ => rfl
  | r :: l, t, h => by
    rw [List.foldl_cons, show rfStep x now win t r = t by unfold rfStep; rw [if_pos (.inr (h r List.mem_cons_self))]]
    exact rf_skip l t fun y hy => h y (List.mem_cons_of_mem _ hy)
theorem rf_go {x : Rk} {now win : Int} (hr : 0 ≤ x.rtt) (hw : 0 ≤ timeS win) : ∀ (l : List Rc) (s : LtS) (t : List (Int × Int) × Int), l.Pairwise (fun a b => a.order < b.order) → (∀ r ∈ l, 0 ≤ r.sent) → LtRel s t →
    LtRel ((l.takeWhile fun r => decide (r.order < x.order)).foldl (x.step now win) s) (l.foldl (rfStep x now win) t)
  | [], s, t, _, _, h => h
  | r :: l, s, t, hp, h0, h => by
    obtain ⟨h1, h2⟩ := List.pairwise_cons.1 hp
    by_cases g : r.order < x.order
    · rw [List.takeWhile_cons_of_pos (by simpa using g), List.foldl_cons, List.foldl_cons]
      exact rf_go hr hw l _ _ h2 (fun y hy => h0 y (List.mem_cons_of_mem _ hy)) (rf_step h hr (h0 r List.mem_cons_self) hw g)
    · rw [List.takeWhile_cons_of_neg (by simpa using g)]
      rw [rf_skip (r :: l) t fun y hy => by
        rcases List.mem_cons.1 hy with rfl | hy
        · omega
        · have := h1 y hy; omega]
      exact h
theorem rfLate_rel {x : Rk} {now win : Int} (hr : 0 ≤ x.rtt) (hw : 0 ≤ timeS win) {l : List Rc} (hp : l.Pairwise (fun a b => a.order < b.order)) (h0 : ∀ r ∈ l, 0 ≤ r.sent) : LtRel (x.late now win l) (rfLateS x now win l) :=
  rf_go hr hw l ⟨[], 0, false⟩ ([], -1) hp h0 ⟨rfl, rfl, by simp, by simp⟩
end Go.Proofs.Ytckbeppofnnfkaa
