/- Rows: slices of records of n cells each: what they read, what they own, how they grow, and a store into one. -/
import Derived.Test.YtedogalndhackaaDoorRow
set_option linter.unusedVariables false
set_option linter.unusedSimpArgs false
namespace Go.Und
open Go.RowKit
section
variable {α : Type} {f : α → List Value} {n : Nat} {T : TypeId} {w w' w1 w2 : World}
def fc (f : α → List Value) (l : List α) : List Value := l.flatMap f
theorem fc_nil : fc f [] = [] := rfl
theorem fc_cons (x : α) (l : List α) : fc f (x :: l) = f x ++ fc f l := by simp [fc]
theorem fc_append (l m : List α) : fc f (l ++ m) = fc f l ++ fc f m := by simp [fc]
theorem fc_length (hf : ∀ x, (f x).length = n) (l : List α) : (fc f l).length = l.length * n := by
  induction l with
  | nil => simp [fc]
  | cons x l ih => rw [fc_cons, List.length_append, ih, hf, List.length_cons, Nat.succ_mul, Nat.add_comm]
theorem fc_take (hf : ∀ x, (f x).length = n) (l : List α) (k : Nat) : (fc f l).take (k * n) = fc f (l.take k) := by
  induction l generalizing k with
  | nil => simp [fc]
  | cons x l ih =>
    cases k with
    | zero => simp [fc]
    | succ k =>
      rw [fc_cons, List.take_succ_cons, fc_cons, Nat.succ_mul, Nat.add_comm, ← hf x, List.take_length_add_append, hf x, ih]
theorem fc_drop (hf : ∀ x, (f x).length = n) (l : List α) (k : Nat) : (fc f l).drop (k * n) = fc f (l.drop k) := by
  induction l generalizing k with
  | nil => simp [fc]
  | cons x l ih =>
    cases k with
    | zero => simp
    | succ k =>
      rw [fc_cons, List.drop_succ_cons, Nat.succ_mul, Nat.add_comm, ← hf x, List.drop_length_add_append, hf x, ih]
theorem fc_at (hf : ∀ x, (f x).length = n) {l : List α} {k : Nat} {x : α} (h : l[k]? = some x) {j : Nat} {u : Value} (hu : (f x)[j]? = some u) : (fc f l)[k * n + j]? = some u := by
  induction l generalizing k with
  | nil => simp at h
  | cons y l ih =>
    cases k with
    | zero =>
      simp at h; subst h
      rw [fc_cons, Nat.zero_mul, Nat.zero_add, List.getElem?_append_left (List.getElem?_eq_some_iff.1 hu).1]; exact hu
    | succ k =>
      have h1 := ih (k := k) (by simpa using h)
      rw [fc_cons, List.getElem?_append_right (by rw [hf, Nat.succ_mul]; omega), hf, show (k + 1) * n + j - n = k * n + j by rw [Nat.succ_mul]; omega]
      exact h1
theorem fc_set (hf : ∀ x, (f x).length = n) {l : List α} {k : Nat} {x x' : α} (h : l[k]? = some x) {j : Nat} {u : Value} (hj : j < n) (hx : f x' = (f x).set j u) : (fc f l).set (k * n + j) u = fc f (l.set k x') := by
  induction l generalizing k with
  | nil => simp at h
  | cons y l ih =>
    cases k with
    | zero =>
      simp at h; subst h
      rw [fc_cons, Nat.zero_mul, Nat.zero_add, List.set_append_left _ _ (by rw [hf]; exact hj), List.set_cons_zero, fc_cons, hx]
    | succ k =>
      have h1 := ih (k := k) (by simpa using h)
      rw [fc_cons, List.set_append_right _ _ (by rw [hf, Nat.succ_mul]; omega), hf, show (k + 1) * n + j - n = k * n + j by rw [Nat.succ_mul]; omega, h1, List.set_cons_succ, fc_cons]
theorem fc_one (h1 : ∀ x, ∀ u ∈ f x, u.oneCell' = true) (l : List α) : ∀ u ∈ fc f l, u.oneCell' = true := fun u hu => by
  obtain ⟨x, _, hx⟩ := List.mem_flatMap.1 hu
  exact h1 x u hx

/-- A slice that owns these records. -/
def Owns (f : α → List Value) (n : Nat) (T : TypeId) (w : World) (v : Value) (l : List α) : Prop := w.ownsRow 0 T n v l.length (fc f l)
theorem Owns.nil (f : α → List Value) (n : Nat) (T : TypeId) (w : World) : Owns f n T w (.slice none 0 0) [] := World.ownsRow_nil w 0 T n
theorem Owns.fr {D : Nat → Prop} {v : Value} {l : List α} (h : Owns f n T w v l) (hfr : Fr D w w') (hd : ∀ b, v.ownBlock = some b → ¬ D b) : Owns f n T w' v l := by
  unfold Owns World.ownsRow at *
  refine ⟨h.1, ?_⟩
  rcases h.2 with h2 | ⟨g, cap, cur, rfl, hb, hg, r⟩
  · exact .inl h2
  · exact .inr ⟨g, cap, cur, rfl, hb, (hfr.block g (heap_lt hg) (hd g rfl)).trans hg, r⟩
theorem Owns.drew {v : Value} {l : List α} (h : Owns f n T w v l) : Owns f n T w.drew v l := h
theorem Owns.reads {p : Option Addr} {m cap : Nat} {l : List α} (h : Owns f n T w (.slice p m cap) l) : m = l.length ∧ Reads w n p m cap (fc f l) ∧ (∀ ad, p = some ad → ad.off = 0 ∧ ad.spot = none) := by
  obtain ⟨p', cap', e, hr, _, h0⟩ := ownsRow_reads h
  obtain ⟨rfl, rfl, rfl⟩ : p = p' ∧ m = l.length ∧ cap = cap' := by simpa using e
  exact ⟨rfl, hr, fun ad had => ⟨h0 ad had, hr.spot ad had⟩⟩
theorem Reads.elem (hf : ∀ x, (f x).length = n) {p : Option Addr} {m cap : Nat} {l : List α} (hr : Reads w n p m cap (fc f l)) (hn : 0 < n) {k : Nat} {x : α} (hx : l[k]? = some x) :
    ∃ b off, p = some ⟨b, off, none⟩ ∧ ∀ j u, (f x)[j]? = some u → w.cell? ⟨b, off + k * n + j, none⟩ = some u := by
  cases p with
  | none =>
    exfalso
    have h0 := (hr.nil rfl).1
    have hl := hr.len
    rw [fc_length hf, h0, Nat.zero_mul] at hl
    have h1 := (List.getElem?_eq_some_iff.1 hx).1
    rcases Nat.mul_eq_zero.1 hl with h | h <;> omega
  | some ad =>
    obtain ⟨b, off, s⟩ := ad
    obtain rfl : s = none := hr.spot _ rfl
    exact ⟨b, off, rfl, fun j u hu => by have := hr.cell _ rfl _ _ (fc_at hf hx hu); rw [Nat.add_assoc]; exact this⟩
theorem owns_bare {g : Nat} (h : Blk w g T #[]) : Owns f n T w (.slice (some ⟨g, 0, none⟩) 0 0) [] :=
  ⟨by simp [fc], .inr ⟨g, 0, #[], rfl, Nat.zero_le _, h, Nat.le_refl _, by simp [maxLen], (by simp), by simp [fc]⟩⟩

/-- A list under way: where it lies, and what is left alone. -/
structure GrowsR (f : α → List Value) (n : Nat) (T : TypeId) (w w' : World) (p : Option Addr) (m cap : Nat) (l : List α) : Prop where
  cnt : m = l.length
  own : Owns f n T w' (.slice p m cap) l
  far : ∀ b, (Value.slice p m cap).ownBlock = some b → w.heap.size ≤ b
  fr : Fr None w w'
theorem GrowsR.step {p q : Option Addr} {k c d m : Nat} {l r : List α} (h : GrowsR f n T w w1 p k c l) (hm : r.length = m)
    (ho : w2.ownsRow 0 T n (.slice q (k + m) d) (k + m) (fc f l ++ fc f r)) (hf : Fr (fun b => (Value.slice p k c).ownBlock = some b) w1 w2)
    (hb : (Value.slice q (k + m) d).ownBlock = (Value.slice p k c).ownBlock ∨ (Value.slice q (k + m) d).ownBlock = some w1.heap.size) : GrowsR f n T w w2 q (k + m) d (l ++ r) := by
  have hn := h.cnt
  refine ⟨by simp [hn, hm], ?_, fun b hb' => ?_, h.fr.trans' hf (fun i hi hd => absurd (h.far i hd) (by omega))⟩
  · unfold Owns
    rw [fc_append, List.length_append, hm, ← hn]; exact ho
  · rcases hb with e | e
    · exact h.far b (by rw [← e]; exact hb')
    · rw [e] at hb'; cases hb'; exact h.fr.size
theorem GrowsR.start (f : α → List Value) (n : Nat) (T : TypeId) (w : World) : GrowsR f n T w (w.alloc (.cells #[] T)) (some ⟨w.heap.size, 0, none⟩) 0 0 [] :=
  ⟨rfl, owns_bare (Blk.new w T #[]), fun b hb => (by cases hb; exact Nat.le_refl _), (Fr.refl None w).alloc _⟩
theorem GrowsR.alloc {p : Option Addr} {m c : Nat} {l : List α} (h : GrowsR f n T w w1 p m c l) (o : Obj) : GrowsR f n T w (w1.alloc o) p m c l :=
  ⟨h.cnt, h.own.fr (D := None) ((Fr.refl _ w1).alloc o) (fun _ _ h => h), h.far, h.fr.alloc o⟩
theorem GrowsR.row {p : Option Addr} {m c : Nat} {l : List α} (h : GrowsR f n T w w1 p m c l) (o : Obj) : (w1.alloc o).ownsRow 0 T n (.slice p m c) m (fc f l) := by
  have h1 := (h.alloc o).own
  have h2 := h.cnt
  unfold Owns at h1; rw [← h2] at h1; exact h1
theorem GrowsR.row0 {p : Option Addr} {m c : Nat} {l : List α} (h : GrowsR f n T w w1 p m c l) : w1.ownsRow 0 T n (.slice p m c) m (fc f l) := by
  have h1 := h.own
  have h2 := h.cnt
  unfold Owns at h1; rw [← h2] at h1; exact h1
theorem reads_oneR (W : World) (T : TypeId) (x : α) (hf : ∀ x, (f x).length = n) : Reads (W.alloc (.cells (f x).toArray T)) n (some ⟨W.heap.size, 0, none⟩) 1 1 (fc f [x]) :=
  ⟨by rw [fc_length hf]; simp, Nat.le_refl _, fun h => (by cases h), fun ad h => (by cases h; rfl), fun ad h j u hu => by
    cases h
    have hb := (Blk.new W T (f x).toArray).cell (0 + j)
    rw [hb]
    simpa [fc] using hu⟩
/-- A record's cell is stored into. -/
theorem Owns.set (hf : ∀ x, (f x).length = n) {g m cap : Nat} {l : List α} (h : Owns f n T w (.slice (some ⟨g, 0, none⟩) m cap) l) {k : Nat} {x x' : α} (hx : l[k]? = some x) {j : Nat} {u : Value} (hj : j < n) (hx' : f x' = (f x).set j u) :
    Owns f n T (w.setCell ⟨g, k * n + j, none⟩ u) (.slice (some ⟨g, 0, none⟩) m cap) (l.set k x') := by
  obtain ⟨h1, h2⟩ := h
  rcases h2 with ⟨e, h2⟩ | ⟨g', cap', cur, e, hb, hg, hn, hc, hs, ht⟩
  · exfalso; cases e
  · obtain ⟨rfl, rfl, rfl⟩ : g = g' ∧ m = l.length ∧ cap = cap' := by simpa using e
    have hk := (List.getElem?_eq_some_iff.1 hx).1
    have hlt : k * n + j < l.length * n := by
      have : (k + 1) * n ≤ l.length * n := Nat.mul_le_mul_right _ hk
      rw [Nat.succ_mul] at this; omega
    refine ⟨by rw [fc_length hf], .inr ⟨g, cap, cur.setIfInBounds (k * n + j) u, by simp, hb, Blk.set hg _ _, by simpa using hn, hc, by simpa using hs, ?_⟩⟩
    rw [List.length_set] at *
    rw [← fc_set hf hx hj hx', ← ht]
    simp [Array.toList_setIfInBounds, List.take_set]
theorem Owns.elem (hf : ∀ x, (f x).length = n) {p : Option Addr} {m cap : Nat} {l : List α} (h : Owns f n T w (.slice p m cap) l) (hn : 0 < n) {k : Nat} {x : α} (hx : l[k]? = some x) :
    ∃ g, p = some ⟨g, 0, none⟩ ∧ g < w.heap.size ∧ (∀ j u, (f x)[j]? = some u → w.cell? ⟨g, k * n + j, none⟩ = some u) ∧ ∀ o, w.frozen? ⟨g, o, none⟩ = false := by
  have h0 := h
  obtain ⟨rfl, hr, hz⟩ := h.reads
  obtain ⟨b, off, rfl, hc⟩ := hr.elem hf hn hx
  have h1 := (hz _ rfl).1
  simp only at h1
  subst h1
  rcases h0.2 with ⟨e, _⟩ | ⟨g', cap', cur, e, _, hg, _⟩
  · cases e
  · obtain ⟨rfl, _⟩ : b = g' ∧ cap = cap' := by simpa using e
    exact ⟨b, rfl, heap_lt hg, fun j u hu => by have := hc j u hu; rwa [Nat.zero_add] at this, Blk.frozen hg⟩
end
end Go.Und
