/- A ring of items: what stands in memory, and what a step on it leaves. -/
import Derived.Test.YtfobeheplficgaaHeap
set_option linter.unusedVariables false
set_option linter.unusedSimpArgs false
namespace Go.Und
open Go.RowKit

/-- A record. -/
structure Rc where
  (fr to sent order times out : Int) (lost : Bool)
deriving DecidableEq
/-- The record that is none. -/
def Rc.zero : Rc := ⟨0, 0, 0, 0, 0, 0, false⟩
/-- An item's cells. -/
def itc (r : Rc) (p n : Option Addr) : Array Value := #[.int .i64 r.fr, .int .i64 r.to, .int .i64 r.sent, .int .i64 r.order, .int .i64 r.times, .int .i64 r.out, .bool r.lost, .pointer p, .pointer n]
abbrev at0 (b : Nat) : Option Addr := some ⟨b, 0, none⟩
/-- Items of a line: blocks and records. -/
abbrev Its := List (Nat × Rc)
def firstB : Its → Nat → Nat
  | [], n => n
  | x :: _, _ => x.1
def lastB : Nat → Its → Nat
  | p, [] => p
  | _, x :: l => lastB x.1 l
/-- A line of items, from the one behind block p to the one ahead of block n. -/
def Line (ty : TypeId) (w : World) : Nat → Its → Nat → Prop
  | _, [], _ => True
  | p, x :: l, n => Blk w x.1 ty (itc x.2 (at0 p) (at0 (firstB l n))) ∧ Line ty w x.1 l n
/-- A ring: a bare item ahead of the first and behind the last one. -/
structure Ring (ty : TypeId) (w : World) (b0 : Nat) (L : Its) : Prop where
  bare : Blk w b0 ty (itc .zero (at0 (lastB b0 L)) (at0 (firstB L b0)))
  line : Line ty w b0 L b0
  nodup : (b0 :: L.map (·.1)).Nodup

theorem firstB_nil (n : Nat) : firstB [] n = n := rfl
theorem firstB_cons (x : Nat × Rc) (l : Its) (n : Nat) : firstB (x :: l) n = x.1 := rfl
theorem lastB_nil (p : Nat) : lastB p [] = p := rfl
theorem lastB_cons (p : Nat) (x : Nat × Rc) (l : Its) : lastB p (x :: l) = lastB x.1 l := rfl
theorem firstB_append (l m : Its) (n : Nat) : firstB (l ++ m) n = firstB l (firstB m n) := by cases l <;> rfl
theorem lastB_append (p : Nat) (l m : Its) : lastB p (l ++ m) = lastB (lastB p l) m := by
  induction l generalizing p with
  | nil => rfl
  | cons x l ih => exact ih x.1
theorem lastB_mem (p : Nat) (l : Its) : lastB p l = p ∨ lastB p l ∈ l.map (·.1) := by
  induction l generalizing p with
  | nil => exact .inl rfl
  | cons x l ih =>
    right
    rcases ih x.1 with h | h
    · simp [lastB, h]
    · simp only [lastB, List.map_cons, List.mem_cons]; exact .inr h
theorem firstB_mem (l : Its) (n : Nat) : firstB l n = n ∨ firstB l n ∈ l.map (·.1) := by
  cases l with
  | nil => exact .inl rfl
  | cons x l => exact .inr (by simp [firstB])

section
variable {ty : TypeId} {w w' : World} {p n : Nat} {l m : Its}
theorem line_append : Line ty w p (l ++ m) n ↔ Line ty w p l (firstB m n) ∧ Line ty w (lastB p l) m n := by
  induction l generalizing p with
  | nil => simp [Line, lastB]
  | cons x l ih =>
    simp only [List.cons_append, Line, lastB, ih, firstB_append]
    exact and_assoc.symm
theorem Line.fr {D : Nat → Prop} (h : Line ty w p l n) (f : Fr D w w') (hd : ∀ b ∈ l.map (·.1), ¬ D b) : Line ty w' p l n := by
  induction l generalizing p with
  | nil => trivial
  | cons x l ih =>
    simp only [List.map_cons, List.mem_cons] at hd
    exact ⟨h.1.fr f (hd _ (.inl rfl)), ih h.2 fun b hb => hd b (.inr hb)⟩
theorem Line.lt (h : Line ty w p l n) : ∀ b ∈ l.map (·.1), b < w.heap.size := by
  induction l generalizing p with
  | nil => intro b hb; cases hb
  | cons x l ih =>
    intro b hb
    rcases List.mem_cons.1 hb with rfl | hb
    · exact h.1.lt
    · exact ih h.2 b hb
/-- The item at a place. -/
theorem Line.at (h : Line ty w p l n) {x : Nat × Rc} (hx : x ∈ l) : ∃ a b, Blk w x.1 ty (itc x.2 (at0 a) (at0 b)) := by
  induction l generalizing p with
  | nil => cases hx
  | cons y l ih =>
    rcases List.mem_cons.1 hx with rfl | hx
    · exact ⟨_, _, h.1⟩
    · exact ih h.2 hx
theorem Ring.fr {D : Nat → Prop} {b0 : Nat} {L : Its} (h : Ring ty w b0 L) (f : Fr D w w') (hd : ∀ b, b = b0 ∨ b ∈ L.map (·.1) → ¬ D b) : Ring ty w' b0 L :=
  ⟨h.bare.fr f (hd _ (.inl rfl)), h.line.fr f (fun b hb => hd b (.inr hb)), h.nodup⟩
theorem Ring.lt {b0 : Nat} {L : Its} (h : Ring ty w b0 L) : ∀ b, b = b0 ∨ b ∈ L.map (·.1) → b < w.heap.size := fun b hb => by
  rcases hb with rfl | hb
  · exact h.bare.lt
  · exact h.line.lt b hb
end

section
variable {ty : TypeId} {w w' : World} {b0 x : Nat} {L : Its} {rx : Rc}
/-- The first one is put. -/
theorem Ring.put_nil (hb : Blk w b0 ty (itc .zero (at0 x) (at0 x))) (hx : Blk w x ty (itc rx (at0 b0) (at0 b0))) (hne : x ≠ b0) : Ring ty w b0 [(x, rx)] :=
  ⟨hb, ⟨hx, trivial⟩, by simp [Ne.symm hne]⟩
/-- One is put behind y. -/
theorem Ring.put_snoc {L' : Its} {y : Nat} {ry : Rc} {D : Nat → Prop} (h : Ring ty w b0 (L' ++ [(y, ry)])) (f : Fr D w w') (hD : ∀ k, D k → k = x ∨ k = b0 ∨ k = y) (hxn : x ≠ b0 ∧ x ∉ (L' ++ [(y, ry)]).map (·.1))
    (hb : Blk w' b0 ty (itc .zero (at0 x) (at0 (firstB (L' ++ [(y, ry)]) b0)))) (hy : Blk w' y ty (itc ry (at0 (lastB b0 L')) (at0 x))) (hx : Blk w' x ty (itc rx (at0 y) (at0 b0))) : Ring ty w' b0 ((L' ++ [(y, ry)]) ++ [(x, rx)]) := by
  obtain ⟨h1, h2, h3⟩ := h
  have hn := List.nodup_cons.1 h3
  refine ⟨?_, ?_, ?_⟩
  · rw [lastB_append, firstB_append]
    have e : firstB (L' ++ [(y, ry)]) (firstB [(x, rx)] b0) = firstB (L' ++ [(y, ry)]) b0 := by cases L' <;> rfl
    rw [e]; exact hb
  · rw [line_append, line_append]
    rw [line_append] at h2
    refine ⟨⟨h2.1.fr f (fun b hb' hd => ?_), ⟨hy, trivial⟩⟩, ?_⟩
    · have hb2 : b ∈ (L' ++ [(y, ry)]).map (·.1) := by rw [List.map_append]; exact List.mem_append_left _ hb'
      rcases hD b hd with rfl | rfl | rfl
      · exact hxn.2 hb2
      · exact hn.1 hb2
      · have := hn.2
        rw [List.map_append, List.nodup_append] at this
        exact this.2.2 b hb' b (by simp) rfl
    · rw [lastB_append]; exact ⟨hx, trivial⟩
  · rw [List.map_append, ← List.cons_append, List.nodup_append]
    refine ⟨h3, by simp, fun a ha c hc => ?_⟩
    rintro rfl
    have hc' : a = x := by simpa using hc
    subst hc'
    rcases List.mem_cons.1 ha with e | e
    · exact hxn.1 e
    · exact hxn.2 e
/-- One is cut out. -/
theorem Ring.cut_of {l m : Its} {D : Nat → Prop} (h : Ring ty w b0 (l ++ (x, rx) :: m)) (f : Fr D w w') (hD : ∀ k, D k → k = lastB b0 l ∨ k = firstB m b0)
    (hp : ∀ r a, Blk w (lastB b0 l) ty (itc r a (at0 x)) → lastB b0 l ≠ firstB m b0 → Blk w' (lastB b0 l) ty (itc r a (at0 (firstB m b0))))
    (hn : ∀ r a, Blk w (firstB m b0) ty (itc r (at0 x) a) → lastB b0 l ≠ firstB m b0 → Blk w' (firstB m b0) ty (itc r (at0 (lastB b0 l)) a))
    (hs : ∀ r, Blk w b0 ty (itc r (at0 x) (at0 x)) → lastB b0 l = b0 → firstB m b0 = b0 → Blk w' b0 ty (itc r (at0 b0) (at0 b0))) : Ring ty w' b0 (l ++ m) := by
  obtain ⟨h1, h2, h3⟩ := h
  have h3' : (b0 :: ((l ++ m).map (·.1))).Nodup := by
    refine h3.sublist ?_
    rw [List.map_append, List.map_append, List.map_cons]
    exact (List.Sublist.append_left (List.sublist_cons_self _ _) _).cons_cons b0
  obtain ⟨hb0, hnd⟩ := List.nodup_cons.1 h3'
  rw [List.map_append] at hb0 hnd
  have hdis := (List.nodup_append.1 hnd).2.2
  have hb0l : b0 ∉ l.map (·.1) := fun h => hb0 (List.mem_append_left _ h)
  have hb0m : b0 ∉ m.map (·.1) := fun h => hb0 (List.mem_append_right _ h)
  rw [line_append] at h2
  obtain ⟨hl, hx, hm⟩ := h2
  rw [lastB_append, firstB_append] at h1
  simp only [firstB_nil, firstB_cons, lastB_nil, lastB_cons] at hl h1
  -- the two neighbours are one and the same only where the ring is left empty
  have hneq : (l ≠ [] ∨ m ≠ []) → lastB b0 l ≠ firstB m b0 := by
    intro hlm e
    rcases lastB_mem b0 l with e1 | e1 <;> rcases firstB_mem m b0 with e2 | e2
    · rcases hlm with hl0 | hm0
      · obtain ⟨l', y, rfl⟩ : ∃ l' y, l = l' ++ [y] := ⟨l.dropLast, l.getLast hl0, (List.dropLast_concat_getLast hl0).symm⟩
        rw [lastB_append] at e1
        exact hb0l (by simp [lastB] at e1; simp [← e1])
      · cases m with
        | nil => exact hm0 rfl
        | cons y m => exact hb0m (by simp [firstB] at e2; simp [← e2])
    · rw [← e, e1] at e2; exact hb0m e2
    · rw [e, e2] at e1; exact hb0l e1
    · rw [e] at e1; exact hdis _ e1 _ e2 rfl
  have fr1 : ∀ b, b ≠ lastB b0 l → b ≠ firstB m b0 → ¬ D b := fun b h1 h2 hd => by rcases hD b hd with e | e; exact h1 e; exact h2 e
  have nodl : (l.map (·.1)).Nodup := (List.nodup_append.1 hnd).1
  have nodm : (m.map (·.1)).Nodup := (List.nodup_append.1 hnd).2.1
  -- the items ahead
  have hl' : Line ty w' b0 l (firstB m b0) := by
    rcases List.eq_nil_or_concat l with rfl | ⟨l', y, rfl⟩
    · trivial
    · rw [List.concat_eq_append] at *
      rw [line_append] at hl ⊢
      rw [lastB_append] at hp hneq fr1
      simp only [lastB_nil, lastB_cons] at hp hneq fr1
      rw [List.map_append, List.nodup_append] at nodl
      refine ⟨hl.1.fr f (fun b hb => fr1 b (fun e => nodl.2.2 b hb y.1 (by simp) e) (fun e => ?_)), hp _ _ hl.2.1 (hneq (.inl (by simp))), trivial⟩
      rcases firstB_mem m b0 with e2 | e2
      · rw [e2] at e; subst e; exact hb0l (by rw [List.map_append]; exact List.mem_append_left _ hb)
      · rw [← e] at e2; exact hdis b (by rw [List.map_append]; exact List.mem_append_left _ hb) b e2 rfl
  -- the items behind
  have hm' : Line ty w' (lastB b0 l) m b0 := by
    cases m with
    | nil => trivial
    | cons y m =>
      simp only [firstB_cons] at hn hneq fr1
      obtain ⟨hm1, hm2⟩ := hm
      rw [List.map_cons, List.nodup_cons] at nodm
      refine ⟨hn _ _ hm1 (hneq (.inr (by simp))), hm2.fr f (fun b hb => fr1 b (fun e => ?_) (fun e => nodm.1 (e ▸ hb)))⟩
      rcases lastB_mem b0 l with e1 | e1
      · rw [e1] at e; subst e; exact hb0m (by simp; exact .inr (by simpa using hb))
      · rw [← e] at e1; exact hdis b e1 b (by simp; exact .inr (by simpa using hb)) rfl
  refine ⟨?_, by rw [line_append]; exact ⟨hl', hm'⟩, h3'⟩
  rw [lastB_append, firstB_append]
  rcases List.eq_nil_or_concat l with rfl | ⟨l', y, rfl⟩
  · cases m with
    | nil => exact hs _ h1 rfl rfl
    | cons z m => simp only [firstB_nil, firstB_cons, lastB_nil, lastB_cons] at *; exact hp _ _ h1 (hneq (.inr (by simp)))
  · rw [List.concat_eq_append] at *
    have hfl : ∀ n, firstB (l' ++ [y]) n = firstB (l' ++ [y]) b0 := fun n => by cases l' <;> rfl
    rw [hfl]
    rw [hfl x] at h1
    cases m with
    | nil =>
      simp only [firstB_nil, firstB_cons, lastB_nil, lastB_cons] at *
      exact hn _ _ h1 (hneq (.inl (by simp)))
    | cons z m =>
      simp only [firstB_nil, firstB_cons, lastB_nil, lastB_cons] at *
      refine h1.fr f (fr1 b0 (fun e => ?_) (fun e => hb0m (by simp [e])))
      rw [lastB_append] at e
      simp only [lastB_nil, lastB_cons] at e
      exact hb0l (by simp [e])
end
end Go.Und
