/- Memory by blocks: what a block holds, and what a step leaves as it was. -/
import Derived.Test.YtedogalndhackaaDoorProg
import Derived.WalkKit
import Derived.Below
import Derived.Deep.Draws
import Derived.Lib.Hide
set_option linter.unusedVariables false
set_option linter.unusedSimpArgs false
namespace Go.Und
open Go.RowKit

/-- Block b is these cells, of this type, none of them frozen. -/
def Blk (w : World) (b : Nat) (t : TypeId) (cs : Array Value) : Prop := w.heap[b]? = some (.cells cs t (0, 0))

/-- Blocks that are not in D are as they were; nothing goes; new blocks may come. -/
structure Fr (D : Nat → Prop) (w w' : World) : Prop where
  os : w'.os = w.os
  tape : w'.tape = w.tape
  output : w'.output = w.output
  size : w.heap.size ≤ w'.heap.size
  block : ∀ k, k < w.heap.size → ¬ D k → w'.heap[k]? = w.heap[k]?

theorem heap_lt {w : World} {b : Nat} {o : Obj} (h : w.heap[b]? = some o) : b < w.heap.size := by
  rcases Nat.lt_or_ge b w.heap.size with h1 | h1
  · exact h1
  · rw [Array.getElem?_eq_none h1] at h; cases h

section
variable {D D' : Nat → Prop} {w w' w'' : World} {b : Nat} {t : TypeId} {cs : Array Value}

theorem Blk.lt (h : Blk w b t cs) : b < w.heap.size := heap_lt h
theorem Blk.cell (h : Blk w b t cs) : ∀ o, w.cell? ⟨b, o, none⟩ = cs[o]? := fun o => by
  unfold Blk at h; simp [World.cell?, h]
theorem Blk.frozen (h : Blk w b t cs) : ∀ o, w.frozen? ⟨b, o, none⟩ = false := fun o => by
  unfold Blk at h; simp [World.frozen?, h]
theorem Blk.new (w : World) (t : TypeId) (cs : Array Value) : Blk (w.alloc (.cells cs t)) w.heap.size t cs := by
  unfold Blk World.alloc; simp
theorem Blk.set (h : Blk w b t cs) (i : Nat) (v : Value) : Blk (w.setCell ⟨b, i, none⟩ v) b t (cs.setIfInBounds i v) := by
  unfold Blk at h ⊢; simp [World.setCell, Array.getElem?_modify, h]
theorem Blk.far (h : Blk w b t cs) {p : Addr} (hp : b ≠ p.block) (v : Value) : Blk (w.setCell p v) b t cs := (Below.heap_setCell w p v b hp).trans h
theorem Blk.alloc (h : Blk w b t cs) (o : Obj) : Blk (w.alloc o) b t cs := (Below.heap_alloc w o b h.lt).trans h
theorem Blk.drew (h : Blk w b t cs) : Blk w.drew b t cs := h
theorem Blk.drewN (h : Blk w b t cs) (n : Nat) : Blk (w.drewN n) b t cs := h
theorem Blk.fr (h : Blk w b t cs) (f : Fr D w w') (hb : ¬ D b) : Blk w' b t cs := (f.block b h.lt hb).trans h

theorem Fr.refl (D : Nat → Prop) (w : World) : Fr D w w := ⟨rfl, rfl, rfl, Nat.le_refl _, fun _ _ _ => rfl⟩
theorem Fr.trans (h : Fr D w w') (k : Fr D w' w'') : Fr D w w'' :=
  ⟨k.os.trans h.os, k.tape.trans h.tape, k.output.trans h.output, Nat.le_trans h.size k.size, fun i hi hd => (k.block i (Nat.lt_of_lt_of_le hi h.size) hd).trans (h.block i hi hd)⟩
/-- A further step may touch what is new, too. -/
theorem Fr.trans' (h : Fr D w w') (k : Fr D' w' w'') (hd : ∀ i, i < w.heap.size → D' i → D i) : Fr D w w'' :=
  ⟨k.os.trans h.os, k.tape.trans h.tape, k.output.trans h.output, Nat.le_trans h.size k.size, fun i hi hn => (k.block i (Nat.lt_of_lt_of_le hi h.size) (fun h' => hn (hd i hi h'))).trans (h.block i hi hn)⟩
theorem Fr.mono (h : Fr D w w') (hd : ∀ i, i < w.heap.size → D i → D' i) : Fr D' w w' := ⟨h.os, h.tape, h.output, h.size, fun i hi hn => h.block i hi (fun h' => hn (hd i hi h'))⟩
theorem Fr.alloc (h : Fr D w w') (o : Obj) : Fr D w (w'.alloc o) :=
  h.trans ⟨rfl, rfl, rfl, by rw [World.size_alloc]; omega, fun k hk _ => Below.heap_alloc w' o k hk⟩
theorem Fr.setCell (h : Fr D w w') {p : Addr} (hp : p.block < w.heap.size → D p.block) (v : Value) : Fr D w (w'.setCell p v) :=
  ⟨h.os, h.tape, h.output, by simpa [World.setCell] using h.size, fun k hk hn => by
    rw [Below.heap_setCell _ _ _ _ (fun e => hn (by rw [e]; exact hp (by omega)))]; exact h.block k hk hn⟩
theorem Fr.drew (h : Fr D w w') : Fr D w w'.drew := ⟨h.os, h.tape, h.output, h.size, h.block⟩
theorem Fr.drewN (h : Fr D w w') (n : Nat) : Fr D w (w'.drewN n) := ⟨h.os, h.tape, h.output, h.size, h.block⟩
theorem Fr.below (h : Fr D w w') (hd : ∀ i, i < w.heap.size → ¬ D i) : Below w.heap.size w w' := ⟨h.os, h.tape, h.output, h.size, fun k hk => h.block k hk (hd k hk)⟩
theorem Fr.of_below (h : Below w.heap.size w w') : Fr D w w' := ⟨h.os, h.tape, h.output, h.size, fun k hk _ => h.block k hk⟩
theorem Fr.of_below' {B : Nat} (h : Below B w w') (hd : ∀ i, i < w.heap.size → ¬ D i → i < B) : Fr D w w' := ⟨h.os, h.tape, h.output, h.size, fun k hk hn => h.block k (hd k hk hn)⟩
end

@[simp] theorem size_setCell' (w : World) (p : Addr) (v : Value) : (w.setCell p v).heap.size = w.heap.size := by simp [World.setCell]
theorem size_drew' (w : World) : w.drew.heap.size = w.heap.size := rfl

/-- 'no block': nothing that was there is touched. -/
abbrev None : Nat → Prop := fun _ => False
theorem Fr.none_below {w w' : World} (h : Fr None w w') : Below w.heap.size w w' := h.below fun _ _ h => h
end Go.Und
