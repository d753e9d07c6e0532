/- Loops over iterators: what a round keeps, and what an invariant abides. -/
import Derived.Test.YtfobeheplficgaaRegion
import Derived.RangeFuncNested
import Derived.RangeFuncBound
import Derived.RangeFuncCalls
import Derived.RangeFuncLeaves
import Derived.Shelf.Abstract
import Derived.Shelf.RegionOpen
import Derived.OwnWalkIn
import Derived.TacticsInMore
import Derived.LoopNIn
import Derived.LoopIn
set_option linter.unusedVariables false
set_option linter.unusedSimpArgs false
namespace Go.Und
open Go.RowKit Go.Shelf

/-- Blocks of cells that are not in D are as they were; nothing goes. -/
structure FrC (D : Nat → TypeId → Prop) (w w' : World) : Prop where
  size : w.heap.size ≤ w'.heap.size
  block : ∀ k cs t z, w.heap[k]? = some (.cells cs t z) → ¬ D k t → w'.heap[k]? = some (.cells cs t z)

theorem FrC.refl (D : Nat → TypeId → Prop) (w : World) : FrC D w w := ⟨Nat.le_refl _, fun _ _ _ _ h _ => h⟩
theorem FrC.trans {D : Nat → TypeId → Prop} {A B C : World} (h : FrC D A B) (k : FrC D B C) : FrC D A C := ⟨Nat.le_trans h.size k.size, fun i cs t z hi hd => k.block i cs t z (h.block i cs t z hi hd) hd⟩
theorem FrC.of_fr {D : Nat → TypeId → Prop} {D' : Nat → Prop} {A B : World} (h : Fr D' A B) (hd : ∀ i cs t z, A.heap[i]? = some (.cells cs t z) → D' i → D i t) : FrC D A B :=
  ⟨h.size, fun k cs t z hk hn => (h.block k (heap_lt hk) (fun h' => hn (hd k cs t z hk h'))).trans hk⟩
theorem FrC.drew (D : Nat → TypeId → Prop) (w : World) : FrC D w w.drew := ⟨Nat.le_refl _, fun _ _ _ _ h _ => h⟩
theorem FrC.drewN (D : Nat → TypeId → Prop) (w : World) (n : Nat) : FrC D w (w.drewN n) := ⟨Nat.le_refl _, fun _ _ _ _ h _ => h⟩
theorem FrC.none {D : Nat → TypeId → Prop} {A B : World} (h : Fr None A B) : FrC D A B := FrC.of_fr h (fun _ _ _ _ _ h => h.elim)
theorem FrC.alloc (D : Nat → TypeId → Prop) (w : World) (o : Obj) : FrC D w (w.alloc o) := FrC.none ((Fr.refl None w).alloc o)
theorem Blk.frC {D : Nat → TypeId → Prop} {w w' : World} {b : Nat} {t : TypeId} {cs : Array Value} (h : Blk w b t cs) (f : FrC D w w') (hb : ¬ D b t) : Blk w' b t cs := f.block b _ _ _ h hb
/-- The loop's own record may turn. -/
theorem FrC.putObj {D : Nat → TypeId → Prop} (W : World) (l : Nat) (o o' : Obj) (h : W.heap[l]? = some o) (hc : o.isCells = false) : FrC D W (W.putObj l o') :=
  ⟨by simp, fun k cs t z hk _ => by rw [World.putObj_heap_other (fun e => by subst e; rw [h] at hk; cases hk; cases hc)]; exact hk⟩

/-- What is no cells stays, where only blocks of cells are let go. -/
theorem keepsOthers_of_fr {D : Nat → Prop} {A B : World} (h : Fr D A B) (hd : ∀ k o, D k → A.heap[k]? = some o → o.isCells = true) : KeepsOthers A B :=
  ⟨h.size, fun k o hk ho => (h.block k (heap_lt hk) (fun h' => by rw [hd k o h' hk] at ho; cases ho)).trans hk⟩

/-- Blocks from B on that are no cells. -/
def Odd (B : Nat) (A : World) (k : Nat) : Prop := B ≤ k ∧ ∃ o, A.heap[k]? = some o ∧ o.isCells = false
theorem Blk.odd {B : Nat} {A : World} {b : Nat} {t : TypeId} {cs : Array Value} (h : Blk A b t cs) : ¬ Odd B A b := fun ⟨_, o, ho, hc⟩ => by
  unfold Blk at h; rw [h] at ho; cases ho; cases hc
/-- An invariant that abides the turn of such blocks. -/
theorem ownFrom_of {β : Type} {B : Nat} {I : β → World → Prop} (h : ∀ s A C, I s A → Fr (Odd B A) A C → I s C) : OwnFrom B I := fun s A C row hs hg hr =>
  h s A C hs ⟨hg.os, hg.tape, hg.output, hg.size, fun k hk hn => hg.block k hk (fun e => hn (hr k e.symm))⟩
theorem abidesFrom_of {β : Type} {B : Nat} {J : β → World → Prop} (h : ∀ s A C, J s A → Fr (Odd B A) A C → J s C) : AbidesFrom B J := fun s A C row hs hg hr =>
  h s A C hs ⟨hg.os, hg.tape, hg.output, hg.size, fun k hk hn => hg.block k hk (fun e => hn (by
    obtain ⟨hb, o, ho, hw⟩ := hr k e.symm
    exact ⟨hb, o, ho, by cases o <;> first | rfl | cases hw⟩))⟩
theorem abides_drew {β : Type} {B : Nat} {J : β → World → Prop} (h : AbidesFrom B J) {s : β} {W : World} (hs : J s W) : J s W.drew := h s W _ none hs ⟨rfl, rfl, rfl, Nat.le_refl _, fun _ _ _ => rfl⟩ (fun r e => by cases e)
theorem abides_drewN {β : Type} {B : Nat} {J : β → World → Prop} (h : AbidesFrom B J) {s : β} {W : World} (n : Nat) (hs : J s W) : J s (W.drewN n) := h s W _ none hs ⟨rfl, rfl, rfl, Nat.le_refl _, fun _ _ _ => rfl⟩ (fun r e => by cases e)
theorem abides_alloc {β : Type} {B : Nat} {J : β → World → Prop} (h : AbidesFrom B J) {s : β} {W : World} (o : Obj) (hs : J s W) : J s (W.alloc o) := h s W _ none hs (World.grownBy_alloc W o none) (fun r e => by cases e)

theorem room_of_none {F : Fence} (hd : F.depth = none) (k : Nat) : F.room k := fun d h => by rw [hd] at h; cases h
theorem roundIn_any {F : Fence} (hd : F.depth = none) {m m' : Nat} {P : Program} {l : Nat} {f : FuncId} {tmps : Array Value} {assign body : Code} {w : World} {R : Ending → World → Prop}
    (h : RoundIn F m P l f tmps assign body w R) : RoundIn F m' P l f tmps assign body w R := ⟨h.1, fun c cs _ => h.2 c cs (room_of_none hd _)⟩
theorem yieldAt_any {F : Fence} (hd : F.depth = none) {m : Nat} (m' : Nat) {P : Program} {l : Nat} {args : Array Value} {W : World} {R : Ending → World → Prop} (h : YieldAt F m P l args W R) : YieldAt F m' P l args W R := by
  obtain ⟨fn, tmps, assign, body, hy, hR⟩ := h
  exact ⟨fn, tmps, assign, body, hy, roundIn_any hd hR⟩
end Go.Und
