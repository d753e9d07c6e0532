/- A tree in memory: nodes of six cells, a block each. -/
import Derived.Test.YtckbeppofnnfkaaHeap
import Derived.Test.YtckbeppofnnfkaaAvl
namespace Go.Und
open Go.RowKit
namespace Tr
variable {α : Type}

def ptr : Tr α → Option Addr | nil => none | node b _ _ _ _ _ _ => some ⟨b, 0, none⟩

@[simp] theorem ptr_nil : (nil : Tr α).ptr = none := rfl
@[simp] theorem ptr_node (b : Nat) (k : Int) (v : α) (l r : Tr α) (h n : Int) : (node b k v l r h n).ptr = some ⟨b, 0, none⟩ := rfl
@[simp] theorem ptr_mk (b : Nat) (k : Int) (v : α) (l r : Tr α) : (mk b k v l r).ptr = some ⟨b, 0, none⟩ := rfl
attribute [go_sem] ptr_nil ptr_node ptr_mk

/-- The tree lies in the world. -/
def In (E : α → Value) (ty : TypeId) (w : World) : Tr α → Prop
  | nil => True
  | node b k v l r h n => Blk w b ty #[.int .i64 k, E v, .pointer l.ptr, .pointer r.ptr, .int .i64 h, .int .i64 n] ∧ l.In E ty w ∧ r.In E ty w

variable {E : α → Value} {ty : TypeId} {w w' : World} {D : Nat → Prop}

theorem In.fr {t : Tr α} (h : t.In E ty w) (f : Fr D w w') (hd : ∀ b ∈ t.blocks, ¬ D b) : t.In E ty w' := by
  induction t with
  | nil => trivial
  | node b k v l r hh n ihl ihr =>
    obtain ⟨h1, h2, h3⟩ := h
    simp only [blocks, List.mem_cons, List.mem_append] at hd
    exact ⟨h1.fr f (hd b (.inl rfl)), ihl h2 fun x hx => hd x (.inr (.inl hx)), ihr h3 fun x hx => hd x (.inr (.inr hx))⟩

theorem In.lt {t : Tr α} (h : t.In E ty w) : ∀ b ∈ t.blocks, b < w.heap.size := by
  induction t with
  | nil => intro b hb; cases hb
  | node b k v l r hh n ihl ihr =>
    obtain ⟨h1, h2, h3⟩ := h
    intro x hx
    simp only [blocks, List.mem_cons, List.mem_append] at hx
    rcases hx with rfl | hx | hx
    · exact h1.lt
    · exact ihl h2 x hx
    · exact ihr h3 x hx

theorem In.drew {t : Tr α} (h : t.In E ty w) : t.In E ty w.drew := h.fr ((Fr.refl None w).drew) fun _ _ h => h
theorem In.set {t : Tr α} (h : t.In E ty w) {p : Addr} (hp : p.block ∉ t.blocks) (v : Value) : t.In E ty (w.setCell p v) :=
  h.fr (D := (· = p.block)) (Fr.setCell (Fr.refl (· = p.block) w) (fun _ => rfl) v) fun b hb e => hp (e ▸ hb)

/-- A tree's node: its block, apart from those of its sides, which are apart from each other. -/
theorem nodup_node {b : Nat} {k : Int} {v : α} {l r : Tr α} {h n : Int} (hd : (node b k v l r h n).blocks.Nodup) :
    b ∉ l.blocks ∧ b ∉ r.blocks ∧ l.blocks.Nodup ∧ r.blocks.Nodup ∧ (∀ x ∈ l.blocks, x ∉ r.blocks) := by
  simp only [blocks, List.nodup_cons, List.mem_append, not_or, List.nodup_append] at hd
  exact ⟨hd.1.1, hd.1.2, hd.2.1, hd.2.2.1, fun x hx hy => hd.2.2.2 x hx x hy rfl⟩

/-- What a step that turns a tree into another leaves. -/
structure Did (E : α → Value) (ty : TypeId) (w w' : World) (t t' : Tr α) : Prop where
  inn : t'.In E ty w'
  fr : Fr (· ∈ t.blocks) w w'
end Tr
end Go.Und
