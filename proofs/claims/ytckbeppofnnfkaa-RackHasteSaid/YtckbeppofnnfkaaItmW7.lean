/- A tree behind a pointer, whole. -/
import Derived.Test.YtckbeppofnnfkaaItmW6
namespace Go.Proofs.Ytckbeppofnnfkaa.Itm
open Go.RowKit Go.Und

/-- At block p stands a tree. -/
structure TreeAt (w : World) (p : Nat) (t : TrV) : Prop where
  blk : Blk w p TT #[.pointer t.ptr]
  inn : inW w t
  nodup : t.blocks.Nodup
  pn : p ∉ t.blocks
  right : t.Right
  bal : t.Bal
  rise : Tr.Rise t.items

theorem TreeAt.fr {w w' : World} {p : Nat} {t : TrV} {D : Nat → Prop} (h : TreeAt w p t) (f : Fr D w w') (hp : ¬ D p) (hd : ∀ b ∈ t.blocks, ¬ D b) : TreeAt w' p t :=
  ⟨h.blk.fr f hp, h.inn.fr f hd, h.nodup, h.pn, h.right, h.bal, h.rise⟩
theorem TreeAt.drewN {w : World} {p : Nat} {t : TrV} (h : TreeAt w p t) (n : Nat) : TreeAt (w.drewN n) p t := h.fr ((Fr.refl None w).drewN n) (fun h => h) fun _ _ h => h
theorem TreeAt.alloc {w : World} {p : Nat} {t : TrV} (h : TreeAt w p t) (o : Obj) : TreeAt (w.alloc o) p t := h.fr ((Fr.refl None w).alloc o) (fun h => h) fun _ _ h => h
theorem TreeAt.sz {w : World} {p : Nat} {t : TrV} (h : TreeAt w p t) : t.sz = t.items.length := h.right.len.1

theorem newTree_at (w : World) : TreeAt (w.alloc (.cells #[.pointer none] TT)) w.heap.size .nil :=
  ⟨Blk.new w TT _, trivial, List.nodup_nil, by simp, trivial, trivial, List.Pairwise.nil⟩

theorem putT_tree {p : Nat} {t : TrV} (key : Int) (v : VT) {w : World} (h : TreeAt w p t) (hs : t.sz ≤ 1000000) :
    Calls Try.prog 106 #[.pointer (some ⟨p, 0, none⟩), .int .i64 key, E v] w fun e w' =>
      e = .returned (.bool !(Tr.hasL key t.items)) ∧ Fr (fun x => x = p ∨ x ∈ t.blocks) w w' ∧ ∃ t', TreeAt w' p t' ∧ t'.items = Tr.putL key v t.items ∧ (∀ x ∈ t'.blocks, x ∈ t.blocks ∨ x = w.heap.size) ∧
        t' = (Tr.put w.heap.size key v t).1 := by
  refine (putT_any p t key v w h.blk h.inn h.nodup h.pn h.right hs).mono fun e w' ⟨he, h1, h2, h3, h4⟩ => ?_
  obtain ⟨s1, s2⟩ := Tr.put_spec w.heap.size key v h.rise
  have PB := Tr.put_blocks w.heap.size key v t
  have hm : ∀ x ∈ (Tr.put w.heap.size key v t).1.blocks, x ∈ t.blocks ∨ x = w.heap.size := fun x hx => by
    have := PB.mem_iff.1 hx
    split at this
    · rcases List.mem_cons.1 this with e | e; exact .inr e; exact .inl e
    · exact .inl this
  refine ⟨by rw [he, s2], h3, _, ⟨h1, h2, ?_, ?_, Tr.put_right _ _ _ h.right, (Tr.put_bal _ _ _ h.right h.bal).1, by rw [s1]; exact Tr.rise_putL h.rise⟩, s1, hm, rfl⟩
  · refine PB.nodup_iff.2 ?_
    split
    · exact List.nodup_cons.2 ⟨fun hx => by have := h.inn.lt _ hx; omega, h.nodup⟩
    · exact h.nodup
  · intro hx
    have hlt := h.blk.lt
    rcases hm p hx with e | e; exact h.pn e; omega

theorem delT_tree {p : Nat} {t : TrV} (key : Int) {w : World} (h : TreeAt w p t) (hs : t.sz ≤ 1000000) :
    Calls Try.prog 105 #[.pointer (some ⟨p, 0, none⟩), .int .i64 key] w fun e w' =>
      e = .returned (.bool (Tr.hasL key t.items)) ∧ Fr (fun x => x = p ∨ x ∈ t.blocks) w w' ∧ ∃ t', TreeAt w' p t' ∧ t'.items = Tr.delL key t.items ∧ (∀ x ∈ t'.blocks, x ∈ t.blocks) := by
  refine (delT_any p t key w h.blk h.inn h.nodup h.pn h.right hs).mono fun e w' ⟨he, h1, h2, h3, h4⟩ => ?_
  obtain ⟨s1, s2⟩ := Tr.cut_spec key h.rise
  obtain ⟨xs, PB⟩ := Tr.cut_blocks key t
  have hm : ∀ x ∈ (Tr.cut key t).1.blocks, x ∈ t.blocks := fun x hx => PB.mem_iff.1 (List.mem_append_left _ hx)
  exact ⟨by rw [he, s2], h3, _, ⟨h1, h2, (List.nodup_append.1 (PB.nodup_iff.2 h.nodup)).1, fun hx => h.pn (hm _ hx), Tr.cut_right _ h.right, (Tr.cut_bal _ h.right h.bal).1, by rw [s1]; exact Tr.rise_delL h.rise⟩, s1, hm⟩

/-- A frame that touches nothing below B. -/
theorem Fr.to_below {D : Nat → Prop} {w w' : World} {B : Nat} (h : Fr D w w') (hB : B ≤ w.heap.size) (hd : ∀ i, D i → B ≤ i) : Below B w w' :=
  ⟨h.os, h.tape, h.output, h.size, fun k hk => h.block k (by omega) (fun hk' => by have := hd k hk'; omega)⟩

end Go.Proofs.Ytckbeppofnnfkaa.Itm
