/- What is done with the tree and with the list, walked. -/
import Derived.Test.YtkjhdkjenloifaaAvlL2
import Derived.Test.YtkjhdkjenloifaaAvlI4
import Derived.Test.YtkjhdkjenloifaaSep
import Derived.Deep.RegionHeld3
import Derived.Deep.DrawnRows
namespace Go.Proofs.Ytkjhdkjenloifaa
open Go.RowKit Go.Und
attribute [local go_sem ↓] Go.wp_at_zero Go.wp_at_succ

theorem in_blkP {w : World} {t : TrV} (h : inW w t) : ∀ x ∈ t.blocks, ∃ cs, Blk w x NT cs := by
  induction t with
  | nil => intro x hx; cases hx
  | node b k v l r hh n ihl ihr =>
    obtain ⟨h1, h2, h3⟩ := h
    intro x hx
    simp only [Tr.blocks_node, List.mem_cons, List.mem_append] at hx
    rcases hx with rfl | hx | hx
    · exact ⟨_, h1⟩
    · exact ihl h2 x hx
    · exact ihr h3 x hx
theorem blk_tyP {w : World} {b : Nat} {t t' : TypeId} {cs cs' : Array Value} (h : Blk w b t cs) (h' : Blk w b t' cs') : t = t' := by
  unfold Blk at h h'; rw [h] at h'; cases h'; rfl

abbrev OpT : TypeId := 32

/-- What is done with both leaves. -/
def DoesPost (W : World) (p : Nat) (t : TrV) (q : Option Addr) (l2 : List (Int × Int)) (e : Ending) (W' : World) : Prop :=
  ∃ t2 q' cap', e = .returned (.tuple #[.slice q' l2.length cap', .bool true]) ∧ TreeAt W' p t2 ∧ t2.items = l2 ∧ (∀ x ∈ t2.blocks, x ∈ t.blocks ∨ W.heap.size ≤ x) ∧
    Pairs W' (.slice q' l2.length cap') l2 ∧ (∀ ad, q' = some ad → q = some ad ∨ W.heap.size ≤ ad.block) ∧ Fr (fun x => x = p ∨ x ∈ t.blocks) W W'

theorem does_end {W w1 w2 : World} {p : Nat} {t t2 : TrV} {q q1 : Option Addr} {l2 : List (Int × Int)} {cap1 : Nat} {S : Nat} (f : Fr None W w1) (k1 : Pairs w1 (.slice q1 l2.length cap1) l2) (k2 : ∀ ad, q1 = some ad → q = some ad ∨ S ≤ ad.block)
    (l1 : Fr (fun x => x = p ∨ x ∈ t.blocks) w1 w2) (l2' : TreeAt w2 p t2) (l3 : t2.items = l2) (l4 : ∀ x ∈ t2.blocks, x ∈ t.blocks ∨ w1.heap.size ≤ x) (hS : W.heap.size ≤ S) (hp : p < W.heap.size ∧ ∀ x ∈ t.blocks, x < W.heap.size) (hq : ∀ ad, q = some ad → ¬ (ad.block = p ∨ ad.block ∈ t.blocks)) :
    DoesPost W p t q l2 (.returned (.tuple #[.slice q1 l2.length cap1, .bool true])) w2 := by
  refine ⟨t2, q1, cap1, rfl, l2', l3, fun x hx => ?_, k1.fr l1 (fun b hb h => ?_), fun ad h => ?_, ?_⟩
  · rcases l4 x hx with e | e
    · exact .inl e
    · exact .inr (Nat.le_trans f.size e)
  · obtain ⟨ad, had⟩ : ∃ ad, q1 = some ad ∧ ad.block = b := by
      cases q1 with
      | none => cases hb
      | some ad => exact ⟨ad, rfl, by simpa [Value.ownBlock] using hb⟩
    obtain ⟨rfl, rfl⟩ := had
    rcases k2 ad rfl with e | e
    · exact hq ad e h
    · rcases h with h | h
      · have := hp.1; omega
      · have := hp.2 _ h; omega
  · rcases k2 ad h with e | e
    · exact .inl e
    · exact .inr (Nat.le_trans hS e)
  · exact (f.mono fun _ _ h => h.elim).trans l1

set_option maxHeartbeats 4000000 in
theorem does_put (p : Nat) (t : TrV) (q : Option Addr) (cap : Nat) (key v : Int) (W : World) (hT : TreeAt W p t) (hP : Pairs W (.slice q t.items.length cap) t.items) (hs : t.items.length ≤ 100000) :
    Calls Try.prog 23 #[.pointer (some ⟨p, 0, none⟩), .slice q t.items.length cap, .agg #[.bool false, .int .i64 key, .int .i64 v]] W (DoesPost W p t q (Tr.putL key v t.items)) := by
  have hsz := hT.sz
  have HB := Lib.hid (Blk.new W OpT #[.bool false, .int .i64 key, .int .i64 v])
  have HH := Lib.hid (fun W1 (f : Fr None W W1) => hasRef_any q cap t.items key W1 ((hP.fr f fun _ _ h => h).reads.1) (by omega))
  have HP := Lib.hid (fun W1 (f : Fr None W W1) => putRef_any q cap t.items key v W1 ((hP.fr f fun _ _ h => h).reads.1) hs hT.rise)
  have HT := Lib.hid (fun W1 (f : Fr None W W1) => putT_tree (p := p) (t := t) key v (hT.fr f (fun h => h) fun _ _ h => h) (by omega))
  have HE := Lib.hid (Tr.hasR_has (key := key) hT.rise)
  have c1 := HB.out.cell 1
  have c2 := HB.out.cell 2
  have c0 := HB.out.cell 0
  simp only [List.getElem?_toArray, List.getElem?_cons_zero, List.getElem?_cons_succ] at c0 c1 c2
  have HM := Lib.hid (show (p < W.heap.size ∧ ∀ x ∈ t.blocks, x < W.heap.size) ∧ ∀ ad, q = some ad → ¬ (ad.block = p ∨ ad.block ∈ t.blocks) from
    ⟨⟨hT.blk.lt, fun x hx => hT.inn.lt x hx⟩, fun ad h hx => by
      subst h
      obtain ⟨cs, hc⟩ := hP.block (b := ad.block) rfl
      rcases hx with e | e
      · rw [e] at hc; exact absurd (blk_tyP hc hT.blk) (by decide)
      · obtain ⟨cs', hc'⟩ := in_blkP hT.inn _ e; exact absurd (blk_tyP hc hc') (by decide)⟩)
  have HN := Lib.hid (show ¬ (W.heap.size = p ∨ W.heap.size ∈ t.blocks) from fun h => by
    rcases h with h | h
    · have := hT.blk.lt; omega
    · have := hT.inn.lt _ h; omega)
  clear hT hP
  go_enter Try.func23, Try.ntmps23
  go_wp2_with fail
  refine (HH.out _ ((Fr.refl None W).alloc _)).mono ?_
  rintro e w1 ⟨rfl, rfl⟩
  go_wp2_with fail
  have cB : ∀ W1, Fr (fun x => x = p ∨ x ∈ t.blocks) (W.alloc (.cells #[.bool false, .int .i64 key, .int .i64 v] OpT)).drew W1 → W1.cell? ⟨W.heap.size, 1, none⟩ = some (.int .i64 key) ∧ W1.cell? ⟨W.heap.size, 2, none⟩ = some (.int .i64 v) := fun W1 f => ⟨(HB.out.drew.fr f HN.out).cell 1, (HB.out.drew.fr f HN.out).cell 2⟩
  go_region_held3 (fun w' => w'.cell? ⟨W.heap.size, 1, none⟩ = some (.int .i64 key) ∧ w'.cell? ⟨W.heap.size, 2, none⟩ = some (.int .i64 v)) (first | assumption | go_keep)
    (first
      | ((with_reducible refine (HP.out _ (((Fr.refl None W).alloc _).drew)).mono ?_); rintro e w1 ⟨q1, cap1, rfl, k1, k2, k3⟩; have q1 := cB w1 (k3.mono fun _ _ h => h.elim))
      | ((with_reducible refine (HT.out _ ((((Fr.refl None W).alloc _).drew).trans k3)).mono ?_); rintro e w2 ⟨rfl, l1, t2, l2, l3, l4, -⟩; have q2 := cB w2 ((k3.mono fun _ _ h => h.elim).trans l1)))
  have P := Lib.hid (does_end (q := q) (((Fr.refl None W).alloc _).drew.trans k3) k1 (fun ad h => .inr (k2 ad h)) l1 l2 l3 (fun x hx => (l4 x hx).imp id (fun e => Nat.le_of_eq e.symm)) (by simp) HM.out.1 HM.out.2)
  have E := HE.out
  rw [← E]
  clear k1 k2 k3 l1 l2 l3 l4 q2 cB E HB HH HP HT HN HM
  simp only [BEq.rfl]
  go_wp2_with fail
  go_ret2
  exact P.out
set_option maxHeartbeats 4000000 in
theorem does_del (p : Nat) (t : TrV) (q : Option Addr) (cap : Nat) (key v : Int) (W : World) (hT : TreeAt W p t) (hP : Pairs W (.slice q t.items.length cap) t.items) (hs : t.items.length ≤ 100000) :
    Calls Try.prog 23 #[.pointer (some ⟨p, 0, none⟩), .slice q t.items.length cap, .agg #[.bool true, .int .i64 key, .int .i64 v]] W (DoesPost W p t q (Tr.delL key t.items)) := by
  have hsz := hT.sz
  have HB := Lib.hid (Blk.new W OpT #[.bool true, .int .i64 key, .int .i64 v])
  have HH := Lib.hid (fun W1 (f : Fr None W W1) => hasRef_any q cap t.items key W1 ((hP.fr f fun _ _ h => h).reads.1) (by omega))
  have HP := Lib.hid (fun W1 (f : Fr None W W1) => delRef_any q cap t.items key W1 (hP.fr f fun _ _ h => h) ((hP.fr f fun _ _ h => h).reads.1) hs hT.rise)
  have HT := Lib.hid (fun W1 (f : Fr None W W1) => delT_tree (p := p) (t := t) key (hT.fr f (fun h => h) fun _ _ h => h) (by omega))
  have HE := Lib.hid (Tr.hasR_has (key := key) hT.rise)
  have c1 := HB.out.cell 1
  have c2 := HB.out.cell 2
  have c0 := HB.out.cell 0
  simp only [List.getElem?_toArray, List.getElem?_cons_zero, List.getElem?_cons_succ] at c0 c1 c2
  have HM := Lib.hid (show (p < W.heap.size ∧ ∀ x ∈ t.blocks, x < W.heap.size) ∧ ∀ ad, q = some ad → ¬ (ad.block = p ∨ ad.block ∈ t.blocks) from
    ⟨⟨hT.blk.lt, fun x hx => hT.inn.lt x hx⟩, fun ad h hx => by
      subst h
      obtain ⟨cs, hc⟩ := hP.block (b := ad.block) rfl
      rcases hx with e | e
      · rw [e] at hc; exact absurd (blk_tyP hc hT.blk) (by decide)
      · obtain ⟨cs', hc'⟩ := in_blkP hT.inn _ e; exact absurd (blk_tyP hc hc') (by decide)⟩)
  have HN := Lib.hid (show ¬ (W.heap.size = p ∨ W.heap.size ∈ t.blocks) from fun h => by
    rcases h with h | h
    · have := hT.blk.lt; omega
    · have := hT.inn.lt _ h; omega)
  clear hT hP
  go_enter Try.func23, Try.ntmps23
  go_wp2_with fail
  refine (HH.out _ ((Fr.refl None W).alloc _)).mono ?_
  rintro e w1 ⟨rfl, rfl⟩
  go_wp2_with fail
  have cB : ∀ W1, Fr (fun x => x = p ∨ x ∈ t.blocks) (W.alloc (.cells #[.bool true, .int .i64 key, .int .i64 v] OpT)).drew W1 → W1.cell? ⟨W.heap.size, 1, none⟩ = some (.int .i64 key) ∧ W1.cell? ⟨W.heap.size, 2, none⟩ = some (.int .i64 v) := fun W1 f => ⟨(HB.out.drew.fr f HN.out).cell 1, (HB.out.drew.fr f HN.out).cell 2⟩
  go_region_held3 (fun w' => w'.cell? ⟨W.heap.size, 1, none⟩ = some (.int .i64 key) ∧ w'.cell? ⟨W.heap.size, 2, none⟩ = some (.int .i64 v)) (first | assumption | go_keep)
    (first
      | ((with_reducible refine (HP.out _ (((Fr.refl None W).alloc _).drew)).mono ?_); rintro e w1 ⟨q1, cap1, rfl, k1, k2, k3⟩; have q1 := cB w1 (k3.mono fun _ _ h => h.elim))
      | ((with_reducible refine (HT.out _ ((((Fr.refl None W).alloc _).drew).trans k3)).mono ?_); rintro e w2 ⟨rfl, l1, t2, l2, l3, l4⟩; have q2 := cB w2 ((k3.mono fun _ _ h => h.elim).trans l1)))
  have P := Lib.hid (does_end (q := q) (((Fr.refl None W).alloc _).drew.trans k3) k1 k2 l1 l2 l3 (fun x hx => .inl (l4 x hx)) (by simp) HM.out.1 HM.out.2)
  have E := HE.out
  rw [← E]
  clear k1 k2 k3 l1 l2 l3 l4 q2 cB E HB HH HP HT HN HM
  simp only [BEq.rfl]
  go_wp2_with fail
  go_ret2
  exact P.out
end Go.Proofs.Ytkjhdkjenloifaa
