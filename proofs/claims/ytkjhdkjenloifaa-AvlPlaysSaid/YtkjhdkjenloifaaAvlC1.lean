/- A copy of a tree. -/
import Derived.Test.YtkjhdkjenloifaaAvlW7
import Derived.Deep.RegionHeld3
import Derived.Deep.DrawnRows
namespace Go.Und
namespace Tr
variable {α : Type}
/-- Alike but for the blocks. -/
def Like : Tr α → Tr α → Prop
  | nil, nil => True
  | node _ k v l r h n, node _ k' v' l' r' h' n' => k = k' ∧ v = v' ∧ h = h' ∧ n = n' ∧ Like l l' ∧ Like r r'
  | _, _ => False
theorem Like.items : ∀ {t t' : Tr α}, Like t t' → t'.items = t.items
  | nil, nil, _ => rfl
  | node _ _ _ _ _ _ _, node _ _ _ _ _ _ _, h => by
    obtain ⟨rfl, rfl, rfl, rfl, h1, h2⟩ := h
    simp only [items_node, h1.items, h2.items]
theorem Like.ht : ∀ {t t' : Tr α}, Like t t' → t'.ht = t.ht
  | nil, nil, _ => rfl
  | node _ _ _ _ _ _ _, node _ _ _ _ _ _ _, h => by obtain ⟨rfl, rfl, rfl, rfl, _, _⟩ := h; rfl
theorem Like.sz : ∀ {t t' : Tr α}, Like t t' → t'.sz = t.sz
  | nil, nil, _ => rfl
  | node _ _ _ _ _ _ _, node _ _ _ _ _ _ _, h => by obtain ⟨rfl, rfl, rfl, rfl, _, _⟩ := h; rfl
theorem Like.right : ∀ {t t' : Tr α}, Like t t' → t.Right → t'.Right
  | nil, nil, _, _ => trivial
  | node _ _ _ _ _ _ _, node _ _ _ _ _ _ _, h, hR => by
    obtain ⟨rfl, rfl, rfl, rfl, h1, h2⟩ := h
    obtain ⟨a, b, c, d⟩ := hR
    exact ⟨h1.right a, h2.right b, by rw [h1.ht, h2.ht]; exact c, by rw [h1.sz, h2.sz]; exact d⟩
end Tr
end Go.Und
namespace Go.Und
namespace Tr
variable {α : Type}
theorem Like.bal : ∀ {t t' : Tr α}, Like t t' → t.Bal → t'.Bal
  | nil, nil, _, _ => trivial
  | node _ _ _ _ _ _ _, node _ _ _ _ _ _ _, h, hB => by
    obtain ⟨rfl, rfl, rfl, rfl, h1, h2⟩ := h
    obtain ⟨a, b, c, d⟩ := hB
    exact ⟨h1.bal a, h2.bal b, by rw [h1.ht, h2.ht]; exact c, by rw [h1.ht, h2.ht]; exact d⟩
end Tr
end Go.Und
namespace Go.Proofs.Ytkjhdkjenloifaa
open Go.RowKit Go.Und

theorem cell_far {W : World} {b : Nat} {o : Nat} {q : Addr} (h : b ≠ q.block) (v : Value) : (W.setCell q v).cell? ⟨b, o, none⟩ = W.cell? ⟨b, o, none⟩ :=
  World.cell?_of_block (a := ⟨b, o, none⟩) (Below.heap_setCell W q v b h)

/-- What a copy is: alike, in new blocks. -/
def CopyPost (w : World) (t : TrV) (e : Ending) (w' : World) : Prop :=
  ∃ t' : TrV, e = .returned (.pointer t'.ptr) ∧ Tr.Like t t' ∧ inW w' t' ∧ t'.blocks.Nodup ∧ (∀ b ∈ t'.blocks, w.heap.size ≤ b) ∧ Fr None w w'

set_option maxHeartbeats 4000000 in
theorem copied_any (t : TrV) : ∀ (w : World), inW w t → Calls Try.prog 39 #[.pointer t.ptr] w (CopyPost w t) := by
  induction t with
  | nil =>
    intro w _
    show Calls _ _ #[.pointer none] _ _
    go_enter Try.func39, Try.ntmps39
    go_wp2_with fail
    go_ret
    exact ⟨.nil, rfl, trivial, trivial, List.nodup_nil, fun _ h => (by cases h), Fr.refl _ w⟩
  | node b k u l r h n ihl ihr =>
    intro w hin
    have c0 := hin.1.cell
    have z0 := hin.1.frozen
    have hlt := hin.1.lt
    have HL := Lib.hid (fun W (f : Fr None (w.alloc (.cells #[.int .i64 k, E u, .pointer l.ptr, .pointer r.ptr, .int .i64 h, .int .i64 n] NT)) W) => ihl W (hin.2.1.fr (((Fr.refl None w).alloc _).trans f) fun _ _ h => h))
    have HR := Lib.hid (fun W (f : Fr None (w.alloc (.cells #[.int .i64 k, E u, .pointer l.ptr, .pointer r.ptr, .int .i64 h, .int .i64 n] NT)) W) => ihr W (hin.2.2.fr (((Fr.refl None w).alloc _).trans f) fun _ _ h => h))
    have HB := Lib.hid (Blk.new w NT #[.int .i64 k, E u, .pointer l.ptr, .pointer r.ptr, .int .i64 h, .int .i64 n])
    have HN := Lib.hid hin.1
    clear ihl ihr hin
    show Calls _ _ #[.pointer (some ⟨b, 0, none⟩)] _ _
    go_enter Try.func39, Try.ntmps39
    go_wp2_with fail
    have c0L : ∀ W, Fr None (w.alloc (.cells #[.int .i64 k, E u, .pointer l.ptr, .pointer r.ptr, .int .i64 h, .int .i64 n] NT)).drew W → W.cell? ⟨b, 2, none⟩ = some (.pointer l.ptr) := fun W f => (HN.out.fr (((Fr.refl None w).alloc _).drew.trans f) id).cell 2
    have c0R : ∀ W, Fr None (w.alloc (.cells #[.int .i64 k, E u, .pointer l.ptr, .pointer r.ptr, .int .i64 h, .int .i64 n] NT)).drew W → W.cell? ⟨b, 3, none⟩ = some (.pointer r.ptr) := fun W f => (HN.out.fr (((Fr.refl None w).alloc _).drew.trans f) id).cell 3
    have cB : ∀ W, Fr None (w.alloc (.cells #[.int .i64 k, E u, .pointer l.ptr, .pointer r.ptr, .int .i64 h, .int .i64 n] NT)).drew W → ∀ o, W.cell? ⟨w.heap.size, o, none⟩ = _ := fun W f => (HB.out.drew.fr f id).cell
    have zB : ∀ W, Fr None (w.alloc (.cells #[.int .i64 k, E u, .pointer l.ptr, .pointer r.ptr, .int .i64 h, .int .i64 n] NT)).drew W → ∀ o, W.frozen? ⟨w.heap.size, o, none⟩ = false := fun W f => (HB.out.drew.fr f id).frozen
    have sB : ∀ W, Fr None (w.alloc (.cells #[.int .i64 k, E u, .pointer l.ptr, .pointer r.ptr, .int .i64 h, .int .i64 n] NT)).drew W → w.heap.size < W.heap.size := fun W f => (HB.out.drew.fr f id).lt
    have hne : b ≠ w.heap.size := by omega
    have lb : b < (w.alloc (.cells #[.int .i64 k, E u, .pointer l.ptr, .pointer r.ptr, .int .i64 h, .int .i64 n] NT)).heap.size := by simp; omega
    go_region_held3 (fun w' => w'.cell? ⟨b, 2, none⟩ = some (.pointer l.ptr) ∧ w'.cell? ⟨b, 3, none⟩ = some (.pointer r.ptr)) (first | exact ⟨by assumption, by assumption⟩ | exact ⟨(cell_far hne _).trans (by assumption), (cell_far hne _).trans (by assumption)⟩ | exact ⟨(cell_far hne _).trans ((cell_far hne _).trans (by assumption)), (cell_far hne _).trans ((cell_far hne _).trans (by assumption))⟩ | go_keep)
      (first
        | ((with_reducible refine (HL.out _ ((Fr.refl None _).drew)).mono ?_); rintro e w1 ⟨t1, rfl, k1, k2, k3, k4, k5⟩; have q1 := (c0L w1 k5); have q2 := (c0R w1 k5))
        | ((with_reducible refine (HR.out _ (((Fr.refl None _).drew).trans k5)).mono ?_); rintro e w2 ⟨t2, rfl, l1, l2, l3, l4, l5⟩; have q3 := (c0L w2 (k5.trans l5)); have q4 := (c0R w2 (k5.trans l5)); have qB := (cB w2 (k5.trans l5)); have zB := (zB w2 (k5.trans l5)); have sB := (sB w2 (k5.trans l5))))
    have K := k5.trans l5
    have KB := (HB.out.drew.fr K id).set 2 (.pointer t1.ptr) |>.set 3 (.pointer t2.ptr)
    have KF : Fr (· = w.heap.size) w2 ((w2.setCell ⟨w.heap.size, 2, none⟩ (.pointer t1.ptr)).setCell ⟨w.heap.size, 3, none⟩ (.pointer t2.ptr)) :=
      Fr.setCell (D := (· = w.heap.size)) (Fr.setCell (D := (· = w.heap.size)) (Fr.refl _ w2) (p := ⟨w.heap.size, 2, none⟩) (fun _ => rfl) _) (p := ⟨w.heap.size, 3, none⟩) (fun _ => rfl) _
    have K4 := fun x hx => k4 x hx
    simp only [size_drew', World.size_alloc] at K4
    have KS := k5.size
    simp only [size_drew', World.size_alloc] at KS
    have P := Lib.hid (show CopyPost w (.node b k u l r h n) (.returned (.pointer (some ⟨w.heap.size, 0, none⟩))) _ from
      ⟨.node w.heap.size k u t1 t2 h n, rfl, ⟨rfl, rfl, rfl, rfl, k1, l1⟩,
        ⟨by simpa using KB, k2.fr (l5.mono (fun _ _ h => h.elim) |>.trans KF) (fun x hx e => by have := K4 x hx; omega), l2.fr KF (fun x hx e => by have := l4 x hx; omega)⟩,
        List.nodup_cons.2 ⟨fun hx => by rcases List.mem_append.1 hx with hx | hx; (have := K4 _ hx; omega); (have := l4 _ hx; omega),
          List.nodup_append.2 ⟨k3, l3, fun x hx y hy e => by subst e; have := k2.lt x hx; have := l4 x hy; omega⟩⟩,
        fun x hx => by
          rcases List.mem_cons.1 hx with rfl | hx
          · exact Nat.le_refl _
          · rcases List.mem_append.1 hx with hx | hx
            · have := K4 x hx; omega
            · have := l4 x hx; omega,
        (((Fr.refl None w).alloc _).drew.trans K).trans' KF (fun i hi h => by omega)⟩)
    clear K KB KF K4 KS k2 k4 k5 l2 l4 l5 q1 q2 q3 q4 qB zB sB HB cB
    go_wp2_with fail
    go_ret
    exact P.out

set_option maxHeartbeats 1000000 in
/-- A tree's copy. -/
theorem cloneT_any (p : Nat) (t : TrV) (w : World) (hT : TreeAt w p t) :
    Calls Try.prog 27 #[.pointer (some ⟨p, 0, none⟩)] w fun e w' => ∃ p' t', e = .returned (.pointer (some ⟨p', 0, none⟩)) ∧ TreeAt w' p' t' ∧ Tr.Like t t' ∧ w.heap.size ≤ p' ∧ (∀ b ∈ t'.blocks, w.heap.size ≤ b) ∧ Fr None w w' := by
  have c0 := hT.blk.cell
  have HC := Lib.hid (copied_any t w hT.inn)
  have HT := Lib.hid hT; clear hT
  go_enter Try.func27, Try.ntmps27
  go_wp2_with fail
  refine HC.out.mono ?_
  rintro e w1 ⟨t1, rfl, k1, k2, k3, k4, k5⟩
  have P := Lib.hid (show TreeAt (w1.alloc (.cells #[.pointer t1.ptr] TT)) w1.heap.size t1 ∧ Tr.Like t t1 ∧ w.heap.size ≤ w1.heap.size ∧ (∀ b ∈ t1.blocks, w.heap.size ≤ b) ∧ Fr None w (w1.alloc (.cells #[.pointer t1.ptr] TT)) from
    ⟨⟨Blk.new w1 TT _, k2.fr ((Fr.refl None w1).alloc _) (fun _ _ h => h), k3, fun hx => Nat.lt_irrefl _ (k2.lt _ hx), k1.right HT.out.right, k1.bal HT.out.bal, by rw [k1.items]; exact HT.out.rise⟩, k1, k5.size, k4, k5.alloc _⟩)
  clear k1 k2 k3 k4 k5 HC HT c0
  go_wp2_with fail
  go_ret
  exact ⟨_, _, rfl, P.out⟩
end Go.Proofs.Ytkjhdkjenloifaa
