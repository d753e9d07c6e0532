/- A tree behind a pointer, whole; what is known of fixed calls. -/
import Derived.Test.YtkjhdkjenloifaaAvlW6
namespace Go.Proofs.Ytkjhdkjenloifaa
open Go.RowKit Go.Und

/-- At block p stands a tree. -/
structure TreeAt (w : World) (p : Nat) (t : TrV) : Prop where
  blk : Blk w p TT #[.pointer t.ptr]
  inn : inW w t
  nodup : t.blocks.Nodup
  pn : p ∉ t.blocks
  right : t.Right
  bal : t.Bal
  rise : Tr.Rise t.items

theorem TreeAt.fr {w w' : World} {p : Nat} {t : TrV} {D : Nat → Prop} (h : TreeAt w p t) (f : Fr D w w') (hp : ¬ D p) (hd : ∀ b ∈ t.blocks, ¬ D b) : TreeAt w' p t :=
  ⟨h.blk.fr f hp, h.inn.fr f hd, h.nodup, h.pn, h.right, h.bal, h.rise⟩
theorem TreeAt.drewN {w : World} {p : Nat} {t : TrV} (h : TreeAt w p t) (n : Nat) : TreeAt (w.drewN n) p t := h.fr ((Fr.refl None w).drewN n) (fun h => h) fun _ _ h => h
theorem TreeAt.alloc {w : World} {p : Nat} {t : TrV} (h : TreeAt w p t) (o : Obj) : TreeAt (w.alloc o) p t := h.fr ((Fr.refl None w).alloc o) (fun h => h) fun _ _ h => h
theorem TreeAt.sz {w : World} {p : Nat} {t : TrV} (h : TreeAt w p t) : t.sz = t.items.length := h.right.len.1

theorem newTree_at (w : World) : TreeAt (w.alloc (.cells #[.pointer none] TT)) w.heap.size .nil :=
  ⟨Blk.new w TT _, trivial, List.nodup_nil, by simp, trivial, trivial, List.Pairwise.nil⟩

theorem putT_tree {p : Nat} {t : TrV} (key : Int) (v : VT) {w : World} (h : TreeAt w p t) (hs : t.sz ≤ 1000000) :
    Calls Try.prog 9 #[.pointer (some ⟨p, 0, none⟩), .int .i64 key, E v] w fun e w' =>
      e = .returned (.bool !(Tr.hasL key t.items)) ∧ Fr (fun x => x = p ∨ x ∈ t.blocks) w w' ∧ ∃ t', TreeAt w' p t' ∧ t'.items = Tr.putL key v t.items ∧ (∀ x ∈ t'.blocks, x ∈ t.blocks ∨ x = w.heap.size) ∧
        t' = (Tr.put w.heap.size key v t).1 := by
  refine (putT_any p t key v w h.blk h.inn h.nodup h.pn h.right hs).mono fun e w' ⟨he, h1, h2, h3, h4⟩ => ?_
  obtain ⟨s1, s2⟩ := Tr.put_spec w.heap.size key v h.rise
  have PB := Tr.put_blocks w.heap.size key v t
  have hm : ∀ x ∈ (Tr.put w.heap.size key v t).1.blocks, x ∈ t.blocks ∨ x = w.heap.size := fun x hx => by
    have := PB.mem_iff.1 hx
    split at this
    · rcases List.mem_cons.1 this with e | e; exact .inr e; exact .inl e
    · exact .inl this
  refine ⟨by rw [he, s2], h3, _, ⟨h1, h2, ?_, ?_, Tr.put_right _ _ _ h.right, (Tr.put_bal _ _ _ h.right h.bal).1, by rw [s1]; exact Tr.rise_putL h.rise⟩, s1, hm, rfl⟩
  · refine PB.nodup_iff.2 ?_
    split
    · exact List.nodup_cons.2 ⟨fun hx => by have := h.inn.lt _ hx; omega, h.nodup⟩
    · exact h.nodup
  · intro hx
    have hlt := h.blk.lt
    rcases hm p hx with e | e; exact h.pn e; omega

theorem delT_tree {p : Nat} {t : TrV} (key : Int) {w : World} (h : TreeAt w p t) (hs : t.sz ≤ 1000000) :
    Calls Try.prog 13 #[.pointer (some ⟨p, 0, none⟩), .int .i64 key] w fun e w' =>
      e = .returned (.bool (Tr.hasL key t.items)) ∧ Fr (fun x => x = p ∨ x ∈ t.blocks) w w' ∧ ∃ t', TreeAt w' p t' ∧ t'.items = Tr.delL key t.items ∧ (∀ x ∈ t'.blocks, x ∈ t.blocks) := by
  refine (delT_any p t key w h.blk h.inn h.nodup h.pn h.right hs).mono fun e w' ⟨he, h1, h2, h3, h4⟩ => ?_
  obtain ⟨s1, s2⟩ := Tr.cut_spec key h.rise
  obtain ⟨xs, PB⟩ := Tr.cut_blocks key t
  have hm : ∀ x ∈ (Tr.cut key t).1.blocks, x ∈ t.blocks := fun x hx => PB.mem_iff.1 (List.mem_append_left _ hx)
  exact ⟨by rw [he, s2], h3, _, ⟨h1, h2, (List.nodup_append.1 (PB.nodup_iff.2 h.nodup)).1, fun hx => h.pn (hm _ hx), Tr.cut_right _ h.right, (Tr.cut_bal _ h.right h.bal).1, by rw [s1]; exact Tr.rise_delL h.rise⟩, s1, hm⟩

/-- A frame that touches nothing below B. -/
theorem Fr.to_below {D : Nat → Prop} {w w' : World} {B : Nat} (h : Fr D w w') (hB : B ≤ w.heap.size) (hd : ∀ i, D i → B ≤ i) : Below B w w' :=
  ⟨h.os, h.tape, h.output, h.size, fun k hk => h.block k (by omega) (fun hk' => by have := hd k hk'; omega)⟩

/-- The tree of the fixed calls. -/
def knownT (f1 f2 f3 : Nat) : TrV := (Tr.put f3 9 90 (Tr.put f2 3 30 (Tr.put f1 5 50 .nil).1).1).1
theorem knownT_floor (f1 f2 f3 : Nat) : Tr.floorT 4 none (knownT f1 f2 f3) = some (3, 30) := rfl
theorem knownT_rank (f1 f2 f3 : Nat) : Tr.rankT 9 0 (knownT f1 f2 f3) = 2 := rfl
theorem knownT_ht (f1 f2 f3 : Nat) : (knownT f1 f2 f3).ht = 2 := rfl
theorem knownT_sz (f1 f2 f3 : Nat) : (knownT f1 f2 f3).sz = 3 := rfl

set_option maxHeartbeats 400000 in
theorem known_any (w : World) : Calls Try.prog 7 #[] w fun e w' => e = .returned (.bool true) ∧ Below w.heap.size w w' := by
  go_enter Try.func7, Try.ntmps7
  go_wp2_with fail
  refine (newTree_any w).mono ?_
  rintro e w0 ⟨rfl, hw0⟩
  have N0 := newTree_at w
  rw [← hw0] at N0
  have B0 : Below w.heap.size w w0 := by rw [hw0]; exact (Below.refl _ _).alloc (Nat.le_refl _) _
  clear hw0
  have T0 := Lib.hid N0; have HB0 := Lib.hid B0; clear N0 B0
  generalize hp : w.heap.size = p at *
  have HP := Lib.hid hp; clear hp
  go_wp2_with fail
  refine (putT_tree 5 50 T0.out (by simp)).mono ?_
  rintro e w1 ⟨rfl, q1, t1, q2, q3, q4, q5⟩
  have B1 := HB0.out.trans (Fr.to_below q1 (Nat.le_of_lt T0.out.blk.lt) (fun i hi => by rcases hi with rfl | hi; exact Nat.le_refl _; simp at hi))
  have z1 : ∀ x ∈ t1.blocks, p ≤ x := fun x hx => by rcases q4 x hx with e | e; simp at e; rw [e]; exact (Nat.le_of_lt T0.out.blk.lt)
  have s1 : t1.sz ≤ 1000000 := by rw [q2.sz, q3]; simp [Tr.putL]
  have T1 := Lib.hid q2; have HB1 := Lib.hid B1; have Z1 := Lib.hid z1; have E1 := Lib.hid q5; have S1 := Lib.hid s1; have I1 := Lib.hid q3
  clear q1 q2 q3 q4 q5 B1 z1 s1
  simp only [Tr.items_nil, show Tr.hasL 5 ([] : List (Int × VT)) = false from rfl, Bool.not_false]
  go_wp2_with fail
  refine (putT_tree 3 30 T1.out S1.out).mono ?_
  rintro e w2 ⟨rfl, q1, t2, q2, q3, q4, q5⟩
  have B2 := HB1.out.trans (Fr.to_below q1 (Nat.le_of_lt T1.out.blk.lt) (fun i hi => by rcases hi with rfl | hi; exact Nat.le_refl _; exact Z1.out i hi))
  have z2 : ∀ x ∈ t2.blocks, p ≤ x := fun x hx => by rcases q4 x hx with e | e; exact Z1.out x e; rw [e]; exact (Nat.le_of_lt T1.out.blk.lt)
  have s2 : t2.sz ≤ 1000000 := by rw [q2.sz, q3, I1.out]; simp [Tr.putL]
  have T2 := Lib.hid q2; have HB2 := Lib.hid B2; have Z2 := Lib.hid z2; have E2 := Lib.hid q5; have S2 := Lib.hid s2
  clear q1 q2 q3 q4 q5 B2 z2 s2
  obtain ⟨m1, hm1⟩ : ∃ m, (!Tr.hasL 3 t1.items) = m := ⟨_, rfl⟩
  rw [hm1]; clear hm1
  go_wp2_with fail
  refine (putT_tree 9 90 T2.out S2.out).mono ?_
  rintro e w3 ⟨rfl, q1, t3, q2, q3, q4, q5⟩
  have B3 := HB2.out.trans (Fr.to_below q1 (Nat.le_of_lt T2.out.blk.lt) (fun i hi => by rcases hi with rfl | hi; exact Nat.le_refl _; exact Z2.out i hi))
  have e3 : t3 = knownT w0.heap.size w1.heap.size w2.heap.size := by rw [q5, E2.out, E1.out]; rfl
  have F := Lib.hid (floor_any p t3 4 w3 q2.blk q2.inn)
  have z3 : t3.sz = 3 := by rw [e3]; rfl
  have R := Lib.hid (fun n => rank_any p t3 9 (w3.drewN n) (q2.drewN n).blk (q2.drewN n).inn q2.right q2.rise (by rw [z3]; omega))
  have H := Lib.hid (fun n => heightT_any p t3 (w3.drewN n) (q2.drewN n).blk (q2.drewN n).inn)
  have L := Lib.hid (fun n => lenT_any p t3 (w3.drewN n) (q2.drewN n).blk (q2.drewN n).inn)
  rw [e3, knownT_floor] at F
  rw [e3, knownT_rank] at R
  rw [e3, knownT_ht] at H
  rw [e3, knownT_sz] at L
  simp only [tellV] at F
  have HB3 := Lib.hid B3
  clear q1 q2 q3 q4 q5 B3 e3 z3
  obtain ⟨m2, hm2⟩ : ∃ m, (!Tr.hasL 9 t2.items) = m := ⟨_, rfl⟩
  rw [hm2]; clear hm2
  go_wp2_with fail
  refine F.out.mono ?_
  rintro e w4 ⟨rfl, n4, rfl⟩
  go_wp2_with fail
  refine (R.out n4).mono ?_
  rintro e w4 ⟨rfl, n5, rfl⟩
  go_wp2_with fail
  refine (H.out _).mono ?_
  rintro e w4 ⟨rfl, rfl⟩
  go_wp2_with fail
  refine (L.out _).mono ?_
  rintro e w4 ⟨rfl, rfl⟩
  go_wp2_with fail
  go_ret
  rw [HP.out]
  exact ⟨rfl, ⟨HB3.out.os, HB3.out.tape, HB3.out.output, HB3.out.size, HB3.out.block⟩⟩

theorem least_bound {n : Nat} (h : n ≤ 22) : (Tr.leastN n : Int) ≤ 46367 := by
  have := Tr.leastN_le h
  have e : Tr.leastN 22 = 46367 := by decide
  omega

set_option maxHeartbeats 400000 in
theorem leastRef_any (h : Nat) (hh : h ≤ 20) (w : World) :
    Calls Try.prog 12 #[.int .i64 h] w fun e w' => e = .returned (.int .i64 (Tr.leastN h)) ∧ w' = w := by
  go_enter Try.func12, Try.ntmps12
  go_wp2_with fail
  go_loop [3, 4, 5] (fun a b i => ∃ k : Nat, k ≤ h ∧ i = .int .i64 k ∧ a = .int .i64 (Tr.leastN k) ∧ b = .int .i64 (Tr.leastN (k + 1))) (fun _ _ i => h - (intOf i).toNat)
  case atStart => exact ⟨0, Nat.zero_le _, rfl, rfl, rfl⟩
  case round =>
    obtain ⟨k, hk, rfl, rfl, rfl⟩ := hrel
    have b1 := least_bound (n := k) (by omega)
    have b2 := least_bound (n := k + 1) (by omega)
    have e2 := Lib.hid (show Tr.leastN (k + 2) = Tr.leastN k + Tr.leastN (k + 1) + 1 from rfl)
    by_cases hlt : k < h
    · go_wp2_with fail
      go_round
      case rel => exact ⟨k + 1, by omega, by go_num, rfl, by rw [e2.out]; go_num⟩
      case measure => simp [intOf]; omega
    · go_wp2_with fail
      go_ret
      obtain rfl : k = h := by omega
      exact ⟨rfl, rfl⟩
end Go.Proofs.Ytkjhdkjenloifaa
