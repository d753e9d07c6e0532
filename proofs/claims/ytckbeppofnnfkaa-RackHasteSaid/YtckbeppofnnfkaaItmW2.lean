/- The tree's balance, walked. -/
import Derived.Test.YtckbeppofnnfkaaItmW1
namespace Go.Proofs.Ytckbeppofnnfkaa.Itm
open Go.RowKit Go.Und

theorem inW.drewN {w : World} {t : TrV} (h : inW w t) (n : Nat) : inW (w.drewN n) t := Tr.In.fr h ((Fr.refl None w).drewN n) fun _ _ h => h

def EvenPost (w : World) (t : TrV) (t' : TrV) (e : Ending) (w' : World) : Prop :=
  e = .returned (.pointer t'.ptr) ∧ inW w' t' ∧ Fr (· ∈ t.blocks) w w' ∧ w'.heap.size = w.heap.size

theorem mk_nodup {b : Nat} {k : Int} {v : VT} {l r : TrV} {h n : Int} (hd : (Tr.node b k v l r h n).blocks.Nodup) : (Tr.mk b k v l r).blocks.Nodup := hd

set_option maxHeartbeats 400000 in
theorem even_ok (b : Nat) (k : Int) (v : VT) (l r : TrV) (h n : Int) (w : World) (hin : inW w (.node b k v l r h n)) (hd : (Tr.node b k v l r h n).blocks.Nodup) (hs : Sides l r)
    (g1 : l.ht - r.ht ≤ 1) (g2 : -1 ≤ l.ht - r.ht) :
    Calls Try.prog 163 #[.pointer (some ⟨b, 0, none⟩)] w (EvenPost w (.node b k v l r h n) (Tr.mk b k v l r)) := by
  have T := Lib.hid (tell_did b k v l r h n w hin hd hs)
  have SM := hs.small
  clear hin
  go_enter Try.func163, Try.ntmps163
  go_wp2_with fail
  refine T.out.mono ?_
  rintro e w1 ⟨rfl, q1, q2, q3⟩
  have J := Lib.hid q1; have F := Lib.hid q2; have Z := Lib.hid q3; clear q1 q2 q3
  go_wp2_with fail
  refine (lean_any b k v l r _ _ _ J.out SM.1 SM.2).mono ?_
  rintro e _ ⟨rfl, n1, rfl⟩
  go_wp2_with fail
  refine (lean_any b k v l r _ _ _ (J.out.drewN _) SM.1 SM.2).mono ?_
  rintro e _ ⟨rfl, n2, rfl⟩
  go_wp2_with fail
  go_ret
  exact ⟨rfl, J.out.drewN _, (F.out.drewN (n1 + n2)).mono (fun i _ e => by subst e; simp), Z.out⟩

set_option maxHeartbeats 400000 in
theorem even_LL (b b1 : Nat) (k k1 : Int) (v v1 : VT) (l1 r1 r : TrV) (h n h1 n1 : Int) (w : World) (hin : inW w (.node b k v (.node b1 k1 v1 l1 r1 h1 n1) r h n))
    (hd : (Tr.node b k v (.node b1 k1 v1 l1 r1 h1 n1) r h n).blocks.Nodup) (hl : (Tr.node b1 k1 v1 l1 r1 h1 n1).Right) (hr : r.Right) (hs : n1 + r.sz ≤ 10000000)
    (g1 : 1 < h1 - r.ht) (g2 : 0 ≤ l1.ht - r1.ht) :
    Calls Try.prog 163 #[.pointer (some ⟨b, 0, none⟩)] w
      (EvenPost w (.node b k v (.node b1 k1 v1 l1 r1 h1 n1) r h n) (Tr.mk b1 k1 v1 l1 (Tr.mk b k v r1 r))) := by
  have hsd : Sides (.node b1 k1 v1 l1 r1 h1 n1) r := ⟨hl, hr, by simp only [Tr.sz_node]; omega⟩
  have SM := hsd.small
  obtain ⟨a1, a2, a3, a4⟩ := hl
  have hz := hr.len
  have SM1 : Small l1 ∧ Small r1 := Sides.small ⟨a1, a2, by omega⟩
  have hsz : l1.sz + r1.sz + r.sz ≤ 100000000 := by omega
  clear a3 a4
  have T := Lib.hid (tell_did b k v _ r h n w hin hd hsd)
  have R := Lib.hid (fun W hW => toRight_any b b1 k k1 v v1 l1 r1 r _ _ h1 n1 W hW (mk_nodup hd) a1 a2 hr hsz)
  have SML := SM.1; have SMR := SM.2
  clear hin hd SM hsd
  go_enter Try.func163, Try.ntmps163
  go_wp2_with fail
  refine T.out.mono ?_
  rintro e w1 ⟨rfl, q1, q2, q3⟩
  have J := Lib.hid q1; have F := Lib.hid q2; have Z := Lib.hid q3; clear q1 q2 q3
  have hc := fun n => (J.out.drewN n).1.cell
  go_wp2_with fail
  refine (lean_any b k v _ r _ _ _ J.out SML SMR).mono ?_
  rintro e _ ⟨rfl, n2, rfl⟩
  go_wp2_with fail
  refine (lean_any b1 k1 v1 l1 r1 _ _ _ (J.out.drewN _).2.1 SM1.1 SM1.2).mono ?_
  rintro e _ ⟨rfl, n3, rfl⟩
  go_wp2_with fail
  refine (R.out _ (J.out.drewN _)).mono ?_
  rintro e w2 ⟨rfl, q1, q2, q3⟩
  have J2 := Lib.hid q1; have F2 := Lib.hid q2; have Z2 := Lib.hid q3; clear q1 q2 q3
  go_wp2_with fail
  go_ret
  exact ⟨rfl, J2.out, ((F.out.drewN (n2 + n3)).mono (fun i _ e => by subst e; simp)).trans' F2.out (fun i _ e => by rcases e with rfl | rfl <;> simp), Z2.out.trans Z.out⟩

set_option maxHeartbeats 400000 in
theorem even_RR (b b1 : Nat) (k k1 : Int) (v v1 : VT) (l l1 r1 : TrV) (h n h1 n1 : Int) (w : World) (hin : inW w (.node b k v l (.node b1 k1 v1 l1 r1 h1 n1) h n))
    (hd : (Tr.node b k v l (.node b1 k1 v1 l1 r1 h1 n1) h n).blocks.Nodup) (hl : l.Right) (hr : (Tr.node b1 k1 v1 l1 r1 h1 n1).Right) (hs : l.sz + n1 ≤ 10000000)
    (g1 : l.ht - h1 < -1) (g2 : l1.ht - r1.ht ≤ 0) :
    Calls Try.prog 163 #[.pointer (some ⟨b, 0, none⟩)] w
      (EvenPost w (.node b k v l (.node b1 k1 v1 l1 r1 h1 n1) h n) (Tr.mk b1 k1 v1 (Tr.mk b k v l l1) r1)) := by
  have hsd : Sides l (.node b1 k1 v1 l1 r1 h1 n1) := ⟨hl, hr, by simp only [Tr.sz_node]; omega⟩
  have SM := hsd.small
  obtain ⟨a1, a2, a3, a4⟩ := hr
  have hz := hl.len
  have SM1 : Small l1 ∧ Small r1 := Sides.small ⟨a1, a2, by omega⟩
  have hsz : l.sz + l1.sz + r1.sz ≤ 100000000 := by omega
  clear a3 a4
  have T := Lib.hid (tell_did b k v l _ h n w hin hd hsd)
  have R := Lib.hid (fun W hW => toLeft_any b b1 k k1 v v1 l l1 r1 _ _ h1 n1 W hW (mk_nodup hd) hl a1 a2 hsz)
  have SML := SM.1; have SMR := SM.2
  clear hin hd SM hsd
  go_enter Try.func163, Try.ntmps163
  go_wp2_with fail
  refine T.out.mono ?_
  rintro e w1 ⟨rfl, q1, q2, q3⟩
  have J := Lib.hid q1; have F := Lib.hid q2; have Z := Lib.hid q3; clear q1 q2 q3
  have hc := fun n => (J.out.drewN n).1.cell
  go_wp2_with fail
  refine (lean_any b k v l _ _ _ _ J.out SML SMR).mono ?_
  rintro e _ ⟨rfl, n2, rfl⟩
  go_wp2_with fail
  refine (lean_any b k v l _ _ _ _ (J.out.drewN _) SML SMR).mono ?_
  rintro e _ ⟨rfl, n5, rfl⟩
  go_wp2_with fail
  refine (lean_any b1 k1 v1 l1 r1 _ _ _ (J.out.drewN _).2.2 SM1.1 SM1.2).mono ?_
  rintro e _ ⟨rfl, n3, rfl⟩
  go_wp2_with fail
  refine (R.out _ (J.out.drewN _)).mono ?_
  rintro e w2 ⟨rfl, q1, q2, q3⟩
  have J2 := Lib.hid q1; have F2 := Lib.hid q2; have Z2 := Lib.hid q3; clear q1 q2 q3
  go_wp2_with fail
  go_ret
  exact ⟨rfl, J2.out, ((F.out.drewN (n2 + n5 + n3)).mono (fun i _ e => by subst e; simp)).trans' F2.out (fun i _ e => by rcases e with rfl | rfl <;> simp), Z2.out.trans Z.out⟩

set_option maxHeartbeats 400000 in
theorem even_LR (b b1 b2 : Nat) (k k1 k2 : Int) (v v1 v2 : VT) (l1 l2 r2 r : TrV) (h n h1 n1 h2 n2 : Int) (w : World) (hin : inW w (.node b k v (.node b1 k1 v1 l1 (.node b2 k2 v2 l2 r2 h2 n2) h1 n1) r h n))
    (hd : (Tr.node b k v (.node b1 k1 v1 l1 (.node b2 k2 v2 l2 r2 h2 n2) h1 n1) r h n).blocks.Nodup) (hl : (Tr.node b1 k1 v1 l1 (.node b2 k2 v2 l2 r2 h2 n2) h1 n1).Right) (hr : r.Right) (hs : n1 + r.sz ≤ 10000000)
    (g1 : 1 < h1 - r.ht) (g2 : l1.ht - h2 < 0) :
    Calls Try.prog 163 #[.pointer (some ⟨b, 0, none⟩)] w
      (EvenPost w (.node b k v (.node b1 k1 v1 l1 (.node b2 k2 v2 l2 r2 h2 n2) h1 n1) r h n) (Tr.mk b2 k2 v2 (Tr.mk b1 k1 v1 l1 l2) (Tr.mk b k v r2 r))) := by
  have hsd : Sides (.node b1 k1 v1 l1 (.node b2 k2 v2 l2 r2 h2 n2) h1 n1) r := ⟨hl, hr, by simp only [Tr.sz_node]; omega⟩
  have SM := hsd.small
  obtain ⟨a1, a2, a3, a4⟩ := hl
  have hz := hr.len
  have SM1 : Small l1 ∧ Small (.node b2 k2 v2 l2 r2 h2 n2) := Sides.small ⟨a1, a2, by omega⟩
  obtain ⟨a5, a6, a7, a8⟩ := a2
  have y1 := a1.len; have y2 := a5.len; have y3 := a6.len
  simp only [Tr.sz_node] at a4
  have hsz : l1.sz + l2.sz + r2.sz ≤ 100000000 := by omega
  have hsz2 : (Tr.mk b1 k1 v1 l1 l2).sz + r2.sz + r.sz ≤ 100000000 := by simp only [Tr.sz_mk]; omega
  clear a3 a4 a7 a8
  obtain ⟨d1, d2, d3, d4, d5⟩ := Tr.nodup_node hd
  have dp : ((Tr.node b k v (Tr.mk b2 k2 v2 (Tr.mk b1 k1 v1 l1 l2) r2) r h n).blocks).Perm (Tr.node b k v (.node b1 k1 v1 l1 (.node b2 k2 v2 l2 r2 h2 n2) h1 n1) r h n).blocks :=
    List.Perm.cons _ (List.Perm.append_right _ (Tr.blocks_toLeft (.node b1 k1 v1 l1 (.node b2 k2 v2 l2 r2 h2 n2) h1 n1)))
  have T := Lib.hid (tell_did b k v _ r h n w hin hd hsd)
  have L := Lib.hid (fun W hW => toLeft_any b1 b2 k1 k2 v1 v2 l1 l2 r2 h1 n1 h2 n2 W hW d3 a1 a5 a6 hsz)
  have R := Lib.hid (fun W hh nn hW => toRight_any b b2 k k2 v v2 (Tr.mk b1 k1 v1 l1 l2) r2 r hh nn _ _ W hW (dp.nodup_iff.2 hd) (Tr.mk_right a1 a5) a6 hr hsz2)
  have SML := SM.1; have SMR := SM.2
  simp only [Tr.blocks_node, List.mem_cons, List.mem_append, not_or] at d1
  have hbr : ∀ x ∈ r.blocks, ¬(x = b1 ∨ x = b2) := fun x hx e => by rcases e with rfl | rfl; exact d5 _ (by simp) hx; exact d5 _ (by simp) hx
  have hb1 : b ≠ b1 := d1.1
  have hb2 : b ≠ b2 := d1.2.2.1
  have hb12 : ¬(b = b1 ∨ b = b2) := by rintro (e | e); exact hb1 e; exact hb2 e
  have nin : b ∉ (Tr.mk b2 k2 v2 (Tr.mk b1 k1 v1 l1 l2) r2).blocks := by
    simp only [Tr.blocks_mk, List.mem_cons, List.mem_append, not_or]
    exact ⟨hb2, ⟨hb1, d1.2.1, d1.2.2.2.1⟩, d1.2.2.2.2⟩
  clear hin SM hsd d1 d3 d4 d5 dp hd
  go_enter Try.func163, Try.ntmps163
  go_wp2_with fail
  refine T.out.mono ?_
  rintro e w1 ⟨rfl, q1, q2, q3⟩
  have J := Lib.hid q1; have F := Lib.hid q2; have Z := Lib.hid q3; clear q1 q2 q3
  have hc := fun n => (J.out.drewN n).1.cell
  go_wp2_with fail
  refine (lean_any b k v _ r _ _ _ J.out SML SMR).mono ?_
  rintro e _ ⟨rfl, n2, rfl⟩
  go_wp2_with fail
  refine (lean_any b1 k1 v1 l1 _ _ _ _ (J.out.drewN _).2.1 SM1.1 SM1.2).mono ?_
  rintro e _ ⟨rfl, n3, rfl⟩
  go_wp2_with fail
  refine (L.out _ (J.out.drewN _).2.1).mono ?_
  rintro e w2 ⟨rfl, q1, q2, q3⟩
  have bk := (J.out.drewN (n2 + n3)).1.fr q2 hb12
  have c2 := bk.cell; have f2 := bk.frozen
  have s2 := bk.set 2 (.pointer (some ⟨b2, 0, none⟩))
  simp only [List.setIfInBounds_toArray, List.set_cons_succ, List.set_cons_zero] at s2
  have fr2 := Fr.setCell (p := ⟨b, 2, none⟩) (Fr.refl (· = b) w2) (fun _ => rfl) (.pointer (some ⟨b2, 0, none⟩))
  have i2 := q1.fr fr2 (fun x hx e => nin (e ▸ hx))
  have i3 := ((J.out.drewN (n2 + n3)).2.2.fr q2 hbr).fr fr2 (fun x hx e => d2 (e ▸ hx))
  have z2 : (w2.setCell ⟨b, 2, none⟩ (.pointer (some ⟨b2, 0, none⟩))).heap.size = w1.heap.size := by simp only [size_setCell']; exact q3
  have S2 := Lib.hid s2; have F2 := Lib.hid q2; have FR2 := Lib.hid fr2; have I2 := Lib.hid i2; have I3 := Lib.hid i3; have Z2 := Lib.hid z2
  clear q1 q2 q3 bk s2 fr2 i2 i3 z2
  go_wp2_with fail
  refine (R.out _ _ _ ⟨S2.out, I2.out, I3.out⟩).mono ?_
  rintro e w3 ⟨rfl, q1, q2, q3⟩
  have J3 := Lib.hid q1; have F3 := Lib.hid q2; have Z3 := Lib.hid q3; clear q1 q2 q3
  go_wp2_with fail
  go_ret
  refine ⟨rfl, J3.out, ?_, Z3.out.trans (Z2.out.trans Z.out)⟩
  refine (((F.out.drewN (n2 + n3)).mono (fun i _ e => by subst e; simp)).trans' F2.out (fun i _ e => by rcases e with rfl | rfl <;> simp)).trans' ((FR2.out.mono (D' := fun x => x = b ∨ x = b2) (fun i _ e => .inl e)).trans' F3.out (fun i _ e => e)) ?_
  rintro i _ (rfl | rfl) <;> simp

set_option maxHeartbeats 400000 in
theorem even_RL (b b1 b2 : Nat) (k k1 k2 : Int) (v v1 v2 : VT) (l l2 r2 r1 : TrV) (h n h1 n1 h2 n2 : Int) (w : World) (hin : inW w (.node b k v l (.node b1 k1 v1 (.node b2 k2 v2 l2 r2 h2 n2) r1 h1 n1) h n))
    (hd : (Tr.node b k v l (.node b1 k1 v1 (.node b2 k2 v2 l2 r2 h2 n2) r1 h1 n1) h n).blocks.Nodup) (hl : l.Right) (hr : (Tr.node b1 k1 v1 (.node b2 k2 v2 l2 r2 h2 n2) r1 h1 n1).Right) (hs : l.sz + n1 ≤ 10000000)
    (g1 : l.ht - h1 < -1) (g2 : 0 < h2 - r1.ht) :
    Calls Try.prog 163 #[.pointer (some ⟨b, 0, none⟩)] w
      (EvenPost w (.node b k v l (.node b1 k1 v1 (.node b2 k2 v2 l2 r2 h2 n2) r1 h1 n1) h n) (Tr.mk b2 k2 v2 (Tr.mk b k v l l2) (Tr.mk b1 k1 v1 r2 r1))) := by
  have hsd : Sides l (.node b1 k1 v1 (.node b2 k2 v2 l2 r2 h2 n2) r1 h1 n1) := ⟨hl, hr, by simp only [Tr.sz_node]; omega⟩
  have SM := hsd.small
  obtain ⟨a2, a1, a3, a4⟩ := hr
  have hz := hl.len
  have SM1 : Small (.node b2 k2 v2 l2 r2 h2 n2) ∧ Small r1 := Sides.small ⟨a2, a1, by omega⟩
  obtain ⟨a5, a6, a7, a8⟩ := a2
  have y1 := a1.len; have y2 := a5.len; have y3 := a6.len
  simp only [Tr.sz_node] at a4
  have hsz : l2.sz + r2.sz + r1.sz ≤ 100000000 := by omega
  have hsz2 : l.sz + l2.sz + (Tr.mk b1 k1 v1 r2 r1).sz ≤ 100000000 := by simp only [Tr.sz_mk]; omega
  clear a3 a4 a7 a8
  obtain ⟨d1, d2, d3, d4, d5⟩ := Tr.nodup_node hd
  have dp : ((Tr.node b k v l (Tr.mk b2 k2 v2 l2 (Tr.mk b1 k1 v1 r2 r1)) h n).blocks).Perm (Tr.node b k v l (.node b1 k1 v1 (.node b2 k2 v2 l2 r2 h2 n2) r1 h1 n1) h n).blocks :=
    List.Perm.cons _ (List.Perm.append_left _ (Tr.blocks_toRight (.node b1 k1 v1 (.node b2 k2 v2 l2 r2 h2 n2) r1 h1 n1)))
  have T := Lib.hid (tell_did b k v l _ h n w hin hd hsd)
  have L := Lib.hid (fun W hW => toRight_any b1 b2 k1 k2 v1 v2 l2 r2 r1 h1 n1 h2 n2 W hW d4 a5 a6 a1 hsz)
  have R := Lib.hid (fun W hh nn hW => toLeft_any b b2 k k2 v v2 l l2 (Tr.mk b1 k1 v1 r2 r1) hh nn _ _ W hW (dp.nodup_iff.2 hd) hl a5 (Tr.mk_right a6 a1) hsz2)
  have SML := SM.1; have SMR := SM.2
  simp only [Tr.blocks_node, List.mem_cons, List.mem_append, not_or] at d2
  have hbr : ∀ x ∈ l.blocks, ¬(x = b1 ∨ x = b2) := fun x hx e => by rcases e with rfl | rfl; exact d5 _ hx (by simp); exact d5 _ hx (by simp)
  have hb1 : b ≠ b1 := d2.1
  have hb2 : b ≠ b2 := d2.2.1.1
  have hb12 : ¬(b = b1 ∨ b = b2) := by rintro (e | e); exact hb1 e; exact hb2 e
  have nin : b ∉ (Tr.mk b2 k2 v2 l2 (Tr.mk b1 k1 v1 r2 r1)).blocks := by
    simp only [Tr.blocks_mk, List.mem_cons, List.mem_append, not_or]
    exact ⟨hb2, d2.2.1.2.1, hb1, d2.2.1.2.2, d2.2.2⟩
  clear hin SM hsd d2 d3 d4 d5 dp hd
  go_enter Try.func163, Try.ntmps163
  go_wp2_with fail
  refine T.out.mono ?_
  rintro e w1 ⟨rfl, q1, q2, q3⟩
  have J := Lib.hid q1; have F := Lib.hid q2; have Z := Lib.hid q3; clear q1 q2 q3
  have hc := fun n => (J.out.drewN n).1.cell
  go_wp2_with fail
  refine (lean_any b k v l _ _ _ _ J.out SML SMR).mono ?_
  rintro e _ ⟨rfl, n4, rfl⟩
  go_wp2_with fail
  refine (lean_any b k v l _ _ _ _ (J.out.drewN _) SML SMR).mono ?_
  rintro e _ ⟨rfl, n5, rfl⟩
  go_wp2_with fail
  refine (lean_any b1 k1 v1 _ r1 _ _ _ (J.out.drewN _).2.2 SM1.1 SM1.2).mono ?_
  rintro e _ ⟨rfl, n3, rfl⟩
  obtain ⟨n2, hn2⟩ : ∃ n, n = n4 + n5 := ⟨_, rfl⟩
  rw [← hn2]
  clear hn2
  go_wp2_with fail
  refine (L.out _ (J.out.drewN _).2.2).mono ?_
  rintro e w2 ⟨rfl, q1, q2, q3⟩
  have bk := (J.out.drewN (n2 + n3)).1.fr q2 hb12
  have c2 := bk.cell; have f2 := bk.frozen
  have s2 := bk.set 3 (.pointer (some ⟨b2, 0, none⟩))
  simp only [List.setIfInBounds_toArray, List.set_cons_succ, List.set_cons_zero] at s2
  have fr2 := Fr.setCell (p := ⟨b, 3, none⟩) (Fr.refl (· = b) w2) (fun _ => rfl) (.pointer (some ⟨b2, 0, none⟩))
  have i2 := q1.fr fr2 (fun x hx e => nin (e ▸ hx))
  have i3 := ((J.out.drewN (n2 + n3)).2.1.fr q2 hbr).fr fr2 (fun x hx e => d1 (e ▸ hx))
  have z2 : (w2.setCell ⟨b, 3, none⟩ (.pointer (some ⟨b2, 0, none⟩))).heap.size = w1.heap.size := by simp only [size_setCell']; exact q3
  have S2 := Lib.hid s2; have F2 := Lib.hid q2; have FR2 := Lib.hid fr2; have I2 := Lib.hid i2; have I3 := Lib.hid i3; have Z2 := Lib.hid z2
  clear q1 q2 q3 bk s2 fr2 i2 i3 z2
  go_wp2_with fail
  refine (R.out _ _ _ ⟨S2.out, I3.out, I2.out⟩).mono ?_
  rintro e w3 ⟨rfl, q1, q2, q3⟩
  have J3 := Lib.hid q1; have F3 := Lib.hid q2; have Z3 := Lib.hid q3; clear q1 q2 q3
  go_wp2_with fail
  go_ret
  refine ⟨rfl, J3.out, ?_, Z3.out.trans (Z2.out.trans Z.out)⟩
  refine (((F.out.drewN (n2 + n3)).mono (fun i _ e => by subst e; simp)).trans' F2.out (fun i _ e => by rcases e with rfl | rfl <;> simp)).trans' ((FR2.out.mono (D' := fun x => x = b ∨ x = b2) (fun i _ e => .inl e)).trans' F3.out (fun i _ e => e)) ?_
  rintro i _ (rfl | rfl) <;> simp

theorem even_any (b : Nat) (k : Int) (v : VT) (l r : TrV) (h n : Int) (w : World) (hin : inW w (.node b k v l r h n)) (hd : (Tr.node b k v l r h n).blocks.Nodup) (hl : l.Right) (hr : r.Right) (hs : l.sz + r.sz ≤ 10000000) :
    Calls Try.prog 163 #[.pointer (some ⟨b, 0, none⟩)] w (EvenPost w (.node b k v l r h n) (Tr.even (.node b k v l r h n))) := by
  have L := hl.len; have R := hr.len
  by_cases g1 : l.ht - r.ht > 1
  · cases l with
    | nil => exfalso; simp only [Tr.ht_nil] at *; omega
    | node b1 k1 v1 l1 r1 h1 n1 =>
      simp only [Tr.ht_node, Tr.sz_node] at *
      have L1 := hl.1.len; have R1 := hl.2.1.len
      by_cases g2 : l1.ht - r1.ht < 0
      · cases r1 with
        | nil => exfalso; simp only [Tr.ht_nil] at *; omega
        | node b2 k2 v2 l2 r2 h2 n2 =>
          have e : Tr.even (.node b k v (.node b1 k1 v1 l1 (.node b2 k2 v2 l2 r2 h2 n2) h1 n1) r h n) = Tr.mk b2 k2 v2 (Tr.mk b1 k1 v1 l1 l2) (Tr.mk b k v r2 r) := by
            exact (if_pos g1).trans (if_pos g2)
          rw [e]
          exact even_LR b b1 b2 k k1 k2 v v1 v2 l1 l2 r2 r h n h1 n1 h2 n2 w hin hd hl hr hs (by omega) g2
      · have e : Tr.even (.node b k v (.node b1 k1 v1 l1 r1 h1 n1) r h n) = Tr.mk b1 k1 v1 l1 (Tr.mk b k v r1 r) := by
          exact (if_pos g1).trans (if_neg g2)
        rw [e]
        exact even_LL b b1 k k1 v v1 l1 r1 r h n h1 n1 w hin hd hl hr hs (by omega) (by omega)
  · by_cases g3 : l.ht - r.ht < -1
    · cases r with
      | nil => exfalso; simp only [Tr.ht_nil] at *; omega
      | node b1 k1 v1 l1 r1 h1 n1 =>
        simp only [Tr.ht_node, Tr.sz_node] at *
        have L1 := hr.1.len; have R1 := hr.2.1.len
        by_cases g2 : l1.ht - r1.ht > 0
        · cases l1 with
          | nil => exfalso; simp only [Tr.ht_nil] at *; omega
          | node b2 k2 v2 l2 r2 h2 n2 =>
            have e : Tr.even (.node b k v l (.node b1 k1 v1 (.node b2 k2 v2 l2 r2 h2 n2) r1 h1 n1) h n) = Tr.mk b2 k2 v2 (Tr.mk b k v l l2) (Tr.mk b1 k1 v1 r2 r1) := by
              exact (if_neg g1).trans ((if_pos g3).trans (if_pos g2))
            rw [e]
            exact even_RL b b1 b2 k k1 k2 v v1 v2 l l2 r2 r1 h n h1 n1 h2 n2 w hin hd hl hr hs (by omega) (by simp only [Tr.ht_node] at g2; omega)
        · have e : Tr.even (.node b k v l (.node b1 k1 v1 l1 r1 h1 n1) h n) = Tr.mk b1 k1 v1 (Tr.mk b k v l l1) r1 := by
            exact (if_neg g1).trans ((if_pos g3).trans (if_neg g2))
          rw [e]
          exact even_RR b b1 k k1 v v1 l l1 r1 h n h1 n1 w hin hd hl hr hs (by omega) (by omega)
    · have e : Tr.even (.node b k v l r h n) = Tr.mk b k v l r := by
        simp only [Tr.even]; rw [if_neg g1, if_neg g3]
      rw [e]
      exact even_ok b k v l r h n w hin hd ⟨hl, hr, by omega⟩ (by omega) (by omega)

end Go.Proofs.Ytckbeppofnnfkaa.Itm
