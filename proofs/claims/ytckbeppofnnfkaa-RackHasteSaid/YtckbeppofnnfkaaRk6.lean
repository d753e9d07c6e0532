/- The fixed calls of the rack's laws. -/
import Derived.Test.YtckbeppofnnfkaaRk2
import Derived.Test.YtckbeppofnnfkaaRk5
namespace Go.Proofs.Ytckbeppofnnfkaa
open Go.RowKit Go.Und Go.Shelf
attribute [local go_sem] Oper.semAt_some

theorem BookAt.sz {W : World} {p : Nat} {b : Bk} (h : BookAt W p b) : b.t.sz = b.L.length := by
  rw [h.tree.sz, h.keys.length_eq, List.length_map]
/-- A book of its own. -/
structure Own (w W : World) (B p : Nat) (b : Bk) : Prop where
  at_ : BookAt W p b
  far : ∀ k, bkFp p b k → B ≤ k
  fr : Fr None w W
theorem Own.same {w W W' : World} {B p : Nat} {b : Bk} (h : Own w W B p b) (f : Fr None W W') : Own w W' B p b := ⟨h.at_.same f, h.far, h.fr.trans f⟩
/-- A segment is sent on. -/
theorem Own.send {w W : World} {B p : Nat} {b : Bk} (h : Own w W B p b) (hB : w.heap.size ≤ B) (hBW : B ≤ W.heap.size) (s : Int × Int) (now : Int) (hn : sendOk b s now) (hk : ∀ x ∈ b.L, x.2.fr < b.nxt) (ho : 0 ≤ b.order ∧ b.order ≤ 1000000000) (hs : b.L.length ≤ 1000000) :
    Calls Try.prog 53 #[.pointer (at0 p), .agg #[.int .i64 s.1, .int .i64 s.2], .int .i64 now] W fun e W' => e = .returned (.int .i64 0) ∧ ∃ t x, Own w W' B p (b.sent t x s now) ∧ Fr (fun k => B ≤ k) W W' :=
  (send_yes h.at_ s now hn hk ho (by rw [h.at_.sz]; omega)).mono fun e W' ⟨e1, t, x, h1, h2, h3⟩ =>
    ⟨e1, t, x, ⟨h1, fun k hk => (h2 k hk).elim (h.far k) (fun h => Nat.le_trans hBW h), h.fr.trans' h3 fun k hk hd => by have := h.far k hd; omega⟩, h3.mono fun k _ hd => h.far k hd⟩

def r1K : Rc := ⟨0, 10, 0, 1, 1, 1, false⟩
def r2K : Rc := ⟨10, 20, 1, 2, 1, 1, false⟩
set_option maxHeartbeats 1000000 in
theorem known_any (w : World) : Calls Try.prog 10 #[] w fun e w' => e = .returned (.bool true) ∧ Fr None w w' := by
  obtain ⟨c, hc, hC⟩ := came_any ⟨5, 0, 0, 0, false, 1, 0, 16⟩ r2K 11 0 false false 0 ⟨by decide, by decide⟩ ⟨by decide, by decide⟩
  obtain rfl : c = true := hc.2.1 (by decide) (by decide)
  have HC := Lib.hid hC
  clear hc hC
  go_enter Try.func10, Try.ntmps10
  go_wp2_with fail
  refine (newRack_any 5 (by decide) (by decide) _).mono ?_
  rintro e w1 ⟨rfl, hw1⟩
  have X1 := Lib.hid (show Blk w1 w.heap.size RkT (rkc ⟨5, 0, 0, 0, false, 1, 0, 16⟩) ∧ Fr None w w1 ∧ w.heap.size < w1.heap.size by subst hw1; exact ⟨Blk.new w _ _, (Fr.refl None w).alloc _, by simp⟩)
  clear hw1
  go_wp2_with fail
  refine (newBook_any 0 (by decide) (by decide) _).mono ?_
  rintro e w2 ⟨p, b, rfl, h1, h2, h3, h4, h5, h6, h7⟩
  have X2 := Lib.hid (show Own w w2 w1.heap.size p b ∧ Blk w2 w.heap.size RkT (rkc ⟨5, 0, 0, 0, false, 1, 0, 16⟩) ∧ b.L = [] ∧ b.nxt = 0 ∧ b.last = 0 ∧ b.order = 0 ∧ w1.heap.size ≤ w2.heap.size from ⟨⟨h1, h6, X1.out.2.1.trans h7⟩, X1.out.1.fr h7 id, h2, h3, h4, h5, h7.size⟩)
  clear h1 h2 h3 h4 h5 h6 h7
  go_wp2_with fail
  obtain ⟨O2, P2, l2, n2, t2, o2, z2⟩ := X2.out
  refine (O2.send (Nat.le_of_lt (Nat.lt_of_le_of_lt (Nat.le_refl _) X1.out.2.2)) z2 (0, 10) 0 ⟨by decide, n2.symm, by omega, by decide⟩ (by rw [l2]; intro _ h; cases h) ⟨by omega, by omega⟩ (by rw [l2]; exact Nat.zero_le _)).mono ?_
  rintro e w3 ⟨rfl, ta, xa, O3, f3⟩
  have X3 := Lib.hid (show Own w w3 w1.heap.size p (b.sent ta xa (0, 10) 0) ∧ Blk w3 w.heap.size RkT (rkc ⟨5, 0, 0, 0, false, 1, 0, 16⟩) ∧ w1.heap.size ≤ w3.heap.size from ⟨O3, P2.fr f3 (Nat.not_le_of_lt X1.out.2.2), Nat.le_trans z2 f3.size⟩)
  clear O3 f3 O2 P2 z2
  go_wp2_with fail
  refine (X3.out.1.send (Nat.le_of_lt X1.out.2.2) X3.out.2.2 (10, 20) 1 ⟨by decide, rfl, by simp [Bk.sent], by decide⟩ (by simp [Bk.sent, l2]) ⟨by simp [Bk.sent]; omega, by simp [Bk.sent]; omega⟩ (by simp [Bk.sent, l2])).mono ?_
  rintro e w4 ⟨rfl, tb, xb, O4, f4⟩
  have X4 := Lib.hid (show Own w w4 w1.heap.size p ((b.sent ta xa (0, 10) 0).sent tb xb (10, 20) 1) ∧ Blk w4 w.heap.size RkT (rkc ⟨5, 0, 0, 0, false, 1, 0, 16⟩) ∧ w1.heap.size ≤ w4.heap.size from ⟨O4, X3.out.2.1.fr f4 (Nat.not_le_of_lt X1.out.2.2), Nat.le_trans X3.out.2.2 f4.size⟩)
  clear O4 f4
  have hL : (((b.sent ta xa (0, 10) 0).sent tb xb (10, 20) 1).L).map (·.2) = [r1K, r2K] := by simp [Bk.sent, l2, o2, r1K, r2K]
  have hL2 : ∀ y ∈ ((b.sent ta xa (0, 10) 0).sent tb xb (10, 20) 1).L, 0 ≤ y.2.sent ∧ y.2.sent ≤ 1099511627776 := by simp [Bk.sent, l2]
  have hL3 : ((b.sent ta xa (0, 10) 0).sent tb xb (10, 20) 1).L.length ≤ 1000000 := by simp [Bk.sent, l2]
  generalize ((b.sent ta xa (0, 10) 0).sent tb xb (10, 20) 1) = b2 at *
  go_wp2_with fail
  refine (HC.out _ _ X4.out.2.1).mono ?_
  rintro e w5 ⟨rfl, S5⟩
  have X5 := Lib.hid (show Own w w5 w1.heap.size p b2 ∧ Blk w5 w.heap.size RkT (rkc ((Rk.mk 5 0 0 0 false 1 0 16).came r2K 11 true)) from ⟨⟨X4.out.1.at_.fr S5.fr (fun k hk e => by have := X4.out.1.far k hk; have := X1.out.2.2; omega), X4.out.1.far, X4.out.1.fr.trans' S5.fr (fun k hk e => by omega)⟩, S5.at_ 0 rfl⟩)
  clear S5
  simp only [show (Rk.mk 5 0 0 0 false 1 0 16).took r2K true = true from rfl]
  go_wp2_with fail
  generalize hx2 : (Rk.mk 5 0 0 0 false 1 0 16).came r2K 11 true = x2 at *
  have l15 : x2.late 15 5 (b2.L.map (·.2)) = ⟨[], 16, true⟩ := by rw [hL, ← hx2]; rfl
  have l16 : (x2.late 16 5 (b2.L.map (·.2))).out.length = 1 := by rw [hL, ← hx2]; rfl
  have hr2 : x2.rtt = 10 := by rw [← hx2]; rfl
  refine (late_any p w.heap.size b2 x2 15 5 _ X5.out.1.at_ X5.out.2 (by omega) hL2 hL3).mono ?_
  rintro e w6 ⟨q, cap, rfl, S6⟩
  have X6 := Lib.hid (show Own w w6 w1.heap.size p b2 ∧ Blk w6 w.heap.size RkT (rkc x2) from ⟨X5.out.1.same S6.fr, X5.out.2.fr S6.fr id⟩)
  clear S6
  rw [l15]
  go_wp2_with fail
  refine (late_any p w.heap.size b2 x2 16 5 _ X6.out.1.at_ X6.out.2 (by omega) hL2 hL3).mono ?_
  rintro e w7 ⟨q', cap', rfl, S7⟩
  have X7 := Lib.hid (show Own w w7 w1.heap.size p b2 ∧ Blk w7 w.heap.size RkT (rkc x2) from ⟨X6.out.1.same S7.fr, X6.out.2.fr S7.fr id⟩)
  clear S7
  rw [l16]
  go_wp2_with fail
  refine (rtt_any _ x2 _ X7.out.2).mono ?_
  rintro e w8 ⟨rfl, rfl⟩
  rw [hr2]
  go_wp2_with fail
  go_ret
  exact ⟨rfl, X7.out.1.fr⟩
end Go.Proofs.Ytckbeppofnnfkaa
