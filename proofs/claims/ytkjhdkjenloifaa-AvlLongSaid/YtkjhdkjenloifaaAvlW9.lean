/- Keys in a row, walked. -/
import Derived.Test.YtkjhdkjenloifaaAvlW8
namespace Go.Proofs.Ytkjhdkjenloifaa
open Go.RowKit Go.Und

theorem long_in {s i : Nat} (hs : s ≤ 256) (hi : i < 3000) : (0 ≤ (s : Int) * i ∧ (s : Int) * i ≤ 768000) ∧ (-768000 ≤ -(s : Int) * i ∧ -(s : Int) * i ≤ 0) := by
  have h1 : s * i ≤ 256 * 3000 := Nat.mul_le_mul hs (by omega)
  have h2 : ((s * i : Nat) : Int) = (s : Int) * i := Int.natCast_mul _ _
  have h3 : -(s : Int) * i = -((s : Int) * i) := Int.neg_mul _ _
  omega

theorem step_up {s i : Nat} : (s : Int) * (i + 1 : Nat) = (s : Int) * i + s := by
  rw [Int.natCast_add, Int.mul_add]; simp
theorem step_down {s i : Nat} : -(s : Int) * (i + 1 : Nat) = -(s : Int) * i - s := by
  rw [Int.natCast_add, Int.mul_add]; simp; omega

set_option maxRecDepth 100000 in
set_option maxHeartbeats 1600000 in
theorem avlLong_walk (w : World) (v0 : Value) (u0 : U) (h0 : (Sh.int .u16).holds w u0 [v0]) (v1 : Value) (u1 : U) (h1 : Sh.bool.holds w u1 [v1]) (v2 : Value) (u2 : U) (h2 : (Sh.int .u8).holds w u2 [v2]) :
    Calls Try.prog 3 #[v0, v1, v2] w fun e w' => e = .returned (.bool true) ∧ Below w.heap.size w w' := by
  obtain ⟨m, _, hm, wm⟩ := h0
  obtain ⟨dn, _, hdn⟩ := h1
  obtain ⟨st, _, hst, wst⟩ := h2
  simp only [List.cons.injEq, and_true] at hm hdn hst
  subst hm hdn hst
  have bm := bounds_u16 wm
  have bs := bounds_u8 wst
  clear wm wst
  obtain ⟨m, rfl⟩ := Int.eq_ofNat_of_zero_le bm.1
  obtain ⟨st, rfl⟩ := Int.eq_ofNat_of_zero_le bs.1
  obtain ⟨n, hn⟩ : ∃ n : Nat, (m : Int) % 3000 = n := ⟨m % 3000, by omega⟩
  have hn3 : n < 3000 := by omega
  obtain ⟨s, hs⟩ : ∃ s : Nat, 1 + (st : Int) = s := ⟨1 + st, by omega⟩
  have hs1 : 1 ≤ s ∧ s ≤ 256 := by omega
  obtain ⟨hs1, hs2⟩ := hs1
  have HS := Lib.hid hs; clear hs
  go_enter Try.func3, Try.ntmps3
  go_wp2_with fail
  refine (known_any w).mono ?_
  rintro e w1 ⟨rfl, B1⟩
  have HB1 := Lib.hid B1; clear B1
  go_wp2_with fail
  refine (newTree_any w1).mono ?_
  rintro e w0 ⟨rfl, hw0⟩
  have N0 := newTree_at w1
  rw [← hw0] at N0
  have B0 := HB1.out.trans (show Below w.heap.size w1 w0 by rw [hw0]; exact (Below.refl _ _).alloc HB1.out.size _)
  have hpB := Lib.hid HB1.out.size
  clear hw0
  have T0 := Lib.hid N0; have HB0 := Lib.hid B0; clear N0 B0
  generalize w1.heap.size = p at *
  go_wp2_with fail
  rw [HS.out]
  clear hn
  cases dn
  · go_loopg [10] n (fun r i wr => ∃ (k : Nat) (t : TrV), k + r = n ∧ i = .int .i64 k ∧ TreeAt wr p t ∧ t.sz = k ∧ (∀ x ∈ t.items, x.1 < (s : Int) * k) ∧ (∀ x ∈ t.blocks, w.heap.size ≤ x) ∧ Below w.heap.size w wr)
    case atStart => exact ⟨0, .nil, by omega, rfl, T0.out, rfl, by simp, by simp, HB0.out⟩
    case round =>
      obtain ⟨k, t, hk0, rfl, hT, hsz, hin, hbl, hB⟩ := hrel
      have HT := Lib.hid hT; have HBL := Lib.hid hbl; have HBB := Lib.hid hB; have HZ := Lib.hid hsz; have HIN := Lib.hid hin
      clear hT hbl hB hsz hin
      by_cases g1 : k < n
      · obtain ⟨b1, b2⟩ := long_in hs2 (show k < 3000 by omega)
        have nk := Lib.hid (Tr.hasL_false (key := (s : Int) * k) (l := t.items) (fun y hy => by have := HIN.out y hy; omega))
        go_wp2_with fail
        refine (putT_tree ((s : Int) * k) k HT.out (by have := HZ.out; omega)).mono ?_
        rintro e w3 ⟨rfl, q1, t2, q2, q3, q4, q5⟩
        have B2 := Lib.hid (HBB.out.trans (Fr.to_below q1 HBB.out.size (fun i hi => by rcases hi with rfl | hi; exact hpB.out; exact HBL.out i hi)))
        have Z2 := Lib.hid (show t2.sz = (k + 1 : Nat) by
          have e0 := HT.out.right; have e1 := HZ.out
          have ln := Tr.put_len wr.heap.size ((s : Int) * k) (k : Int) t
          have sp := (Tr.put_spec wr.heap.size ((s : Int) * k) (k : Int) HT.out.rise).2
          rw [nk.out] at sp
          rw [sp, ← q5] at ln
          have e3 := HT.out.sz
          have e4 := q2.sz
          simp at ln
          omega)
        have N2 := Lib.hid (show (∀ x ∈ t2.items, x.1 < (s : Int) * (k + 1 : Nat)) from fun x hx => by
          rw [q3] at hx
          rw [step_up]
          rcases Tr.mem_putL hx with e | e
          · rw [e]; omega
          · have := HIN.out x e; omega)
        have b3 := Lib.hid (show ∀ x ∈ t2.blocks, w.heap.size ≤ x from fun x hx => by rcases q4 x hx with e | e; exact HBL.out x e; rw [e]; exact HBB.out.size)
        have T2 := Lib.hid q2
        clear q1 q2 q3 q4 q5
        go_wp2_with fail
        go_roundg (gk - 1)
        case measure => omega
        case rel => exact ⟨k + 1, t2, by omega, by go_num, T2.out, Z2.out, N2.out, b3.out, B2.out⟩
      · obtain rfl : k = n := by omega
        obtain ⟨hh, hth, hh17, hle, q, hq1, hq2⟩ := height_small HT.out (by have := HZ.out; omega)
        have H := Lib.hid (heightT_any p t wr HT.out.blk HT.out.inn)
        have L := Lib.hid (lenT_any p t wr HT.out.blk HT.out.inn)
        rw [hth] at H
        rw [HZ.out] at L
        have le2 : (Tr.leastN hh : Int) ≤ k := by have := HZ.out; omega
        have LR := Lib.hid (fun W => leastRef_any hh (by omega) W)
        clear hth hle hq1 hq2
        go_wp2_with fail
        refine H.out.mono ?_
        rintro e w4 ⟨rfl, rfl⟩
        go_wp2_with fail
        refine L.out.mono ?_
        rintro e w4 ⟨rfl, rfl⟩
        go_wp2_with fail
        refine (LR.out _).mono ?_
        rintro e w4 ⟨rfl, rfl⟩
        go_wp2_with fail
        refine (known_any _).mono ?_
        rintro e w4 ⟨rfl, q1⟩
        have Q1 := Lib.hid q1; clear q1
        go_wp2_with fail
        go_ret
        exact ⟨rfl, HBB.out.trans (Q1.out.mono HBB.out.size)⟩
  · go_loopg [10] n (fun r i wr => ∃ (k : Nat) (t : TrV), k + r = n ∧ i = .int .i64 k ∧ TreeAt wr p t ∧ t.sz = k ∧ (∀ x ∈ t.items, -(s : Int) * k < x.1) ∧ (∀ x ∈ t.blocks, w.heap.size ≤ x) ∧ Below w.heap.size w wr)
    case atStart => exact ⟨0, .nil, by omega, rfl, T0.out, rfl, by simp, by simp, HB0.out⟩
    case round =>
      obtain ⟨k, t, hk0, rfl, hT, hsz, hin, hbl, hB⟩ := hrel
      have HT := Lib.hid hT; have HBL := Lib.hid hbl; have HBB := Lib.hid hB; have HZ := Lib.hid hsz; have HIN := Lib.hid hin
      clear hT hbl hB hsz hin
      by_cases g1 : k < n
      · obtain ⟨b1, b2⟩ := long_in hs2 (show k < 3000 by omega)
        have nk := Lib.hid (Tr.hasL_false (key := -(s : Int) * k) (l := t.items) (fun y hy => by have := HIN.out y hy; omega))
        go_wp2_with fail
        refine (putT_tree (-(s : Int) * k) k HT.out (by have := HZ.out; omega)).mono ?_
        rintro e w3 ⟨rfl, q1, t2, q2, q3, q4, q5⟩
        have B2 := Lib.hid (HBB.out.trans (Fr.to_below q1 HBB.out.size (fun i hi => by rcases hi with rfl | hi; exact hpB.out; exact HBL.out i hi)))
        have Z2 := Lib.hid (show t2.sz = (k + 1 : Nat) by
          have e0 := HT.out.right; have e1 := HZ.out
          have ln := Tr.put_len wr.heap.size (-(s : Int) * k) (k : Int) t
          have sp := (Tr.put_spec wr.heap.size (-(s : Int) * k) (k : Int) HT.out.rise).2
          rw [nk.out] at sp
          rw [sp, ← q5] at ln
          have e3 := HT.out.sz
          have e4 := q2.sz
          simp at ln
          omega)
        have N2 := Lib.hid (show (∀ x ∈ t2.items, -(s : Int) * (k + 1 : Nat) < x.1) from fun x hx => by
          rw [q3] at hx
          rw [step_down]
          rcases Tr.mem_putL hx with e | e
          · rw [e]; omega
          · have := HIN.out x e; omega)
        have b3 := Lib.hid (show ∀ x ∈ t2.blocks, w.heap.size ≤ x from fun x hx => by rcases q4 x hx with e | e; exact HBL.out x e; rw [e]; exact HBB.out.size)
        have T2 := Lib.hid q2
        clear q1 q2 q3 q4 q5
        go_wp2_with fail
        go_roundg (gk - 1)
        case measure => omega
        case rel => exact ⟨k + 1, t2, by omega, by go_num, T2.out, Z2.out, N2.out, b3.out, B2.out⟩
      · obtain rfl : k = n := by omega
        obtain ⟨hh, hth, hh17, hle, q, hq1, hq2⟩ := height_small HT.out (by have := HZ.out; omega)
        have H := Lib.hid (heightT_any p t wr HT.out.blk HT.out.inn)
        have L := Lib.hid (lenT_any p t wr HT.out.blk HT.out.inn)
        rw [hth] at H
        rw [HZ.out] at L
        have le2 : (Tr.leastN hh : Int) ≤ k := by have := HZ.out; omega
        have LR := Lib.hid (fun W => leastRef_any hh (by omega) W)
        clear hth hle hq1 hq2
        go_wp2_with fail
        refine H.out.mono ?_
        rintro e w4 ⟨rfl, rfl⟩
        go_wp2_with fail
        refine L.out.mono ?_
        rintro e w4 ⟨rfl, rfl⟩
        go_wp2_with fail
        refine (LR.out _).mono ?_
        rintro e w4 ⟨rfl, rfl⟩
        go_wp2_with fail
        refine (known_any _).mono ?_
        rintro e w4 ⟨rfl, q1⟩
        have Q1 := Lib.hid q1; clear q1
        go_wp2_with fail
        go_ret
        exact ⟨rfl, HBB.out.trans (Q1.out.mono HBB.out.size)⟩
end Go.Proofs.Ytkjhdkjenloifaa
