/- The statements on the tree's height, walked. -/
import Derived.Test.YtkjhdkjenloifaaAvlW7
import Derived.Test.YtkjhdkjenloifaaOpen
namespace Go.Proofs.Ytkjhdkjenloifaa
open Go.RowKit Go.Und

abbrev I : Sh := .int .i64

/-- What stands in a list of operations. -/
structure OpR where
  (out : Bool) (key v : Int)

/-- A slice value that holds these operations. -/
def OpsV (W : World) (v : Value) (ops : List OpR) : Prop := ∃ a cap, v = .slice a ops.length cap ∧ ops.length ≤ cap ∧ cap ≤ maxLen ∧
  ∀ k o, ops[k]? = some o → ∃ b off, a = some ⟨b, off, none⟩ ∧ b < W.heap.size ∧ W.cell? ⟨b, off + k * 3, none⟩ = some (.bool o.out) ∧ W.cell? ⟨b, off + k * 3 + 1, none⟩ = some (.int .i64 o.key) ∧
    W.cell? ⟨b, off + k * 3 + 2, none⟩ = some (.int .i64 o.v) ∧ (Lit.int .i64 o.key).wf = true ∧ (Lit.int .i64 o.v).wf = true

abbrev shOp : Sh := .agg (.cons .bool (.cons I (.cons I .nil)))

theorem addr_of_cell {W : World} {ad : Addr} {v : Value} (h : W.cell? ad = some v) : ∃ b off, ad = ⟨b, off, none⟩ ∧ b < W.heap.size := by
  have hb := World.block_lt_of_cell? _ _ h
  obtain ⟨b, off, sp⟩ := ad
  cases sp with
  | none => exact ⟨b, off, rfl, hb⟩
  | some s =>
    exfalso
    unfold World.cell? at h
    split at h
    · cases h
    · cases h

theorem add_plain (b off n : Nat) : (⟨b, off, none⟩ : Addr).add n = ⟨b, off + n, none⟩ := by
  unfold Addr.add; split
  · rename_i h; rw [h]; rfl
  · rfl

theorem ops_of {W : World} {v : Value} {u : U} (h : (Sh.slice shOp).holds W u [v]) : ∃ ops, OpsV W v ops := by
  obtain ⟨a, cap, l, rfl, hv, h1, h2, h3, h4⟩ := h
  simp only [List.cons.injEq, and_true] at hv
  subst hv
  obtain ⟨ops, hlen, hp⟩ := getElem?_some_of_list (f := fun _ => True) (P := fun k (o : OpR) => ∃ b off, a = some ⟨b, off, none⟩ ∧ b < W.heap.size ∧ W.cell? ⟨b, off + k * 3, none⟩ = some (.bool o.out) ∧ W.cell? ⟨b, off + k * 3 + 1, none⟩ = some (.int .i64 o.key) ∧
    W.cell? ⟨b, off + k * 3 + 2, none⟩ = some (.int .i64 o.v) ∧ (Lit.int .i64 o.key).wf = true ∧ (Lit.int .i64 o.v).wf = true) l.length (fun k hk => by
    obtain ⟨ad, ec, rfl, g1, g2, g3⟩ := h4 k l[k] (List.getElem?_eq_getElem hk)
    obtain ⟨_, _, g3⟩ := g3
    obtain ⟨_, _, _, _, _, e0, _, ⟨o, _, rfl⟩, g3⟩ := g3
    obtain ⟨_, _, _, _, _, e1, _, ⟨k1, _, rfl, w1⟩, g3⟩ := g3
    obtain ⟨_, _, _, _, _, e2, _, ⟨k2, _, rfl, w2⟩, g3⟩ := g3
    obtain ⟨_, rfl⟩ := g3
    subst e2 e1 e0
    have c0 := g2 0 (by decide); have c1 := g2 1 (by decide); have c2 := g2 2 (by decide)
    simp only [Sh.size, Nat.add_zero, Nat.reduceAdd] at c0 c1 c2
    obtain ⟨b, off, rfl, hb⟩ : ∃ b off, ad = ⟨b, off, none⟩ ∧ b < W.heap.size := by
      obtain ⟨ad', ec, hh, g1, g2, g3⟩ := h4 0 l[0] (List.getElem?_eq_getElem (by omega))
      obtain rfl : ad = ad' := by simpa using hh
      obtain ⟨_, _, g3⟩ := g3
      obtain ⟨_, _, _, _, _, e0, _, ⟨o, _, rfl⟩, g3⟩ := g3
      have c0 := g2 0 (by decide)
      rw [e0] at c0
      exact addr_of_cell (v := .bool o) (by simpa [Addr.add] using c0)
    simp only [add_plain] at c0 c1 c2
    exact ⟨⟨o, k1, k2⟩, b, off, rfl, hb, c0, c1, c2, w1, w2⟩)
  exact ⟨ops, a, cap, by rw [hlen], by omega, h2, hp⟩

theorem height_small {w : World} {p : Nat} {t : TrV} (h : TreeAt w p t) (hs : t.sz ≤ 3000) : ∃ n : Nat, t.ht = n ∧ n ≤ 17 ∧ (Tr.leastN n : Int) ≤ t.sz ∧ ∃ q : Bool, ((n : Int) == 0) = q ∧ (t.sz == 0) = q := by
  have Z := h.right.len
  have L := Tr.bal_least h.right h.bal
  refine ⟨t.ht.toNat, by omega, ?_, by omega, ?_⟩
  · refine Nat.le_of_not_lt fun hlt => ?_
    have := Tr.leastN_le (show 18 ≤ t.ht.toNat by omega)
    have e : Tr.leastN 18 = 6764 := by decide
    omega
  · refine ⟨t.sz == 0, ?_, rfl⟩
    obtain ⟨z1, z2, z3, z4, z5⟩ := Z
    rw [Bool.eq_iff_iff]
    simp only [beq_iff_eq]
    constructor
    · intro hh; exact z4.2 (z5.1 (by omega))
    · intro hh; have := z5.2 (z4.1 hh); omega

set_option maxRecDepth 100000 in
set_option maxHeartbeats 800000 in
theorem avlBalanced_walk (w : World) (v : Value) (u : U) (h : (Sh.slice shOp).holds w u [v]) :
    Calls Try.prog 4 #[v] w fun e w' => e = .returned (.bool true) ∧ Below w.heap.size w w' := by
  obtain ⟨ops, a, cap, rfl, hl1, hl2, hops⟩ := ops_of h
  clear h
  unfold maxLen at hl2
  have HO := Lib.hid hops; clear hops
  go_enter Try.func4, Try.ntmps4
  go_wp2_with fail
  refine (known_any w).mono ?_
  rintro e w1 ⟨rfl, B1⟩
  have HB1 := Lib.hid B1; clear B1
  go_wp2_with fail
  refine (newTree_any w1).mono ?_
  rintro e w0 ⟨rfl, hw0⟩
  have N0 := newTree_at w1
  rw [← hw0] at N0
  have B0 := HB1.out.trans (show Below w.heap.size w1 w0 by rw [hw0]; exact (Below.refl _ _).alloc HB1.out.size _)
  have hpB := Lib.hid HB1.out.size
  clear hw0
  have T0 := Lib.hid N0; have HB0 := Lib.hid B0; clear N0 B0
  generalize w1.heap.size = p at *
  go_wp2_with fail
  go_loopg [4] 1000 (fun n i wr => ∃ (k : Nat) (t : TrV), k + n = 1000 ∧ k ≤ ops.length ∧ i = .int .i64 k ∧ TreeAt wr p t ∧ t.sz ≤ k ∧ (∀ x ∈ t.blocks, w.heap.size ≤ x) ∧ Below w.heap.size w wr)
  case atStart => exact ⟨0, .nil, rfl, Nat.zero_le _, rfl, T0.out, by simp, by simp, HB0.out⟩
  case round =>
    obtain ⟨k, t, hk0, hk, rfl, hT, hsz, hbl, hB⟩ := hrel
    by_cases g1 : k < ops.length
    · by_cases g2 : k < 1000
      · obtain ⟨b, off, rfl, hb, c0, c1, c2, _, _⟩ := HO.out k ops[k] (List.getElem?_eq_getElem g1)
        have d0 := (hB.cell (p := ⟨b, off + k * 3, none⟩) hb).trans c0
        have d1 := (hB.cell (p := ⟨b, off + k * 3 + 1, none⟩) hb).trans c1
        generalize ops[k] = o at *
        obtain ⟨oo, ok, ov⟩ := o
        simp only at d0 d1
        clear c0 c1 c2
        have HT := Lib.hid hT; have HBL := Lib.hid hbl; have HBB := Lib.hid hB; have HZ := Lib.hid hsz
        clear hT hbl hB hsz
        cases oo with
        | true =>
          go_wp2_with fail
          refine (delT_tree ok HT.out (by have := HZ.out; omega)).mono ?_
          rintro e w3 ⟨rfl, q1, t2, q2, q3, q4⟩
          have B2 := Lib.hid (HBB.out.trans (Fr.to_below q1 HBB.out.size (fun i hi => by rcases hi with rfl | hi; exact hpB.out; exact HBL.out i hi)))
          have Z2 : t2.sz ≤ k + 1 := by
            have e0 := HT.out.sz; have e1 := HZ.out; rw [q2.sz, q3]
            have := List.length_filter_le (fun x => x.1 != ok) t.items; unfold Tr.delL; omega
          have b2 := Lib.hid (show ∀ x ∈ t2.blocks, w.heap.size ≤ x from fun x hx => HBL.out x (q4 x hx))
          obtain ⟨hh, hth, hh17, hle, q, hq1, hq2⟩ := height_small q2 (by omega)
          have H := Lib.hid (heightT_any p t2 w3 q2.blk q2.inn)
          have L := Lib.hid (lenT_any p t2 w3 q2.blk q2.inn)
          rw [hth] at H
          have T2 := Lib.hid q2; have Q1 := Lib.hid q1
          have LR := Lib.hid (fun W => leastRef_any hh (by omega) W)
          have Z2' := Lib.hid Z2
          clear q1 q2 q3 q4 hth Z2
          go_wp2_with fail
          refine H.out.mono ?_
          rintro e w4 ⟨rfl, rfl⟩
          go_wp2_with fail
          refine (LR.out _).mono ?_
          rintro e w4 ⟨rfl, rfl⟩
          go_wp2_with fail
          refine L.out.mono ?_
          rintro e w4 ⟨rfl, rfl⟩
          go_wp2_with fail
          refine L.out.mono ?_
          rintro e w4 ⟨rfl, rfl⟩
          go_wp2_with fail
          go_roundg (gk - 1)
          case measure => omega
          case rel => exact ⟨k + 1, t2, by omega, by omega, by go_num, T2.out, by have := Z2'.out; omega, b2.out, B2.out⟩
        | false =>
          go_wp2_with fail
          refine (putT_tree ok 0 HT.out (by have := HZ.out; omega)).mono ?_
          rintro e w3 ⟨rfl, q1, t2, q2, q3, q4, q5⟩
          clear q5
          have B2 := Lib.hid (HBB.out.trans (Fr.to_below q1 HBB.out.size (fun i hi => by rcases hi with rfl | hi; exact hpB.out; exact HBL.out i hi)))
          have Z2 : t2.sz ≤ k + 1 := by
            have e0 := HT.out.sz; have e1 := HZ.out; rw [q2.sz, q3]
            have := Tr.putL_length ok 0 t.items; omega
          have b2 := Lib.hid (show ∀ x ∈ t2.blocks, w.heap.size ≤ x from fun x hx => by rcases q4 x hx with e | e; exact HBL.out x e; rw [e]; exact HBB.out.size)
          obtain ⟨hh, hth, hh17, hle, q, hq1, hq2⟩ := height_small q2 (by omega)
          have H := Lib.hid (heightT_any p t2 w3 q2.blk q2.inn)
          have L := Lib.hid (lenT_any p t2 w3 q2.blk q2.inn)
          rw [hth] at H
          have T2 := Lib.hid q2; have Q1 := Lib.hid q1
          have LR := Lib.hid (fun W => leastRef_any hh (by omega) W)
          have Z2' := Lib.hid Z2
          clear q1 q2 q3 q4 hth Z2
          go_wp2_with fail
          refine H.out.mono ?_
          rintro e w4 ⟨rfl, rfl⟩
          go_wp2_with fail
          refine (LR.out _).mono ?_
          rintro e w4 ⟨rfl, rfl⟩
          go_wp2_with fail
          refine L.out.mono ?_
          rintro e w4 ⟨rfl, rfl⟩
          go_wp2_with fail
          refine L.out.mono ?_
          rintro e w4 ⟨rfl, rfl⟩
          go_wp2_with fail
          go_roundg (gk - 1)
          case measure => omega
          case rel => exact ⟨k + 1, t2, by omega, by omega, by go_num, T2.out, by have := Z2'.out; omega, b2.out, B2.out⟩
      · have HB := Lib.hid hB; clear hB hT hbl hsz HO
        go_wp2_with fail
        refine (known_any wr).mono ?_
        rintro e w4 ⟨rfl, q1⟩
        have Q1 := Lib.hid q1; clear q1
        go_wp2_with fail
        go_ret
        exact ⟨rfl, HB.out.trans (Q1.out.mono HB.out.size)⟩
    · have HB := Lib.hid hB; clear hB hT hbl hsz HO
      go_wp2_with fail
      refine (known_any wr).mono ?_
      rintro e w4 ⟨rfl, q1⟩
      have Q1 := Lib.hid q1; clear q1
      go_wp2_with fail
      go_ret
      exact ⟨rfl, HB.out.trans (Q1.out.mono HB.out.size)⟩
end Go.Proofs.Ytkjhdkjenloifaa
