/- RackFloor: the window is never below the floor: the law, walked. -/
import Derived.Test.YtckbeppofnnfkaaRk8
import Derived.Test.YtckbeppofnnfkaaEls
import Derived.Test.YtckbeppofnnfkaaSegs
namespace Go.Proofs.Ytckbeppofnnfkaa
open Go.RowKit Go.Und Go.Shelf
attribute [local go_sem] Oper.semAt_some
abbrev shI : Sh := .int .i64
abbrev shRec : Sh := .agg (.cons (.agg (.cons shI (.cons shI .nil))) (.cons shI (.cons shI (.cons shI (.cons shI (.cons .bool .nil))))))
abbrev shEcho : Sh := .agg (.cons .bool (.cons (.int .u32) .nil))
abbrev shRackOp : Sh := .agg (.cons (.int .u8) (.cons shRec (.cons shI (.cons shI (.cons .bool (.cons shEcho (.cons shI (.cons shI .nil))))))))

theorem rec_of {W : World} {u : U} {cs : List Value} (h : shRec.holds W u cs) : ∃ r : Rc, cs = (rcc r).toList := by
  obtain ⟨_, _, g⟩ := h
  obtain ⟨_, _, _, _, _, e0, _, hs, g⟩ := g
  obtain ⟨_, _, hs⟩ := hs
  obtain ⟨_, _, _, _, _, s0, _, ⟨fr, _, rfl, _⟩, hs⟩ := hs
  obtain ⟨_, _, _, _, _, s1, _, ⟨t2, _, rfl, _⟩, hs⟩ := hs
  obtain ⟨_, rfl⟩ := hs
  obtain ⟨_, _, _, _, _, e1, _, ⟨sent, _, rfl, _⟩, g⟩ := g
  obtain ⟨_, _, _, _, _, e2, _, ⟨order, _, rfl, _⟩, g⟩ := g
  obtain ⟨_, _, _, _, _, e3, _, ⟨times, _, rfl, _⟩, g⟩ := g
  obtain ⟨_, _, _, _, _, e4, _, ⟨out, _, rfl, _⟩, g⟩ := g
  obtain ⟨_, _, _, _, _, e5, _, ⟨lost, _, rfl⟩, g⟩ := g
  obtain ⟨_, rfl⟩ := g
  subst e5 e4 e3 e2 e1 s1 s0 e0
  exact ⟨⟨fr, t2, sent, order, times, out, lost⟩, rfl⟩
theorem rackOp_of {W : World} {u : U} {cs : List Value} (h : shRackOp.holds W u cs) : ∃ o : OpS, cs = (opc o).toList ∧ (0 ≤ o.kind ∧ o.kind < 256) ∧ 0 ≤ o.val ∧ o.val < 4294967296 := by
  obtain ⟨_, _, g⟩ := h
  obtain ⟨_, _, _, _, _, e0, _, ⟨kind, _, rfl, wk⟩, g⟩ := g
  obtain ⟨_, _, _, _, _, e1, _, hr, g⟩ := g
  obtain ⟨r, rfl⟩ := rec_of hr
  obtain ⟨_, _, _, _, _, e2, _, ⟨now, _, rfl, _⟩, g⟩ := g
  obtain ⟨_, _, _, _, _, e3, _, ⟨least, _, rfl, _⟩, g⟩ := g
  obtain ⟨_, _, _, _, _, e4, _, ⟨has, _, rfl⟩, g⟩ := g
  obtain ⟨_, _, _, _, _, e5, _, hs, g⟩ := g
  obtain ⟨_, _, hs⟩ := hs
  obtain ⟨_, _, _, _, _, s0, _, ⟨told, _, rfl⟩, hs⟩ := hs
  obtain ⟨_, _, _, _, _, s1, _, ⟨val, _, rfl, wv⟩, hs⟩ := hs
  obtain ⟨_, rfl⟩ := hs
  obtain ⟨_, _, _, _, _, e6, _, ⟨a, _, rfl, _⟩, g⟩ := g
  obtain ⟨_, _, _, _, _, e7, _, ⟨b, _, rfl, _⟩, g⟩ := g
  obtain ⟨_, rfl⟩ := g
  subst e7 e6 s1 s0 e5 e4 e3 e2 e1 e0
  exact ⟨⟨kind, r, now, least, has, told, val, a, b⟩, rfl, wf_u8 wk, wf_u32 wv⟩

abbrev rfc (x : Rk) : Array Value := #[.int .i64 x.floor, .int .i64 x.rtt, .int .i64 x.order, .int .i64 x.fin, .bool x.mixed, .int .i64 x.mult, .int .i64 x.round, .int .i64 x.rest]
/-- An operation's cells, off from a place on. -/
def OpAt (W : World) (b off : Nat) (o : OpS) : Prop :=
  W.cell? ⟨b, off, none⟩ = some (.int .u8 o.kind) ∧ W.cell? ⟨b, off + 1, none⟩ = some (.int .i64 o.rc.fr) ∧ W.cell? ⟨b, off + 2, none⟩ = some (.int .i64 o.rc.to) ∧ W.cell? ⟨b, off + 3, none⟩ = some (.int .i64 o.rc.sent) ∧ W.cell? ⟨b, off + 4, none⟩ = some (.int .i64 o.rc.order) ∧ W.cell? ⟨b, off + 5, none⟩ = some (.int .i64 o.rc.times) ∧ W.cell? ⟨b, off + 6, none⟩ = some (.int .i64 o.rc.out) ∧ W.cell? ⟨b, off + 7, none⟩ = some (.bool o.rc.lost) ∧
  W.cell? ⟨b, off + 8, none⟩ = some (.int .i64 o.now) ∧ W.cell? ⟨b, off + 9, none⟩ = some (.int .i64 o.least) ∧ W.cell? ⟨b, off + 10, none⟩ = some (.bool o.has) ∧ W.cell? ⟨b, off + 11, none⟩ = some (.bool o.told) ∧ W.cell? ⟨b, off + 12, none⟩ = some (.int .u32 o.val) ∧ W.cell? ⟨b, off + 13, none⟩ = some (.int .i64 o.a) ∧ W.cell? ⟨b, off + 14, none⟩ = some (.int .i64 o.b)

theorem rackOps_of {W : World} {v : Value} {u : U} (h : (Sh.slice shRackOp).holds W u [v]) : ∃ (a : Option Addr) (cap : Nat) (ops : List OpS), v = .slice a ops.length cap ∧ ops.length ≤ cap ∧ cap ≤ maxLen ∧
    ∀ k o, ops[k]? = some o → ∃ b off, a = some ⟨b, off, none⟩ ∧ b < W.heap.size ∧ OpAt W b (off + k * 15) o ∧ (0 ≤ o.kind ∧ o.kind < 256) ∧ 0 ≤ o.val ∧ o.val < 4294967296 := by
  obtain ⟨a, cap, L, rfl, h1, h2, h3⟩ := elems_of h (by decide)
  obtain ⟨ops, hlen, hp⟩ := getElem?_some_of_list (f := fun _ => True) (P := fun k (o : OpS) => ∃ b off, a = some ⟨b, off, none⟩ ∧ b < W.heap.size ∧ OpAt W b (off + k * 15) o ∧ (0 ≤ o.kind ∧ o.kind < 256) ∧ 0 ≤ o.val ∧ o.val < 4294967296) L.length (fun k hk => by
    obtain ⟨g1, ⟨u, g2⟩, b, off, rfl, hb, hc⟩ := h3 k L[k] (List.getElem?_eq_getElem hk)
    obtain ⟨o, e, g4, g5⟩ := rackOp_of g2
    rw [e] at hc
    refine ⟨o, b, off, rfl, hb, ?_, g4, g5⟩
    have hc' : ∀ j, j < 15 → W.cell? ⟨b, off + k * 15 + j, none⟩ = (opc o).toList[j]? := fun j hj => by rw [Nat.add_assoc]; exact hc j hj
    exact ⟨hc' 0 (by decide), hc' 1 (by decide), hc' 2 (by decide), hc' 3 (by decide), hc' 4 (by decide), hc' 5 (by decide), hc' 6 (by decide), hc' 7 (by decide), hc' 8 (by decide), hc' 9 (by decide), hc' 10 (by decide), hc' 11 (by decide), hc' 12 (by decide), hc' 13 (by decide), hc' 14 (by decide)⟩)
  exact ⟨a, cap, ops, by rw [hlen], by omega, h2, hp⟩
theorem OpAt.below {w W : World} {b off : Nat} {o : OpS} (h : OpAt w b off o) (hb : b < w.heap.size) (B : Below w.heap.size w W) : OpAt W b off o := by
  have k : ∀ n v, w.cell? ⟨b, n, none⟩ = some v → W.cell? ⟨b, n, none⟩ = some v := fun n v h => (B.cell (p := ⟨b, n, none⟩) hb).trans h
  obtain ⟨h0, h1, h2, h3, h4, h5, h6, h7, h8, h9, h10, h11, h12, h13, h14⟩ := h
  exact ⟨k _ _ h0, k _ _ h1, k _ _ h2, k _ _ h3, k _ _ h4, k _ _ h5, k _ _ h6, k _ _ h7, k _ _ h8, k _ _ h9, k _ _ h10, k _ _ h11, k _ _ h12, k _ _ h13, k _ _ h14⟩

set_option maxRecDepth 100000 in
set_option maxHeartbeats 4000000 in
theorem rackFloor_walk (w : World) (vf : Value) (uf : U) (hf : (Sh.int .i64).holds w uf [vf]) (vo : Value) (uo : U) (ho : (Sh.slice shRackOp).holds w uo [vo]) (vl : Value) (ul : U) (hl : (Sh.int .i64).holds w ul [vl]) (vs : Value) (us : U) (hs : (Sh.int .i64).holds w us [vs])
    (vh : Value) (uh : U) (hh : Sh.bool.holds w uh [vh]) (vp : Value) (up : U) (hp : Sh.bool.holds w up [vp]) :
    Calls Try.prog 3 #[vf, vo, vl, vs, vh, vp] w fun e w' => e = .returned (.bool true) ∧ Below w.heap.size w w' := by
  obtain ⟨floor, _, hf, _⟩ := hf
  obtain ⟨least, _, hl, _⟩ := hl
  obtain ⟨srtt, _, hs, _⟩ := hs
  obtain ⟨has, _, hh⟩ := hh
  obtain ⟨sharp, _, hp⟩ := hp
  simp only [List.cons.injEq, and_true] at hf hl hs hh hp
  subst hf hl hs hh hp
  obtain ⟨a, cap, ops, rfl, hl1, hl2, hops⟩ := rackOps_of ho
  clear ho
  unfold maxLen at hl2
  by_cases g : floor < 0 ∨ 68719476736 < floor
  · have HN := Lib.hid (newRack_no floor g)
    clear hops g
    go_enter Try.func3, Try.ntmps3
    go_wp2_with fail
    refine (known_any _).mono ?_
    rintro e w1 ⟨rfl, f1⟩
    have F1 := Lib.hid f1
    clear f1
    go_wp2_with fail
    refine (HN.out _).mono ?_
    rintro e w2 ⟨rfl, rfl⟩
    go_wp2_with fail
    refine (known_any _).mono ?_
    rintro e w2 ⟨rfl, f2⟩
    have F2 := Lib.hid (F1.out.trans f2)
    clear f2
    go_wp2_with fail
    exact bodyPost_ret (v := .bool true) (by simp [results, Try.results3, go_sem]) rfl ⟨rfl, F2.out.none_below⟩
  · have hfl : 0 ≤ floor ∧ floor ≤ 68719476736 := by omega
    clear g
    have HN := Lib.hid (newRack_any floor hfl.1 hfl.2)
    have HO := Lib.hid hops
    clear hops
    go_enter Try.func3, Try.ntmps3
    go_wp2_with fail
    refine (known_any _).mono ?_
    rintro e w1 ⟨rfl, f1⟩
    have F1 := Lib.hid f1
    clear f1
    go_wp2_with fail
    refine (HN.out _).mono ?_
    rintro e w2 ⟨rfl, hw2⟩
    have S2 : Sep None w w2 [Ob.blk w1.heap.size RkT (rkc ⟨floor, 0, 0, 0, false, 1, 0, 16⟩)] := by
      rw [hw2]
      exact ((Sep.law w).same F1.out).alloc _ _
    clear hw2
    generalize w1.heap.size = px at S2 ⊢
    have HS2 := Lib.hid S2
    clear S2 F1 HN
    go_wp2_with fail
    refine (rfNew_any floor _).mono ?_
    rintro e w3 ⟨rfl, f3⟩
    have S3 := (HS2.out.same f3).alloc (rfc ⟨floor, 0, 0, 0, false, 1, 0, 16⟩) RfT
    clear f3 HS2
    go_wp2_with fail
    generalize w3.heap.size = B at S3 ⊢
    have OK0 := Lib.hid (show Rk.Ok ⟨floor, 0, 0, 0, false, 1, 0, 16⟩ floor from ⟨rfl, ⟨by dsimp only; decide, by dsimp only; decide⟩, by dsimp only; decide, by dsimp only; decide⟩)
    have HS3 := Lib.hid S3
    clear S3
    go_loopg [16] 100 (fun n i wr => ∃ (k : Nat) (x y : Rk), k + n = 100 ∧ k ≤ ops.length ∧ i = .int .i64 k ∧ x.Ok floor ∧ y.Ok floor ∧ Sep None w wr [Ob.blk B RfT (rfc y), Ob.blk px RkT (rkc x)])
    case atStart => exact ⟨0, _, _, rfl, Nat.zero_le _, rfl, OK0.out, OK0.out, HS3.out⟩
    case round =>
      obtain ⟨k, x, y, hk0, hk, rfl, okx, oky, S⟩ := hrel
      have HS := Lib.hid S
      have OKx := Lib.hid okx
      have OKy := Lib.hid oky
      clear S okx oky HS3 OK0
      by_cases g : k < ops.length ∧ k < 100
      · obtain ⟨g1, g2⟩ := g
        obtain ⟨b, off, rfl, hb, hc, hk1, hv1⟩ := HO.out k ops[k] (List.getElem?_eq_getElem g1)
        have HD := Lib.hid (does_any x y floor ops[k] px wr.drew (HS.out.drew.at_ 1 rfl) OKx.out OKy.out hk1 hv1)
        have c := OpAt.below hc hb (HS.out.drew.fr.none_below)
        clear hc
        generalize ops[k] = o at *
        obtain ⟨c0, c1, c2, c3, c4, c5, c6, c7, c8, c9, c10, c11, c12, c13, c14⟩ := c
        have q := HS.out.drew.at_ 0 rfl
        have q0 : wr.drew.cell? ⟨B, 0, none⟩ = some (.int .i64 y.floor) := Blk.cell q 0
        have q1 : wr.drew.cell? ⟨B, 1, none⟩ = some (.int .i64 y.rtt) := Blk.cell q 1
        have q2 : wr.drew.cell? ⟨B, 2, none⟩ = some (.int .i64 y.order) := Blk.cell q 2
        have q3 : wr.drew.cell? ⟨B, 3, none⟩ = some (.int .i64 y.fin) := Blk.cell q 3
        have q4 : wr.drew.cell? ⟨B, 4, none⟩ = some (.bool y.mixed) := Blk.cell q 4
        have q5 : wr.drew.cell? ⟨B, 5, none⟩ = some (.int .i64 y.mult) := Blk.cell q 5
        have q6 : wr.drew.cell? ⟨B, 6, none⟩ = some (.int .i64 y.round) := Blk.cell q 6
        have q7 : wr.drew.cell? ⟨B, 7, none⟩ = some (.int .i64 y.rest) := Blk.cell q 7
        clear q
        go_wp2_with fail
        refine (wpIn_wide (n := 5)).1 ?_
        refine wpIn_region_segs (by kernel_rfl) ?_
        refine seg_still 6 (by kernel_rfl) ?_
        simp only [List.drop_zero, List.take_succ_cons, List.take_zero, Nat.reduceSub]
        repeat (go_big_quiet_step (fail))
        refine wpQuiet_nil ?_
        refine seg_one (by kernel_rfl) fun K hK => ?_
        simp only [List.drop_succ_cons, List.drop_zero, List.take_succ_cons, List.take_zero]
        gi_wp2_with fail
        first | refine ⟨trivial, (callsIn_wide.2 (HD.out)).mono ?_⟩ | refine ⟨trivial, fun h => (by cases h), (callsIn_wide.2 (HD.out)).mono ?_⟩
        rintro e w4 ⟨x', y', b', okx', oky', rfl, D⟩
        have S4 := HS.out.drew.turn 1 rfl (Ob.blk px RkT (rkc x')) D.fr (fun _ _ h => h) (D.at_ 0 rfl) (fun _ h => .inl h)
        have HS4 := Lib.hid S4
        have OKx' := Lib.hid okx'; have OKy' := Lib.hid oky'
        clear D S4 okx' oky' q0 q1 q2 q3 q4 q5 q6 q7 c0 c1 c2 c3 c4 c5 c6 c7 c8 c9 c10 c11 c12 c13 c14
        obtain ⟨q0, q1, q2, q3, q4, q5, q6, q7, z0, z1, z2, z3, z4, z5, z6, z7⟩ := blk8 (HS4.out.at_ 0 rfl)
        dsimp only
        gi_wp2_with fail
        refine seg_still 8 (by kernel_rfl) ?_
        simp only [List.drop_succ_cons, List.drop_zero, List.take_succ_cons, List.take_zero]
        repeat (go_big_quiet_step (fail))
        refine wpQuiet_nil ?_
        refine atOp_any (n := 0 + 1 + 1 + 1) (L := #[true, true, true, true, true, true, true, true, false, false, false]) (by simp) (by kernel_rfl) ?_
        refine wpAnyIn_ready (rs := [8, 9]) (by kernel_rfl) (by simp) ?_
        refine AllReadyIn.cons rfl (fun K hK => ?_) (AllReadyIn.cons rfl (fun K hK => ?_) AllReadyIn.nil)
        all_goals (go_simp; refine hK _ _ ?_; clear hK K)
        · skip
          refine wpAnyIn_ready (rs := [9, 10]) (by kernel_rfl) (by simp) ?_
          refine AllReadyIn.cons rfl (fun K hK => ?_) (AllReadyIn.cons rfl (fun K hK => ?_) AllReadyIn.nil)
          all_goals (go_simp; refine hK _ _ ?_; clear hK K)
          · skip
            refine wpAnyIn_ready (rs := [10]) (by kernel_rfl) (by simp) ?_
            refine AllReadyIn.cons rfl (fun K hK => ?_) AllReadyIn.nil
            go_simp
            refine hK _ _ ?_
            clear hK K
            refine wpAnyIn_done (by kernel_rfl) ?_ _
            go_wp2_with fail
            have S5 := Sep.store8k HS4.out y' rfl
            go_roundg (gk - 1)
            case measure => omega
            case rel => exact ⟨k + 1, x', y', by omega, by omega, by go_num, OKx'.out, OKy'.out, S5⟩
          · skip
            refine wpAnyIn_ready (rs := [9]) (by kernel_rfl) (by simp) ?_
            refine AllReadyIn.cons rfl (fun K hK => ?_) AllReadyIn.nil
            go_simp
            refine hK _ _ ?_
            clear hK K
            refine wpAnyIn_done (by kernel_rfl) ?_ _
            go_wp2_with fail
            have S5 := Sep.store8k HS4.out y' rfl
            go_roundg (gk - 1)
            case measure => omega
            case rel => exact ⟨k + 1, x', y', by omega, by omega, by go_num, OKx'.out, OKy'.out, S5⟩
        · skip
          refine wpAnyIn_ready (rs := [8]) (by kernel_rfl) (by simp) ?_
          refine AllReadyIn.cons rfl (fun K hK => ?_) AllReadyIn.nil
          go_simp
          refine hK _ _ ?_
          clear hK K
          refine wpAnyIn_ready (rs := [10]) (by kernel_rfl) (by simp) ?_
          refine AllReadyIn.cons rfl (fun K hK => ?_) AllReadyIn.nil
          go_simp
          refine hK _ _ ?_
          clear hK K
          refine wpAnyIn_done (by kernel_rfl) ?_ _
          go_wp2_with fail
          have S5 := Sep.store8k HS4.out y' rfl
          go_roundg (gk - 1)
          case measure => omega
          case rel => exact ⟨k + 1, x', y', by omega, by omega, by go_num, OKx'.out, OKy'.out, S5⟩
      · obtain ⟨n, hn1, hn2, HW⟩ := window_any x least srtt has sharp px wr (HS.out.at_ 1 rfl) OKx.out.mult
        rw [OKx.out.floor] at hn1 hn2
        have HWi := Lib.hid HW
        clear HW HO
        by_cases g1 : k < ops.length
        all_goals
          have g2 : k < ops.length → ¬ k < 100 := fun h h' => g ⟨h, h'⟩
          clear g
          try have g3 := g2 g1
          clear g2
          go_wp2_with fail
          refine HWi.out.mono ?_
          rintro e w4 ⟨rfl, m4, rfl⟩
          go_wp2_with (first | (refine (rfTime_any srtt _).mono ?_; rintro e w5 ⟨rfl, rfl⟩) | (refine (known_any _).mono ?_; rintro e w5 ⟨rfl, f5⟩))
          all_goals exact bodyPost_ret (v := .bool true) (by simp [results, Try.results3, go_sem]) rfl ⟨rfl, ((HS.out.fr.drewN m4).trans f5).none_below⟩
end Go.Proofs.Ytckbeppofnnfkaa
