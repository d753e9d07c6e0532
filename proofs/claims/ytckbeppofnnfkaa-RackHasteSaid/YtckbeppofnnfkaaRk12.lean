/- RackHaste: nothing is late too early, and the next time is right: the law, walked. -/
import Derived.Test.YtckbeppofnnfkaaRk11
import Derived.Test.YtckbeppofnnfkaaLt4
namespace Go.Proofs.Ytckbeppofnnfkaa
open Go.RowKit Go.Und Go.Shelf
attribute [local go_sem] Oper.semAt_some
attribute [local go_sem ↓] Go.wp_at_zero Go.wp_at_succ

theorem keep5 {w w' : World} {p0 p1 p2 p3 p4 : Addr} {v0 v1 v2 v3 v4 : Value} (f : Fr None w w') (h : w.cell? p0 = some v0 ∧ w.cell? p1 = some v1 ∧ w.cell? p2 = some v2 ∧ w.cell? p3 = some v3 ∧ w.cell? p4 = some v4) : w'.cell? p0 = some v0 ∧ w'.cell? p1 = some v1 ∧ w'.cell? p2 = some v2 ∧ w'.cell? p3 = some v3 ∧ w'.cell? p4 = some v4 :=
  ⟨cell_fr f h.1, cell_fr f h.2.1, cell_fr f h.2.2.1, cell_fr f h.2.2.2.1, cell_fr f h.2.2.2.2⟩
theorem late_bound {x : Rk} {now win : Int} {l : List Rc} {B : Int} (h : (x.late now win l).some = true) (hB : ∀ r ∈ l, r.sent + x.rtt + timeS win < B) : (x.late now win l).next ≤ B := by
  obtain ⟨r, hr, _, _, h3⟩ := (late_inv x now win l).one h
  have := hB r (takeWhile_ok hr).2
  unfold Rk.due at h3
  omega

set_option maxRecDepth 100000 in
set_option maxHeartbeats 8000000 in
theorem rackHaste_walk (w : World) (cf : Array Value) (uf : U) (hf : shFlight.holds w uf cf.toList) (cr : Array Value) (ur : U) (hr : shRec.holds w ur cr.toList) (va : Value) (ua : U) (ha : (Sh.int .i64).holds w ua [va]) (vw : Value) (uw : U) (hw : (Sh.int .i64).holds w uw [vw]) :
    Calls Try.prog 5 #[.agg cf, .agg cr, va, vw] w fun e w' => e = .returned (.bool true) ∧ Below w.heap.size w w' := by
  obtain ⟨a1, a2, a3, n1, n2, n3, sends, again, lost, ef, h1, h2, h3⟩ := flight_of hf
  obtain rfl : cf = #[.slice a1 sends.length n1, .slice a2 again.length n2, .slice a3 lost.length n3] := Array.ext' ef
  obtain ⟨r, hr⟩ := rec_of hr
  obtain rfl : cr = rcc r := Array.ext' hr
  obtain ⟨ahead, _, ha, wa⟩ := ha
  obtain ⟨win, _, hw, _⟩ := hw
  simp only [List.cons.injEq, and_true] at ha hw
  subst ha hw
  clear hr ef hf
  have S := Lib.hid (((Sep.law w).alloc #[.slice a1 sends.length n1, .slice a2 again.length n2, .slice a3 lost.length n3] FlT).alloc (rcc r) RcT)
  have HFl := Lib.hid (fun (W : World) (f : Fr None w W) => fly_any W a1 a2 a3 n1 n2 n3 sends again lost (h1.below f.none_below) (h2.below f.none_below) (h3.below f.none_below))
  clear h1 h2 h3
  go_enter Try.func5, Try.ntmps5
  go_wp2_with fail
  refine (known_any _).mono ?_
  rintro e w1 ⟨rfl, f1⟩
  have S1 := S.out.same f1
  simp only [World.size_alloc] at S1
  have c0 : w1.cell? ⟨w.heap.size, 0, none⟩ = some (.slice a1 sends.length n1) := (S1.at_ 1 rfl).cell 0
  have c1 : w1.cell? ⟨w.heap.size, 1, none⟩ = some (.slice a2 again.length n2) := (S1.at_ 1 rfl).cell 1
  have c2 : w1.cell? ⟨w.heap.size, 2, none⟩ = some (.slice a3 lost.length n3) := (S1.at_ 1 rfl).cell 2
  have HS1 := Lib.hid S1
  clear S S1 f1
  go_wp2_with fail
  refine (HFl.out _ HS1.out.fr).mono ?_
  rintro e w2 ⟨pb, bk, q, cap, rs, last, M, rfl, hF, hM, S2⟩
  have HF := Lib.hid hF
  have S3 := (HS1.out.comp0 S2).alloc (bk2c q rs.length cap bk.nxt bk.last bk.order) Bk2T
  simp only [List.cons_append, List.nil_append] at S3
  clear S2 hF
  have wl := HF.out.now
  have wl2 : last ≤ 15300 := by omega
  obtain ⟨wl1, -⟩ := wl
  go_wp2_with fail
  refine (newRack_any 0 (by decide) (by decide) _).mono ?_
  rintro e w3 ⟨rfl, hw3⟩
  have S4 : Sep None w w3 (Ob.blk (w2.alloc (.cells (bk2c q rs.length cap bk.nxt bk.last bk.order) Bk2T)).heap.size RkT (rkc ⟨0, 0, 0, 0, false, 1, 0, 16⟩) :: Ob.blk w2.heap.size Bk2T (bk2c q rs.length cap bk.nxt bk.last bk.order) :: [orow q cap rs, obook pb bk, Ob.blk (w.heap.size + 1) RcT (rcc r), Ob.blk w.heap.size FlT #[.slice a1 sends.length n1, .slice a2 again.length n2, .slice a3 lost.length n3]]) := by
    rw [hw3]; exact S3.alloc _ _
  clear hw3 S3
  generalize (w2.alloc (.cells (bk2c q rs.length cap bk.nxt bk.last bk.order) Bk2T)).heap.size = px at *
  generalize w2.heap.size = b10 at *
  have r0 : w3.cell? ⟨w.heap.size + 1, 0, none⟩ = some (.int .i64 r.fr) := (S4.at_ 4 rfl).cell 0
  have r1 : w3.cell? ⟨w.heap.size + 1, 1, none⟩ = some (.int .i64 r.to) := (S4.at_ 4 rfl).cell 1
  have r2 : w3.cell? ⟨w.heap.size + 1, 2, none⟩ = some (.int .i64 r.sent) := (S4.at_ 4 rfl).cell 2
  have HS4 := Lib.hid S4
  clear S4 HS1 HFl
  by_cases gx : ahead < 0 ∨ 1099511627776 < ahead ∨ r.sent < 0 ∨ last + ahead < r.sent ∨ win < 0 ∨ 68719476736 < win
  · have g4 : ahead < 0 ∨ (0 ≤ ahead ∧ 1099511627776 < ahead) ∨ ((0 ≤ ahead ∧ ahead ≤ 1099511627776) ∧ r.sent < 0) ∨ ((0 ≤ ahead ∧ ahead ≤ 1099511627776) ∧ 0 ≤ r.sent ∧ last + ahead < r.sent) ∨ ((0 ≤ ahead ∧ ahead ≤ 1099511627776) ∧ 0 ≤ r.sent ∧ r.sent ≤ last + ahead ∧ win < 0) ∨ ((0 ≤ ahead ∧ ahead ≤ 1099511627776) ∧ 0 ≤ r.sent ∧ r.sent ≤ last + ahead ∧ 0 ≤ win ∧ 68719476736 < win) := by omega
    clear gx
    rcases g4 with u1 | ⟨u1, u2⟩ | ⟨⟨u1, u2⟩, u3⟩ | ⟨⟨u1, u2⟩, u3, u4⟩ | ⟨⟨u1, u2⟩, u3, u4, u5⟩ | ⟨⟨u1, u2⟩, u3, u4, u5, u6⟩
    all_goals
      go_wp2_with fail
      refine (known_any _).mono ?_
      rintro e w5 ⟨rfl, f5⟩
      have F5 := Lib.hid (HS4.out.fr.trans f5)
      clear f5
      go_wp2_with fail
      exact bodyPost_ret (v := .bool true) (by simp [results, Try.results5, go_sem]) rfl ⟨rfl, F5.out.none_below⟩
  · have gs : (0 ≤ ahead ∧ ahead ≤ 1099511627776) ∧ (0 ≤ r.sent ∧ r.sent ≤ last + ahead) ∧ 0 ≤ win ∧ win ≤ 68719476736 := by omega
    clear gx
    obtain ⟨⟨g1, g2⟩, ⟨g3, g4⟩, g5, g6⟩ := gs
    obtain ⟨cx, -, hcx⟩ := came_any ⟨0, 0, 0, 0, false, 1, 0, 16⟩ r (last + ahead) 0 true false 0 ⟨g3, by omega⟩ (by omega)
    have hrt := came_rtt r (last + ahead) cx (by omega) (by omega) (by omega)
    have HD := Lib.hid (hcx px _ (HS4.out.at_ 0 rfl))
    clear hcx
    generalize ((Rk.mk 0 0 0 0 false 1 0 16).came r (last + ahead) cx) = y2 at *
    obtain ⟨hr1, hr2⟩ := hrt
    clear r0 r1 r2
    have e0 : w3.cell? ⟨w.heap.size + 1, 0, none⟩ = some (.int .i64 r.fr) := (HS4.out.at_ 4 rfl).cell 0
    have e1 : w3.cell? ⟨w.heap.size + 1, 1, none⟩ = some (.int .i64 r.to) := (HS4.out.at_ 4 rfl).cell 1
    have e2 : w3.cell? ⟨w.heap.size + 1, 2, none⟩ = some (.int .i64 r.sent) := (HS4.out.at_ 4 rfl).cell 2
    have e3 : w3.cell? ⟨w.heap.size + 1, 3, none⟩ = some (.int .i64 r.order) := (HS4.out.at_ 4 rfl).cell 3
    have e4 : w3.cell? ⟨w.heap.size + 1, 4, none⟩ = some (.int .i64 r.times) := (HS4.out.at_ 4 rfl).cell 4
    have e5 : w3.cell? ⟨w.heap.size + 1, 5, none⟩ = some (.int .i64 r.out) := (HS4.out.at_ 4 rfl).cell 5
    have e6 : w3.cell? ⟨w.heap.size + 1, 6, none⟩ = some (.bool r.lost) := (HS4.out.at_ 4 rfl).cell 6
    go_wp2_with fail
    refine HD.out.mono ?_
    rintro e w8 ⟨rfl, S6'⟩
    have S6 := HS4.out.turn 0 rfl (Ob.blk px RkT (rkc y2)) S6'.fr (fun _ _ h => h) (S6'.at_ 0 rfl) (fun _ h => .inl h)
    simp only [List.set_cons_zero, List.set_cons_succ] at S6
    have hlen : bk.L.length ≤ 60 := by
      have h1 := HF.out.len
      have h2 := HF.out.perm.length_eq
      rw [List.length_map] at h2
      omega
    have HL := Lib.hid (fun (W : World) (hb : BookAt W pb bk) (hx : Blk W px RkT (rkc y2)) (nw : Int) => late_any pb px bk y2 nw win W hb hx ⟨hr1, by omega⟩ (fun y hy => by have := HF.out.num _ (HF.out.mem hy); omega) (by omega))
    have HL1 := Lib.hid (HL.out w8 (S6.at_ 3 rfl) (S6.at_ 0 rfl) (last + ahead))
    have HS6 := Lib.hid S6
    have hol : (y2.late (last + ahead) win (bk.L.map (·.2))).out.length ≤ 60 := by
      have h1 := goes_len y2 (last + ahead) win ((bk.L.map (·.2)).takeWhile fun r => decide (r.order < y2.order))
      have h2 := (List.takeWhile_sublist (fun r : Rc => decide (r.order < y2.order)) (l := bk.L.map (·.2))).length_le
      rw [List.length_map] at h2
      exact Nat.le_trans h1 (Nat.le_trans h2 hlen)
    have HT := Lib.hid (fun (s : Int × Int) hs => late_told (x := y2) (now := last + ahead) (win := win) (l := bk.L.map (·.2)) (s := s) hs)
    have HX := Lib.hid (fun h => late_next (x := y2) (now := last + ahead) (win := win) (l := bk.L.map (·.2)) h)
    have HB := Lib.hid (fun h => late_bound (x := y2) (now := last + ahead) (win := win) (l := bk.L.map (·.2)) (B := 1200000000000) h (fun r hr => by
      obtain ⟨y, hy, rfl⟩ := List.mem_map.1 hr
      have := HF.out.num _ (HF.out.mem hy)
      have := timeS_bounds win
      omega))
    clear S6 S6' HS4 HD e0 e1 e2 e3 e4 e5 e6
    generalize hlt : y2.late (last + ahead) win (bk.L.map (·.2)) = s at *
    clear hlt
    obtain ⟨so, sn, ss⟩ := s
    dsimp only at hol HL1 HX HT HB
    go_wp2_with fail
    refine HL1.out.mono ?_
    rintro e w9 ⟨q1, cap1, rfl, S7'⟩
    have S7 := HS6.out.comp0 S7'
    simp only [List.cons_append, List.nil_append] at S7
    have HS7 := Lib.hid S7
    clear S7 S7' HS6 HL1
    go_wp2_with fail
    go_loopg [18] so.length (fun n iv wr => ∃ k : Nat, k + n = so.length ∧ iv = .int .i64 k ∧ Fr None w9 wr)
    case atStart => exact ⟨0, by omega, rfl, Fr.refl None w9⟩
    case round =>
      obtain ⟨k, hk0, rfl, fr⟩ := hrel
      have hkl : k ≤ so.length := by omega
      have HFr := Lib.hid fr
      clear fr
      by_cases glt : k < so.length
      · have ex := List.getElem?_eq_getElem glt
        obtain ⟨rr, hrm, hse, hlo, hdu, hor⟩ := HT.out so[k] (List.getElem_mem glt)
        generalize so[k] = sp at *
        subst hse
        obtain ⟨y, hy, rfl⟩ := List.mem_map.1 hrm
        have hrs := HF.out.mem hy
        have hnum := HF.out.num _ hrs
        obtain ⟨kk, hkk⟩ := List.getElem?_of_mem hrs
        have hkl2 : kk < rs.length := (List.getElem?_eq_some_iff.1 hkk).1
        have hl60 := HF.out.len
        obtain ⟨hne, -⟩ := HF.out.place hkk
        have S9 := HS7.out.same HFr.out
        obtain ⟨b, off, rfl, hc⟩ := (Owns.reads (f := spl) (T := SpT) (S9.at_ 0 rfl)).2.1.elem spl_len (by decide) ex
        have k0 : wr.cell? ⟨b, off + k * 2, none⟩ = some (.int .i64 y.2.fr) ∧ wr.cell? ⟨b10, 0, none⟩ = some (.slice q rs.length cap) ∧ wr.cell? ⟨b10, 1, none⟩ = some (.int .i64 bk.nxt) ∧ wr.cell? ⟨b10, 2, none⟩ = some (.int .i64 bk.last) ∧ wr.cell? ⟨b10, 3, none⟩ = some (.int .i64 bk.order) := ⟨hc 0 _ rfl, (S9.at_ 2 rfl).cell 0, (S9.at_ 2 rfl).cell 1, (S9.at_ 2 rfl).cell 2, (S9.at_ 2 rfl).cell 3⟩
        have hR2 := (Owns.reads (f := rcl) (T := Rc2T) (S9.at_ 3 rfl)).2.1
        have HA := Lib.hid (rfFind_yes q cap rs bk.nxt bk.last bk.order y.2.fr kk y.2 wr hR2 (by omega) hkk rfl hne)
        have HB2 := Lib.hid (rfFind_yes q cap rs bk.nxt bk.last bk.order y.2.fr kk y.2 wr.drew (hR2.fr (D := None) ((Fr.refl None wr).drew) (fun _ _ h => h)) (by omega) hkk rfl hne)
        have HKK := Lib.hid hkk
        have HLO := Lib.hid hlo
        have qi := keep5 ((Fr.refl None wr).drew) k0
        obtain ⟨o0, o1, o2, o3, o4⟩ := k0
        clear hne hR2 hc ex S9 hrm hy hrs hkk hlo
        go_wp2_with fail
        go_region_held3 (fun w' => w'.cell? ⟨b, off + k * 2, none⟩ = some (.int .i64 y.2.fr) ∧ w'.cell? ⟨b10, 0, none⟩ = some (.slice q rs.length cap) ∧ w'.cell? ⟨b10, 1, none⟩ = some (.int .i64 bk.nxt) ∧ w'.cell? ⟨b10, 2, none⟩ = some (.int .i64 bk.last) ∧ w'.cell? ⟨b10, 3, none⟩ = some (.int .i64 bk.order)) (first | (with_reducible assumption) | exact keep5 ((Fr.refl None _).alloc _) (by with_reducible assumption)) (first | ((first | (with_reducible refine HB2.out.mono ?_) | (with_reducible refine HA.out.mono ?_)); rintro e w10 ⟨rfl, f10⟩; have qq := keep5 f10 (by with_reducible assumption)))
        have F10 := ((HFr.out.trans ((Fr.refl None wr).drew)).trans f10)
        have HF10 := Lib.hid F10
        have S10 := HS7.out.same F10
        obtain ⟨b2, off2, rfl, hd⟩ := (Owns.reads (f := rcl) (T := Rc2T) (S10.at_ 3 rfl)).2.1.elem rcl_len (by decide) HKK.out
        have t0 : w10.cell? ⟨b10, 0, none⟩ = some (.slice (some ⟨b2, off2, none⟩) rs.length cap) := (S10.at_ 2 rfl).cell 0
        have t2 : w10.cell? ⟨b2, off2 + kk * 7 + 2, none⟩ = some (.int .i64 y.2.sent) := hd 2 _ rfl
        have t3 : w10.cell? ⟨b2, off2 + kk * 7 + 3, none⟩ = some (.int .i64 y.2.order) := hd 3 _ rfl
        have t6 : w10.cell? ⟨b2, off2 + kk * 7 + 6, none⟩ = some (.bool false) := by rw [hd 6 (.bool y.2.lost) rfl, HLO.out]
        have hpx : Blk w10 px RkT (rkc y2) := S10.at_ 1 rfl
        have HRt := Lib.hid (fun n => rtt_any px y2 (w10.drewN n) (Blk.fr hpx ((Fr.refl None w10).drewN n) (fun h => h)))
        have HOr := Lib.hid (fun n => order_any px y2 (w10.drewN n) (Blk.fr hpx ((Fr.refl None w10).drewN n) (fun h => h)))
        have htw : timeS win = win := by unfold timeS; omega
        rw [htw] at hdu
        obtain ⟨m1, m2, -⟩ := hnum
        clear f10 qq F10 S10 hd hpx htw HA HB2 qi o0 o1 o2 o3 o4
        have u1 : IntKind.i64.wrap (last + ahead - y.2.sent) = last + ahead - y.2.sent := by simp [IntKind.wrap, IntKind.bits, IntKind.signed]; omega
        have u2 : IntKind.i64.wrap (y2.rtt + win) = y2.rtt + win := by simp [IntKind.wrap, IntKind.bits, IntKind.signed]; omega
        have u0 : decide ((kk : Int) < 0) = false := by simp
        have u0' : ((kk : Int) < 0) = False := by simp
        have u3 : decide (last + ahead - y.2.sent ≤ y2.rtt + win) = false := by simp; omega
        have u4 : decide (y2.order ≤ y.2.order) = false := by simp; omega
        go_wp2_with fail
        go_quiet ((first | exact Calls.quiet_of_same (HRt.out _) | exact Calls.quiet_of_same (HOr.out _)))
        go_wp2_with fail
        go_roundg (gk - 1)
        case measure => omega
        case rel => exact ⟨k + 1, by omega, by go_num, HF10.out.drewN _⟩
      · obtain rfl : k = so.length := by omega
        have HS9 := Lib.hid (HS7.out.same HFr.out)
        clear HFr HS7 hkl glt
        cases ss
        · go_wp2_with fail
          refine (known_any _).mono ?_
          rintro e w13 ⟨rfl, f13⟩
          have F10 := Lib.hid (HS9.out.fr.trans f13)
          clear f13
          go_wp2_with fail
          exact bodyPost_ret (v := .bool true) (by simp [results, Try.results5, go_sem]) rfl ⟨rfl, F10.out.none_below⟩
        · obtain ⟨x1, x2, x3⟩ := HX.out rfl
          have x4 := HB.out rfl
          have HL2 := Lib.hid (HL.out wr (HS9.out.at_ 4 rfl) (HS9.out.at_ 1 rfl) (sn - 1))
          have HLL := Lib.hid (fun (W : World) (f : Fr None wr W) => HL.out W ((HS9.out.same f).at_ 4 rfl) ((HS9.out.same f).at_ 1 rfl) sn)
          clear HL HX HB HT
          generalize y2.late (sn - 1) win (bk.L.map (·.2)) = s2 at *
          generalize y2.late sn win (bk.L.map (·.2)) = s3 at *
          obtain ⟨o2, n2, b2⟩ := s2
          obtain ⟨o3, n3, b3⟩ := s3
          dsimp only at x2 x3 HL2 HLL
          rw [x2] at HL2
          clear x2
          have x5 : decide (last + ahead < sn) = true := by simpa using x1
          have x6 : decide (so.length < o3.length) = true := by simpa using x3
          have x7 : IntKind.i64.wrap (sn - 1) = sn - 1 := by simp [IntKind.wrap, IntKind.bits, IntKind.signed]; omega
          go_wp2_with fail
          refine HL2.out.mono ?_
          rintro e w10 ⟨q2, cap2, rfl, S10⟩
          have F10 := Lib.hid (HS9.out.fr.trans S10.fr)
          have HL3 := Lib.hid (HLL.out w10 S10.fr)
          clear S10 HLL HL2
          go_wp2_with fail
          refine HL3.out.mono ?_
          rintro e w11 ⟨q3, cap3, rfl, S11⟩
          have F11 := Lib.hid (F10.out.trans S11.fr)
          clear S11 HL3 F10
          go_wp2_with fail
          refine (known_any _).mono ?_
          rintro e w13 ⟨rfl, f13⟩
          have F12 := Lib.hid (F11.out.trans f13)
          clear f13
          go_wp2_with fail
          exact bodyPost_ret (v := .bool true) (by simp [results, Try.results5, go_sem]) rfl ⟨rfl, F12.out.none_below⟩
end Go.Proofs.Ytckbeppofnnfkaa
