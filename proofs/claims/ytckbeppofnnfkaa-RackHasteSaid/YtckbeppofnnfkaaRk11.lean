/- RackLate: which segments are late: the law, walked. -/
import Derived.Test.YtckbeppofnnfkaaRk9
import Derived.Test.YtckbeppofnnfkaaFl1
import Derived.Test.YtckbeppofnnfkaaLt3
namespace Go.Proofs.Ytckbeppofnnfkaa
open Go.RowKit Go.Und Go.Shelf
attribute [local go_sem] Oper.semAt_some
attribute [local go_sem ↓] Go.wp_at_zero Go.wp_at_succ
abbrev shTwo : Sh := .agg (.cons (.int .u8) (.cons (.int .u8) .nil))
abbrev shFlight : Sh := .agg (.cons (.slice shTwo) (.cons (.slice (.int .u8)) (.cons (.slice (.int .u8)) .nil)))

theorem keep7 {w w' : World} {O : Nat} {v0 v1 v2 v3 v4 v5 v6 : Value} (f : Fr None w w') (h : w.cell? ⟨O, 0, none⟩ = some v0 ∧ w.cell? ⟨O, 1, none⟩ = some v1 ∧ w.cell? ⟨O, 2, none⟩ = some v2 ∧ w.cell? ⟨O, 3, none⟩ = some v3 ∧ w.cell? ⟨O, 4, none⟩ = some v4 ∧ w.cell? ⟨O, 5, none⟩ = some v5 ∧ w.cell? ⟨O, 6, none⟩ = some v6) : w'.cell? ⟨O, 0, none⟩ = some v0 ∧ w'.cell? ⟨O, 1, none⟩ = some v1 ∧ w'.cell? ⟨O, 2, none⟩ = some v2 ∧ w'.cell? ⟨O, 3, none⟩ = some v3 ∧ w'.cell? ⟨O, 4, none⟩ = some v4 ∧ w'.cell? ⟨O, 5, none⟩ = some v5 ∧ w'.cell? ⟨O, 6, none⟩ = some v6 :=
  ⟨cell_fr f h.1, cell_fr f h.2.1, cell_fr f h.2.2.1, cell_fr f h.2.2.2.1, cell_fr f h.2.2.2.2.1, cell_fr f h.2.2.2.2.2.1, cell_fr f h.2.2.2.2.2.2⟩
theorem keep7s {w : World} {O R : Nat} {v0 v1 v2 v3 v4 v5 v6 x0 x1 x2 x3 x4 x5 x6 x7 : Value} (hO : O < R) (h : w.cell? ⟨O, 0, none⟩ = some v0 ∧ w.cell? ⟨O, 1, none⟩ = some v1 ∧ w.cell? ⟨O, 2, none⟩ = some v2 ∧ w.cell? ⟨O, 3, none⟩ = some v3 ∧ w.cell? ⟨O, 4, none⟩ = some v4 ∧ w.cell? ⟨O, 5, none⟩ = some v5 ∧ w.cell? ⟨O, 6, none⟩ = some v6) : ((((((((w.setCell ⟨R, 0, none⟩ x0).setCell ⟨R, 1, none⟩ x1).setCell ⟨R, 2, none⟩ x2).setCell ⟨R, 3, none⟩ x3).setCell ⟨R, 4, none⟩ x4).setCell ⟨R, 5, none⟩ x5).setCell ⟨R, 6, none⟩ x6).setCell ⟨R, 7, none⟩ x7).cell? ⟨O, 0, none⟩ = some v0 ∧ ((((((((w.setCell ⟨R, 0, none⟩ x0).setCell ⟨R, 1, none⟩ x1).setCell ⟨R, 2, none⟩ x2).setCell ⟨R, 3, none⟩ x3).setCell ⟨R, 4, none⟩ x4).setCell ⟨R, 5, none⟩ x5).setCell ⟨R, 6, none⟩ x6).setCell ⟨R, 7, none⟩ x7).cell? ⟨O, 1, none⟩ = some v1 ∧ ((((((((w.setCell ⟨R, 0, none⟩ x0).setCell ⟨R, 1, none⟩ x1).setCell ⟨R, 2, none⟩ x2).setCell ⟨R, 3, none⟩ x3).setCell ⟨R, 4, none⟩ x4).setCell ⟨R, 5, none⟩ x5).setCell ⟨R, 6, none⟩ x6).setCell ⟨R, 7, none⟩ x7).cell? ⟨O, 2, none⟩ = some v2 ∧ ((((((((w.setCell ⟨R, 0, none⟩ x0).setCell ⟨R, 1, none⟩ x1).setCell ⟨R, 2, none⟩ x2).setCell ⟨R, 3, none⟩ x3).setCell ⟨R, 4, none⟩ x4).setCell ⟨R, 5, none⟩ x5).setCell ⟨R, 6, none⟩ x6).setCell ⟨R, 7, none⟩ x7).cell? ⟨O, 3, none⟩ = some v3 ∧ ((((((((w.setCell ⟨R, 0, none⟩ x0).setCell ⟨R, 1, none⟩ x1).setCell ⟨R, 2, none⟩ x2).setCell ⟨R, 3, none⟩ x3).setCell ⟨R, 4, none⟩ x4).setCell ⟨R, 5, none⟩ x5).setCell ⟨R, 6, none⟩ x6).setCell ⟨R, 7, none⟩ x7).cell? ⟨O, 4, none⟩ = some v4 ∧ ((((((((w.setCell ⟨R, 0, none⟩ x0).setCell ⟨R, 1, none⟩ x1).setCell ⟨R, 2, none⟩ x2).setCell ⟨R, 3, none⟩ x3).setCell ⟨R, 4, none⟩ x4).setCell ⟨R, 5, none⟩ x5).setCell ⟨R, 6, none⟩ x6).setCell ⟨R, 7, none⟩ x7).cell? ⟨O, 5, none⟩ = some v5 ∧ ((((((((w.setCell ⟨R, 0, none⟩ x0).setCell ⟨R, 1, none⟩ x1).setCell ⟨R, 2, none⟩ x2).setCell ⟨R, 3, none⟩ x3).setCell ⟨R, 4, none⟩ x4).setCell ⟨R, 5, none⟩ x5).setCell ⟨R, 6, none⟩ x6).setCell ⟨R, 7, none⟩ x7).cell? ⟨O, 6, none⟩ = some v6 := by
  have e : ∀ j, ((((((((w.setCell ⟨R, 0, none⟩ x0).setCell ⟨R, 1, none⟩ x1).setCell ⟨R, 2, none⟩ x2).setCell ⟨R, 3, none⟩ x3).setCell ⟨R, 4, none⟩ x4).setCell ⟨R, 5, none⟩ x5).setCell ⟨R, 6, none⟩ x6).setCell ⟨R, 7, none⟩ x7).cell? ⟨O, j, none⟩ = w.cell? ⟨O, j, none⟩ := fun j => by
    have hn : O ≠ R := by omega
    rw [cell_farB (q := ⟨R, 7, none⟩) hn, cell_farB (q := ⟨R, 6, none⟩) hn, cell_farB (q := ⟨R, 5, none⟩) hn, cell_farB (q := ⟨R, 4, none⟩) hn, cell_farB (q := ⟨R, 3, none⟩) hn, cell_farB (q := ⟨R, 2, none⟩) hn, cell_farB (q := ⟨R, 1, none⟩) hn, cell_farB (q := ⟨R, 0, none⟩) hn]
  simp only [e]
  exact h
theorem came_rtt (r : Rc) (now : Int) (c : Bool) (h0 : 0 ≤ now - r.sent) (h1 : 0 ≤ r.sent) (h2 : now ≤ 1100000000000) : 0 ≤ ((Rk.mk 0 0 0 0 false 1 0 16).came r now c).rtt ∧ ((Rk.mk 0 0 0 0 false 1 0 16).came r now c).rtt ≤ 1100000000000 := by
  unfold Rk.came
  split
  · dsimp only; omega
  · simp [Rk.seen]
theorem twos_of {W : World} {v : Value} {u : U} (h : (Sh.slice shTwo).holds W u [v]) : ∃ (a : Option Addr) (cap : Nat) (l : List (Int × Int)), v = .slice a l.length cap ∧ Twos W a l := by
  obtain ⟨a, cap, L, rfl, h1, h2, h3⟩ := elems_of h (by decide)
  obtain ⟨l, hlen, hp⟩ := getElem?_some_of_list (f := fun _ => True) (P := fun k (x : Int × Int) => ∃ b off, a = some ⟨b, off, none⟩ ∧ b < W.heap.size ∧ W.cell? ⟨b, off + k * 2, none⟩ = some (.int .u8 x.1) ∧ W.cell? ⟨b, off + k * 2 + 1, none⟩ = some (.int .u8 x.2) ∧ (0 ≤ x.1 ∧ x.1 ≤ 255) ∧ 0 ≤ x.2 ∧ x.2 ≤ 255) L.length (fun k hk => by
    obtain ⟨g1, ⟨u, g2⟩, b, off, rfl, hb, hc⟩ := h3 k L[k] (List.getElem?_eq_getElem hk)
    obtain ⟨_, _, g⟩ := g2
    obtain ⟨_, _, _, _, _, e0, _, ⟨x, _, rfl, wx⟩, g⟩ := g
    obtain ⟨_, _, _, _, _, e1, _, ⟨y, _, rfl, wy⟩, g⟩ := g
    obtain ⟨_, rfl⟩ := g
    subst e1
    rw [e0] at hc
    have c0 := hc 0 (by decide)
    have c1 := hc 1 (by decide)
    have b0 := wf_u8 wx
    have b1 := wf_u8 wy
    exact ⟨(x, y), b, off, rfl, hb, c0, by rw [Nat.add_assoc]; exact c1, ⟨b0.1, by dsimp only; omega⟩, b1.1, by dsimp only; omega⟩)
  exact ⟨a, cap, l, by rw [hlen], hp⟩
theorem bytes_of {W : World} {v : Value} {u : U} (h : (Sh.slice (.int .u8)).holds W u [v]) : ∃ (a : Option Addr) (cap : Nat) (l : List Int), v = .slice a l.length cap ∧ Bytes W a l := by
  obtain ⟨a, cap, L, rfl, h1, h2, h3⟩ := elems_of h (by decide)
  obtain ⟨l, hlen, hp⟩ := getElem?_some_of_list (f := fun _ => True) (P := fun k (x : Int) => ∃ b off, a = some ⟨b, off, none⟩ ∧ b < W.heap.size ∧ W.cell? ⟨b, off + k, none⟩ = some (.int .u8 x) ∧ 0 ≤ x ∧ x ≤ 255) L.length (fun k hk => by
    obtain ⟨g1, ⟨u, g2⟩, b, off, rfl, hb, hc⟩ := h3 k L[k] (List.getElem?_eq_getElem hk)
    obtain ⟨x, _, e0, wx⟩ := g2
    rw [e0] at hc
    have c0 := hc 0 (by decide)
    have b0 := wf_u8 wx
    refine ⟨x, b, off, rfl, hb, ?_, b0.1, by omega⟩
    simpa [Sh.size] using c0)
  exact ⟨a, cap, l, by rw [hlen], hp⟩
theorem flight_of {W : World} {u : U} {cs : List Value} (h : shFlight.holds W u cs) : ∃ (a1 a2 a3 : Option Addr) (n1 n2 n3 : Nat) (sends : List (Int × Int)) (again lost : List Int), cs = [.slice a1 sends.length n1, .slice a2 again.length n2, .slice a3 lost.length n3] ∧ Twos W a1 sends ∧ Bytes W a2 again ∧ Bytes W a3 lost := by
  obtain ⟨_, _, g⟩ := h
  obtain ⟨_, _, c1, _, _, e0, l0, hs, g⟩ := g
  obtain ⟨_, _, c2, _, _, e1, l1, ha, g⟩ := g
  obtain ⟨_, _, c3, _, _, e2, l2, hl, g⟩ := g
  obtain ⟨_, rfl⟩ := g
  obtain ⟨v1, rfl⟩ := List.length_eq_one_iff.1 (show c1.length = 1 from l0)
  obtain ⟨v2, rfl⟩ := List.length_eq_one_iff.1 (show c2.length = 1 from l1)
  obtain ⟨v3, rfl⟩ := List.length_eq_one_iff.1 (show c3.length = 1 from l2)
  obtain ⟨a1, n1, sends, rfl, h1⟩ := twos_of hs
  obtain ⟨a2, n2, again, rfl, h2⟩ := bytes_of ha
  obtain ⟨a3, n3, lost, rfl, h3⟩ := bytes_of hl
  subst e2 e1
  exact ⟨a1, a2, a3, n1, n2, n3, sends, again, lost, e0, h1, h2, h3⟩
theorem _root_.Go.Und.Sep.comp0 {D : Nat → Prop} {w0 w w' : World} {R L' : List Ob} (S : Sep D w0 w R) (S' : Sep None w w' L') : Sep D w0 w' (L' ++ R) :=
  Sep.comp (L := []) S ⟨S'.fr.mono (fun _ _ h => h.elim), S'.ok, fun o ho k hk => (S'.fp o ho k hk).elim (fun h => h.elim) .inr, S'.apart⟩
theorem Twos.below {w W : World} {a : Option Addr} {l : List (Int × Int)} (h : Twos w a l) (B : Below w.heap.size w W) : Twos W a l := fun k x hx => by
  obtain ⟨b, off, e, hb, c0, c1, h2⟩ := h k x hx
  exact ⟨b, off, e, Nat.lt_of_lt_of_le hb B.size, (B.cell (p := ⟨b, off + k * 2, none⟩) hb).trans c0, (B.cell (p := ⟨b, off + k * 2 + 1, none⟩) hb).trans c1, h2⟩
theorem Bytes.below {w W : World} {a : Option Addr} {l : List Int} (h : Bytes w a l) (B : Below w.heap.size w W) : Bytes W a l := fun k x hx => by
  obtain ⟨b, off, e, hb, c0, h2⟩ := h k x hx
  exact ⟨b, off, e, Nat.lt_of_lt_of_le hb B.size, (B.cell (p := ⟨b, off + k, none⟩) hb).trans c0, h2⟩

set_option maxRecDepth 100000 in
set_option maxHeartbeats 8000000 in
theorem rackLate_walk (w : World) (cf : Array Value) (uf : U) (hf : shFlight.holds w uf cf.toList) (cr : Array Value) (ur : U) (hr : shRec.holds w ur cr.toList) (va : Value) (ua : U) (ha : (Sh.int .i64).holds w ua [va]) (vw : Value) (uw : U) (hw : (Sh.int .i64).holds w uw [vw]) :
    Calls Try.prog 4 #[.agg cf, .agg cr, va, vw] w fun e w' => e = .returned (.bool true) ∧ Below w.heap.size w w' := by
  obtain ⟨a1, a2, a3, n1, n2, n3, sends, again, lost, ef, h1, h2, h3⟩ := flight_of hf
  obtain rfl : cf = #[.slice a1 sends.length n1, .slice a2 again.length n2, .slice a3 lost.length n3] := Array.ext' ef
  obtain ⟨r, hr⟩ := rec_of hr
  obtain rfl : cr = rcc r := Array.ext' hr
  obtain ⟨ahead, _, ha, wa⟩ := ha
  obtain ⟨win, _, hw, _⟩ := hw
  simp only [List.cons.injEq, and_true] at ha hw
  subst ha hw
  clear hr ef hf
  have S := Lib.hid (((Sep.law w).alloc #[.slice a1 sends.length n1, .slice a2 again.length n2, .slice a3 lost.length n3] FlT).alloc (rcc r) RcT)
  have HFl := Lib.hid (fun (W : World) (f : Fr None w W) => fly_any W a1 a2 a3 n1 n2 n3 sends again lost (h1.below f.none_below) (h2.below f.none_below) (h3.below f.none_below))
  clear h1 h2 h3
  go_enter Try.func4, Try.ntmps4
  go_wp2_with fail
  refine (known_any _).mono ?_
  rintro e w1 ⟨rfl, f1⟩
  have S1 := S.out.same f1
  simp only [World.size_alloc] at S1
  have c0 : w1.cell? ⟨w.heap.size, 0, none⟩ = some (.slice a1 sends.length n1) := (S1.at_ 1 rfl).cell 0
  have c1 : w1.cell? ⟨w.heap.size, 1, none⟩ = some (.slice a2 again.length n2) := (S1.at_ 1 rfl).cell 1
  have c2 : w1.cell? ⟨w.heap.size, 2, none⟩ = some (.slice a3 lost.length n3) := (S1.at_ 1 rfl).cell 2
  have HS1 := Lib.hid S1
  clear S S1 f1
  go_wp2_with fail
  refine (HFl.out _ HS1.out.fr).mono ?_
  rintro e w2 ⟨pb, bk, q, cap, rs, last, M, rfl, hF, hM, S2⟩
  have HF := Lib.hid hF
  have S3 := (HS1.out.comp0 S2).alloc (bk2c q rs.length cap bk.nxt bk.last bk.order) Bk2T
  simp only [List.cons_append, List.nil_append] at S3
  clear S2 hF
  have wl := HF.out.now
  have wl2 : last ≤ 15300 := by omega
  obtain ⟨wl1, -⟩ := wl
  go_wp2_with fail
  refine (newRack_any 0 (by decide) (by decide) _).mono ?_
  rintro e w3 ⟨rfl, hw3⟩
  have S4 : Sep None w w3 (Ob.blk (w2.alloc (.cells (bk2c q rs.length cap bk.nxt bk.last bk.order) Bk2T)).heap.size RkT (rkc ⟨0, 0, 0, 0, false, 1, 0, 16⟩) :: Ob.blk w2.heap.size Bk2T (bk2c q rs.length cap bk.nxt bk.last bk.order) :: [orow q cap rs, obook pb bk, Ob.blk (w.heap.size + 1) RcT (rcc r), Ob.blk w.heap.size FlT #[.slice a1 sends.length n1, .slice a2 again.length n2, .slice a3 lost.length n3]]) := by
    rw [hw3]; exact S3.alloc _ _
  clear hw3 S3
  generalize (w2.alloc (.cells (bk2c q rs.length cap bk.nxt bk.last bk.order) Bk2T)).heap.size = px at *
  generalize w2.heap.size = b10 at *
  have r0 : w3.cell? ⟨w.heap.size + 1, 0, none⟩ = some (.int .i64 r.fr) := (S4.at_ 4 rfl).cell 0
  have r1 : w3.cell? ⟨w.heap.size + 1, 1, none⟩ = some (.int .i64 r.to) := (S4.at_ 4 rfl).cell 1
  have r2 : w3.cell? ⟨w.heap.size + 1, 2, none⟩ = some (.int .i64 r.sent) := (S4.at_ 4 rfl).cell 2
  have HS4 := Lib.hid S4
  clear S4 HS1 HFl
  by_cases gx : ahead < 0 ∨ 1099511627776 < ahead ∨ r.sent < 0 ∨ last + ahead < r.sent
  · have g4 : ahead < 0 ∨ (0 ≤ ahead ∧ 1099511627776 < ahead) ∨ ((0 ≤ ahead ∧ ahead ≤ 1099511627776) ∧ r.sent < 0) ∨ ((0 ≤ ahead ∧ ahead ≤ 1099511627776) ∧ 0 ≤ r.sent ∧ last + ahead < r.sent) := by omega
    clear gx
    rcases g4 with u1 | ⟨u1, u2⟩ | ⟨⟨u1, u2⟩, u3⟩ | ⟨⟨u1, u2⟩, u3, u4⟩
    all_goals
      go_wp2_with fail
      refine (known_any _).mono ?_
      rintro e w5 ⟨rfl, f5⟩
      have F5 := Lib.hid (HS4.out.fr.trans f5)
      clear f5
      go_wp2_with fail
      exact bodyPost_ret (v := .bool true) (by simp [results, Try.results4, go_sem]) rfl ⟨rfl, F5.out.none_below⟩
  · have gs : (0 ≤ ahead ∧ ahead ≤ 1099511627776) ∧ 0 ≤ r.sent ∧ r.sent ≤ last + ahead := by omega
    clear gx
    obtain ⟨⟨g1, g2⟩, g3, g4⟩ := gs
    obtain ⟨cy, hcy0, hcy⟩ := rfCame_any ⟨0, 0, 0, 0, false, 1, 0, 16⟩ r (last + ahead) 0 true false 0 ⟨g3, by omega⟩ (by omega) (by decide)
    obtain ⟨cx, hcx0, hcx⟩ := came_any ⟨0, 0, 0, 0, false, 1, 0, 16⟩ r (last + ahead) 0 true false 0 ⟨g3, by omega⟩ (by omega)
    have ecc : cx = cy := by
      by_cases gt : r.times ≤ 1
      · rw [hcx0.2.1 (by omega) gt, hcy0.2.1 (by omega) gt]
      · rw [hcx0.2.2 (by omega) (by omega) rfl, hcy0.2.2 (by omega) (by omega) rfl]
    subst ecc
    have HCy := Lib.hid hcy
    have HCx := Lib.hid hcx
    have HN := Lib.hid (rfNew_any 0)
    have HRc := Lib.hid (rec_any r)
    clear hcy0 hcx0 hcy hcx
    have HY := Lib.hid (show ∃ y2, y2 = (Rk.mk 0 0 0 0 false 1 0 16).came r (last + ahead) cx from ⟨_, rfl⟩)
    go_upto_region 8 with fail
    go_cut [15, 16] from 65 to 72 (fun p _ wx => ∃ B, p = .pointer (at0 B) ∧ Sep None w wx [Ob.blk B RfT (rkc ((Rk.mk 0 0 0 0 false 1 0 16).came r (last + ahead) cx)), Ob.blk px RkT (rkc ⟨0, 0, 0, 0, false, 1, 0, 16⟩), Ob.blk b10 Bk2T (bk2c q rs.length cap bk.nxt bk.last bk.order), orow q cap rs, obook pb bk, Ob.blk (w.heap.size + 1) RcT (rcc r), Ob.blk w.heap.size FlT #[.slice a1 sends.length n1, .slice a2 again.length n2, .slice a3 lost.length n3]])
    case first =>
      have k0 : w3.cell? ⟨w.heap.size + 1, 0, none⟩ = some (.int .i64 r.fr) ∧ w3.cell? ⟨w.heap.size + 1, 1, none⟩ = some (.int .i64 r.to) ∧ w3.cell? ⟨w.heap.size + 1, 2, none⟩ = some (.int .i64 r.sent) ∧ w3.cell? ⟨w.heap.size + 1, 3, none⟩ = some (.int .i64 r.order) ∧ w3.cell? ⟨w.heap.size + 1, 4, none⟩ = some (.int .i64 r.times) ∧ w3.cell? ⟨w.heap.size + 1, 5, none⟩ = some (.int .i64 r.out) ∧ w3.cell? ⟨w.heap.size + 1, 6, none⟩ = some (.bool r.lost) := ⟨(HS4.out.at_ 4 rfl).cell 0, (HS4.out.at_ 4 rfl).cell 1, (HS4.out.at_ 4 rfl).cell 2, (HS4.out.at_ 4 rfl).cell 3, (HS4.out.at_ 4 rfl).cell 4, (HS4.out.at_ 4 rfl).cell 5, (HS4.out.at_ 4 rfl).cell 6⟩
      have qi := keep7 ((Fr.refl None w3).drew) k0
      obtain ⟨o0, o1, o2, o3, o4, o5, o6⟩ := k0
      clear r0 r1 r2
      have L1 : w.heap.size + 1 < w3.heap.size := (HS4.out.at_ 4 rfl).lt
      have L2 : w.heap.size + 1 < w3.drew.heap.size := L1
      go_region_held3 (fun w' => w'.cell? ⟨w.heap.size + 1, 0, none⟩ = some (.int .i64 r.fr) ∧ w'.cell? ⟨w.heap.size + 1, 1, none⟩ = some (.int .i64 r.to) ∧ w'.cell? ⟨w.heap.size + 1, 2, none⟩ = some (.int .i64 r.sent) ∧ w'.cell? ⟨w.heap.size + 1, 3, none⟩ = some (.int .i64 r.order) ∧ w'.cell? ⟨w.heap.size + 1, 4, none⟩ = some (.int .i64 r.times) ∧ w'.cell? ⟨w.heap.size + 1, 5, none⟩ = some (.int .i64 r.out) ∧ w'.cell? ⟨w.heap.size + 1, 6, none⟩ = some (.bool r.lost)) (first | (with_reducible assumption) | (with_reducible exact keep7s (by assumption) (by assumption)) | exact keep7 ((Fr.refl None _).alloc _) (by with_reducible assumption)) (first | ((with_reducible refine (HN.out _).mono ?_); rintro e w5 ⟨rfl, f5⟩; have q5 := keep7 f5 (by with_reducible assumption); (first | (with_reducible have nB := new_frd f5; obtain ⟨c0, c1, c2, c3, c4, c5, c6, c7, z0, z1, z2, z3, z4, z5, z6, z7⟩ := blk8 nB.out) | (with_reducible have nB := new_fr f5; obtain ⟨c0, c1, c2, c3, c4, c5, c6, c7, z0, z1, z2, z3, z4, z5, z6, z7⟩ := blk8 nB.out) | (with_reducible have nB := hid_fr f5 (by with_reducible assumption); obtain ⟨c0, c1, c2, c3, c4, c5, c6, c7, z0, z1, z2, z3, z4, z5, z6, z7⟩ := blk8 nB.out) | (have l5 := lt_fr f5 (by with_reducible assumption)))) | ((with_reducible refine (HRc.out _).mono ?_); rintro e w6 ⟨rfl, f6⟩; have q6 := keep7 f6 (by with_reducible assumption); (first | (with_reducible have nB := new_frd f6; obtain ⟨c0, c1, c2, c3, c4, c5, c6, c7, z0, z1, z2, z3, z4, z5, z6, z7⟩ := blk8 nB.out) | (with_reducible have nB := new_fr f6; obtain ⟨c0, c1, c2, c3, c4, c5, c6, c7, z0, z1, z2, z3, z4, z5, z6, z7⟩ := blk8 nB.out) | (with_reducible have nB := hid_fr f6 (by with_reducible assumption); obtain ⟨c0, c1, c2, c3, c4, c5, c6, c7, z0, z1, z2, z3, z4, z5, z6, z7⟩ := blk8 nB.out) | (have l6 := lt_fr f6 (by with_reducible assumption)))) | ((with_reducible refine (HCy.out _).mono ?_); rintro e w7 ⟨rfl, f7⟩; have q7 := keep7 f7 (by with_reducible assumption); (first | (with_reducible have nB := new_frd f7; obtain ⟨c0, c1, c2, c3, c4, c5, c6, c7, z0, z1, z2, z3, z4, z5, z6, z7⟩ := blk8 nB.out) | (with_reducible have nB := new_fr f7; obtain ⟨c0, c1, c2, c3, c4, c5, c6, c7, z0, z1, z2, z3, z4, z5, z6, z7⟩ := blk8 nB.out) | (with_reducible have nB := hid_fr f7 (by with_reducible assumption); obtain ⟨c0, c1, c2, c3, c4, c5, c6, c7, z0, z1, z2, z3, z4, z5, z6, z7⟩ := blk8 nB.out) | (have l7 := lt_fr f7 (by with_reducible assumption)))))
      · have S5 := (((HS4.out.drew.same f5).same f6).same f7).alloc (rkc ((Rk.mk 0 0 0 0 false 1 0 16).came r (last + ahead) cx)) RfT
        go_wp2_with fail
        go_meet
        exact ⟨_, rfl, S5⟩
      · have S5 := Sep.store8k ((((HS4.out.drew.same f5).same f6).alloc #[.int .i64 0, .int .i64 0, .int .i64 0, .int .i64 0, .bool false, .int .i64 0, .int .i64 0, .int .i64 0] RfT).same f7) ((Rk.mk 0 0 0 0 false 1 0 16).came r (last + ahead) cx) rfl
        go_wp2_with fail
        go_meet
        exact ⟨_, rfl, S5⟩
      · have S5 := Sep.store8k ((((HS4.out.drew.same f5).alloc #[.int .i64 0, .int .i64 0, .int .i64 0, .int .i64 0, .bool false, .int .i64 0, .int .i64 0, .int .i64 0] RfT).same f6).same f7) ((Rk.mk 0 0 0 0 false 1 0 16).came r (last + ahead) cx) rfl
        go_wp2_with fail
        go_meet
        exact ⟨_, rfl, S5⟩
      · have S5 := Sep.store8k ((((HS4.out.alloc #[.int .i64 0, .int .i64 0, .int .i64 0, .int .i64 0, .bool false, .int .i64 0, .int .i64 0, .int .i64 0] RfT).drew.same f5).same f6).same f7) ((Rk.mk 0 0 0 0 false 1 0 16).came r (last + ahead) cx) rfl
        go_wp2_with fail
        go_meet
        exact ⟨_, rfl, S5⟩
    case rest =>
      obtain ⟨B, rfl, S5⟩ := hcut
      have hrt := came_rtt r (last + ahead) cx (by omega) (by omega) (by omega)
      generalize ((Rk.mk 0 0 0 0 false 1 0 16).came r (last + ahead) cx) = y2 at *
      have e0 : wc.cell? ⟨w.heap.size + 1, 0, none⟩ = some (.int .i64 r.fr) := (S5.at_ 5 rfl).cell 0
      have e1 : wc.cell? ⟨w.heap.size + 1, 1, none⟩ = some (.int .i64 r.to) := (S5.at_ 5 rfl).cell 1
      have e2 : wc.cell? ⟨w.heap.size + 1, 2, none⟩ = some (.int .i64 r.sent) := (S5.at_ 5 rfl).cell 2
      have e3 : wc.cell? ⟨w.heap.size + 1, 3, none⟩ = some (.int .i64 r.order) := (S5.at_ 5 rfl).cell 3
      have e4 : wc.cell? ⟨w.heap.size + 1, 4, none⟩ = some (.int .i64 r.times) := (S5.at_ 5 rfl).cell 4
      have e5 : wc.cell? ⟨w.heap.size + 1, 5, none⟩ = some (.int .i64 r.out) := (S5.at_ 5 rfl).cell 5
      have e6 : wc.cell? ⟨w.heap.size + 1, 6, none⟩ = some (.bool r.lost) := (S5.at_ 5 rfl).cell 6
      have HS5 := Lib.hid S5
      have HD := Lib.hid (HCx.out px _ (S5.at_ 1 rfl))
      clear S5 HS4 HCy HCx HN HRc HY r0 r1 r2
      obtain ⟨hr1, hr2⟩ := hrt
      go_wp2_with fail
      refine HD.out.mono ?_
      rintro e w8 ⟨rfl, S6'⟩
      have S6 := HS5.out.turn 1 rfl (Ob.blk px RkT (rkc y2)) S6'.fr (fun _ _ h => h) (S6'.at_ 0 rfl) (fun _ h => .inl h)
      simp only [List.set_cons_zero, List.set_cons_succ] at S6
      have hB6 : BookAt w8 pb bk := S6.at_ 4 rfl
      have hlen : bk.L.length ≤ 60 := by
        have h1 := HF.out.len
        have h2 := HF.out.perm.length_eq
        rw [List.length_map] at h2
        omega
      have HL := Lib.hid (late_any pb px bk y2 (last + ahead) win w8 hB6 (S6.at_ 1 rfl) ⟨hr1, by omega⟩ (fun y hy => by have := HF.out.num _ (HF.out.mem hy); omega) (by omega))
      have hso : sortR rs = bk.L.map (·.2) := sortR_eq HF.out.perm (by have := HF.out.ord; rw [List.pairwise_map] at this ⊢; exact this)
      have hrl := rfLate_rel (x := y2) (now := last + ahead) (win := win) hr1 (timeS_bounds win).1 (l := bk.L.map (·.2)) (by have := HF.out.ord; rw [List.pairwise_map] at this ⊢; exact this) (fun r hr => by
        obtain ⟨y, hy, rfl⟩ := List.mem_map.1 hr
        exact (HF.out.num _ (HF.out.mem hy)).1)
      have hol : (y2.late (last + ahead) win (bk.L.map (·.2))).out.length ≤ 60 := by
        have h1 := goes_len y2 (last + ahead) win ((bk.L.map (·.2)).takeWhile fun r => decide (r.order < y2.order))
        have h2 := (List.takeWhile_sublist (fun r : Rc => decide (r.order < y2.order)) (l := bk.L.map (·.2))).length_le
        rw [List.length_map] at h2
        exact Nat.le_trans h1 (Nat.le_trans h2 hlen)
      have HR := Lib.hid (fun (W : World) (hq : Reads W 7 q rs.length cap (fc rcl rs)) => rfLate_any y2 q cap rs (last + ahead) win W hq (by have := HF.out.len; omega) (fun r hr => by have := HF.out.num r hr; omega) ⟨hr1, by omega⟩)
      have HSO := Lib.hid hso
      have HRL := Lib.hid hrl
      clear hso hrl
      generalize hlt : y2.late (last + ahead) win (bk.L.map (·.2)) = s at *
      generalize hrf : rfLateS y2 (last + ahead) win (sortR rs) = t at *
      rw [HSO.out] at hrf
      have hrel : LtRel s t := by have := HRL.out; rw [hrf] at this; exact this
      clear hlt hrf HSO HRL
      obtain ⟨so, sn, ss⟩ := s
      obtain ⟨t1, t2⟩ := t
      obtain ⟨g5, g6, g7, g8⟩ := hrel
      dsimp only at g5 g6 g7 g8 hol HL HR
      subst g5
      have HS6 := Lib.hid S6
      clear S6 S6' HS5 HD hB6
      cases ss
      · obtain rfl := g8 rfl
        simp only [Bool.false_eq_true, if_false] at g6
        subst g6
        clear g7 g8
        go_wp2_with fail
        refine HL.out.mono ?_
        rintro e w9 ⟨q1, cap1, rfl, S7'⟩
        have S7 := HS6.out.comp0 S7'
        simp only [List.cons_append, List.nil_append] at S7
        have k0 : w9.cell? ⟨B, 0, none⟩ = some (.int .i64 y2.floor) := (S7.at_ 1 rfl).cell 0
        have k1 : w9.cell? ⟨B, 1, none⟩ = some (.int .i64 y2.rtt) := (S7.at_ 1 rfl).cell 1
        have k2 : w9.cell? ⟨B, 2, none⟩ = some (.int .i64 y2.order) := (S7.at_ 1 rfl).cell 2
        have k3 : w9.cell? ⟨B, 3, none⟩ = some (.int .i64 y2.fin) := (S7.at_ 1 rfl).cell 3
        have k4 : w9.cell? ⟨B, 4, none⟩ = some (.bool y2.mixed) := (S7.at_ 1 rfl).cell 4
        have k5 : w9.cell? ⟨B, 5, none⟩ = some (.int .i64 y2.mult) := (S7.at_ 1 rfl).cell 5
        have k6 : w9.cell? ⟨B, 6, none⟩ = some (.int .i64 y2.round) := (S7.at_ 1 rfl).cell 6
        have k7 : w9.cell? ⟨B, 7, none⟩ = some (.int .i64 y2.rest) := (S7.at_ 1 rfl).cell 7
        have d0 : w9.cell? ⟨b10, 0, none⟩ = some (.slice q rs.length cap) := (S7.at_ 3 rfl).cell 0
        have HS7 := Lib.hid S7
        have HQ := Lib.hid (HR.out w9 (Owns.reads (f := rcl) (T := Rc2T) (S7.at_ 4 rfl)).2.1)
        clear S7 S7' HS6 HL HR
        go_wp2_with fail
        refine HQ.out.mono ?_
        rintro e w10 ⟨q2, cap2, rfl, O2, f10⟩
        have S8 := HS7.out.same f10
        have hR1 : Reads w10 2 q1 t1.length cap1 (fc spl t1) := (Owns.reads (f := spl) (T := SpT) (S8.at_ 0 rfl)).2.1
        have HM := Lib.hid (rfSame_any q1 q2 cap1 cap2 t1 w10 hR1 O2.reads.2.1 (by omega))
        have F8 := Lib.hid S8.fr
        clear S8 O2 f10 HS7 HQ hR1
        go_wp2_with fail
        refine HM.out.mono ?_
        rintro e w11 ⟨rfl, n11, rfl⟩
        have F9 := Lib.hid (F8.out.drewN n11)
        clear F8 HM
        generalize w10.drewN n11 = w12 at *
        go_wp2_with fail
        refine (known_any _).mono ?_
        rintro e w13 ⟨rfl, f13⟩
        have F10 := Lib.hid (F9.out.trans f13)
        clear f13
        go_wp2_with fail
        exact bodyPost_ret (v := .bool true) (by simp [results, Try.results4, go_sem]) rfl ⟨rfl, F10.out.none_below⟩
      · have gn := g7 rfl
        simp only [if_true] at g6
        subst g6
        clear g7 g8
        go_wp2_with fail
        refine HL.out.mono ?_
        rintro e w9 ⟨q1, cap1, rfl, S7'⟩
        have S7 := HS6.out.comp0 S7'
        simp only [List.cons_append, List.nil_append] at S7
        have k0 : w9.cell? ⟨B, 0, none⟩ = some (.int .i64 y2.floor) := (S7.at_ 1 rfl).cell 0
        have k1 : w9.cell? ⟨B, 1, none⟩ = some (.int .i64 y2.rtt) := (S7.at_ 1 rfl).cell 1
        have k2 : w9.cell? ⟨B, 2, none⟩ = some (.int .i64 y2.order) := (S7.at_ 1 rfl).cell 2
        have k3 : w9.cell? ⟨B, 3, none⟩ = some (.int .i64 y2.fin) := (S7.at_ 1 rfl).cell 3
        have k4 : w9.cell? ⟨B, 4, none⟩ = some (.bool y2.mixed) := (S7.at_ 1 rfl).cell 4
        have k5 : w9.cell? ⟨B, 5, none⟩ = some (.int .i64 y2.mult) := (S7.at_ 1 rfl).cell 5
        have k6 : w9.cell? ⟨B, 6, none⟩ = some (.int .i64 y2.round) := (S7.at_ 1 rfl).cell 6
        have k7 : w9.cell? ⟨B, 7, none⟩ = some (.int .i64 y2.rest) := (S7.at_ 1 rfl).cell 7
        have d0 : w9.cell? ⟨b10, 0, none⟩ = some (.slice q rs.length cap) := (S7.at_ 3 rfl).cell 0
        have HS7 := Lib.hid S7
        have HQ := Lib.hid (HR.out w9 (Owns.reads (f := rcl) (T := Rc2T) (S7.at_ 4 rfl)).2.1)
        clear S7 S7' HS6 HL HR
        go_wp2_with fail
        refine HQ.out.mono ?_
        rintro e w10 ⟨q2, cap2, rfl, O2, f10⟩
        have S8 := HS7.out.same f10
        have hR1 : Reads w10 2 q1 t1.length cap1 (fc spl t1) := (Owns.reads (f := spl) (T := SpT) (S8.at_ 0 rfl)).2.1
        have HM := Lib.hid (rfSame_any q1 q2 cap1 cap2 t1 w10 hR1 O2.reads.2.1 (by omega))
        have F8 := Lib.hid S8.fr
        clear S8 O2 f10 HS7 HQ hR1
        go_wp2_with fail
        refine HM.out.mono ?_
        rintro e w11 ⟨rfl, n11, rfl⟩
        have F9 := Lib.hid (F8.out.drewN n11)
        clear F8 HM
        generalize w10.drewN n11 = w12 at *
        go_wp2_with fail
        refine (known_any _).mono ?_
        rintro e w13 ⟨rfl, f13⟩
        have F10 := Lib.hid (F9.out.trans f13)
        clear f13
        go_wp2_with fail
        exact bodyPost_ret (v := .bool true) (by simp [results, Try.results4, go_sem]) rfl ⟨rfl, F10.out.none_below⟩
end Go.Proofs.Ytckbeppofnnfkaa
