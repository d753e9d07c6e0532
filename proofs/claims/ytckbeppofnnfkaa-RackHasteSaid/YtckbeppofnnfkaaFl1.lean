/- A flight, flown. -/
import Derived.Test.YtckbeppofnnfkaaFl0
import Derived.Test.YtckbeppofnnfkaaEls
import Derived.Deep.DrawnRows
import Derived.Deep.CutBlock
namespace Go.Proofs.Ytckbeppofnnfkaa
open Go.RowKit Go.Und Go.Shelf
attribute [local go_sem] Oper.semAt_some
attribute [local go_sem ↓] Go.wp_at_zero Go.wp_at_succ
abbrev FlT : TypeId := 48

def Bytes (w : World) (a : Option Addr) (l : List Int) : Prop := ∀ k x, l[k]? = some x → ∃ b off, a = some ⟨b, off, none⟩ ∧ b < w.heap.size ∧ w.cell? ⟨b, off + k, none⟩ = some (.int .u8 x) ∧ 0 ≤ x ∧ x ≤ 255
def Twos (w : World) (a : Option Addr) (l : List (Int × Int)) : Prop := ∀ k x, l[k]? = some x → ∃ b off, a = some ⟨b, off, none⟩ ∧ b < w.heap.size ∧ w.cell? ⟨b, off + k * 2, none⟩ = some (.int .u8 x.1) ∧ w.cell? ⟨b, off + k * 2 + 1, none⟩ = some (.int .u8 x.2) ∧ (0 ≤ x.1 ∧ x.1 ≤ 255) ∧ 0 ≤ x.2 ∧ x.2 ≤ 255
abbrev orow (q : Option Addr) (cap : Nat) (rs : List Rc) : Ob := Ob.row 0 Rc2T 7 (.slice q rs.length cap) rs.length (fc rcl rs)

theorem keep3 {w w' : World} {p1 p2 p3 : Addr} {u1 u2 u3 : Value} (f : Fr None w w') (h : w.cell? p1 = some u1 ∧ w.cell? p2 = some u2 ∧ w.cell? p3 = some u3) : w'.cell? p1 = some u1 ∧ w'.cell? p2 = some u2 ∧ w'.cell? p3 = some u3 :=
  have k : ∀ {p u}, w.cell? p = some u → w'.cell? p = some u := fun h => (World.cell?_of_block (f.block _ (World.block_lt_of_cell? w _ h) (fun h => h))).trans h
  ⟨k h.1, k h.2.1, k h.2.2⟩
theorem keep3d {w : World} {o : Obj} {p1 p2 p3 : Addr} {u1 u2 u3 : Value} (h : w.drew.cell? p1 = some u1 ∧ w.drew.cell? p2 = some u2 ∧ w.drew.cell? p3 = some u3) : (w.alloc o).drew.cell? p1 = some u1 ∧ (w.alloc o).drew.cell? p2 = some u2 ∧ (w.alloc o).drew.cell? p3 = some u3 := by
  have e : ∀ (W : World) a, W.drew.cell? a = W.cell? a := fun _ _ => rfl
  simp only [e] at h ⊢
  exact keep3 ((Fr.refl None _).alloc _) h

theorem keep4d {w : World} {T R : Nat} {u0 u1 u2 u3 x0 x1 x2 x3 : Value} (hT : T ≠ R) (h : w.drew.cell? ⟨T, 0, none⟩ = some u0 ∧ w.drew.cell? ⟨T, 1, none⟩ = some u1 ∧ w.drew.cell? ⟨T, 2, none⟩ = some u2 ∧ w.drew.cell? ⟨T, 3, none⟩ = some u3) : ((((w.setCell ⟨R, 0, none⟩ x0).setCell ⟨R, 1, none⟩ x1).setCell ⟨R, 2, none⟩ x2).setCell ⟨R, 3, none⟩ x3).drew.cell? ⟨T, 0, none⟩ = some u0 ∧ ((((w.setCell ⟨R, 0, none⟩ x0).setCell ⟨R, 1, none⟩ x1).setCell ⟨R, 2, none⟩ x2).setCell ⟨R, 3, none⟩ x3).drew.cell? ⟨T, 1, none⟩ = some u1 ∧ ((((w.setCell ⟨R, 0, none⟩ x0).setCell ⟨R, 1, none⟩ x1).setCell ⟨R, 2, none⟩ x2).setCell ⟨R, 3, none⟩ x3).drew.cell? ⟨T, 2, none⟩ = some u2 ∧ ((((w.setCell ⟨R, 0, none⟩ x0).setCell ⟨R, 1, none⟩ x1).setCell ⟨R, 2, none⟩ x2).setCell ⟨R, 3, none⟩ x3).drew.cell? ⟨T, 3, none⟩ = some u3 := by
  have e : ∀ (W : World) a, W.drew.cell? a = W.cell? a := fun _ _ => rfl
  simp only [e] at h ⊢
  have f : Fr (· = R) w ((((w.setCell ⟨R, 0, none⟩ x0).setCell ⟨R, 1, none⟩ x1).setCell ⟨R, 2, none⟩ x2).setCell ⟨R, 3, none⟩ x3) := (((((Fr.refl (· = R) _).setCell (p := ⟨R, 0, none⟩) (fun _ => rfl) _).setCell (p := ⟨R, 1, none⟩) (fun _ => rfl) _).setCell (p := ⟨R, 2, none⟩) (fun _ => rfl) _).setCell (p := ⟨R, 3, none⟩) (fun _ => rfl) _)
  exact ⟨cell_frR f hT h.1, cell_frR f hT h.2.1, cell_frR f hT h.2.2.1, cell_frR f hT h.2.2.2⟩

set_option maxRecDepth 100000 in
set_option maxHeartbeats 8000000 in
theorem fly_any (w : World) (a1 a2 a3 : Option Addr) (n1 n2 n3 : Nat) (sends : List (Int × Int)) (again lost : List Int) (h1 : Twos w a1 sends) (h2 : Bytes w a2 again) (h3 : Bytes w a3 lost) :
    Calls Try.prog 16 #[.agg #[.slice a1 sends.length n1, .slice a2 again.length n2, .slice a3 lost.length n3]] w fun e w' => ∃ pb bk q cap rs now M, e = .returned (.tuple #[.pointer (at0 pb), .agg (bk2c q rs.length cap bk.nxt bk.last bk.order), .int .i64 now]) ∧
      Fly M bk rs now ∧ M ≤ 60 ∧ Sep None w w' [orow q cap rs, obook pb bk] := by
  have H1 := Lib.hid h1
  have H2 := Lib.hid h2
  have H3 := Lib.hid h3
  clear h1 h2 h3
  have S := Lib.hid (((Sep.law w).alloc #[.slice a1 sends.length n1, .slice a2 again.length n2, .slice a3 lost.length n3] FlT).alloc (bk2c none 0 0 0 0 0) Bk2T)
  go_enter Try.func16, Try.ntmps16
  go_wp2_with fail
  refine (newBook_any 0 (by decide) (by decide) _).mono ?_
  rintro e w1 ⟨pb, bk, rfl, n1', n2', n3', n4', n5', n6', n7'⟩
  have FL := Lib.hid (Fly.empty n2' n3' n4' n5')
  have S1 := S.out.add (obook pb bk) n7' n1' n6'
  simp only [World.size_alloc] at S1
  have S2 := Lib.hid (S1.alloc (bk2c none 0 0 0 0 0) Bk2T)
  have bz := Lib.hid (And.intro n3' (And.intro n4' n5'))
  clear S1 n1' n2' n3' n4' n5' n6' n7'
  go_upto_block 0 with fail
  generalize w1.heap.size = b7 at *
  refine Sep.gen _ S2.out ?_
  intro V SV
  have SR := Lib.hid (SV.add (orow none 0 []) (Fr.refl None V) (Owns.nil rcl 7 Rc2T V) (fun k hk => by cases hk))
  clear SV S2
  go_cut [8, 9, 10] from 20 to 64 (fun nw i sp wx => ∃ (M : Int) (bk : Bk) (rs : List Rc) (q : Option Addr) (cap : Nat) (now : Int), nw = .int .i64 now ∧ Fly M bk rs now ∧ M ≤ 40 ∧ Sep None w wx [orow q cap rs, Ob.blk b7 Bk2T (bk2c q rs.length cap bk.nxt bk.last bk.order), obook pb bk, Ob.blk (w.heap.size + 1) Bk2T (bk2c none 0 0 0 0 0), Ob.blk w.heap.size FlT #[.slice a1 sends.length n1, .slice a2 again.length n2, .slice a3 lost.length n3]])
  case first =>
    go_wp2_with fail
    go_loopg [8, 9] 40 (fun n nw i wr => ∃ (k : Nat) (bk : Bk) (rs : List Rc) (q : Option Addr) (cap : Nat) (now : Int), k + n = 40 ∧ k ≤ sends.length ∧ nw = .int .i64 now ∧ i = .int .i64 k ∧ Fly k bk rs now ∧
      Sep None w wr [orow q cap rs, Ob.blk b7 Bk2T (bk2c q rs.length cap bk.nxt bk.last bk.order), obook pb bk, Ob.blk (w.heap.size + 1) Bk2T (bk2c none 0 0 0 0 0), Ob.blk w.heap.size FlT #[.slice a1 sends.length n1, .slice a2 again.length n2, .slice a3 lost.length n3]])
    case atStart => exact ⟨0, bk, [], none, 0, 0, rfl, Nat.zero_le _, rfl, rfl, FL.out, by have := SR.out; have e := bz.out; have e2 : bk2c none ([] : List Rc).length 0 bk.nxt bk.last bk.order = bk2c none 0 0 0 0 0 := by rw [e.1, e.2.1, e.2.2]; rfl
                                                                                           rw [e2]; exact this⟩
    case round =>
      clear FL SR bz
      obtain ⟨k, bk, rs, q, cap, now, hk0, hk, rfl, rfl, hF, SS⟩ := hrel
      have HF := Lib.hid hF
      have HS := Lib.hid SS
      have e0 : wr.cell? ⟨w.heap.size, 0, none⟩ = some (.slice a1 sends.length n1) := (SS.at_ 4 rfl).cell 0
      by_cases g : k < sends.length ∧ k < 40
      · obtain ⟨g1, g2⟩ := g
        obtain ⟨b, off, rfl, hb, c0, c1, x0, x1⟩ := H1.out k sends[k] (List.getElem?_eq_getElem g1)
        have bel := SS.fr.none_below
        have d0 : wr.cell? ⟨b, off + k * 2, none⟩ = some (.int .u8 sends[k].1) := (bel.cell (p := ⟨b, off + k * 2, none⟩) hb).trans c0
        have d1 : wr.cell? ⟨b, off + k * 2 + 1, none⟩ = some (.int .u8 sends[k].2) := (bel.cell (p := ⟨b, off + k * 2 + 1, none⟩) hb).trans c1
        have f1 : wr.cell? ⟨b7, 1, none⟩ = some (.int .i64 bk.nxt) := (SS.at_ 1 rfl).cell 1
        clear SS c0 c1 bel hF
        generalize sends[k].1 = s at *
        generalize sends[k].2 = d at *
        obtain ⟨m0, m1⟩ := HF.out.now
        obtain ⟨m2, m3⟩ := HF.out.nxt
        replace m1 : now ≤ 10200 := by omega
        replace m3 : bk.nxt ≤ 10240 := by omega
        obtain ⟨y0, y1⟩ := x0
        obtain ⟨y2, y3⟩ := x1
        have wd : IntKind.i64.wrap d = d := by simp [IntKind.wrap, IntKind.bits, IntKind.signed]; omega
        have wn : IntKind.i64.wrap (now + d) = now + d := by simp [IntKind.wrap, IntKind.bits, IntKind.signed]; omega
        have ws : IntKind.i64.wrap s = s := by simp [IntKind.wrap, IntKind.bits, IntKind.signed]; omega
        have ws1 : IntKind.i64.wrap (bk.nxt + 1) = bk.nxt + 1 := by simp [IntKind.wrap, IntKind.bits, IntKind.signed]; omega
        have ws2 : IntKind.i64.wrap (bk.nxt + 1 + s) = bk.nxt + 1 + s := by simp [IntKind.wrap, IntKind.bits, IntKind.signed]; omega
        go_wp2_with fail
        have qi : wr.drew.cell? ⟨w.heap.size, 0, none⟩ = some (.slice (some ⟨b, off, none⟩) sends.length n1) ∧ wr.drew.cell? ⟨b, off + k * 2, none⟩ = some (.int .u8 s) ∧ wr.drew.cell? ⟨b7, 1, none⟩ = some (.int .i64 bk.nxt) := ⟨e0, d0, f1⟩
        go_region_held3 (fun w' => w'.cell? ⟨w.heap.size, 0, none⟩ = some (.slice (some ⟨b, off, none⟩) sends.length n1) ∧ w'.cell? ⟨b, off + k * 2, none⟩ = some (.int .u8 s) ∧ w'.cell? ⟨b7, 1, none⟩ = some (.int .i64 bk.nxt)) (first | (with_reducible assumption) | (with_reducible exact keep3d qi)) (fail)
        have S5 := (HS.out.alloc #[.int .i64 bk.nxt, .int .i64 (bk.nxt + 1 + s)] SpT).drew
        have lp : wr.heap.size < (wr.alloc (.cells #[.int .i64 bk.nxt, .int .i64 (bk.nxt + 1 + s)] SpT)).drew.heap.size := by simp
        clear qi d0 d1 e0 f1
        generalize wr.heap.size = b10 at *
        refine Sep.gen _ S5 ?_
        clear S5 HS lp
        intro U S5
        have t0 : U.cell? ⟨b10, 0, none⟩ = some (.int .i64 bk.nxt) := (S5.at_ 0 rfl).cell 0
        have t1 : U.cell? ⟨b10, 1, none⟩ = some (.int .i64 (bk.nxt + 1 + s)) := (S5.at_ 0 rfl).cell 1
        have sok : sendOk bk (bk.nxt, bk.nxt + 1 + s) (now + d) := by
          refine ⟨?_, rfl, ?_, by omega⟩
          · have h1 := plainS_cases (bk.nxt, bk.nxt + 1 + s); unfold lenS; dsimp only at h1; rcases h1 with ⟨h1, _⟩ | ⟨_, h2⟩; rw [h1]; dsimp only; omega; exact absurd ⟨m2, by omega, by omega⟩ h2
          · have := HF.out.last; omega
        have HSd := Lib.hid (send_yes (S5.at_ 3 rfl) (bk.nxt, bk.nxt + 1 + s) (now + d) sok (fun x hx => (HF.out.key _ (HF.out.mem hx)).2.2) (by have := HF.out.order; omega) (by rw [(S5.at_ 3 rfl).sz]; have h := HF.out.perm.length_eq; rw [List.length_map] at h; have := HF.out.len; omega))
        have HS5 := Lib.hid S5
        clear S5 sok
        go_wp2_with fail
        refine HSd.out.mono ?_
        rintro e w5 ⟨rfl, t, x, hb1, hb2, hb3⟩
        have S6 := HS5.out.turn 3 rfl (obook pb (bk.sent t x (bk.nxt, bk.nxt + 1 + s) (now + d))) hb3 (fun _ _ h => h) hb1 hb2
        clear hb1 hb2 hb3 HSd t0 t1
        have t0 : w5.cell? ⟨b10, 0, none⟩ = some (.int .i64 bk.nxt) := (S6.at_ 0 rfl).cell 0
        have t1 : w5.cell? ⟨b10, 1, none⟩ = some (.int .i64 (bk.nxt + 1 + s)) := (S6.at_ 0 rfl).cell 1
        have v0 : w5.cell? ⟨b7, 0, none⟩ = some (.slice q rs.length cap) := (S6.at_ 2 rfl).cell 0
        have v1 : w5.cell? ⟨b7, 1, none⟩ = some (.int .i64 bk.nxt) := (S6.at_ 2 rfl).cell 1
        have v2 : w5.cell? ⟨b7, 2, none⟩ = some (.int .i64 bk.last) := (S6.at_ 2 rfl).cell 2
        have v3 : w5.cell? ⟨b7, 3, none⟩ = some (.int .i64 bk.order) := (S6.at_ 2 rfl).cell 3
        have OR : Owns rcl 7 Rc2T w5 (.slice q rs.length cap) rs := S6.at_ 1 rfl
        have HRS := Lib.hid (rfSend_yes q cap rs bk.nxt bk.last bk.order (bk.nxt + 1 + s) (now + d) w5 OR.reads.2.1 (by have := HF.out.len; omega) m2 (by omega) (by omega) (by have := HF.out.last; omega) (by omega) (by have := HF.out.order; omega))
        have HS6 := Lib.hid S6
        clear S6 OR
        go_wp2_with fail
        refine HRS.out.mono ?_
        rintro e w6 ⟨q', cap', rfl, hO, hq, f6⟩
        have hF2 : Fly ((k + 1 : Nat) : Int) (bk.sent t x (bk.nxt, bk.nxt + 1 + s) (now + d)) (rs ++ [⟨bk.nxt, bk.nxt + 1 + s, now + d, bk.order + 1, 1, 1, false⟩]) (now + d) := by
          have h := HF.out.send d s ⟨y2, y3⟩ ⟨y0, y1⟩ t x
          rw [show ((k + 1 : Nat) : Int) = (k : Int) + 1 by omega]; exact h
        rw [show rs.length + 1 = (rs ++ [(⟨bk.nxt, bk.nxt + 1 + s, now + d, bk.order + 1, 1, 1, false⟩ : Rc)]).length by simp] at hO ⊢
        generalize hrs : rs ++ [(⟨bk.nxt, bk.nxt + 1 + s, now + d, bk.order + 1, 1, 1, false⟩ : Rc)] = rs' at hO hF2 ⊢
        clear hrs
        have S7 := HS6.out.turn 1 rfl (orow q' cap' rs') f6 (fun _ _ h => h.elim) hO (fun kk hkk => .inr (by
          cases q' with
          | none => cases hkk
          | some ad => have := hq ad rfl; have e : ad.block = kk := by simpa [orow, Ob.row, Value.ownBlock] using hkk
                       omega))
        have y0' := (S7.at_ 2 rfl).frozen 0
        have y1' := (S7.at_ 2 rfl).frozen 1
        have y2' := (S7.at_ 2 rfl).frozen 2
        have y3' := (S7.at_ 2 rfl).frozen 3
        have v0 : w6.cell? ⟨b7, 0, none⟩ = some (.slice q rs.length cap) := (S7.at_ 2 rfl).cell 0
        have v1 : w6.cell? ⟨b7, 1, none⟩ = some (.int .i64 bk.nxt) := (S7.at_ 2 rfl).cell 1
        have v2 : w6.cell? ⟨b7, 2, none⟩ = some (.int .i64 bk.last) := (S7.at_ 2 rfl).cell 2
        have v3 : w6.cell? ⟨b7, 3, none⟩ = some (.int .i64 bk.order) := (S7.at_ 2 rfl).cell 3
        have HS7 := Lib.hid S7
        have HF2 := Lib.hid hF2
        clear S7 hO hq f6 HRS HS6 HS5 hF2
        go_wp2_with fail
        have S8 := ((((HS7.out.set 2 rfl 0 (.slice q' rs'.length cap')).set 2 rfl 1 (.int .i64 (bk.nxt + 1 + s))).set 2 rfl 2 (.int .i64 (now + d))).set 2 rfl 3 (.int .i64 (bk.order + 1))).drop (List.Sublist.cons _ (List.Sublist.refl _))
        go_roundg (gk - 1)
        case measure => omega
        case rel => exact ⟨k + 1, _, rs', q', cap', now + d, by omega, by omega, rfl, by go_num, HF2.out, S8⟩
      · clear SS hF
        by_cases g1 : k < sends.length
        all_goals
          have g2 : k < sends.length → ¬ k < 40 := fun h h' => g ⟨h, h'⟩
          clear g
          try have g3 := g2 g1
          clear g2
          go_wp2_with fail
          go_meet
          exact ⟨(k : Int), bk, rs, q, cap, now, rfl, HF.out, by omega, HS.out⟩
  case rest =>
    clear FL SR bz
    obtain ⟨M, bk, rs, q, cap, now, rfl, hF, hM, SS⟩ := hcut
    have hF := Lib.hid hF
    have SS := Lib.hid SS
    go_upto_block 2 with fail
    go_cut [8, 11, 12] from 65 to 111 (fun nw i at_ wx => ∃ (M : Int) (bk : Bk) (rs : List Rc) (q : Option Addr) (cap : Nat) (now : Int), nw = .int .i64 now ∧ Fly M bk rs now ∧ M ≤ 60 ∧ Sep None w wx [orow q cap rs, Ob.blk b7 Bk2T (bk2c q rs.length cap bk.nxt bk.last bk.order), obook pb bk, Ob.blk (w.heap.size + 1) Bk2T (bk2c none 0 0 0 0 0), Ob.blk w.heap.size FlT #[.slice a1 sends.length n1, .slice a2 again.length n2, .slice a3 lost.length n3]])
    case first =>
      go_wp2_with fail
      go_loopg [8, 11] 20 (fun n nw i wr => ∃ (k : Nat) (bk : Bk) (rs : List Rc) (q : Option Addr) (cap : Nat) (now : Int), k + n = 20 ∧ k ≤ again.length ∧ nw = .int .i64 now ∧ i = .int .i64 k ∧ Fly (M + k) bk rs now ∧ Sep None w wr [orow q cap rs, Ob.blk b7 Bk2T (bk2c q rs.length cap bk.nxt bk.last bk.order), obook pb bk, Ob.blk (w.heap.size + 1) Bk2T (bk2c none 0 0 0 0 0), Ob.blk w.heap.size FlT #[.slice a1 sends.length n1, .slice a2 again.length n2, .slice a3 lost.length n3]])
      case atStart => exact ⟨0, bk, rs, q, cap, now, rfl, Nat.zero_le _, rfl, rfl, by simpa using hF.out, SS.out⟩
      case round =>
        clear hF SS
        obtain ⟨k, bk, rs, q, cap, now, hk0, hk, rfl, rfl, hF, SS⟩ := hrel
        have HF := Lib.hid hF
        have HS := Lib.hid SS
        have e0 : wr.cell? ⟨w.heap.size, 1, none⟩ = some (.slice a2 again.length n2) := (SS.at_ 4 rfl).cell 1
        have v0 : wr.cell? ⟨b7, 0, none⟩ = some (.slice q rs.length cap) := (SS.at_ 1 rfl).cell 0
        have v1 : wr.cell? ⟨b7, 1, none⟩ = some (.int .i64 bk.nxt) := (SS.at_ 1 rfl).cell 1
        have v2 : wr.cell? ⟨b7, 2, none⟩ = some (.int .i64 bk.last) := (SS.at_ 1 rfl).cell 2
        have v3 : wr.cell? ⟨b7, 3, none⟩ = some (.int .i64 bk.order) := (SS.at_ 1 rfl).cell 3
        by_cases g : (k < again.length ∧ k < 20) ∧ 0 < rs.length
        · obtain ⟨⟨g1, g2⟩, g3⟩ := g
          obtain ⟨b, off, rfl, hb, c0, x0, x1⟩ := H2.out k again[k] (List.getElem?_eq_getElem g1)
          have bel := SS.fr.none_below
          have d0 : wr.cell? ⟨b, off + k, none⟩ = some (.int .u8 again[k]) := (bel.cell (p := ⟨b, off + k, none⟩) hb).trans c0
          clear c0 bel hF
          generalize again[k] = s at *
          have g4 : (0 : Int) < rs.length := by omega
          have g5 : (rs.length : Int) ≤ 60 := by have := HF.out.len; omega
          obtain ⟨j, hj, hjl⟩ : ∃ j : Nat, s.tmod rs.length = (j : Int) ∧ j < rs.length := by
            have h1 := Int.tmod_nonneg (rs.length : Int) x0
            have h2 := Int.tmod_lt_of_pos s g4
            exact ⟨(s.tmod rs.length).toNat, by omega, by omega⟩
          have hjr := List.getElem?_eq_getElem hjl
          have OR : Owns rcl 7 Rc2T wr (.slice q rs.length cap) rs := SS.at_ 0 rfl
          obtain ⟨g, rfl, -, gc, -⟩ := OR.elem rcl_len (by decide) hjr
          obtain ⟨pl1, x, l, m, pl2⟩ := HF.out.place hjr
          have rnum := HF.out.num _ (List.mem_of_getElem? hjr)
          generalize rs[j] = r at *
          have gc0 : wr.cell? ⟨g, j * 7, none⟩ = some (.int .i64 r.fr) := gc 0 _ rfl
          have ws : IntKind.i64.wrap s = s := by simp [IntKind.wrap, IntKind.bits, IntKind.signed]; omega
          have j0 : (0 : Int) ≤ j := by omega
          have j1 : (j : Int) < rs.length := by omega
          obtain ⟨m0, m1⟩ := HF.out.now
          replace m1 : now ≤ 16000 := by omega
          have wn : IntKind.i64.wrap (now + 1) = now + 1 := by simp [IntKind.wrap, IntKind.bits, IntKind.signed]; omega
          have PL := Lib.hid (And.intro pl1 pl2)
          have HJR := Lib.hid hjr
          have RN := Lib.hid rnum
          have hnz : ¬ (rs.length : Int) = 0 := by omega
          clear SS OR gc pl1 pl2 hjr rnum
          go_wp2_with fail
          go_quiet (fail)
          have HA := Lib.hid (fun nn => again_some ((HS.out.drewN nn).at_ 2 rfl) PL.out.2 (now + 1) (by have := HF.out.last; omega) (by omega) (by have := HF.out.order; omega) (by have := RN.out; omega) (by have := RN.out; omega))
          go_wp2_with fail
          refine (HA.out _).mono ?_
          rintro e w5 ⟨rfl, hb1, hb2, hb3⟩
          have S6 := (HS.out.drewN _).turn 2 rfl (obook pb (bk.again l m x r (now + 1))) hb3 (fun _ _ h => h) hb1 (fun kk h => .inl (hb2 kk h))
          clear hb1 hb2 hb3 HA v0 v1 v2 v3 e0 d0 gc0 hj
          have v0 : w5.cell? ⟨b7, 0, none⟩ = some (.slice (some ⟨g, 0, none⟩) rs.length cap) := (S6.at_ 1 rfl).cell 0
          have v1 : w5.cell? ⟨b7, 1, none⟩ = some (.int .i64 bk.nxt) := (S6.at_ 1 rfl).cell 1
          have v2 : w5.cell? ⟨b7, 2, none⟩ = some (.int .i64 bk.last) := (S6.at_ 1 rfl).cell 2
          have v3 : w5.cell? ⟨b7, 3, none⟩ = some (.int .i64 bk.order) := (S6.at_ 1 rfl).cell 3
          have OR : Owns rcl 7 Rc2T w5 (.slice (some ⟨g, 0, none⟩) rs.length cap) rs := S6.at_ 0 rfl
          have HRS := Lib.hid (rfAgain_yes (some ⟨g, 0, none⟩) cap rs bk.nxt bk.last bk.order (now + 1) j r w5 OR.reads.2.1 (by omega) HJR.out PL.out.1 (by have := HF.out.last; omega) (by omega) (by have := HF.out.order; omega) (by have := RN.out; omega) (by have := RN.out; omega))
          have HS6 := Lib.hid S6
          clear S6 OR
          go_wp2_with fail
          refine HRS.out.mono ?_
          rintro e w6 ⟨q', cap', xx, rfl, hO, hq, f6⟩
          have hF2 := HF.out.again HJR.out PL.out.2
          obtain ⟨rs', hrs', hl'⟩ : ∃ rs', rs' = rs.set j (r.goes (now + 1) (bk.order + 1)) ∧ rs.length = rs'.length := ⟨_, rfl, by simp⟩
          rw [← hrs'] at hO hF2
          rw [hl'] at hO
          have S7 := HS6.out.turn 0 rfl (orow q' cap' rs') f6 (fun _ _ h => h.elim) hO (fun kk hkk => .inr (by
            cases q' with
            | none => cases hkk
            | some ad => have := hq ad rfl; have e : ad.block = kk := by simpa [orow, Ob.row, Value.ownBlock] using hkk
                         omega))
          have fz0 := (S7.at_ 1 rfl).frozen 0
          have fz1 := (S7.at_ 1 rfl).frozen 1
          have fz2 := (S7.at_ 1 rfl).frozen 2
          have fz3 := (S7.at_ 1 rfl).frozen 3
          have v0 : w6.cell? ⟨b7, 0, none⟩ = some (.slice (some ⟨g, 0, none⟩) rs.length cap) := (S7.at_ 1 rfl).cell 0
          have v1 : w6.cell? ⟨b7, 1, none⟩ = some (.int .i64 bk.nxt) := (S7.at_ 1 rfl).cell 1
          have v2 : w6.cell? ⟨b7, 2, none⟩ = some (.int .i64 bk.last) := (S7.at_ 1 rfl).cell 2
          have v3 : w6.cell? ⟨b7, 3, none⟩ = some (.int .i64 bk.order) := (S7.at_ 1 rfl).cell 3
          have HS7 := Lib.hid S7
          have HF2 := Lib.hid hF2
          have HL' := Lib.hid hl'
          clear S7 hO hq f6 HRS HS6 hF2 hrs' hl'
          go_wp2_with fail
          have S8 := (((HS7.out.set 1 rfl 0 (.slice q' rs.length cap')).set 1 rfl 1 (.int .i64 bk.nxt)).set 1 rfl 2 (.int .i64 (now + 1))).set 1 rfl 3 (.int .i64 (bk.order + 1))
          rw [HL'.out] at S8 ⊢
          go_roundg (gk - 1)
          case measure => omega
          case rel => exact ⟨k + 1, bk.again l m x r (now + 1), rs', q', cap', now + 1, by omega, by omega, rfl, by go_num, by have h := HF2.out; rw [show M + ((k + 1 : Nat) : Int) = M + (k : Int) + 1 by omega]; exact h, S8⟩
        · clear SS hF
          by_cases g1 : k < again.length
          · by_cases g2 : k < 20
            · have g3 : (rs.length : Int) ≤ 0 := by have : ¬ 0 < rs.length := fun h => g ⟨⟨g1, g2⟩, h⟩
                                                    omega
              clear g
              go_wp2_with fail
              go_meet
              exact ⟨M + k, bk, rs, q, cap, now, rfl, HF.out, by omega, HS.out⟩
            · clear g
              go_wp2_with fail
              go_meet
              exact ⟨M + k, bk, rs, q, cap, now, rfl, HF.out, by omega, HS.out⟩
          · clear g
            go_wp2_with fail
            go_meet
            exact ⟨M + k, bk, rs, q, cap, now, rfl, HF.out, by omega, HS.out⟩
    case rest =>
      clear hF SS
      obtain ⟨M, bk, rs, q, cap, now, rfl, hF, hM, SS⟩ := hcut
      have hF := Lib.hid hF
      have SS := Lib.hid SS
      go_upto_block 4 with fail
      go_cut [13, 14] from 112 to 153 (fun i at_ wx => ∃ (M : Int) (bk : Bk) (rs : List Rc) (q : Option Addr) (cap : Nat), Fly M bk rs now ∧ M ≤ 60 ∧ Sep None w wx [orow q cap rs, Ob.blk b7 Bk2T (bk2c q rs.length cap bk.nxt bk.last bk.order), obook pb bk, Ob.blk (w.heap.size + 1) Bk2T (bk2c none 0 0 0 0 0), Ob.blk w.heap.size FlT #[.slice a1 sends.length n1, .slice a2 again.length n2, .slice a3 lost.length n3]])
      case first =>
        go_wp2_with fail
        go_loopg [13] 20 (fun n i wr => ∃ (k : Nat) (bk : Bk) (rs : List Rc) (q : Option Addr) (cap : Nat), k + n = 20 ∧ k ≤ lost.length ∧  i = .int .i64 k ∧ Fly M bk rs now ∧ Sep None w wr [orow q cap rs, Ob.blk b7 Bk2T (bk2c q rs.length cap bk.nxt bk.last bk.order), obook pb bk, Ob.blk (w.heap.size + 1) Bk2T (bk2c none 0 0 0 0 0), Ob.blk w.heap.size FlT #[.slice a1 sends.length n1, .slice a2 again.length n2, .slice a3 lost.length n3]])
        case atStart => exact ⟨0, bk, rs, q, cap, rfl, Nat.zero_le _, rfl, by exact hF.out, SS.out⟩
        case round =>
          clear hF SS
          obtain ⟨k, bk, rs, q, cap, hk0, hk, rfl, hF, SS⟩ := hrel
          have HF := Lib.hid hF
          have HS := Lib.hid SS
          have e0 : wr.cell? ⟨w.heap.size, 2, none⟩ = some (.slice a3 lost.length n3) := (SS.at_ 4 rfl).cell 2
          have v0 : wr.cell? ⟨b7, 0, none⟩ = some (.slice q rs.length cap) := (SS.at_ 1 rfl).cell 0
          have v1 : wr.cell? ⟨b7, 1, none⟩ = some (.int .i64 bk.nxt) := (SS.at_ 1 rfl).cell 1
          have v2 : wr.cell? ⟨b7, 2, none⟩ = some (.int .i64 bk.last) := (SS.at_ 1 rfl).cell 2
          have v3 : wr.cell? ⟨b7, 3, none⟩ = some (.int .i64 bk.order) := (SS.at_ 1 rfl).cell 3
          by_cases g : (k < lost.length ∧ k < 20) ∧ 0 < rs.length
          · obtain ⟨⟨g1, g2⟩, g3⟩ := g
            obtain ⟨b, off, rfl, hb, c0, x0, x1⟩ := H3.out k lost[k] (List.getElem?_eq_getElem g1)
            have bel := SS.fr.none_below
            have d0 : wr.cell? ⟨b, off + k, none⟩ = some (.int .u8 lost[k]) := (bel.cell (p := ⟨b, off + k, none⟩) hb).trans c0
            clear c0 bel hF
            generalize lost[k] = s at *
            have g4 : (0 : Int) < rs.length := by omega
            have g5 : (rs.length : Int) ≤ 60 := by have := HF.out.len; omega
            obtain ⟨j, hj, hjl⟩ : ∃ j : Nat, s.tmod rs.length = (j : Int) ∧ j < rs.length := by
              have h1 := Int.tmod_nonneg (rs.length : Int) x0
              have h2 := Int.tmod_lt_of_pos s g4
              exact ⟨(s.tmod rs.length).toNat, by omega, by omega⟩
            have hjr := List.getElem?_eq_getElem hjl
            have OR : Owns rcl 7 Rc2T wr (.slice q rs.length cap) rs := SS.at_ 0 rfl
            obtain ⟨g, rfl, -, gc, -⟩ := OR.elem rcl_len (by decide) hjr
            obtain ⟨pl1, x, l, m, pl2⟩ := HF.out.place hjr
            have rnum := HF.out.num _ (List.mem_of_getElem? hjr)
            generalize rs[j] = r at *
            have gc0 : wr.cell? ⟨g, j * 7, none⟩ = some (.int .i64 r.fr) := gc 0 _ rfl
            have ws : IntKind.i64.wrap s = s := by simp [IntKind.wrap, IntKind.bits, IntKind.signed]; omega
            have j0 : (0 : Int) ≤ j := by omega
            have j1 : (j : Int) < rs.length := by omega
            have PL := Lib.hid (And.intro pl1 pl2)
            have HJR := Lib.hid hjr
            have RN := Lib.hid rnum
            have hnz : ¬ (rs.length : Int) = 0 := by omega
            clear SS OR gc pl1 pl2 hjr rnum
            go_wp2_with fail
            go_quiet (fail)
            cases hlost : r.lost with
            | true =>
              · have HA := Lib.hid (fun nn => lose_twice ((HS.out.drewN nn).at_ 2 rfl) PL.out.2 hlost)
                have HRS := Lib.hid (fun (W5 : World) (f : Fr None wr W5) => rfLose_twice (some ⟨g, 0, none⟩) cap rs bk.nxt bk.last bk.order j r W5 (show Owns rcl 7 Rc2T W5 (.slice (some ⟨g, 0, none⟩) rs.length cap) rs from (HS.out.same f).at_ 0 rfl).reads.2.1 (by omega) HJR.out PL.out.1 hlost)
                clear hlost
                go_wp2_with fail
                refine (HA.out _).mono ?_
                rintro e w5 ⟨rfl, f5⟩
                have F5 := Lib.hid ((Fr.refl None wr).drewN _ |>.trans f5)
                have S6 := HS.out.same F5.out
                clear f5 HA v0 v1 v2 v3 e0 d0 gc0 hj
                have v0 : w5.cell? ⟨b7, 0, none⟩ = some (.slice (some ⟨g, 0, none⟩) rs.length cap) := (S6.at_ 1 rfl).cell 0
                have v1 : w5.cell? ⟨b7, 1, none⟩ = some (.int .i64 bk.nxt) := (S6.at_ 1 rfl).cell 1
                have v2 : w5.cell? ⟨b7, 2, none⟩ = some (.int .i64 bk.last) := (S6.at_ 1 rfl).cell 2
                have v3 : w5.cell? ⟨b7, 3, none⟩ = some (.int .i64 bk.order) := (S6.at_ 1 rfl).cell 3
                have HS6 := Lib.hid S6
                clear S6
                go_wp2_with fail
                refine (HRS.out _ F5.out).mono ?_
                rintro e w6 ⟨rfl, f6⟩
                have S7 := HS6.out.same f6
                have fz0 := (S7.at_ 1 rfl).frozen 0
                have fz1 := (S7.at_ 1 rfl).frozen 1
                have fz2 := (S7.at_ 1 rfl).frozen 2
                have fz3 := (S7.at_ 1 rfl).frozen 3
                have v0 : w6.cell? ⟨b7, 0, none⟩ = some (.slice (some ⟨g, 0, none⟩) rs.length cap) := (S7.at_ 1 rfl).cell 0
                have v1 : w6.cell? ⟨b7, 1, none⟩ = some (.int .i64 bk.nxt) := (S7.at_ 1 rfl).cell 1
                have v2 : w6.cell? ⟨b7, 2, none⟩ = some (.int .i64 bk.last) := (S7.at_ 1 rfl).cell 2
                have v3 : w6.cell? ⟨b7, 3, none⟩ = some (.int .i64 bk.order) := (S7.at_ 1 rfl).cell 3
                have HS7 := Lib.hid S7
                clear S7 f6 HRS HS6
                go_wp2_with fail
                have S8 := (((HS7.out.set 1 rfl 0 (.slice (some ⟨g, 0, none⟩) rs.length cap)).set 1 rfl 1 (.int .i64 bk.nxt)).set 1 rfl 2 (.int .i64 bk.last)).set 1 rfl 3 (.int .i64 bk.order)
                go_roundg (gk - 1)
                case measure => omega
                case rel => exact ⟨k + 1, bk, rs, some ⟨g, 0, none⟩, cap, by omega, by omega, by go_num, HF.out, S8⟩
            | false =>
              · have HA := Lib.hid (fun nn => lose_once ((HS.out.drewN nn).at_ 2 rfl) PL.out.2 hlost)
                have HRS := Lib.hid (fun (W5 : World) (h : Owns rcl 7 Rc2T W5 (.slice (some ⟨g, 0, none⟩) rs.length cap) rs) => rfLose_once (some ⟨g, 0, none⟩) cap rs bk.nxt bk.last bk.order j r W5 h.reads.2.1 (by omega) HJR.out PL.out.1 hlost)
                clear hlost
                go_wp2_with fail
                refine (HA.out _).mono ?_
                rintro e w5 ⟨rfl, hb1, hb2, hb3⟩
                have S6 := (HS.out.drewN _).turn 2 rfl (obook pb { bk with L := l ++ (x, { r with lost := true, out := 0 }) :: m }) hb3 (fun _ _ h => h) hb1 (fun kk h => .inl (hb2 kk h))
                clear hb1 hb2 hb3 HA v0 v1 v2 v3 e0 d0 gc0 hj
                have v0 : w5.cell? ⟨b7, 0, none⟩ = some (.slice (some ⟨g, 0, none⟩) rs.length cap) := (S6.at_ 1 rfl).cell 0
                have v1 : w5.cell? ⟨b7, 1, none⟩ = some (.int .i64 bk.nxt) := (S6.at_ 1 rfl).cell 1
                have v2 : w5.cell? ⟨b7, 2, none⟩ = some (.int .i64 bk.last) := (S6.at_ 1 rfl).cell 2
                have v3 : w5.cell? ⟨b7, 3, none⟩ = some (.int .i64 bk.order) := (S6.at_ 1 rfl).cell 3
                have OR : Owns rcl 7 Rc2T w5 (.slice (some ⟨g, 0, none⟩) rs.length cap) rs := S6.at_ 0 rfl
                have HOR := Lib.hid OR
                have HS6 := Lib.hid S6
                clear S6 OR
                go_wp2_with fail
                refine (HRS.out _ HOR.out).mono ?_
                rintro e w6 ⟨q', cap', rfl, hO, hq, f6⟩
                have hF2 := HF.out.lose HJR.out PL.out.2
                obtain ⟨rs', hrs', hl'⟩ : ∃ rs', rs' = rs.set j { r with lost := true, out := 0 } ∧ rs.length = rs'.length := ⟨_, rfl, by simp⟩
                rw [← hrs'] at hO hF2
                rw [hl'] at hO
                have S7 := HS6.out.turn 0 rfl (orow q' cap' rs') f6 (fun _ _ h => h.elim) hO (fun kk hkk => .inr (by
                  cases q' with
                  | none => cases hkk
                  | some ad => have := hq ad rfl; have e : ad.block = kk := by simpa [orow, Ob.row, Value.ownBlock] using hkk
                               omega))
                have fz0 := (S7.at_ 1 rfl).frozen 0
                have fz1 := (S7.at_ 1 rfl).frozen 1
                have fz2 := (S7.at_ 1 rfl).frozen 2
                have fz3 := (S7.at_ 1 rfl).frozen 3
                have v0 : w6.cell? ⟨b7, 0, none⟩ = some (.slice (some ⟨g, 0, none⟩) rs.length cap) := (S7.at_ 1 rfl).cell 0
                have v1 : w6.cell? ⟨b7, 1, none⟩ = some (.int .i64 bk.nxt) := (S7.at_ 1 rfl).cell 1
                have v2 : w6.cell? ⟨b7, 2, none⟩ = some (.int .i64 bk.last) := (S7.at_ 1 rfl).cell 2
                have v3 : w6.cell? ⟨b7, 3, none⟩ = some (.int .i64 bk.order) := (S7.at_ 1 rfl).cell 3
                have HS7 := Lib.hid S7
                have HF2 := Lib.hid hF2
                have HL' := Lib.hid hl'
                clear S7 hO hq f6 HRS HS6 hF2 hrs' hl' HOR
                go_wp2_with fail
                have S8 := (((HS7.out.set 1 rfl 0 (.slice q' rs.length cap')).set 1 rfl 1 (.int .i64 bk.nxt)).set 1 rfl 2 (.int .i64 bk.last)).set 1 rfl 3 (.int .i64 bk.order)
                rw [HL'.out] at S8 ⊢
                go_roundg (gk - 1)
                case measure => omega
                case rel => exact ⟨k + 1, { bk with L := l ++ (x, { r with lost := true, out := 0 }) :: m }, rs', q', cap', by omega, by omega, by go_num, HF2.out, S8⟩
          · clear SS hF
            by_cases g1 : k < lost.length
            · by_cases g2 : k < 20
              · have g3 : (rs.length : Int) ≤ 0 := by have : ¬ 0 < rs.length := fun h => g ⟨⟨g1, g2⟩, h⟩
                                                      omega
                clear g
                go_wp2_with fail
                go_meet
                exact ⟨M, bk, rs, q, cap, HF.out, hM, HS.out⟩
              · clear g
                go_wp2_with fail
                go_meet
                exact ⟨M, bk, rs, q, cap, HF.out, hM, HS.out⟩
            · clear g
              go_wp2_with fail
              go_meet
              exact ⟨M, bk, rs, q, cap, HF.out, hM, HS.out⟩
      case rest =>
        clear hF SS
        obtain ⟨M, bk, rs, q, cap, hF, hM, SS⟩ := hcut
        clear S
        have e3 := SS.at_ 3 rfl
        have z0 : wc.frozen? ⟨w.heap.size + 1, 0, none⟩ = false := Blk.frozen e3 0
        have z0d : wc.drew.frozen? ⟨w.heap.size + 1, 0, none⟩ = false := Blk.frozen e3 0
        have c0 : wc.cell? ⟨w.heap.size + 1, 0, none⟩ = some (.slice none 0 0) := Blk.cell e3 0
        have c0d : wc.drew.cell? ⟨w.heap.size + 1, 0, none⟩ = some (.slice none 0 0) := Blk.cell e3 0
        have z1 : wc.frozen? ⟨w.heap.size + 1, 1, none⟩ = false := Blk.frozen e3 1
        have z1d : wc.drew.frozen? ⟨w.heap.size + 1, 1, none⟩ = false := Blk.frozen e3 1
        have c1 : wc.cell? ⟨w.heap.size + 1, 1, none⟩ = some (.int .i64 0) := Blk.cell e3 1
        have c1d : wc.drew.cell? ⟨w.heap.size + 1, 1, none⟩ = some (.int .i64 0) := Blk.cell e3 1
        have z2 : wc.frozen? ⟨w.heap.size + 1, 2, none⟩ = false := Blk.frozen e3 2
        have z2d : wc.drew.frozen? ⟨w.heap.size + 1, 2, none⟩ = false := Blk.frozen e3 2
        have c2 : wc.cell? ⟨w.heap.size + 1, 2, none⟩ = some (.int .i64 0) := Blk.cell e3 2
        have c2d : wc.drew.cell? ⟨w.heap.size + 1, 2, none⟩ = some (.int .i64 0) := Blk.cell e3 2
        have z3 : wc.frozen? ⟨w.heap.size + 1, 3, none⟩ = false := Blk.frozen e3 3
        have z3d : wc.drew.frozen? ⟨w.heap.size + 1, 3, none⟩ = false := Blk.frozen e3 3
        have c3 : wc.cell? ⟨w.heap.size + 1, 3, none⟩ = some (.int .i64 0) := Blk.cell e3 3
        have c3d : wc.drew.cell? ⟨w.heap.size + 1, 3, none⟩ = some (.int .i64 0) := Blk.cell e3 3
        have e1 := SS.at_ 1 rfl
        have qi : wc.drew.cell? ⟨b7, 0, none⟩ = some (.slice q rs.length cap) ∧ wc.drew.cell? ⟨b7, 1, none⟩ = some (.int .i64 bk.nxt) ∧ wc.drew.cell? ⟨b7, 2, none⟩ = some (.int .i64 bk.last) ∧ wc.drew.cell? ⟨b7, 3, none⟩ = some (.int .i64 bk.order) := ⟨Blk.cell e1 0, Blk.cell e1 1, Blk.cell e1 2, Blk.cell e1 3⟩
        have nb : b7 ≠ w.heap.size + 1 := fun e => SS.ne 1 3 (by decide) rfl rfl b7 rfl e
        have HF := Lib.hid hF
        have HS := Lib.hid SS
        clear e1 e3 SS hF
        go_wp2_with fail
        go_region_held3 (fun w' => w'.cell? ⟨b7, 0, none⟩ = some (.slice q rs.length cap) ∧ w'.cell? ⟨b7, 1, none⟩ = some (.int .i64 bk.nxt) ∧ w'.cell? ⟨b7, 2, none⟩ = some (.int .i64 bk.last) ∧ w'.cell? ⟨b7, 3, none⟩ = some (.int .i64 bk.order)) (first | (with_reducible assumption) | (with_reducible exact keep4d nb qi)) (fail)
        all_goals
          have S9 := (((((HS.out.set 3 rfl 0 (.slice q rs.length cap)).set 3 rfl 1 (.int .i64 bk.nxt)).set 3 rfl 2 (.int .i64 bk.last)).set 3 rfl 3 (.int .i64 bk.order)).drew).perm (L' := [orow q cap rs, obook pb bk, Ob.blk b7 Bk2T (bk2c q rs.length cap bk.nxt bk.last bk.order), Ob.blk (w.heap.size + 1) Bk2T (bk2c q rs.length cap bk.nxt bk.last bk.order), Ob.blk w.heap.size FlT #[.slice a1 sends.length n1, .slice a2 again.length n2, .slice a3 lost.length n3]]) (.cons _ (.swap _ _ _))
          go_wp2_with fail
          exact bodyPost_ret (v := .tuple #[.pointer (at0 pb), .agg (bk2c q rs.length cap bk.nxt bk.last bk.order), .int .i64 now]) (by simp [results, Try.results16, go_sem, c0, c1, c2, c3]) rfl
            ⟨pb, bk, q, cap, rs, now, M, rfl, HF.out, hM, S9.drop (.cons_cons _ (.cons_cons _ (List.nil_sublist _)))⟩
end Go.Proofs.Ytckbeppofnnfkaa
