/- What the document says is late (ref15.Late), walked. -/
import Derived.Test.YtckbeppofnnfkaaLt1
import Derived.Test.YtckbeppofnnfkaaRf1
import Derived.Test.YtckbeppofnnfkaaRk4
namespace Go.Proofs.Ytckbeppofnnfkaa
open Go.RowKit Go.Und
attribute [local go_sem] Oper.semAt_some

def spl (s : Int × Int) : List Value := [.int .i64 s.1, .int .i64 s.2]
theorem spl_len : ∀ s, (spl s).length = 2 := fun _ => rfl
theorem spl_one : ∀ s, ∀ u ∈ spl s, u.oneCell' = true := fun s u hu => by
  simp only [spl, List.mem_cons, List.not_mem_nil, or_false] at hu
  rcases hu with rfl | rfl <;> rfl
theorem spInfo : (Try.prog.info? SpT).map (fun i => (i.zero, i.size, i.bytes)) = some (some (.agg #[.int .i64 0, .int .i64 0]), 2, 16) := by kernel_rfl
abbrev Rf15T : TypeId := 29

theorem _root_.Go.Und.GrowsR.drewN' {α : Type} {f : α → List Value} {n : Nat} {T : TypeId} {w w1 : World} {p : Option Addr} {m c : Nat} {l : List α} (h : GrowsR f n T w w1 p m c l) (k : Nat) : GrowsR f n T w (w1.drewN k) p m c l :=
  ⟨h.cnt, h.own.fr (D := None) ((Fr.refl _ w1).drewN k) (fun _ _ h => h), h.far, h.fr.drewN k⟩
theorem rfLateS_len (x : Rk) (now win : Int) : ∀ (l : List Rc) (t : List (Int × Int) × Int), (l.foldl (rfStep x now win) t).1.length ≤ t.1.length + l.length
  | [], t => by simp
  | r :: l, t => by
    have h := rfLateS_len x now win l (rfStep x now win t r)
    have h2 : (rfStep x now win t r).1.length ≤ t.1.length + 1 := by
      unfold rfStep; split; omega; split; simp; split <;> simp
    simp only [List.foldl_cons, List.length_cons]; omega
theorem rfTime_w (t : Int) (w : World) : Calls Try.prog 15 #[.int .i64 t] w fun e w' => e = .returned (.int .i64 (timeS t)) ∧ w' = w := by
  go_enter Try.func15, Try.ntmps15
  go_wp2_with fail
  all_goals
    go_ret
    exact ⟨ret_int (by unfold timeS; omega), rfl⟩

set_option maxRecDepth 100000 in
set_option maxHeartbeats 4000000 in
theorem rfLate_any (x : Rk) (p : Option Addr) (cap : Nat) (l : List Rc) (now win : Int) (w : World) (hr : Reads w 7 p l.length cap (fc rcl l)) (hs : l.length ≤ 1000) (h0 : ∀ r ∈ l, 0 ≤ r.sent ∧ r.sent ≤ 1099511627776) (hx : 0 ≤ x.rtt ∧ x.rtt ≤ 4398046511104) :
    Calls Try.prog 21 #[.agg #[.int .i64 x.floor, .int .i64 x.rtt, .int .i64 x.order, .int .i64 x.fin, .bool x.mixed, .int .i64 x.mult, .int .i64 x.round, .int .i64 x.rest], .slice p l.length cap, .int .i64 now, .int .i64 win] w fun e w' =>
      ∃ q c, e = .returned (.tuple #[.slice q (rfLateS x now win (sortR l)).1.length c, .int .i64 (rfLateS x now win (sortR l)).2]) ∧ Owns spl 2 SpT w' (.slice q (rfLateS x now win (sortR l)).1.length c) (rfLateS x now win (sortR l)).1 ∧ Fr None w w' := by
  have S := Lib.hid ((Sep.law w).alloc #[.int .i64 x.floor, .int .i64 x.rtt, .int .i64 x.order, .int .i64 x.fin, .bool x.mixed, .int .i64 x.mult, .int .i64 x.round, .int .i64 x.rest] Rf15T)
  have HSo := Lib.hid (rfSorted_any p cap l _ (hr.fr S.out.fr (fun _ _ h => h)) hs)
  have hlen : (sortR l).length ≤ 1000 := by rw [(sortR_perm l).length_eq]; exact hs
  have H0 := Lib.hid (fun r (hr : r ∈ sortR l) => h0 r ((sortR_perm l).mem_iff.1 hr))
  clear hr h0
  generalize sortR l = so at *
  have tb := timeS_bounds win
  have HT := Lib.hid (rfTime_w win)
  generalize htw : timeS win = tw at *
  obtain ⟨i, hi, hz0, hz1, hz2⟩ := info_parts spInfo
  have HI := Lib.hid (And.intro hi (And.intro hz0 (And.intro hz1 hz2))); clear hi hz0 hz1 hz2
  have HTW := Lib.hid htw
  clear htw
  go_enter Try.func21, Try.ntmps21
  go_wp2_with fail
  refine HSo.out.mono ?_
  rintro e w1 ⟨q0, c0, rfl, hO, f1⟩
  have S1 := S.out.same f1
  have HO := Lib.hid hO
  have HS1 := Lib.hid S1
  clear hO f1 S1 HSo S
  go_wp2_with fail
  go_loopg [11, 12, 13] so.length (fun n ov nv iv wr => ∃ (k : Nat) (q : Option Addr) (c : Nat), k + n = so.length ∧ iv = .int .i64 k ∧ ov = .slice q (rfLateS x now win (so.take k)).1.length c ∧ nv = .int .i64 (rfLateS x now win (so.take k)).2 ∧ GrowsR spl 2 SpT w1 wr q (rfLateS x now win (so.take k)).1.length c (rfLateS x now win (so.take k)).1)
  case atStart => exact ⟨0, none, 0, by omega, rfl, rfl, rfl, ⟨rfl, Owns.nil spl 2 SpT w1, fun b hb => (by cases hb), Fr.refl None w1⟩⟩
  case round =>
    obtain ⟨k, q, c, hk0, rfl, rfl, rfl, hG⟩ := hrel
    have HG := Lib.hid hG
    clear hG
    by_cases g : k < so.length
    · have ex := List.getElem?_eq_getElem g
      have hm : so[k] ∈ so := List.getElem_mem g
      have hs0 := H0.out _ hm
      obtain ⟨gb, rfl, -, hc, -⟩ := (HO.out.fr HG.out.fr (fun _ _ h => h)).elem rcl_len (by decide) ex
      have etk : rfLateS x now win (so.take (k + 1)) = rfStep x now win (rfLateS x now win (so.take k)) so[k] := by
        unfold rfLateS
        rw [List.take_add_one, ex, Option.toList_some, List.foldl_append]; rfl
      have HE := Lib.hid etk
      have hl1 : (rfLateS x now win (so.take k)).1.length ≤ 1000 := by
        have h := rfLateS_len x now win (so.take k) ([], -1)
        have h2 := List.length_take (i := k) (l := so)
        unfold rfLateS
        simp only [List.length_nil] at h; omega
      generalize rfLateS x now win (so.take k) = st at *
      generalize so[k] = r at *
      obtain ⟨so1, sn⟩ := st
      have S2 := (HS1.out.same HG.out.fr).alloc (rcl r).toArray Rc2T
      have d0 : wr.cell? ⟨gb, k * 7, none⟩ = some (.int .i64 r.fr) := hc 0 _ rfl
      have d1 : wr.cell? ⟨gb, k * 7 + 1, none⟩ = some (.int .i64 r.to) := hc 1 _ rfl
      have d2 : wr.cell? ⟨gb, k * 7 + 2, none⟩ = some (.int .i64 r.sent) := hc 2 _ rfl
      have d3 : wr.cell? ⟨gb, k * 7 + 3, none⟩ = some (.int .i64 r.order) := hc 3 _ rfl
      have d4 : wr.cell? ⟨gb, k * 7 + 4, none⟩ = some (.int .i64 r.times) := hc 4 _ rfl
      have d5 : wr.cell? ⟨gb, k * 7 + 5, none⟩ = some (.int .i64 r.out) := hc 5 _ rfl
      have d6 : wr.cell? ⟨gb, k * 7 + 6, none⟩ = some (.bool r.lost) := hc 6 _ rfl
      have a1 : wr.cell? ⟨w.heap.size, 1, none⟩ = some (.int .i64 x.rtt) := ((HS1.out.same HG.out.fr).at_ 0 rfl).cell 1
      have a2 : wr.cell? ⟨w.heap.size, 2, none⟩ = some (.int .i64 x.order) := ((HS1.out.same HG.out.fr).at_ 0 rfl).cell 2
      have l0 : w.heap.size < wr.heap.size := ((HS1.out.same HG.out.fr).at_ 0 rfl).lt
      have HS2 := Lib.hid S2
      clear hc ex hm etk S2
      dsimp only at HG HE hl1 ⊢
      by_cases hsk : r.lost = true ∨ x.order ≤ r.order
      · have e1 := Lib.hid (show rfLateS x now win (so.take (k + 1)) = (so1, sn) by rw [HE.out]; unfold rfStep; rw [if_pos hsk])
        cases hl : r.lost with
        | true =>
          rw [hl] at d6
          clear hsk hl
          go_wp2_with fail
          go_roundg (gk - 1)
          case measure => omega
          case rel => exact ⟨k + 1, q, c, by omega, by go_num, by rw [e1.out], by rw [e1.out], by rw [e1.out]; exact HG.out.alloc _⟩
        | false =>
          have ho : x.order ≤ r.order := by rcases hsk with h | h; rw [hl] at h; cases h; exact h
          rw [hl] at d6
          clear hsk hl
          go_wp2_with fail
          go_roundg (gk - 1)
          case measure => omega
          case rel => exact ⟨k + 1, q, c, by omega, by go_num, by rw [e1.out], by rw [e1.out], by rw [e1.out]; exact HG.out.alloc _⟩
      · have hl : r.lost = false := by cases h : r.lost; rfl; exact absurd (.inl h) hsk
        have ho : ¬ x.order ≤ r.order := fun h => hsk (.inr h)
        have HSK := Lib.hid hsk
        rw [hl] at d6
        have HL := Lib.hid hl
        clear hsk hl
        go_upto_region 9 with fail
        obtain ⟨V, hV, GV, SV⟩ : ∃ V, V = wr.alloc (.cells #[.int .i64 r.fr, .int .i64 r.to, .int .i64 r.sent, .int .i64 r.order, .int .i64 r.times, .int .i64 r.out, .bool false] Rc2T) ∧ GrowsR spl 2 SpT w1 V q so1.length c so1 ∧ Sep None w V [Ob.blk wr.heap.size Rc2T #[.int .i64 r.fr, .int .i64 r.to, .int .i64 r.sent, .int .i64 r.order, .int .i64 r.times, .int .i64 r.out, .bool false], Ob.blk w.heap.size Rf15T #[.int .i64 x.floor, .int .i64 x.rtt, .int .i64 x.order, .int .i64 x.fin, .bool x.mixed, .int .i64 x.mult, .int .i64 x.round, .int .i64 x.rest]] := ⟨_, rfl, HG.out.alloc _, (HS1.out.same HG.out.fr).alloc _ _⟩
        rw [← hV]
        clear hV d0 d1 d2 d3 d4 d5 d6 a1 a2 l0 HS2
        generalize wr.heap.size = b14 at *
        have e0 : V.cell? ⟨b14, 0, none⟩ = some (.int .i64 r.fr) := (SV.at_ 0 rfl).cell 0
        have e1 : V.cell? ⟨b14, 1, none⟩ = some (.int .i64 r.to) := (SV.at_ 0 rfl).cell 1
        have e2 : V.cell? ⟨b14, 2, none⟩ = some (.int .i64 r.sent) := (SV.at_ 0 rfl).cell 2
        have a1 : V.cell? ⟨w.heap.size, 1, none⟩ = some (.int .i64 x.rtt) := (SV.at_ 1 rfl).cell 1
        have HGV := Lib.hid GV
        clear GV SV
        have w1' : IntKind.i64.wrap (r.sent + x.rtt) = r.sent + x.rtt := by simp [IntKind.wrap, IntKind.bits, IntKind.signed]; omega
        have w2' : IntKind.i64.wrap (r.sent + x.rtt + tw) = r.sent + x.rtt + tw := by simp [IntKind.wrap, IntKind.bits, IntKind.signed]; omega
        have w3' : IntKind.i64.wrap (r.sent + x.rtt + tw + 1) = r.sent + x.rtt + tw + 1 := by simp [IntKind.wrap, IntKind.bits, IntKind.signed]; omega
        go_quiet (exact (HT.out _).mono (by rintro e w' ⟨rfl, rfl⟩; exact ⟨rfl, _, rfl⟩))
        by_cases hat : r.sent + x.rtt + tw < now
        · have e1 := Lib.hid (show rfLateS x now win (so.take (k + 1)) = (so1 ++ [(r.fr, r.to)], sn) by rw [HE.out]; unfold rfStep; rw [if_neg HSK.out, HTW.out, if_pos hat])
          go_wp2_with (at_builtin; refine Hold.out ?_)
          refine Hold.mk ?_
          refine wpList_append_row _ rfl _ _ _ rfl 0 SpT i _ 2 16 Try.underlying59 HI.out.1 HI.out.2.1 HI.out.2.2.1 HI.out.2.2.2 rfl (by omega) _ so1.length (fc spl so1) rfl ((HGV.out.drewN' nq).row _) (some ⟨(V.drewN nq).heap.size, 0, none⟩) 1 1 (fc spl [(r.fr, r.to)]) rfl (reads_oneR (V.drewN nq) SpT (r.fr, r.to) spl_len) (fc_one spl_one _) (by simp [maxLen]; omega) (by omega) (Nat.zero_le _) ?_
          intro q2 c2 w3 ho3 hf3 hb3
          have G3 := ((HGV.out.drewN' nq).alloc (.cells #[.int .i64 r.fr, .int .i64 r.to] SpT)).step (r := [(r.fr, r.to)]) (m := 1) rfl ho3 hf3 hb3
          have HG3 := Lib.hid G3
          clear G3 ho3 hf3 hb3
          go_wp2_with fail
          go_roundg (gk - 1)
          case measure => omega
          case rel => exact ⟨k + 1, q2, c2, by omega, by go_num, by rw [e1.out]; simp, by rw [e1.out], by rw [e1.out]; simp only [List.length_append, List.length_singleton]; exact HG3.out⟩
        · by_cases h1 : sn < 0
          · have e1 := Lib.hid (show rfLateS x now win (so.take (k + 1)) = (so1, r.sent + x.rtt + tw + 1) by rw [HE.out]; unfold rfStep; rw [if_neg HSK.out, HTW.out, if_neg hat, if_pos (.inl h1)])
            go_wp2_with fail
            go_roundg (gk - 1)
            case measure => omega
            case rel => exact ⟨k + 1, q, c, by omega, by go_num, by rw [e1.out], by rw [e1.out], by rw [e1.out]; exact HGV.out.drewN' _⟩
          · by_cases h2 : r.sent + x.rtt + tw + 1 < sn
            · have e1 := Lib.hid (show rfLateS x now win (so.take (k + 1)) = (so1, r.sent + x.rtt + tw + 1) by rw [HE.out]; unfold rfStep; rw [if_neg HSK.out, HTW.out, if_neg hat, if_pos (.inr h2)])
              go_wp2_with fail
              go_roundg (gk - 1)
              case measure => omega
              case rel => exact ⟨k + 1, q, c, by omega, by go_num, by rw [e1.out], by rw [e1.out], by rw [e1.out]; exact HGV.out.drewN' _⟩
            · have e1 := Lib.hid (show rfLateS x now win (so.take (k + 1)) = (so1, sn) by rw [HE.out]; unfold rfStep; rw [if_neg HSK.out, HTW.out, if_neg hat, if_neg (by intro h; rcases h with h | h; exact h1 h; exact h2 h)])
              go_wp2_with fail
              go_roundg (gk - 1)
              case measure => omega
              case rel => exact ⟨k + 1, q, c, by omega, by go_num, by rw [e1.out], by rw [e1.out], by rw [e1.out]; exact HGV.out.drewN' _⟩
    · have e : so.take k = so := List.take_of_length_le (by omega)
      rw [e] at HG ⊢
      go_wp2_with fail
      exact bodyPost_ret (v := .tuple #[.slice q (rfLateS x now win so).1.length c, .int .i64 (rfLateS x now win so).2]) (by simp [results, Try.results21, go_sem]) rfl ⟨_, _, rfl, HG.out.own, HS1.out.fr.trans HG.out.fr⟩
end Go.Proofs.Ytckbeppofnnfkaa
