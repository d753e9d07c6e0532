/- The document's scripts: walked. -/
import Derived.Test.YtedogalndhackaaDoorScA
set_option linter.unusedVariables false
set_option linter.unusedSimpArgs false
namespace Go.Proofs.YtedogalndhackaaDoor
open Go.RowKit Go.Und Go.Shelf Go.Sort
attribute [local go_sem] Oper.semAt_some
attribute [local go_sem ↓] Go.wp_at_zero Go.wp_at_succ
set_option maxRecDepth 100000 in
set_option maxHeartbeats 2000000 in
theorem rprint_any (c : Cf) (hc : c.ok) (qs : Option Addr) (cs : Nat) (l : List OpR) (w : World) (hO : OpsAt w qs cs l) :
    Calls Tryd.prog 12 #[.agg c.cs.toArray, .slice qs l.length cs] w fun e w' => e = .returned (.tuple #[st (printS c l), .int .i64 (printE l)]) ∧ Fr None w w' := by
  have hhl := head_len hc
  have HHd := Lib.hid (fun W (f : Fr None w W) => rhead_any c hc W)
  obtain ⟨u, ns⟩ := c
  obtain ⟨hu, h7, hb⟩ := hc
  simp only at hu h7 hb
  obtain ⟨m0, m1, m2, m3, m4, m5, m6, rfl⟩ := seven h7
  have HHd2 := Lib.hid (fun W (f : Fr None w W) => show Calls Tryd.prog 14 #[.agg #[.int .u32 u, .int .i64 m0, .int .i64 m1, .int .i64 m2, .int .i64 m3, .int .i64 m4, .int .i64 m5, .int .i64 m6]] W _ from HHd.out W f)
  clear HHd
  have hf := (Fr.refl None w).alloc (.cells #[.int .u32 u, .int .i64 m0, .int .i64 m1, .int .i64 m2, .int .i64 m3, .int .i64 m4, .int .i64 m5, .int .i64 m6] CfT)
  show Calls _ _ #[.agg #[.int .u32 u, .int .i64 m0, .int .i64 m1, .int .i64 m2, .int .i64 m3, .int .i64 m4, .int .i64 m5, .int .i64 m6], _] _ _
  by_cases hbig : 4096 < l.length
  · have HE := Lib.hid (show printE l = 9 by unfold printE; rw [if_pos hbig])
    have HF := Lib.hid hf
    have g : ((4096 : Int) < l.length) = True := by simp only [eq_iff_iff, iff_true]; omega
    clear hf hO
    go_enter Tryd.func12, Tryd.ntmps12
    go_wp2_with fail
    go_ret2
    refine ⟨?_, HF.out⟩
    unfold printS
    rw [HE.out]; rfl
  · have g : ((4096 : Int) < l.length) = False := by simp only [eq_iff_iff, iff_false]; omega
    have HO := Lib.hid hO
    have HH := Lib.hid (HHd2.out _ hf)
    have HF := Lib.hid hf
    have hs0 := st_run (headS ⟨u, [m0, m1, m2, m3, m4, m5, m6]⟩) [10] (by simp; omega)
    generalize hhd : headS ⟨u, [m0, m1, m2, m3, m4, m5, m6]⟩ = hd at *
    have HD := Lib.hid hhd
    clear hf hO HHd2 hhd hb
    go_enter Tryd.func12, Tryd.ntmps12
    go_wp2_with ((with_reducible refine HH.out.mono ?_); rintro e1 w1 ⟨rfl, f1⟩; have HF1 := Lib.hid (HF.out.trans f1); clear f1)
    go_loopg [6, 7] l.length (fun r s i wr => ∃ (k : Nat) (t : List UInt8), k + r = l.length ∧ i = .int .i64 k ∧ s = st t ∧ (∀ x ∈ l.take k, errO x = 0) ∧ t = hd ++ [10] ++ linesS (l.take k) ∧ Fr None w wr)
    case atStart => exact ⟨0, _, by omega, rfl, rfl, by simp, by simp [linesS], HF1.out⟩
    case round =>
      obtain ⟨k, t, hk, rfl, rfl, he, ht, hF⟩ := hrel
      by_cases g2 : k < l.length
      · have ex := List.getElem?_eq_getElem g2
        have hOw := HO.out.fr hF
        obtain ⟨b, off, rfl, hc⟩ := (hOw.rd (by omega)).elem opc_len (by decide) ex
        have hok := HO.out.ok _ (List.getElem_mem g2)
        have hok2 := hok.fr hF
        have HX := Lib.hid (lines_snoc ex)
        have HFE := Lib.hid (fun h => firstE_at he ex h)
        have hlt : t.length ≤ 20000000000 := by
          rw [ht, List.length_append, List.length_append]
          have := lines_len (w := w) (l := l.take k) (fun o ho => HO.out.ok o (List.mem_of_mem_take ho))
          rw [List.length_take] at this
          simp only [List.length_cons, List.length_nil]
          omega
        have HEK := Lib.hid (show errO l[k] = 0 → ∀ x ∈ l.take (k + 1), errO x = 0 from fun h x hx => by
          rw [List.take_add_one, ex] at hx
          rcases List.mem_append.1 hx with h1 | h1
          · exact he x h1
          · simp at h1; rw [h1]; exact h)
        generalize l[k] = o at *
        obtain ⟨ok, on, ob, oq, oc⟩ := o
        have q0 : wr.cell? ⟨b, off + k * 3, none⟩ = some (.int .i64 ok) := hc 0 _ rfl
        have q1 : wr.cell? ⟨b, off + k * 3 + 1, none⟩ = some (.int .i64 on) := hc 1 _ rfl
        have q2 : wr.cell? ⟨b, off + k * 3 + 2, none⟩ = some (.slice oq ob.length oc) := hc 2 _ rfl
        have hll : (lineL ok on ob).length ≤ 4000100 := line_len hok.1.1 hok.1.2 hok.2.1
        have HLn := Lib.hid (rline_any ok on hok.1.1 hok.1.2 ob hok.2.1 oq oc wr hok2.2.2)
        have hw := st_run t (lineL ok on ob) (by omega)
        have hw2 := st_run (t ++ lineL ok on ob) [10] (by simp; omega)
        have HFw := Lib.hid hF
        have HTt := Lib.hid ht
        by_cases e0 : errL ok on ob = 0
        · have e1 : (errL ok on ob != 0) = false := by simp [e0]
          clear hF ht hc hOw hok hok2 ex he hll
          go_wp2_with ((with_reducible refine HLn.out.mono ?_); rintro e1 w1 ⟨rfl, f1⟩; have HF1 := Lib.hid (HFw.out.trans f1); clear f1)
          go_roundg (gk - 1)
          case measure => omega
          case rel => exact ⟨k + 1, _, by omega, rfl, rfl, HEK.out e0, by rw [HX.out, HTt.out]; simp [lineO], HF1.out⟩
        · have e1 : (errL ok on ob != 0) = true := by simpa using e0
          have HPE := Lib.hid (show printE l = errL ok on ob by unfold printE; rw [if_neg hbig]; exact HFE.out e0)
          clear hF ht hc hOw hok hok2 ex he hll
          go_wp2_with ((with_reducible refine HLn.out.mono ?_); rintro e1 w1 ⟨rfl, f1⟩; have HF1 := Lib.hid (HFw.out.trans f1); clear f1)
          go_ret2
          refine ⟨?_, HF1.out⟩
          unfold printS
          rw [HPE.out, if_pos e0]; rfl
      · obtain rfl : k = l.length := by omega
        rw [List.take_length] at he ht
        have HPE := Lib.hid (show printE l = 0 by unfold printE; rw [if_neg hbig]; exact firstE_all he)
        have HFw := Lib.hid hF
        have HTt := Lib.hid ht
        clear hF ht he
        go_wp2_with fail
        go_ret2
        refine ⟨?_, HFw.out⟩
        unfold printS
        rw [HPE.out, HTt.out, HD.out]; rfl
end Go.Proofs.YtedogalndhackaaDoor
