/- A configuration's line of the document: walked. -/
import Derived.Test.YtedogalndhackaaDoorSc8
set_option linter.unusedVariables false
set_option linter.unusedSimpArgs false
namespace Go.Proofs.YtedogalndhackaaDoor
open Go.RowKit Go.Und Go.Shelf Go.Sort
attribute [local go_sem] Oper.semAt_some
attribute [local go_sem ↓] Go.wp_at_zero Go.wp_at_succ
set_option maxRecDepth 100000 in
set_option maxHeartbeats 2000000 in
theorem rhead_any (c : Cf) (hc : c.ok) (w : World) :
    Calls Tryd.prog 14 #[.agg c.cs.toArray] w fun e w' => e = .returned (st (headS c)) ∧ Fr None w w' := by
  obtain ⟨u, ns⟩ := c
  obtain ⟨hu, h7, hb⟩ := hc
  simp only at hu h7 hb
  obtain ⟨m0, m1, m2, m3, m4, m5, m6, rfl⟩ := seven h7
  have hf := (Fr.refl None w).alloc (.cells #[.int .u32 u, .int .i64 m0, .int .i64 m1, .int .i64 m2, .int .i64 m3, .int .i64 m4, .int .i64 m5, .int .i64 m6] CfT)
  have HU := Lib.hid (number_any u (by omega) (by omega) (w.alloc (.cells #[.int .u32 u, .int .i64 m0, .int .i64 m1, .int .i64 m2, .int .i64 m3, .int .i64 m4, .int .i64 m5, .int .i64 m6] CfT)))
  have HF := Lib.hid hf
  have HB := Lib.hid (Blk.new w CfT #[.int .u32 u, .int .i64 m0, .int .i64 m1, .int .i64 m2, .int .i64 m3, .int .i64 m4, .int .i64 m5, .int .i64 m6])
  have hi := itoa_len u (by omega) (by omega)
  have hs0 := st_run senderW (Lib.itoa u) (by simp [senderW]; omega)
  simp only [show senderW = [115, 101, 110, 100, 101, 114, 32] from rfl] at hs0
  clear hf
  show Calls _ _ #[.agg #[.int .u32 u, .int .i64 m0, .int .i64 m1, .int .i64 m2, .int .i64 m3, .int .i64 m4, .int .i64 m5, .int .i64 m6]] _ _
  go_enter Tryd.func14, Tryd.ntmps14
  go_wp2_with ((with_reducible refine HU.out.mono ?_); rintro e1 w1 ⟨rfl, f1⟩; have q1 : w1.cell? ⟨w.heap.size, 1, none⟩ = some (.int .i64 m0) := (HB.out.fr f1 (fun h => h)).cell 1; have q2 : w1.cell? ⟨w.heap.size, 2, none⟩ = some (.int .i64 m1) := (HB.out.fr f1 (fun h => h)).cell 2; have q3 : w1.cell? ⟨w.heap.size, 3, none⟩ = some (.int .i64 m2) := (HB.out.fr f1 (fun h => h)).cell 3; have q4 : w1.cell? ⟨w.heap.size, 4, none⟩ = some (.int .i64 m3) := (HB.out.fr f1 (fun h => h)).cell 4; have q5 : w1.cell? ⟨w.heap.size, 5, none⟩ = some (.int .i64 m4) := (HB.out.fr f1 (fun h => h)).cell 5; have q6 : w1.cell? ⟨w.heap.size, 6, none⟩ = some (.int .i64 m5) := (HB.out.fr f1 (fun h => h)).cell 6; have q7 : w1.cell? ⟨w.heap.size, 7, none⟩ = some (.int .i64 m6) := (HB.out.fr f1 (fun h => h)).cell 7; have HF1 := Lib.hid ((Sep.law w).same (HF.out.trans f1)); clear f1)
  have HS1 := Lib.hid (HF1.out.alloc #[.int .i64 m0, .int .i64 m1, .int .i64 m2, .int .i64 m3, .int .i64 m4, .int .i64 m5, .int .i64 m6] 3)
  clear HF1 q1 q2 q3 q4 q5 q6 q7
  generalize w1.heap.size = B at *
  go_loopg [3, 5] 7 (fun r s i wr => ∃ (k : Nat) (t : List UInt8), k + r = 7 ∧ i = .int .i64 k ∧ s = st t ∧ t = senderW ++ Lib.itoa u ++ numsS ([m0, m1, m2, m3, m4, m5, m6].take k) ∧ Sep None w wr [Ob.blk B 3 #[.int .i64 m0, .int .i64 m1, .int .i64 m2, .int .i64 m3, .int .i64 m4, .int .i64 m5, .int .i64 m6]])
  case atStart => exact ⟨0, _, rfl, rfl, rfl, by simp [numsS, senderW], HS1.out⟩
  case round =>
    obtain ⟨k, s, hk, rfl, rfl, hs, S⟩ := hrel
    have hsl : s.length ≤ 300 := by
      have := nums_len (ns := [m0, m1, m2, m3, m4, m5, m6].take k) (fun n hn => hb n (List.mem_of_mem_take hn))
      rw [hs, List.length_append, List.length_append, List.length_take] at *
      simp only [senderW, List.length_cons, List.length_nil] at *
      omega
    have HS := Lib.hid hs
    have HSw := Lib.hid S
    have h8 : k = 0 ∨ k = 1 ∨ k = 2 ∨ k = 3 ∨ k = 4 ∨ k = 5 ∨ k = 6 ∨ k = 7 := by omega
    clear hs
    rcases h8 with rfl | rfl | rfl | rfl | rfl | rfl | rfl | rfl
    · have ex : ([m0, m1, m2, m3, m4, m5, m6] : List Int)[0]? = some m0 := rfl
      have hxb := hb m0 (List.mem_of_getElem? ex)
      have HN := Lib.hid (fun W => number_any m0 hxb.1 hxb.2 W)
      have hi := itoa_len m0 hxb.1 hxb.2
      have HX := Lib.hid (nums_snoc ex)
      have hc : wr.cell? ⟨B, 0, none⟩ = some (.int .i64 m0) := (S.at_ 0 rfl).cell 0
      have hs1 := st_run s [32] (by simp; omega)
      have hs2 := st_run (s ++ [32]) (Lib.itoa m0) (by simp; omega)
      clear ex hxb hb S
      go_wp2_with ((with_reducible refine (HN.out _).mono ?_); rintro e1 w1 ⟨rfl, f1⟩; have HF2 := Lib.hid (HSw.out.same f1); clear f1)
      go_roundg (gk - 1)
      case measure => omega
      case rel => exact ⟨1, _, by omega, rfl, rfl, by rw [HS.out, HX.out]; simp, HF2.out⟩
    · have ex : ([m0, m1, m2, m3, m4, m5, m6] : List Int)[1]? = some m1 := rfl
      have hxb := hb m1 (List.mem_of_getElem? ex)
      have HN := Lib.hid (fun W => number_any m1 hxb.1 hxb.2 W)
      have hi := itoa_len m1 hxb.1 hxb.2
      have HX := Lib.hid (nums_snoc ex)
      have hc : wr.cell? ⟨B, 1, none⟩ = some (.int .i64 m1) := (S.at_ 0 rfl).cell 1
      have hs1 := st_run s [32] (by simp; omega)
      have hs2 := st_run (s ++ [32]) (Lib.itoa m1) (by simp; omega)
      clear ex hxb hb S
      go_wp2_with ((with_reducible refine (HN.out _).mono ?_); rintro e1 w1 ⟨rfl, f1⟩; have HF2 := Lib.hid (HSw.out.same f1); clear f1)
      go_roundg (gk - 1)
      case measure => omega
      case rel => exact ⟨2, _, by omega, rfl, rfl, by rw [HS.out, HX.out]; simp, HF2.out⟩
    · have ex : ([m0, m1, m2, m3, m4, m5, m6] : List Int)[2]? = some m2 := rfl
      have hxb := hb m2 (List.mem_of_getElem? ex)
      have HN := Lib.hid (fun W => number_any m2 hxb.1 hxb.2 W)
      have hi := itoa_len m2 hxb.1 hxb.2
      have HX := Lib.hid (nums_snoc ex)
      have hc : wr.cell? ⟨B, 2, none⟩ = some (.int .i64 m2) := (S.at_ 0 rfl).cell 2
      have hs1 := st_run s [32] (by simp; omega)
      have hs2 := st_run (s ++ [32]) (Lib.itoa m2) (by simp; omega)
      clear ex hxb hb S
      go_wp2_with ((with_reducible refine (HN.out _).mono ?_); rintro e1 w1 ⟨rfl, f1⟩; have HF2 := Lib.hid (HSw.out.same f1); clear f1)
      go_roundg (gk - 1)
      case measure => omega
      case rel => exact ⟨3, _, by omega, rfl, rfl, by rw [HS.out, HX.out]; simp, HF2.out⟩
    · have ex : ([m0, m1, m2, m3, m4, m5, m6] : List Int)[3]? = some m3 := rfl
      have hxb := hb m3 (List.mem_of_getElem? ex)
      have HN := Lib.hid (fun W => number_any m3 hxb.1 hxb.2 W)
      have hi := itoa_len m3 hxb.1 hxb.2
      have HX := Lib.hid (nums_snoc ex)
      have hc : wr.cell? ⟨B, 3, none⟩ = some (.int .i64 m3) := (S.at_ 0 rfl).cell 3
      have hs1 := st_run s [32] (by simp; omega)
      have hs2 := st_run (s ++ [32]) (Lib.itoa m3) (by simp; omega)
      clear ex hxb hb S
      go_wp2_with ((with_reducible refine (HN.out _).mono ?_); rintro e1 w1 ⟨rfl, f1⟩; have HF2 := Lib.hid (HSw.out.same f1); clear f1)
      go_roundg (gk - 1)
      case measure => omega
      case rel => exact ⟨4, _, by omega, rfl, rfl, by rw [HS.out, HX.out]; simp, HF2.out⟩
    · have ex : ([m0, m1, m2, m3, m4, m5, m6] : List Int)[4]? = some m4 := rfl
      have hxb := hb m4 (List.mem_of_getElem? ex)
      have HN := Lib.hid (fun W => number_any m4 hxb.1 hxb.2 W)
      have hi := itoa_len m4 hxb.1 hxb.2
      have HX := Lib.hid (nums_snoc ex)
      have hc : wr.cell? ⟨B, 4, none⟩ = some (.int .i64 m4) := (S.at_ 0 rfl).cell 4
      have hs1 := st_run s [32] (by simp; omega)
      have hs2 := st_run (s ++ [32]) (Lib.itoa m4) (by simp; omega)
      clear ex hxb hb S
      go_wp2_with ((with_reducible refine (HN.out _).mono ?_); rintro e1 w1 ⟨rfl, f1⟩; have HF2 := Lib.hid (HSw.out.same f1); clear f1)
      go_roundg (gk - 1)
      case measure => omega
      case rel => exact ⟨5, _, by omega, rfl, rfl, by rw [HS.out, HX.out]; simp, HF2.out⟩
    · have ex : ([m0, m1, m2, m3, m4, m5, m6] : List Int)[5]? = some m5 := rfl
      have hxb := hb m5 (List.mem_of_getElem? ex)
      have HN := Lib.hid (fun W => number_any m5 hxb.1 hxb.2 W)
      have hi := itoa_len m5 hxb.1 hxb.2
      have HX := Lib.hid (nums_snoc ex)
      have hc : wr.cell? ⟨B, 5, none⟩ = some (.int .i64 m5) := (S.at_ 0 rfl).cell 5
      have hs1 := st_run s [32] (by simp; omega)
      have hs2 := st_run (s ++ [32]) (Lib.itoa m5) (by simp; omega)
      clear ex hxb hb S
      go_wp2_with ((with_reducible refine (HN.out _).mono ?_); rintro e1 w1 ⟨rfl, f1⟩; have HF2 := Lib.hid (HSw.out.same f1); clear f1)
      go_roundg (gk - 1)
      case measure => omega
      case rel => exact ⟨6, _, by omega, rfl, rfl, by rw [HS.out, HX.out]; simp, HF2.out⟩
    · have ex : ([m0, m1, m2, m3, m4, m5, m6] : List Int)[6]? = some m6 := rfl
      have hxb := hb m6 (List.mem_of_getElem? ex)
      have HN := Lib.hid (fun W => number_any m6 hxb.1 hxb.2 W)
      have hi := itoa_len m6 hxb.1 hxb.2
      have HX := Lib.hid (nums_snoc ex)
      have hc : wr.cell? ⟨B, 6, none⟩ = some (.int .i64 m6) := (S.at_ 0 rfl).cell 6
      have hs1 := st_run s [32] (by simp; omega)
      have hs2 := st_run (s ++ [32]) (Lib.itoa m6) (by simp; omega)
      clear ex hxb hb S
      go_wp2_with ((with_reducible refine (HN.out _).mono ?_); rintro e1 w1 ⟨rfl, f1⟩; have HF2 := Lib.hid (HSw.out.same f1); clear f1)
      go_roundg (gk - 1)
      case measure => omega
      case rel => exact ⟨7, _, by omega, rfl, rfl, by rw [HS.out, HX.out]; simp, HF2.out⟩
    · go_wp2_with fail
      go_ret
      exact ⟨by rw [HS.out]; rfl, HSw.out.fr⟩
end Go.Proofs.YtedogalndhackaaDoor
