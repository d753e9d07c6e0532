/- A configuration's line, in both packages: walked. -/
import Derived.Test.YtedogalndhackaaDoorSc7
set_option linter.unusedVariables false
set_option linter.unusedSimpArgs false
namespace Go.Proofs.YtedogalndhackaaDoor
open Go.RowKit Go.Und Go.Shelf Go.Sort
attribute [local go_sem] Oper.semAt_some
attribute [local go_sem ↓] Go.wp_at_zero Go.wp_at_succ

abbrev CfT : TypeId := 24
def senderW : List UInt8 := [115, 101, 110, 100, 101, 114, 32]
/-- A configuration. -/
structure Cf where
  f : Nat
  ns : List Int
def Cf.ok (c : Cf) : Prop := c.f < 4294967296 ∧ c.ns.length = 7 ∧ ∀ n ∈ c.ns, -9223372036854775808 ≤ n ∧ n ≤ 9223372036854775807
def Cf.cs (c : Cf) : List Value := .int .u32 (c.f : Int) :: c.ns.map (Value.int .i64)
def numsS (ns : List Int) : List UInt8 := ns.flatMap fun n => 32 :: Lib.itoa n
def headS (c : Cf) : List UInt8 := senderW ++ Lib.itoa c.f ++ numsS c.ns
theorem nums_len {ns : List Int} (h : ∀ n ∈ ns, -9223372036854775808 ≤ n ∧ n ≤ 9223372036854775807) : (numsS ns).length ≤ 22 * ns.length := by
  induction ns with
  | nil => simp [numsS]
  | cons x l ih =>
    have h1 := ih (fun n hn => h n (List.mem_cons_of_mem _ hn))
    have h2 := itoa_len x (h x (List.mem_cons_self ..)).1 (h x (List.mem_cons_self ..)).2
    have e : numsS (x :: l) = (32 :: Lib.itoa x) ++ numsS l := by simp [numsS]
    rw [e, List.length_append]; simp only [List.length_cons]; omega
theorem nums_snoc {ns : List Int} {k : Nat} {x : Int} (h : ns[k]? = some x) : numsS (ns.take (k + 1)) = numsS (ns.take k) ++ (32 :: Lib.itoa x) := by
  rw [List.take_add_one, h]; simp [numsS]
theorem seven {l : List Int} (h : l.length = 7) : ∃ a b c d e f g, l = [a, b, c, d, e, f, g] := by
  match l, h with
  | [a, b, c, d, e, f, g], _ => exact ⟨a, b, c, d, e, f, g, rfl⟩

theorem ix7_0 (m0 m1 m2 m3 m4 m5 m6 : Int) (W : World) : (Instr.index 70 (.agg #[.int .i64 m0, .int .i64 m1, .int .i64 m2, .int .i64 m3, .int .i64 m4, .int .i64 m5, .int .i64 m6]) (.int .i64 0)).run Tryd.prog W = .ok (.int .i64 m0) W := by kernel_rfl
theorem ix7_1 (m0 m1 m2 m3 m4 m5 m6 : Int) (W : World) : (Instr.index 70 (.agg #[.int .i64 m0, .int .i64 m1, .int .i64 m2, .int .i64 m3, .int .i64 m4, .int .i64 m5, .int .i64 m6]) (.int .i64 1)).run Tryd.prog W = .ok (.int .i64 m1) W := by kernel_rfl
theorem ix7_2 (m0 m1 m2 m3 m4 m5 m6 : Int) (W : World) : (Instr.index 70 (.agg #[.int .i64 m0, .int .i64 m1, .int .i64 m2, .int .i64 m3, .int .i64 m4, .int .i64 m5, .int .i64 m6]) (.int .i64 2)).run Tryd.prog W = .ok (.int .i64 m2) W := by kernel_rfl
theorem ix7_3 (m0 m1 m2 m3 m4 m5 m6 : Int) (W : World) : (Instr.index 70 (.agg #[.int .i64 m0, .int .i64 m1, .int .i64 m2, .int .i64 m3, .int .i64 m4, .int .i64 m5, .int .i64 m6]) (.int .i64 3)).run Tryd.prog W = .ok (.int .i64 m3) W := by kernel_rfl
theorem ix7_4 (m0 m1 m2 m3 m4 m5 m6 : Int) (W : World) : (Instr.index 70 (.agg #[.int .i64 m0, .int .i64 m1, .int .i64 m2, .int .i64 m3, .int .i64 m4, .int .i64 m5, .int .i64 m6]) (.int .i64 4)).run Tryd.prog W = .ok (.int .i64 m4) W := by kernel_rfl
theorem ix7_5 (m0 m1 m2 m3 m4 m5 m6 : Int) (W : World) : (Instr.index 70 (.agg #[.int .i64 m0, .int .i64 m1, .int .i64 m2, .int .i64 m3, .int .i64 m4, .int .i64 m5, .int .i64 m6]) (.int .i64 5)).run Tryd.prog W = .ok (.int .i64 m5) W := by kernel_rfl
theorem ix7_6 (m0 m1 m2 m3 m4 m5 m6 : Int) (W : World) : (Instr.index 70 (.agg #[.int .i64 m0, .int .i64 m1, .int .i64 m2, .int .i64 m3, .int .i64 m4, .int .i64 m5, .int .i64 m6]) (.int .i64 6)).run Tryd.prog W = .ok (.int .i64 m6) W := by kernel_rfl
attribute [local go_sem] ix7_0 ix7_1 ix7_2 ix7_3 ix7_4 ix7_5 ix7_6
set_option maxRecDepth 100000 in
set_option maxHeartbeats 2000000 in
theorem head_any (c : Cf) (hc : c.ok) (w : World) (hT : Tabs w) :
    Calls Tryd.prog 13 #[.agg c.cs.toArray] w fun e w' => e = .returned (st (headS c)) ∧ Fr None w w' := by
  obtain ⟨u, ns⟩ := c
  obtain ⟨hu, h7, hb⟩ := hc
  simp only at hu h7 hb
  obtain ⟨m0, m1, m2, m3, m4, m5, m6, rfl⟩ := seven h7
  have hf := (Fr.refl None w).alloc (.cells #[.int .u32 u, .int .i64 m0, .int .i64 m1, .int .i64 m2, .int .i64 m3, .int .i64 m4, .int .i64 m5, .int .i64 m6] CfT)
  have HU := Lib.hid (formatUint_any u (by omega) _ (hT.fr hf).tab)
  have HF := Lib.hid hf
  have HB := Lib.hid (Blk.new w CfT #[.int .u32 u, .int .i64 m0, .int .i64 m1, .int .i64 m2, .int .i64 m3, .int .i64 m4, .int .i64 m5, .int .i64 m6])
  have hi := itoa_len u (by omega) (by omega)
  have hs0 := st_run senderW (Lib.itoa u) (by simp [senderW]; omega)
  simp only [show senderW = [115, 101, 110, 100, 101, 114, 32] from rfl] at hs0
  have HT := Lib.hid hT
  clear hf hT
  show Calls _ _ #[.agg #[.int .u32 u, .int .i64 m0, .int .i64 m1, .int .i64 m2, .int .i64 m3, .int .i64 m4, .int .i64 m5, .int .i64 m6]] _ _
  go_enter Tryd.func13, Tryd.ntmps13
  go_wp2_with ((with_reducible refine HU.out.mono ?_); rintro e1 w1 ⟨rfl, f1⟩; have q1 : w1.cell? ⟨w.heap.size, 1, none⟩ = some (.int .i64 m0) := (HB.out.fr f1 (fun h => h)).cell 1; have q2 : w1.cell? ⟨w.heap.size, 2, none⟩ = some (.int .i64 m1) := (HB.out.fr f1 (fun h => h)).cell 2; have q3 : w1.cell? ⟨w.heap.size, 3, none⟩ = some (.int .i64 m2) := (HB.out.fr f1 (fun h => h)).cell 3; have q4 : w1.cell? ⟨w.heap.size, 4, none⟩ = some (.int .i64 m3) := (HB.out.fr f1 (fun h => h)).cell 4; have q5 : w1.cell? ⟨w.heap.size, 5, none⟩ = some (.int .i64 m4) := (HB.out.fr f1 (fun h => h)).cell 5; have q6 : w1.cell? ⟨w.heap.size, 6, none⟩ = some (.int .i64 m5) := (HB.out.fr f1 (fun h => h)).cell 6; have q7 : w1.cell? ⟨w.heap.size, 7, none⟩ = some (.int .i64 m6) := (HB.out.fr f1 (fun h => h)).cell 7; have HF1 := Lib.hid (HF.out.trans f1); clear f1)
  go_loopg [3, 26] 7 (fun r s i wr => ∃ (k : Nat) (t : List UInt8), k + r = 7 ∧ i = .int .i64 k ∧ s = st t ∧ t = senderW ++ Lib.itoa u ++ numsS ([m0, m1, m2, m3, m4, m5, m6].take k) ∧ Fr None w wr)
  case atStart => exact ⟨0, _, rfl, rfl, rfl, by simp [numsS, senderW], HF1.out⟩
  case round =>
    obtain ⟨k, s, hk, rfl, rfl, hs, f⟩ := hrel
    have hsl : s.length ≤ 300 := by
      have := nums_len (ns := [m0, m1, m2, m3, m4, m5, m6].take k) (fun n hn => hb n (List.mem_of_mem_take hn))
      rw [hs, List.length_append, List.length_append, List.length_take] at *
      simp only [senderW, List.length_cons, List.length_nil] at *
      omega
    have HS := Lib.hid hs
    have HFw := Lib.hid f
    clear hs f
    have h8 : k = 0 ∨ k = 1 ∨ k = 2 ∨ k = 3 ∨ k = 4 ∨ k = 5 ∨ k = 6 ∨ k = 7 := by omega
    rcases h8 with rfl | rfl | rfl | rfl | rfl | rfl | rfl | rfl
    · have ex : ([m0, m1, m2, m3, m4, m5, m6] : List Int)[0]? = some m0 := rfl
      have hxb := hb m0 (List.mem_of_getElem? ex)
      have HN := Lib.hid (fun W (f : Fr None w W) => litoa_any m0 hxb.1 hxb.2 W (HT.out.fr f).tab)
      have hi := itoa_len m0 hxb.1 hxb.2
      have HX := Lib.hid (nums_snoc ex)
      have hs1 := st_run [32] (Lib.itoa m0) (by simp; omega)
      have hs2 := st_run s ([32] ++ Lib.itoa m0) (by simp; omega)
      clear ex hxb hb
      go_wp2_with ((with_reducible refine (HN.out _ HFw.out).mono ?_); rintro e1 w1 ⟨rfl, f1⟩; have HF2 := Lib.hid (HFw.out.trans f1); clear f1)
      go_roundg (gk - 1)
      case measure => omega
      case rel => exact ⟨1, _, by omega, rfl, rfl, by rw [HS.out, HX.out]; simp, HF2.out⟩
    · have ex : ([m0, m1, m2, m3, m4, m5, m6] : List Int)[1]? = some m1 := rfl
      have hxb := hb m1 (List.mem_of_getElem? ex)
      have HN := Lib.hid (fun W (f : Fr None w W) => litoa_any m1 hxb.1 hxb.2 W (HT.out.fr f).tab)
      have hi := itoa_len m1 hxb.1 hxb.2
      have HX := Lib.hid (nums_snoc ex)
      have hs1 := st_run [32] (Lib.itoa m1) (by simp; omega)
      have hs2 := st_run s ([32] ++ Lib.itoa m1) (by simp; omega)
      clear ex hxb hb
      go_wp2_with ((with_reducible refine (HN.out _ HFw.out).mono ?_); rintro e1 w1 ⟨rfl, f1⟩; have HF2 := Lib.hid (HFw.out.trans f1); clear f1)
      go_roundg (gk - 1)
      case measure => omega
      case rel => exact ⟨2, _, by omega, rfl, rfl, by rw [HS.out, HX.out]; simp, HF2.out⟩
    · have ex : ([m0, m1, m2, m3, m4, m5, m6] : List Int)[2]? = some m2 := rfl
      have hxb := hb m2 (List.mem_of_getElem? ex)
      have HN := Lib.hid (fun W (f : Fr None w W) => litoa_any m2 hxb.1 hxb.2 W (HT.out.fr f).tab)
      have hi := itoa_len m2 hxb.1 hxb.2
      have HX := Lib.hid (nums_snoc ex)
      have hs1 := st_run [32] (Lib.itoa m2) (by simp; omega)
      have hs2 := st_run s ([32] ++ Lib.itoa m2) (by simp; omega)
      clear ex hxb hb
      go_wp2_with ((with_reducible refine (HN.out _ HFw.out).mono ?_); rintro e1 w1 ⟨rfl, f1⟩; have HF2 := Lib.hid (HFw.out.trans f1); clear f1)
      go_roundg (gk - 1)
      case measure => omega
      case rel => exact ⟨3, _, by omega, rfl, rfl, by rw [HS.out, HX.out]; simp, HF2.out⟩
    · have ex : ([m0, m1, m2, m3, m4, m5, m6] : List Int)[3]? = some m3 := rfl
      have hxb := hb m3 (List.mem_of_getElem? ex)
      have HN := Lib.hid (fun W (f : Fr None w W) => litoa_any m3 hxb.1 hxb.2 W (HT.out.fr f).tab)
      have hi := itoa_len m3 hxb.1 hxb.2
      have HX := Lib.hid (nums_snoc ex)
      have hs1 := st_run [32] (Lib.itoa m3) (by simp; omega)
      have hs2 := st_run s ([32] ++ Lib.itoa m3) (by simp; omega)
      clear ex hxb hb
      go_wp2_with ((with_reducible refine (HN.out _ HFw.out).mono ?_); rintro e1 w1 ⟨rfl, f1⟩; have HF2 := Lib.hid (HFw.out.trans f1); clear f1)
      go_roundg (gk - 1)
      case measure => omega
      case rel => exact ⟨4, _, by omega, rfl, rfl, by rw [HS.out, HX.out]; simp, HF2.out⟩
    · have ex : ([m0, m1, m2, m3, m4, m5, m6] : List Int)[4]? = some m4 := rfl
      have hxb := hb m4 (List.mem_of_getElem? ex)
      have HN := Lib.hid (fun W (f : Fr None w W) => litoa_any m4 hxb.1 hxb.2 W (HT.out.fr f).tab)
      have hi := itoa_len m4 hxb.1 hxb.2
      have HX := Lib.hid (nums_snoc ex)
      have hs1 := st_run [32] (Lib.itoa m4) (by simp; omega)
      have hs2 := st_run s ([32] ++ Lib.itoa m4) (by simp; omega)
      clear ex hxb hb
      go_wp2_with ((with_reducible refine (HN.out _ HFw.out).mono ?_); rintro e1 w1 ⟨rfl, f1⟩; have HF2 := Lib.hid (HFw.out.trans f1); clear f1)
      go_roundg (gk - 1)
      case measure => omega
      case rel => exact ⟨5, _, by omega, rfl, rfl, by rw [HS.out, HX.out]; simp, HF2.out⟩
    · have ex : ([m0, m1, m2, m3, m4, m5, m6] : List Int)[5]? = some m5 := rfl
      have hxb := hb m5 (List.mem_of_getElem? ex)
      have HN := Lib.hid (fun W (f : Fr None w W) => litoa_any m5 hxb.1 hxb.2 W (HT.out.fr f).tab)
      have hi := itoa_len m5 hxb.1 hxb.2
      have HX := Lib.hid (nums_snoc ex)
      have hs1 := st_run [32] (Lib.itoa m5) (by simp; omega)
      have hs2 := st_run s ([32] ++ Lib.itoa m5) (by simp; omega)
      clear ex hxb hb
      go_wp2_with ((with_reducible refine (HN.out _ HFw.out).mono ?_); rintro e1 w1 ⟨rfl, f1⟩; have HF2 := Lib.hid (HFw.out.trans f1); clear f1)
      go_roundg (gk - 1)
      case measure => omega
      case rel => exact ⟨6, _, by omega, rfl, rfl, by rw [HS.out, HX.out]; simp, HF2.out⟩
    · have ex : ([m0, m1, m2, m3, m4, m5, m6] : List Int)[6]? = some m6 := rfl
      have hxb := hb m6 (List.mem_of_getElem? ex)
      have HN := Lib.hid (fun W (f : Fr None w W) => litoa_any m6 hxb.1 hxb.2 W (HT.out.fr f).tab)
      have hi := itoa_len m6 hxb.1 hxb.2
      have HX := Lib.hid (nums_snoc ex)
      have hs1 := st_run [32] (Lib.itoa m6) (by simp; omega)
      have hs2 := st_run s ([32] ++ Lib.itoa m6) (by simp; omega)
      clear ex hxb hb
      go_wp2_with ((with_reducible refine (HN.out _ HFw.out).mono ?_); rintro e1 w1 ⟨rfl, f1⟩; have HF2 := Lib.hid (HFw.out.trans f1); clear f1)
      go_roundg (gk - 1)
      case measure => omega
      case rel => exact ⟨7, _, by omega, rfl, rfl, by rw [HS.out, HX.out]; simp, HF2.out⟩
    · go_wp2_with fail
      go_ret
      exact ⟨by rw [HS.out]; rfl, HFw.out⟩
end Go.Proofs.YtedogalndhackaaDoor
