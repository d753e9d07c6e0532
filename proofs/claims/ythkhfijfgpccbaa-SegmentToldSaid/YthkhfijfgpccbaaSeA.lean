/- A turned bit is told: walked. -/
import Derived.Test.YthkhfijfgpccbaaSe9
set_option linter.unusedVariables false
set_option linter.unusedSimpArgs false
namespace Go.Proofs.Ythkhfijfgpccbaa
open Go.RowKit Go.Und Go.Shelf
attribute [local go_sem] Oper.semAt_some
attribute [local go_sem ↓] Go.wp_at_zero Go.wp_at_succ

theorem u8_xor (x m : Int) (hx : 0 ≤ x ∧ x < 256) (hm : 0 < m ∧ m < 256) : bits .xor .u8 x m ≠ x ∧ 0 ≤ bits .xor .u8 x m ∧ bits .xor .u8 x m < 256 := by
  have e : bits .xor .u8 x m = ((BitVec.ofInt 8 x ^^^ BitVec.ofInt 8 m).toNat : Int) := by
    show IntKind.u8.wrap ((BitVec.ofInt 8 x ^^^ BitVec.ofInt 8 m).toNat : Int) = _
    have := (BitVec.ofInt 8 x ^^^ BitVec.ofInt 8 m).isLt
    generalize (BitVec.ofInt 8 x ^^^ BitVec.ofInt 8 m).toNat = n at *
    simp [IntKind.wrap, IntKind.bits, IntKind.signed]
    omega
  have hb : (BitVec.ofInt 8 x).toNat = x.toNat := by rw [BitVec.toNat_ofInt]; omega
  have hlt := (BitVec.ofInt 8 x ^^^ BitVec.ofInt 8 m).isLt
  rw [e]
  refine ⟨fun h => ?_, by omega, by omega⟩
  have h2 : (BitVec.ofInt 8 x ^^^ BitVec.ofInt 8 m).toNat = (BitVec.ofInt 8 x).toNat := by omega
  have h3 := BitVec.eq_of_toNat_eq h2
  have h4 : BitVec.ofInt 8 m = 0#8 := by
    have := congrArg (BitVec.ofInt 8 x ^^^ ·) h3
    simp only [← BitVec.xor_assoc, BitVec.xor_self, BitVec.zero_xor] at this
    exact this
  have h5 := congrArg BitVec.toNat h4
  rw [BitVec.toNat_ofInt] at h5
  simp at h5
  omega
theorem list_set_len (l : List Int) (k : Nat) (y : Int) : (l.set k y).length = l.length := List.length_set
set_option maxRecDepth 100000 in
set_option maxHeartbeats 4000000 in
theorem segmentTold_walk (w : World) (co : Array Value) (uo : U) (ho : shSeg.holds w uo co.toList) (va : Value) (ua : U) (ha : (Sh.int .i64).holds w ua [va]) (vb : Value) (ub : U) (hb : (Sh.int .u8).holds w ub [vb]) :
    Calls Try.prog 6 #[.agg co, va, vb] w fun e w' => e = .returned (.bool true) ∧ Below w.heap.size w w' := by
  obtain ⟨s, q, c, p, d, eo, hw, hm, hr, hrb⟩ := sgm_of ho
  obtain rfl : co = sgc s q c p d := Array.ext' eo
  obtain ⟨at_, _, ha, wa⟩ := ha
  obtain ⟨bit, _, hb, wb⟩ := hb
  simp only [List.cons.injEq, and_true] at ha hb
  subst ha hb
  obtain ⟨b0, b1⟩ := wf_u8 wb
  have HR := Lib.hid (fun h : 0 < s.opt.blocks.length => hr.some h)
  have HRB := Lib.hid hrb
  have HW := Lib.hid hw
  have S := Lib.hid ((Sep.law w).alloc (sgc s q c p d) SgT)
  clear ho eo hw hr hrb wa wb hm
  go_enter Try.func6, Try.ntmps6
  go_wp2_with fail
  refine (known5_any _).mono ?_
  rintro e w1 ⟨rfl, f1⟩
  have S1 := S.out.same f1
  have o0 : w1.cell? ⟨w.heap.size, 0, none⟩ = some (.int .i64 s.kind) := (S1.at_ 0 rfl).cell 0
  have ox0 : w1.frozen? ⟨w.heap.size, 0, none⟩ = false := (S1.at_ 0 rfl).frozen 0
  have o1 : w1.cell? ⟨w.heap.size, 1, none⟩ = some (.int .u32 s.num) := (S1.at_ 0 rfl).cell 1
  have ox1 : w1.frozen? ⟨w.heap.size, 1, none⟩ = false := (S1.at_ 0 rfl).frozen 1
  have o2 : w1.cell? ⟨w.heap.size, 2, none⟩ = some (.int .i64 s.opt.mss) := (S1.at_ 0 rfl).cell 2
  have ox2 : w1.frozen? ⟨w.heap.size, 2, none⟩ = false := (S1.at_ 0 rfl).frozen 2
  have o3 : w1.cell? ⟨w.heap.size, 3, none⟩ = some (.bool s.opt.permit) := (S1.at_ 0 rfl).cell 3
  have ox3 : w1.frozen? ⟨w.heap.size, 3, none⟩ = false := (S1.at_ 0 rfl).frozen 3
  have o4 : w1.cell? ⟨w.heap.size, 4, none⟩ = some (.bool s.opt.ts) := (S1.at_ 0 rfl).cell 4
  have ox4 : w1.frozen? ⟨w.heap.size, 4, none⟩ = false := (S1.at_ 0 rfl).frozen 4
  have o5 : w1.cell? ⟨w.heap.size, 5, none⟩ = some (.int .u32 s.opt.val) := (S1.at_ 0 rfl).cell 5
  have ox5 : w1.frozen? ⟨w.heap.size, 5, none⟩ = false := (S1.at_ 0 rfl).frozen 5
  have o6 : w1.cell? ⟨w.heap.size, 6, none⟩ = some (.int .u32 s.opt.ecr) := (S1.at_ 0 rfl).cell 6
  have ox6 : w1.frozen? ⟨w.heap.size, 6, none⟩ = false := (S1.at_ 0 rfl).frozen 6
  have o7 : w1.cell? ⟨w.heap.size, 7, none⟩ = some (.bool s.opt.has) := (S1.at_ 0 rfl).cell 7
  have ox7 : w1.frozen? ⟨w.heap.size, 7, none⟩ = false := (S1.at_ 0 rfl).frozen 7
  have o8 : w1.cell? ⟨w.heap.size, 8, none⟩ = some (.int .i64 s.opt.scale) := (S1.at_ 0 rfl).cell 8
  have ox8 : w1.frozen? ⟨w.heap.size, 8, none⟩ = false := (S1.at_ 0 rfl).frozen 8
  have o9 : w1.cell? ⟨w.heap.size, 9, none⟩ = some (.slice q s.opt.blocks.length c) := (S1.at_ 0 rfl).cell 9
  have ox9 : w1.frozen? ⟨w.heap.size, 9, none⟩ = false := (S1.at_ 0 rfl).frozen 9
  have o10 : w1.cell? ⟨w.heap.size, 10, none⟩ = some (.slice p s.body.length d) := (S1.at_ 0 rfl).cell 10
  have ox10 : w1.frozen? ⟨w.heap.size, 10, none⟩ = false := (S1.at_ 0 rfl).frozen 10
  have HS1 := Lib.hid S1
  clear S1 f1 S
  by_cases h0 : checkS s = 0
  · have HE := Lib.hid (sencode_ok s q c p d w1 HW.out h0 (fun h => (HR.out h).fr HS1.out.fr (fun _ _ h => h)) (HRB.out.fr HS1.out.fr))
    have hlen := encS_len s
    have h40 := encO_len40 h0
    have h2048 := (checkS_zero h0).2.2
    have HF := Lib.hid (encS_fine HW.out h0)
    have hbl : ∀ x ∈ encS_ s, 0 ≤ x ∧ x < 256 := formS_bytes HW.out h0 (chkS s)
    have HBL := Lib.hid hbl
    clear h0 hbl
    go_wp2_with fail
    refine HE.out.mono ?_
    rintro e w2 ⟨q2, c2, rfl, T2⟩
    have HS2 := Lib.hid (HS1.out.beside T2)
    clear T2 HE HS1 o0 ox0 o1 ox1 o2 ox2 o3 ox3 o4 ox4 o5 ox5 o6 ox6 o7 ox7 o8 ox8 o9 ox9 o10 ox10
    generalize encS_ s = l at *
    have hl1 : 8 ≤ l.length ∧ l.length ≤ 2096 := by omega
    clear hlen h40 h2048
    obtain ⟨hl8, hl96⟩ := hl1
    by_cases hin : 0 ≤ at_ ∧ at_ < l.length
    · obtain ⟨k, rfl⟩ := Int.eq_ofNat_of_zero_le hin.1
      have hk : k < l.length := by omega
      clear hin
      obtain ⟨x, hx⟩ : ∃ x, l[k]? = some x := ⟨_, List.getElem?_eq_getElem hk⟩
      have hxb := HBL.out x (List.mem_of_getElem? hx)
      obtain ⟨g, rfl, hg, hc, hz⟩ := Owns.elem u8c_len (HS2.out.at_ 0 rfl) (by decide) hx
      have k0 : w2.cell? ⟨g, k, none⟩ = some (.int .u8 x) := by have := hc 0 _ rfl; rwa [Nat.mul_one] at this
      have kz : w2.frozen? ⟨g, k, none⟩ = false := hz k
      have HX := Lib.hid hx
      clear hc hz hx
      go_wp2_with fail
      have hj : (bit % 8).toNat < 8 := by omega
      have hm8 : 0 < (2 : Int) ^ (bit % 8).toNat % 256 ∧ (2 : Int) ^ (bit % 8).toNat % 256 < 256 := by
        generalize (bit % 8).toNat = j at hj
        have : j = 0 ∨ j = 1 ∨ j = 2 ∨ j = 3 ∨ j = 4 ∨ j = 5 ∨ j = 6 ∨ j = 7 := by omega
        rcases this with rfl | rfl | rfl | rfl | rfl | rfl | rfl | rfl <;> decide
      have hy := u8_xor x _ hxb hm8
      generalize bits .xor .u8 x ((2 : Int) ^ (bit % 8).toNat % 256) = y at *
      have ho := Owns.set (f := u8c) (T := U8T) u8c_len (HS2.out.at_ 0 rfl) HX.out (j := 0) (x' := y) (u := .int .u8 y) (by decide) rfl
      rw [Nat.mul_one, Nat.add_zero] at ho
      have S3 := HS2.out.turn 0 rfl (Ob.row 0 U8T 1 (.slice (some ⟨g, 0, none⟩) l.length c2) (l.set k y).length (fc u8c (l.set k y))) (E := (· = g)) (Fr.setCell (D := (· = g)) (Fr.refl _ w2) (p := ⟨g, k, none⟩) (fun _ => rfl) _) (fun j _ hj => by subst hj; rfl) ho (fun _ h => .inl h)
      have hne := sum_told HX.out (fun c hc => (HBL.out c hc).1) hy.2.1 HF.out (Ne.symm hy.1) (by omega)
      have hrd := (Owns.reads ho).2.1
      have hb2 : ∀ c ∈ l.set k y, 0 ≤ c ∧ c < 256 := fun c hc => by
        rcases List.mem_or_eq_of_mem_set hc with h | h
        · exact HBL.out c h
        · omega
      have hl2 := list_set_len l k y
      rw [← hl2] at hrd
      have hD := sdecode_sum (some ⟨g, 0, none⟩) c2 (l.set k y) _ hrd hb2 (by omega) (by omega) hne
      rw [hl2] at hD
      have HF3 := Lib.hid S3.fr
      clear S3 ho hrd hb2 hl2 hne hy HS2 HX HF HBL hm8 hj
      refine hD.mono ?_
      rintro e w3 ⟨rfl, f3⟩
      have F4 := Lib.hid ((HF3.out.trans f3).alloc (.cells (sgc Sgm.zero none 0 none 0) SgT))
      clear hD f3 HF3
      go_wp2_with fail
      refine (known5_any _).mono ?_
      rintro e w5 ⟨rfl, f5⟩
      have F5 := Lib.hid (F4.out.trans f5)
      clear f5 F4
      go_wp2_with fail
      exact bodyPost_ret (v := .bool true) (by simp [results, Try.results6, go_sem]) rfl ⟨rfl, F5.out.none_below⟩
    · have hor : at_ < 0 ∨ (¬ at_ < 0 ∧ (l.length : Int) ≤ at_) := by omega
      have F2 := Lib.hid HS2.out.fr
      clear hin HS2
      rcases hor with h | ⟨h, h'⟩
      · go_wp2_with fail
        refine (known5_any _).mono ?_
        rintro e w3 ⟨rfl, f3⟩
        have F3 := Lib.hid (F2.out.trans f3)
        clear f3 F2
        go_wp2_with fail
        exact bodyPost_ret (v := .bool true) (by simp [results, Try.results6, go_sem]) rfl ⟨rfl, F3.out.none_below⟩
      · go_wp2_with fail
        refine (known5_any _).mono ?_
        rintro e w3 ⟨rfl, f3⟩
        have F3 := Lib.hid (F2.out.trans f3)
        clear f3 F2
        go_wp2_with fail
        exact bodyPost_ret (v := .bool true) (by simp [results, Try.results6, go_sem]) rfl ⟨rfl, F3.out.none_below⟩
  · have HE := Lib.hid (sencode_no s q c p d w1 h0)
    have g0 : (checkS s != 0) = true := by simpa using h0
    clear h0
    generalize checkS s = z at *
    go_wp2_with fail
    refine HE.out.mono ?_
    rintro e w2 ⟨rfl, f2⟩
    have F2 := Lib.hid (HS1.out.fr.trans f2)
    clear f2 HE HS1
    go_wp2_with fail
    refine (known5_any _).mono ?_
    rintro e w3 ⟨rfl, f3⟩
    have F3 := Lib.hid (F2.out.trans f3)
    clear f3 F2
    go_wp2_with fail
    exact bodyPost_ret (v := .bool true) (by simp [results, Try.results6, go_sem]) rfl ⟨rfl, F3.out.none_below⟩
end Go.Proofs.Ythkhfijfgpccbaa
