/- Segments: what is encoded is decoded as it was: walked. -/
import Derived.Test.YthkhfijfgpccbaaSeB
set_option linter.unusedVariables false
set_option linter.unusedSimpArgs false
namespace Go.Proofs.Ythkhfijfgpccbaa
open Go.RowKit Go.Und Go.Shelf
attribute [local go_sem] Oper.semAt_some
attribute [local go_sem ↓] Go.wp_at_zero Go.wp_at_succ

set_option maxRecDepth 100000 in
set_option maxHeartbeats 4000000 in
theorem rsame5_eq (s : Sgm) (q : Option Addr) (c : Nat) (p : Option Addr) (d : Nat) (q' : Option Addr) (c' : Nat) (p' : Option Addr) (d' : Nat) (w : World) (hs : s.opt.blocks.length ≤ 4) (hm : s.body.length ≤ maxLen)
    (hq : 0 < s.opt.blocks.length → Reads w 2 q s.opt.blocks.length c (fc blc s.opt.blocks)) (hp : ReadsB w 1 p s.body.length d (fc u8c s.body))
    (hq' : 0 < s.opt.blocks.length → Reads w 2 q' s.opt.blocks.length c' (fc blc s.opt.blocks)) (hp' : ReadsB w 1 p' s.body.length d' (fc u8c s.body)) :
    Calls Try.prog 22 #[.agg (sgc s q c p d), .agg (sgc s q' c' p' d')] w fun e w' => e = .returned (.bool true) ∧ Fr None w w' := by
  have S0 := ((Sep.law w).alloc (sgc s q c p d) SgT).alloc (sgc s q' c' p' d') SgT
  simp only [World.size_alloc] at S0
  have HS := Lib.hid S0
  have HQ := Lib.hid hq
  have HP := Lib.hid hp
  have HQ' := Lib.hid hq'
  have HP' := Lib.hid hp'
  clear S0 hq hp hq' hp'
  have o0 : ((w.alloc (.cells (sgc s q c p d) SgT)).alloc (.cells (sgc s q' c' p' d') SgT)).cell? ⟨w.heap.size, 0, none⟩ = some (.int .i64 s.kind) := (HS.out.at_ 1 rfl).cell 0
  have o1 : ((w.alloc (.cells (sgc s q c p d) SgT)).alloc (.cells (sgc s q' c' p' d') SgT)).cell? ⟨w.heap.size, 1, none⟩ = some (.int .u32 s.num) := (HS.out.at_ 1 rfl).cell 1
  have o2 : ((w.alloc (.cells (sgc s q c p d) SgT)).alloc (.cells (sgc s q' c' p' d') SgT)).cell? ⟨w.heap.size, 2, none⟩ = some (.int .i64 s.opt.mss) := (HS.out.at_ 1 rfl).cell 2
  have o3 : ((w.alloc (.cells (sgc s q c p d) SgT)).alloc (.cells (sgc s q' c' p' d') SgT)).cell? ⟨w.heap.size, 3, none⟩ = some (.bool s.opt.permit) := (HS.out.at_ 1 rfl).cell 3
  have o4 : ((w.alloc (.cells (sgc s q c p d) SgT)).alloc (.cells (sgc s q' c' p' d') SgT)).cell? ⟨w.heap.size, 4, none⟩ = some (.bool s.opt.ts) := (HS.out.at_ 1 rfl).cell 4
  have o5 : ((w.alloc (.cells (sgc s q c p d) SgT)).alloc (.cells (sgc s q' c' p' d') SgT)).cell? ⟨w.heap.size, 5, none⟩ = some (.int .u32 s.opt.val) := (HS.out.at_ 1 rfl).cell 5
  have o6 : ((w.alloc (.cells (sgc s q c p d) SgT)).alloc (.cells (sgc s q' c' p' d') SgT)).cell? ⟨w.heap.size, 6, none⟩ = some (.int .u32 s.opt.ecr) := (HS.out.at_ 1 rfl).cell 6
  have o7 : ((w.alloc (.cells (sgc s q c p d) SgT)).alloc (.cells (sgc s q' c' p' d') SgT)).cell? ⟨w.heap.size, 7, none⟩ = some (.bool s.opt.has) := (HS.out.at_ 1 rfl).cell 7
  have o8 : ((w.alloc (.cells (sgc s q c p d) SgT)).alloc (.cells (sgc s q' c' p' d') SgT)).cell? ⟨w.heap.size, 8, none⟩ = some (.int .i64 s.opt.scale) := (HS.out.at_ 1 rfl).cell 8
  have o9 : ((w.alloc (.cells (sgc s q c p d) SgT)).alloc (.cells (sgc s q' c' p' d') SgT)).cell? ⟨w.heap.size, 9, none⟩ = some (.slice q s.opt.blocks.length c) := (HS.out.at_ 1 rfl).cell 9
  have o10 : ((w.alloc (.cells (sgc s q c p d) SgT)).alloc (.cells (sgc s q' c' p' d') SgT)).cell? ⟨w.heap.size, 10, none⟩ = some (.slice p s.body.length d) := (HS.out.at_ 1 rfl).cell 10
  have p0 : ((w.alloc (.cells (sgc s q c p d) SgT)).alloc (.cells (sgc s q' c' p' d') SgT)).cell? ⟨w.heap.size + 1, 0, none⟩ = some (.int .i64 s.kind) := (HS.out.at_ 0 rfl).cell 0
  have p1 : ((w.alloc (.cells (sgc s q c p d) SgT)).alloc (.cells (sgc s q' c' p' d') SgT)).cell? ⟨w.heap.size + 1, 1, none⟩ = some (.int .u32 s.num) := (HS.out.at_ 0 rfl).cell 1
  have p2 : ((w.alloc (.cells (sgc s q c p d) SgT)).alloc (.cells (sgc s q' c' p' d') SgT)).cell? ⟨w.heap.size + 1, 2, none⟩ = some (.int .i64 s.opt.mss) := (HS.out.at_ 0 rfl).cell 2
  have p3 : ((w.alloc (.cells (sgc s q c p d) SgT)).alloc (.cells (sgc s q' c' p' d') SgT)).cell? ⟨w.heap.size + 1, 3, none⟩ = some (.bool s.opt.permit) := (HS.out.at_ 0 rfl).cell 3
  have p4 : ((w.alloc (.cells (sgc s q c p d) SgT)).alloc (.cells (sgc s q' c' p' d') SgT)).cell? ⟨w.heap.size + 1, 4, none⟩ = some (.bool s.opt.ts) := (HS.out.at_ 0 rfl).cell 4
  have p5 : ((w.alloc (.cells (sgc s q c p d) SgT)).alloc (.cells (sgc s q' c' p' d') SgT)).cell? ⟨w.heap.size + 1, 5, none⟩ = some (.int .u32 s.opt.val) := (HS.out.at_ 0 rfl).cell 5
  have p6 : ((w.alloc (.cells (sgc s q c p d) SgT)).alloc (.cells (sgc s q' c' p' d') SgT)).cell? ⟨w.heap.size + 1, 6, none⟩ = some (.int .u32 s.opt.ecr) := (HS.out.at_ 0 rfl).cell 6
  have p7 : ((w.alloc (.cells (sgc s q c p d) SgT)).alloc (.cells (sgc s q' c' p' d') SgT)).cell? ⟨w.heap.size + 1, 7, none⟩ = some (.bool s.opt.has) := (HS.out.at_ 0 rfl).cell 7
  have p8 : ((w.alloc (.cells (sgc s q c p d) SgT)).alloc (.cells (sgc s q' c' p' d') SgT)).cell? ⟨w.heap.size + 1, 8, none⟩ = some (.int .i64 s.opt.scale) := (HS.out.at_ 0 rfl).cell 8
  have p9 : ((w.alloc (.cells (sgc s q c p d) SgT)).alloc (.cells (sgc s q' c' p' d') SgT)).cell? ⟨w.heap.size + 1, 9, none⟩ = some (.slice q' s.opt.blocks.length c') := (HS.out.at_ 0 rfl).cell 9
  have p10 : ((w.alloc (.cells (sgc s q c p d) SgT)).alloc (.cells (sgc s q' c' p' d') SgT)).cell? ⟨w.heap.size + 1, 10, none⟩ = some (.slice p' s.body.length d') := (HS.out.at_ 0 rfl).cell 10
  go_enter Try.func22, Try.ntmps22
  go_wp2_with fail
  refine (osame_any s.opt q q' c c' _ (fun h => (HQ.out h).fr HS.out.fr (fun _ _ h => h)) (fun h => (HQ'.out h).fr HS.out.fr (fun _ _ h => h)) (by omega)).mono ?_
  rintro e w1 ⟨rfl, f1⟩
  have S1 := HS.out.same f1
  have o10 : w1.cell? ⟨w.heap.size, 10, none⟩ = some (.slice p s.body.length d) := (S1.at_ 1 rfl).cell 10
  have p10 : w1.cell? ⟨w.heap.size + 1, 10, none⟩ = some (.slice p' s.body.length d') := (S1.at_ 0 rfl).cell 10
  have HS1 := Lib.hid S1
  clear S1 f1 HS
  go_wp2_with fail
  have R := rbsame_any p p' d d' s.body s.body w1 (HP.out.fr HS1.out.fr) (HP'.out.fr HS1.out.fr) hm hm
  rw [decide_eq_true rfl] at R
  refine R.mono ?_
  rintro e w2 ⟨rfl, f2⟩
  have F2 := Lib.hid (HS1.out.fr.trans f2)
  clear f2 HS1 R
  go_wp2_with fail
  go_ret
  exact ⟨rfl, F2.out⟩

set_option maxRecDepth 100000 in
set_option maxHeartbeats 4000000 in
theorem segmentBack_walk (w : World) (co : Array Value) (uo : U) (ho : shSeg.holds w uo co.toList) :
    Calls Try.prog 7 #[.agg co] w fun e w' => e = .returned (.bool true) ∧ Below w.heap.size w w' := by
  obtain ⟨s, q, c, p, d, eo, hw, hm, hr, hrb⟩ := sgm_of ho
  obtain rfl : co = sgc s q c p d := Array.ext' eo
  have HR := Lib.hid (fun h : 0 < s.opt.blocks.length => hr.some h)
  have HRB := Lib.hid hrb
  have HW := Lib.hid hw
  have S := Lib.hid ((Sep.law w).alloc (sgc s q c p d) SgT)
  clear ho eo hw hr hrb
  go_enter Try.func7, Try.ntmps7
  go_wp2_with fail
  refine (known5_any _).mono ?_
  rintro e w1 ⟨rfl, f1⟩
  have S1 := S.out.same f1
  have o0 : w1.cell? ⟨w.heap.size, 0, none⟩ = some (.int .i64 s.kind) := (S1.at_ 0 rfl).cell 0
  have o1 : w1.cell? ⟨w.heap.size, 1, none⟩ = some (.int .u32 s.num) := (S1.at_ 0 rfl).cell 1
  have o2 : w1.cell? ⟨w.heap.size, 2, none⟩ = some (.int .i64 s.opt.mss) := (S1.at_ 0 rfl).cell 2
  have o3 : w1.cell? ⟨w.heap.size, 3, none⟩ = some (.bool s.opt.permit) := (S1.at_ 0 rfl).cell 3
  have o4 : w1.cell? ⟨w.heap.size, 4, none⟩ = some (.bool s.opt.ts) := (S1.at_ 0 rfl).cell 4
  have o5 : w1.cell? ⟨w.heap.size, 5, none⟩ = some (.int .u32 s.opt.val) := (S1.at_ 0 rfl).cell 5
  have o6 : w1.cell? ⟨w.heap.size, 6, none⟩ = some (.int .u32 s.opt.ecr) := (S1.at_ 0 rfl).cell 6
  have o7 : w1.cell? ⟨w.heap.size, 7, none⟩ = some (.bool s.opt.has) := (S1.at_ 0 rfl).cell 7
  have o8 : w1.cell? ⟨w.heap.size, 8, none⟩ = some (.int .i64 s.opt.scale) := (S1.at_ 0 rfl).cell 8
  have o9 : w1.cell? ⟨w.heap.size, 9, none⟩ = some (.slice q s.opt.blocks.length c) := (S1.at_ 0 rfl).cell 9
  have o10 : w1.cell? ⟨w.heap.size, 10, none⟩ = some (.slice p s.body.length d) := (S1.at_ 0 rfl).cell 10
  have HS1 := Lib.hid S1
  clear S1 f1 S
  by_cases h0 : checkS s = 0
  · have HE := Lib.hid (sencode_ok s q c p d w1 HW.out h0 (fun h => (HR.out h).fr HS1.out.fr (fun _ _ h => h)) (HRB.out.fr HS1.out.fr))
    have HD := Lib.hid (fun a c W => sdecode_ok s a c W HW.out h0)
    have hlen := encS_len s
    have h40 := encO_len40 h0
    have h2048 := (checkS_zero h0).2.2
    have h4 := (check_zero0 (checkS_zero h0).2.1).2.2.1
    have hsz : sizeS s = (encS_ s).length := by
      have h4l := encO_len s.opt h4
      unfold sizeS; rw [if_pos h0]; omega
    have HZ := Lib.hid (fun q c p d W => hsz ▸ ssize_any s q c p d W)
    clear h0 hsz
    go_wp2_with fail
    refine HE.out.mono ?_
    rintro e w2 ⟨q2, c2, rfl, T2⟩
    have HS2 := Lib.hid (HS1.out.beside T2)
    clear T2 HE HS1 o0 o1 o2 o3 o4 o5 o6 o7 o8 o9 o10
    have hll : (encS_ s).length ≤ 2096 := by omega
    clear hlen h40
    go_wp2_with fail
    refine (HD.out q2 c2 w2 (Owns.reads (f := u8c) (T := U8T) (HS2.out.at_ 0 rfl)).2.1).mono ?_
    rintro e w3 ⟨q3, c3, p3, d3, rfl, T3⟩
    have hb1 : w.heap.size < w3.heap.size := ((HS2.out.beside T3).at_ 3 rfl).lt
    have S3 := (HS2.out.beside T3).alloc (sgc s q3 c3 p3 d3) SgT
    have o0 : (w3.alloc (.cells (sgc s q3 c3 p3 d3) SgT)).cell? ⟨w.heap.size, 0, none⟩ = some (.int .i64 s.kind) := (S3.at_ 4 rfl).cell 0
    have o1 : (w3.alloc (.cells (sgc s q3 c3 p3 d3) SgT)).cell? ⟨w.heap.size, 1, none⟩ = some (.int .u32 s.num) := (S3.at_ 4 rfl).cell 1
    have o2 : (w3.alloc (.cells (sgc s q3 c3 p3 d3) SgT)).cell? ⟨w.heap.size, 2, none⟩ = some (.int .i64 s.opt.mss) := (S3.at_ 4 rfl).cell 2
    have o3 : (w3.alloc (.cells (sgc s q3 c3 p3 d3) SgT)).cell? ⟨w.heap.size, 3, none⟩ = some (.bool s.opt.permit) := (S3.at_ 4 rfl).cell 3
    have o4 : (w3.alloc (.cells (sgc s q3 c3 p3 d3) SgT)).cell? ⟨w.heap.size, 4, none⟩ = some (.bool s.opt.ts) := (S3.at_ 4 rfl).cell 4
    have o5 : (w3.alloc (.cells (sgc s q3 c3 p3 d3) SgT)).cell? ⟨w.heap.size, 5, none⟩ = some (.int .u32 s.opt.val) := (S3.at_ 4 rfl).cell 5
    have o6 : (w3.alloc (.cells (sgc s q3 c3 p3 d3) SgT)).cell? ⟨w.heap.size, 6, none⟩ = some (.int .u32 s.opt.ecr) := (S3.at_ 4 rfl).cell 6
    have o7 : (w3.alloc (.cells (sgc s q3 c3 p3 d3) SgT)).cell? ⟨w.heap.size, 7, none⟩ = some (.bool s.opt.has) := (S3.at_ 4 rfl).cell 7
    have o8 : (w3.alloc (.cells (sgc s q3 c3 p3 d3) SgT)).cell? ⟨w.heap.size, 8, none⟩ = some (.int .i64 s.opt.scale) := (S3.at_ 4 rfl).cell 8
    have o9 : (w3.alloc (.cells (sgc s q3 c3 p3 d3) SgT)).cell? ⟨w.heap.size, 9, none⟩ = some (.slice q s.opt.blocks.length c) := (S3.at_ 4 rfl).cell 9
    have o10 : (w3.alloc (.cells (sgc s q3 c3 p3 d3) SgT)).cell? ⟨w.heap.size, 10, none⟩ = some (.slice p s.body.length d) := (S3.at_ 4 rfl).cell 10
    have HS3 := Lib.hid S3
    clear T3 S3 HS2 HD
    go_wp2_with fail
    refine (rsame5_eq s q c p d q3 c3 p3 d3 _ h4 hm (fun h => (HR.out h).fr HS3.out.fr (fun _ _ h => h)) (HRB.out.fr HS3.out.fr) (fun h => (Owns.reads (f := blc) (T := BlT) (HS3.out.at_ 2 rfl)).2.1) (.inr (Owns.reads (f := u8c) (T := U8T) (HS3.out.at_ 1 rfl)).2.1)).mono ?_
    rintro e w4 ⟨rfl, f4⟩
    have S4 := HS3.out.same f4
    clear o0 o1 o2 o3 o4 o5 o6 o7 o8 o9 o10
    have o0 : w4.cell? ⟨w.heap.size, 0, none⟩ = some (.int .i64 s.kind) := (S4.at_ 4 rfl).cell 0
    have o1 : w4.cell? ⟨w.heap.size, 1, none⟩ = some (.int .u32 s.num) := (S4.at_ 4 rfl).cell 1
    have o2 : w4.cell? ⟨w.heap.size, 2, none⟩ = some (.int .i64 s.opt.mss) := (S4.at_ 4 rfl).cell 2
    have o3 : w4.cell? ⟨w.heap.size, 3, none⟩ = some (.bool s.opt.permit) := (S4.at_ 4 rfl).cell 3
    have o4 : w4.cell? ⟨w.heap.size, 4, none⟩ = some (.bool s.opt.ts) := (S4.at_ 4 rfl).cell 4
    have o5 : w4.cell? ⟨w.heap.size, 5, none⟩ = some (.int .u32 s.opt.val) := (S4.at_ 4 rfl).cell 5
    have o6 : w4.cell? ⟨w.heap.size, 6, none⟩ = some (.int .u32 s.opt.ecr) := (S4.at_ 4 rfl).cell 6
    have o7 : w4.cell? ⟨w.heap.size, 7, none⟩ = some (.bool s.opt.has) := (S4.at_ 4 rfl).cell 7
    have o8 : w4.cell? ⟨w.heap.size, 8, none⟩ = some (.int .i64 s.opt.scale) := (S4.at_ 4 rfl).cell 8
    have o9 : w4.cell? ⟨w.heap.size, 9, none⟩ = some (.slice q s.opt.blocks.length c) := (S4.at_ 4 rfl).cell 9
    have o10 : w4.cell? ⟨w.heap.size, 10, none⟩ = some (.slice p s.body.length d) := (S4.at_ 4 rfl).cell 10
    have HS4 := Lib.hid S4
    clear f4 S4 HS3
    go_wp2_with fail
    refine (HZ.out q c p d _).mono ?_
    rintro e w5 ⟨rfl, f5⟩
    have F5 := Lib.hid (HS4.out.fr.trans f5)
    clear f5 HS4 HZ o0 o1 o2 o3 o4 o5 o6 o7 o8 o9 o10
    go_wp2_with fail
    refine (known5_any _).mono ?_
    rintro e w6 ⟨rfl, f6⟩
    have F6 := Lib.hid (F5.out.trans f6)
    clear f6 F5
    go_wp2_with fail
    exact bodyPost_ret (v := .bool true) (by simp [results, Try.results7, go_sem]) rfl ⟨rfl, F6.out.none_below⟩
  · have HE := Lib.hid (sencode_no s q c p d w1 h0)
    have g0 : (checkS s != 0) = true := by simpa using h0
    have hsz : sizeS s = 0 := by unfold sizeS; rw [if_neg h0]
    have HZ := Lib.hid (fun W => hsz ▸ ssize_any s q c p d W)
    have HK := Lib.hid (fun W => rcheck5_any s q c p d W)
    clear h0 hsz
    generalize checkS s = z at *
    go_wp2_with fail
    refine HE.out.mono ?_
    rintro e w2 ⟨rfl, f2⟩
    have S2 := HS1.out.same f2
    clear o0 o1 o2 o3 o4 o5 o6 o7 o8 o9 o10
    have o0 : w2.cell? ⟨w.heap.size, 0, none⟩ = some (.int .i64 s.kind) := (S2.at_ 0 rfl).cell 0
    have o1 : w2.cell? ⟨w.heap.size, 1, none⟩ = some (.int .u32 s.num) := (S2.at_ 0 rfl).cell 1
    have o2 : w2.cell? ⟨w.heap.size, 2, none⟩ = some (.int .i64 s.opt.mss) := (S2.at_ 0 rfl).cell 2
    have o3 : w2.cell? ⟨w.heap.size, 3, none⟩ = some (.bool s.opt.permit) := (S2.at_ 0 rfl).cell 3
    have o4 : w2.cell? ⟨w.heap.size, 4, none⟩ = some (.bool s.opt.ts) := (S2.at_ 0 rfl).cell 4
    have o5 : w2.cell? ⟨w.heap.size, 5, none⟩ = some (.int .u32 s.opt.val) := (S2.at_ 0 rfl).cell 5
    have o6 : w2.cell? ⟨w.heap.size, 6, none⟩ = some (.int .u32 s.opt.ecr) := (S2.at_ 0 rfl).cell 6
    have o7 : w2.cell? ⟨w.heap.size, 7, none⟩ = some (.bool s.opt.has) := (S2.at_ 0 rfl).cell 7
    have o8 : w2.cell? ⟨w.heap.size, 8, none⟩ = some (.int .i64 s.opt.scale) := (S2.at_ 0 rfl).cell 8
    have o9 : w2.cell? ⟨w.heap.size, 9, none⟩ = some (.slice q s.opt.blocks.length c) := (S2.at_ 0 rfl).cell 9
    have o10 : w2.cell? ⟨w.heap.size, 10, none⟩ = some (.slice p s.body.length d) := (S2.at_ 0 rfl).cell 10
    have HS2 := Lib.hid S2
    clear f2 HE HS1 S2
    go_wp2_with fail
    refine (HZ.out _).mono ?_
    rintro e w3 ⟨rfl, f3⟩
    have S3 := HS2.out.same f3
    clear o0 o1 o2 o3 o4 o5 o6 o7 o8 o9 o10
    have o0 : w3.cell? ⟨w.heap.size, 0, none⟩ = some (.int .i64 s.kind) := (S3.at_ 0 rfl).cell 0
    have o1 : w3.cell? ⟨w.heap.size, 1, none⟩ = some (.int .u32 s.num) := (S3.at_ 0 rfl).cell 1
    have o2 : w3.cell? ⟨w.heap.size, 2, none⟩ = some (.int .i64 s.opt.mss) := (S3.at_ 0 rfl).cell 2
    have o3 : w3.cell? ⟨w.heap.size, 3, none⟩ = some (.bool s.opt.permit) := (S3.at_ 0 rfl).cell 3
    have o4 : w3.cell? ⟨w.heap.size, 4, none⟩ = some (.bool s.opt.ts) := (S3.at_ 0 rfl).cell 4
    have o5 : w3.cell? ⟨w.heap.size, 5, none⟩ = some (.int .u32 s.opt.val) := (S3.at_ 0 rfl).cell 5
    have o6 : w3.cell? ⟨w.heap.size, 6, none⟩ = some (.int .u32 s.opt.ecr) := (S3.at_ 0 rfl).cell 6
    have o7 : w3.cell? ⟨w.heap.size, 7, none⟩ = some (.bool s.opt.has) := (S3.at_ 0 rfl).cell 7
    have o8 : w3.cell? ⟨w.heap.size, 8, none⟩ = some (.int .i64 s.opt.scale) := (S3.at_ 0 rfl).cell 8
    have o9 : w3.cell? ⟨w.heap.size, 9, none⟩ = some (.slice q s.opt.blocks.length c) := (S3.at_ 0 rfl).cell 9
    have o10 : w3.cell? ⟨w.heap.size, 10, none⟩ = some (.slice p s.body.length d) := (S3.at_ 0 rfl).cell 10
    have HS3 := Lib.hid S3
    clear f3 HS2 S3 HZ
    go_wp2_with fail
    refine (HK.out _).mono ?_
    rintro e w4 ⟨rfl, f4⟩
    have F4 := Lib.hid (HS3.out.fr.trans f4)
    clear f4 HS3 HK o0 o1 o2 o3 o4 o5 o6 o7 o8 o9 o10
    go_wp2_with fail
    refine (known5_any _).mono ?_
    rintro e w5 ⟨rfl, f5⟩
    have F5 := Lib.hid (F4.out.trans f5)
    clear f5 F4
    go_wp2_with fail
    exact bodyPost_ret (v := .bool true) (by simp [results, Try.results7, go_sem]) rfl ⟨rfl, F5.out.none_below⟩
end Go.Proofs.Ythkhfijfgpccbaa
