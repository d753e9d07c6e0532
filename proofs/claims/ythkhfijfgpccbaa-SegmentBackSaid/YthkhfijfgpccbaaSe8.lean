/- Segments: Decode, walked. -/
import Derived.Test.YthkhfijfgpccbaaSe7
set_option linter.unusedVariables false
set_option linter.unusedSimpArgs false
namespace Go.Proofs.Ythkhfijfgpccbaa
open Go.RowKit Go.Und Go.Shelf
attribute [local go_sem] Oper.semAt_some
attribute [local go_sem ↓] Go.wp_at_zero Go.wp_at_succ

set_option maxHeartbeats 2000000 in
theorem rRest_any (p : Nat) (q : Option Addr) (cap : Nat) (l : List Int) (a : Nat) (w : World) (hS : Sep (fpL (rdr p q cap l a)) w w (rdr p q cap l a)) (ha : a ≤ l.length) (hl : l.length ≤ 100000) :
    Calls Try.prog 45 #[.pointer (at0 p)] w fun e w' => ∃ x c, e = .returned (.slice x (l.drop a).length c) ∧ Sep (fpL (rdr p q cap l a)) w w' (brow x c (l.drop a) :: rdr p q cap l a) := by
  have c0 : w.cell? ⟨p, 0, none⟩ = some (.slice q l.length cap) := (hS.at_ 0 rfl).cell 0
  have c1 : w.cell? ⟨p, 1, none⟩ = some (.int .i64 a) := (hS.at_ 0 rfl).cell 1
  have HS := Lib.hid ((hS.drew).add (brow none 0 []) (Fr.refl None _) (Owns.nil u8c 1 U8T _) (fun k hk => by cases hk))
  obtain ⟨i, hi, hz0, hz1, hz2⟩ := info_parts u8Info
  have hcap := (Owns.reads (f := u8c) (T := U8T) (hS.at_ 1 rfl)).2.1
  have hrd := hcap.drop (k := a) ha
  have hx : ∃ x, x = (if cap = a then q else q.map (·.add (a * 1))) := ⟨_, rfl⟩
  obtain ⟨x, hx⟩ := hx
  have e1 := fc_drop u8c_len l a
  rw [← hx, Nat.mul_one] at hrd
  rw [Nat.mul_one] at e1
  rw [e1] at hrd
  have hrun : ∀ W' : World, (Instr.sliceAt 27 (.slice q l.length cap) (some (.int .i64 (a : Int))) none none).run Try.prog W' = .ok (.slice x (l.drop a).length (cap - a)) W' := fun W' => by
    have h1 := run_cut_from (P := Try.prog) W' 27 U8T i 1 Try.underlying27 hi hz1 q l.length cap .i64 (a : Int) (by omega) (by omega)
    rw [h1, show (a : Int).toNat = a by omega, ← hx, List.length_drop]
  rw [← List.length_drop] at hrd
  have hld : (l.drop a).length ≤ 100000 := by rw [List.length_drop]; omega
  have HRD := Lib.hid (hrd.fr (D := None) ((Fr.refl None w).drew) (fun _ _ h => h))
  have HI := Lib.hid (And.intro hi (And.intro hz0 (And.intro hz1 hz2))); clear hi hz0 hz1 hz2
  clear hS hcap hrd hx e1
  generalize l.drop a = t at *
  go_enter Try.func45, Try.ntmps45
  go_wp2_with fail
  go_region_law ((
      refine step_append_row _ rfl _ _ _ rfl 0 U8T i _ 1 1 Try.underlying27 HI.out.1 HI.out.2.1 HI.out.2.2.1 HI.out.2.2.2 rfl (by decide) _ 0 (fc u8c []) rfl (World.ownsRow_nil _ 0 U8T 1) x t.length (cap - a) (fc u8c t) rfl HRD.out (fc_one u8c_one _) (by simp [maxLen]; omega) (by omega) (Nat.zero_le _) ?_
      intro q2 c2 w2 ho2 hf2 hb2
      simp only [Nat.zero_add, fc_nil, List.nil_append] at ho2 hb2
      have S2 := HS.out.turn 0 rfl (brow q2 c2 t) hf2 (fun _ _ h => by cases h) ho2 (fun k hk => by
        have hk' : (Value.slice q2 t.length c2).ownBlock = some k := hk
        rcases hb2 with e | e
        · rw [e] at hk'; cases hk'
        · rw [e] at hk'; cases hk'; exact .inr (Nat.le_refl _))
      simp only [List.set_cons_succ, List.set_cons_zero] at S2
      have HS2 := Lib.hid S2
      clear S2 ho2 hf2 hb2))
  all_goals
    go_wp2_with fail
    go_ret
    exact ⟨q2, c2, by first | (simp [Act.put]; done) | rfl, HS2.out⟩


theorem encO_mod (o : Opt) : (encO o).length % 4 = 0 := by
  unfold encO padTo
  rw [List.length_append, List.length_replicate]
  omega
/-- What a segment's bytes say where. -/
theorem enc_parts {s : Sgm} (w : s.Wf) (h : checkS s = 0) : ∃ m : Nat, m ≤ 10 ∧ (encO s.opt).length = 4 * m ∧ valB (((encS_ s).drop 0).take 1) = s.kind ∧ valB (((encS_ s).drop 1).take 1) = m ∧ valB (((encS_ s).drop 4).take 4) = s.num ∧ ((encS_ s).drop 8).take (4 * m) = encO s.opt ∧ (encS_ s).drop (8 + 4 * m) = s.body := by
  have h40 := encO_len40 h
  have hm := encO_mod s.opt
  have hc := chkS_bound s
  obtain ⟨m, hm⟩ : ∃ m, (encO s.opt).length = 4 * m := ⟨(encO s.opt).length / 4, by omega⟩
  have e := formS_split s (encO s.opt) (chkS s) hc.1 hc.2
  have e' : encS_ s = [s.kind, ((encO s.opt).length : Int) / 4, chkS s / 256, chkS s % 256] ++ (be 4 s.num ++ (encO s.opt ++ s.body)) := by
    unfold encS_; rw [e]; simp [List.append_assoc]
  have d4 : (encS_ s).drop 4 = be 4 s.num ++ (encO s.opt ++ s.body) := by rw [e']; rfl
  have d8 : (encS_ s).drop 8 = encO s.opt ++ s.body := by
    rw [show 8 = 4 + 4 from rfl, ← List.drop_drop, d4, List.drop_left' (be_len 4 _)]
  refine ⟨m, by omega, hm, ?_, ?_, ?_, ?_, ?_⟩
  · rw [e']; exact valB_one _
  · rw [e']; exact (valB_one _).trans (by omega)
  · rw [d4, List.take_left' (be_len 4 _)]; exact val_be w.num.1 (by have := w.num.2; omega)
  · rw [d8, List.take_left' hm]
  · rw [← List.drop_drop, d8, List.drop_left' hm]

set_option maxRecDepth 100000 in
set_option maxHeartbeats 4000000 in
/-- Bytes with another sum are refused. -/
theorem sdecode_sum (a : Option Addr) (c : Nat) (l : List Int) (w : World) (hr : Reads w 1 a l.length c (fc u8c l)) (hb : ∀ x ∈ l, 0 ≤ x ∧ x < 256) (h8 : 8 ≤ l.length) (hl : l.length ≤ 2096) (hs : sumB l ≠ 65535) :
    Calls Try.prog 19 #[.slice a l.length c] w fun e w' => e = .returned (.tuple #[.agg (sgc Sgm.zero none 0 none 0), .int .i64 7]) ∧ Fr None w w' := by
  have S := (Sep.law w).alloc (sgc Sgm.zero none 0 none 0) SgT
  have hf := fine_any a c l _ (hr.fr S.fr (fun _ _ h => h)) hb (by omega)
  rw [show decide (sumB l = 65535) = false by simpa using hs] at hf
  have HF := Lib.hid hf
  have HS := Lib.hid S
  have g1 : decide ((l.length : Int) < 8) = false := decide_eq_false (by omega)
  have g2 : decide ((2096 : Int) < (l.length : Int)) = false := decide_eq_false (by omega)
  clear hf hr hb hs S
  go_enter Try.func19, Try.ntmps19
  go_wp2_with fail
  refine HF.out.mono ?_
  rintro e w1 ⟨rfl, f1⟩
  have S1 := HS.out.same f1
  have d0 : w1.cell? ⟨w.heap.size, 0, none⟩ = some (.int .i64 0) := (S1.at_ 0 rfl).cell 0
  have dx0 : w1.frozen? ⟨w.heap.size, 0, none⟩ = false := (S1.at_ 0 rfl).frozen 0
  have d1 : w1.cell? ⟨w.heap.size, 1, none⟩ = some (.int .u32 0) := (S1.at_ 0 rfl).cell 1
  have dx1 : w1.frozen? ⟨w.heap.size, 1, none⟩ = false := (S1.at_ 0 rfl).frozen 1
  have d2 : w1.cell? ⟨w.heap.size, 2, none⟩ = some (.int .i64 0) := (S1.at_ 0 rfl).cell 2
  have dx2 : w1.frozen? ⟨w.heap.size, 2, none⟩ = false := (S1.at_ 0 rfl).frozen 2
  have d3 : w1.cell? ⟨w.heap.size, 3, none⟩ = some (.bool false) := (S1.at_ 0 rfl).cell 3
  have dx3 : w1.frozen? ⟨w.heap.size, 3, none⟩ = false := (S1.at_ 0 rfl).frozen 3
  have d4 : w1.cell? ⟨w.heap.size, 4, none⟩ = some (.bool false) := (S1.at_ 0 rfl).cell 4
  have dx4 : w1.frozen? ⟨w.heap.size, 4, none⟩ = false := (S1.at_ 0 rfl).frozen 4
  have d5 : w1.cell? ⟨w.heap.size, 5, none⟩ = some (.int .u32 0) := (S1.at_ 0 rfl).cell 5
  have dx5 : w1.frozen? ⟨w.heap.size, 5, none⟩ = false := (S1.at_ 0 rfl).frozen 5
  have d6 : w1.cell? ⟨w.heap.size, 6, none⟩ = some (.int .u32 0) := (S1.at_ 0 rfl).cell 6
  have dx6 : w1.frozen? ⟨w.heap.size, 6, none⟩ = false := (S1.at_ 0 rfl).frozen 6
  have d7 : w1.cell? ⟨w.heap.size, 7, none⟩ = some (.bool false) := (S1.at_ 0 rfl).cell 7
  have dx7 : w1.frozen? ⟨w.heap.size, 7, none⟩ = false := (S1.at_ 0 rfl).frozen 7
  have d8 : w1.cell? ⟨w.heap.size, 8, none⟩ = some (.int .i64 0) := (S1.at_ 0 rfl).cell 8
  have dx8 : w1.frozen? ⟨w.heap.size, 8, none⟩ = false := (S1.at_ 0 rfl).frozen 8
  have d9 : w1.cell? ⟨w.heap.size, 9, none⟩ = some (.slice none 0 0) := (S1.at_ 0 rfl).cell 9
  have dx9 : w1.frozen? ⟨w.heap.size, 9, none⟩ = false := (S1.at_ 0 rfl).frozen 9
  have d10 : w1.cell? ⟨w.heap.size, 10, none⟩ = some (.slice none 0 0) := (S1.at_ 0 rfl).cell 10
  have dx10 : w1.frozen? ⟨w.heap.size, 10, none⟩ = false := (S1.at_ 0 rfl).frozen 10
  have HS1 := Lib.hid S1
  clear S1 f1 HF HS
  go_wp2_with fail
  exact bodyPost_ret (v := .tuple #[.agg (sgc Sgm.zero none 0 none 0), .int .i64 7]) (by simp [results, Try.results19, go_sem, Sgm.zero, Opt.zero, d0, d1, d2, d3, d4, d5, d6, d7, d8, d9, d10]) rfl ⟨rfl, (((((((((((HS1.out.set 0 rfl 0 (.int .i64 0)).set 0 rfl 1 (.int .u32 0)).set 0 rfl 2 (.int .i64 0)).set 0 rfl 3 (.bool false)).set 0 rfl 4 (.bool false)).set 0 rfl 5 (.int .u32 0)).set 0 rfl 6 (.int .u32 0)).set 0 rfl 7 (.bool false)).set 0 rfl 8 (.int .i64 0)).set 0 rfl 9 (.slice none 0 0)).set 0 rfl 10 (.slice none 0 0)).fr⟩

set_option maxRecDepth 100000 in
set_option maxHeartbeats 8000000 in
/-- What was encoded is decoded as it was. -/
theorem sdecode_ok (s : Sgm) (a : Option Addr) (c : Nat) (w : World) (hw : s.Wf) (h : checkS s = 0) (hr : Reads w 1 a (encS_ s).length c (fc u8c (encS_ s))) :
    Calls Try.prog 19 #[.slice a (encS_ s).length c] w fun e w' => ∃ q' c' p' d', e = .returned (.tuple #[.agg (sgc s q' c' p' d'), .int .i64 0]) ∧ Sep None w w' [brow p' d' s.body, blrow q' c' s.opt.blocks] := by
  obtain ⟨m, hm, hlm, v1, v2, v3, v4, v5⟩ := enc_parts hw h
  obtain ⟨hk, h2, h3⟩ := checkS_zero h
  have hpe := parse_enc hw.opt h2
  have hob := fun x hx => encO_bytes hw.opt (check_zero0 h2).1 (check_zero0 h2).2.1 (check_zero0 h2).2.2.1 x hx
  have hb := formS_bytes hw h (chkS s)
  have hbl : ∀ x ∈ encS_ s, 0 ≤ x ∧ x < 256 := hb
  have hfine := encS_fine hw h
  have hlen := encS_len s
  have hnum := hw.num
  have hkb : 0 ≤ s.kind ∧ s.kind < 256 := by omega
  clear hb hw
  generalize encS_ s = l at *
  generalize encO s.opt = ob at *
  have hl8 : 8 ≤ l.length := by omega
  have hl1 : l.length ≤ 2096 := by omega
  have hlx : 8 + 4 * m ≤ l.length := by omega
  have S0 := (Sep.law w).alloc (sgc Sgm.zero none 0 none 0) SgT
  have hf := fine_any a c l _ (hr.fr S0.fr (fun _ _ h => h)) hbl (by omega)
  rw [show decide (sumB l = 65535) = true by simpa using hfine] at hf
  have HF := Lib.hid hf
  have HS := Lib.hid S0
  have HR := Lib.hid hr
  have HBL := Lib.hid hbl
  have HOB := Lib.hid hob
  have HPE := Lib.hid hpe
  have HCH := Lib.hid (fun q c p d W => h ▸ scheck_any s q c p d W)
  have HK := Lib.hid (show ∀ q c p d W, Calls Try.prog 42 #[.agg (sgc ⟨s.kind, 0, Opt.zero, []⟩ q c p d)] W fun e w' => e = .returned (.int .i64 0) ∧ Fr None W w' from fun q c p d W => (by
    have := kind_any ⟨s.kind, 0, Opt.zero, []⟩ q c p d W
    unfold kindS at this
    rwa [if_neg (by dsimp only; omega)] at this))
  have HV1 := Lib.hid v1
  have HV2 := Lib.hid v2
  have HV3 := Lib.hid v3
  have HV4 := Lib.hid v4
  have HV5 := Lib.hid v5
  have HLM := Lib.hid hlm
  clear hf S0 hr hbl hob hpe h hk v1 v2 v3 v4 v5 hlm hfine hlen h2
  have g1 : decide ((l.length : Int) < 8) = false := decide_eq_false (by omega)
  have g2 : decide ((2096 : Int) < (l.length : Int)) = false := decide_eq_false (by omega)
  go_enter Try.func19, Try.ntmps19
  go_wp2_with fail
  refine HF.out.mono ?_
  rintro e w1 ⟨rfl, f1⟩
  have HS1 := Lib.hid (HS.out.same f1)
  clear f1 HF HS
  go_wp2_with fail
  refine (newReader_any a c l _ (HR.out.fr HS1.out.fr (fun _ _ h => h)) (by omega)).mono ?_
  rintro e w2 ⟨p, q, cap, rfl, T2⟩
  have S2 := (HS1.out.beside T2).alloc (sgc Sgm.zero none 0 none 0) SgT
  have S3 : Sep None w (w2.alloc (.cells (sgc Sgm.zero none 0 none 0) SgT)) (rdr p q cap l 0 ++ ([Ob.blk w2.heap.size SgT (sgc Sgm.zero none 0 none 0)] ++ [Ob.blk w.heap.size SgT (sgc Sgm.zero none 0 none 0)])) := Sep.swapL (A := [Ob.blk w2.heap.size SgT (sgc Sgm.zero none 0 none 0)]) S2
  have HS3 := Lib.hid S3
  clear T2 S2 S3 HS1
  go_wp2_with fail
  have R1 := rOne_ok p q cap l 0 _ HS3.out.head (by omega) (by omega) HBL.out
  rw [HV1.out] at R1
  refine R1.mono ?_
  rintro e w3 ⟨rfl, T3⟩
  have HS4 := Lib.hid (HS3.out.did T3)
  clear R1 T3 HS3
  go_wp2_with fail
  have R2 := rOne_ok p q cap l 1 _ HS4.out.head (by omega) (by omega) HBL.out
  rw [HV2.out] at R2
  refine R2.mono ?_
  rintro e w4 ⟨rfl, T4⟩
  have S5 := HS4.out.did T4
  have o0 : w4.cell? ⟨w2.heap.size, 0, none⟩ = some (.int .i64 0) := (S5.at_ 2 rfl).cell 0
  have ox0 : w4.frozen? ⟨w2.heap.size, 0, none⟩ = false := (S5.at_ 2 rfl).frozen 0
  have o1 : w4.cell? ⟨w2.heap.size, 1, none⟩ = some (.int .u32 0) := (S5.at_ 2 rfl).cell 1
  have ox1 : w4.frozen? ⟨w2.heap.size, 1, none⟩ = false := (S5.at_ 2 rfl).frozen 1
  have o2 : w4.cell? ⟨w2.heap.size, 2, none⟩ = some (.int .i64 0) := (S5.at_ 2 rfl).cell 2
  have ox2 : w4.frozen? ⟨w2.heap.size, 2, none⟩ = false := (S5.at_ 2 rfl).frozen 2
  have o3 : w4.cell? ⟨w2.heap.size, 3, none⟩ = some (.bool false) := (S5.at_ 2 rfl).cell 3
  have ox3 : w4.frozen? ⟨w2.heap.size, 3, none⟩ = false := (S5.at_ 2 rfl).frozen 3
  have o4 : w4.cell? ⟨w2.heap.size, 4, none⟩ = some (.bool false) := (S5.at_ 2 rfl).cell 4
  have ox4 : w4.frozen? ⟨w2.heap.size, 4, none⟩ = false := (S5.at_ 2 rfl).frozen 4
  have o5 : w4.cell? ⟨w2.heap.size, 5, none⟩ = some (.int .u32 0) := (S5.at_ 2 rfl).cell 5
  have ox5 : w4.frozen? ⟨w2.heap.size, 5, none⟩ = false := (S5.at_ 2 rfl).frozen 5
  have o6 : w4.cell? ⟨w2.heap.size, 6, none⟩ = some (.int .u32 0) := (S5.at_ 2 rfl).cell 6
  have ox6 : w4.frozen? ⟨w2.heap.size, 6, none⟩ = false := (S5.at_ 2 rfl).frozen 6
  have o7 : w4.cell? ⟨w2.heap.size, 7, none⟩ = some (.bool false) := (S5.at_ 2 rfl).cell 7
  have ox7 : w4.frozen? ⟨w2.heap.size, 7, none⟩ = false := (S5.at_ 2 rfl).frozen 7
  have o8 : w4.cell? ⟨w2.heap.size, 8, none⟩ = some (.int .i64 0) := (S5.at_ 2 rfl).cell 8
  have ox8 : w4.frozen? ⟨w2.heap.size, 8, none⟩ = false := (S5.at_ 2 rfl).frozen 8
  have o9 : w4.cell? ⟨w2.heap.size, 9, none⟩ = some (.slice none 0 0) := (S5.at_ 2 rfl).cell 9
  have ox9 : w4.frozen? ⟨w2.heap.size, 9, none⟩ = false := (S5.at_ 2 rfl).frozen 9
  have o10 : w4.cell? ⟨w2.heap.size, 10, none⟩ = some (.slice none 0 0) := (S5.at_ 2 rfl).cell 10
  have ox10 : w4.frozen? ⟨w2.heap.size, 10, none⟩ = false := (S5.at_ 2 rfl).frozen 10
  have S6 := S5.set 2 rfl 0 (.int .i64 s.kind)
  have HS6 := Lib.hid S6
  clear R2 T4 HS4 S5 S6
  go_wp2_with fail
  refine (HK.out none 0 none 0 _).mono ?_
  rintro e w5 ⟨rfl, f5⟩
  have S7 : Sep None w w5 (rdr p q cap l 2 ++ ([Ob.blk w2.heap.size SgT (sgc ⟨s.kind, 0, Opt.zero, []⟩ none 0 none 0)] ++ [Ob.blk w.heap.size SgT (sgc Sgm.zero none 0 none 0)])) := HS6.out.same f5
  have HS7 := Lib.hid S7
  clear f5 S7 HS6 o0 ox0 o1 ox1 o2 ox2 o3 ox3 o4 ox4 o5 ox5 o6 ox6 o7 ox7 o8 ox8 o9 ox9 o10 ox10
  have g3 : decide ((40 : Int) < (m : Int) * 4) = false := decide_eq_false (by omega)
  go_wp2_with fail
  refine (rTwo_ok p q cap l 2 _ HS7.out.head (by omega) (by omega) HBL.out).mono ?_
  rintro e w6 ⟨rfl, T6⟩
  have HS8 := Lib.hid (HS7.out.did T6)
  clear T6 HS7
  go_wp2_with fail
  have R4 := rFour_ok p q cap l 4 _ HS8.out.head (by omega) (by omega) HBL.out
  rw [HV3.out] at R4
  refine R4.mono ?_
  rintro e w7 ⟨rfl, T7⟩
  have S9 := HS8.out.did T7
  have o1 : w7.cell? ⟨w2.heap.size, 1, none⟩ = some (.int .u32 0) := (S9.at_ 2 rfl).cell 1
  have ox1 : w7.frozen? ⟨w2.heap.size, 1, none⟩ = false := (S9.at_ 2 rfl).frozen 1
  have S10 : Sep None w (w7.setCell ⟨w2.heap.size, 1, none⟩ (.int .u32 s.num)) (rdr p q cap l 8 ++ ([Ob.blk w2.heap.size SgT (sgc ⟨s.kind, s.num, Opt.zero, []⟩ none 0 none 0)] ++ [Ob.blk w.heap.size SgT (sgc Sgm.zero none 0 none 0)])) := S9.set 2 rfl 1 (.int .u32 s.num)
  have HS10 := Lib.hid S10
  clear R4 T7 HS8 S9 S10
  go_wp2_with fail
  rw [show ((m : Int) * 4) = ((4 * m : Nat) : Int) by omega]
  have R5 := rTake_ok p q cap l 8 (4 * m) _ HS10.out.head (by omega) (by omega)
  rw [HV4.out] at R5
  refine R5.mono ?_
  rintro e w8 ⟨x, cx, rfl, T8⟩
  have HS11 := Lib.hid (HS10.out.did T8)
  clear R5 T8 HS10 o1 ox1
  go_wp2_with fail
  have R6 := parse_any x cx ob _ (.inr (Owns.reads (f := u8c) (T := U8T) (HS11.out.at_ 0 rfl)).2.1) HOB.out
  rw [HLM.out] at R6
  refine R6.mono ?_
  intro e w9 hpost
  unfold ParsePost at hpost
  rw [HPE.out] at hpost
  obtain ⟨q5, c5, rfl, T9⟩ := hpost
  have S12 : Sep None w w9 (([blrow q5 c5 s.opt.blocks] ++ [brow x cx ob]) ++ (rdr p q cap l (8 + 4 * m) ++ ([Ob.blk w2.heap.size SgT (sgc ⟨s.kind, s.num, Opt.zero, []⟩ none 0 none 0)] ++ [Ob.blk w.heap.size SgT (sgc Sgm.zero none 0 none 0)]))) := HS11.out.beside T9
  have S13 := S12.swapL
  have o2 : w9.cell? ⟨w2.heap.size, 2, none⟩ = some (.int .i64 0) := (S13.at_ 4 rfl).cell 2
  have ox2 : w9.frozen? ⟨w2.heap.size, 2, none⟩ = false := (S13.at_ 4 rfl).frozen 2
  have o3 : w9.cell? ⟨w2.heap.size, 3, none⟩ = some (.bool false) := (S13.at_ 4 rfl).cell 3
  have ox3 : w9.frozen? ⟨w2.heap.size, 3, none⟩ = false := (S13.at_ 4 rfl).frozen 3
  have o4 : w9.cell? ⟨w2.heap.size, 4, none⟩ = some (.bool false) := (S13.at_ 4 rfl).cell 4
  have ox4 : w9.frozen? ⟨w2.heap.size, 4, none⟩ = false := (S13.at_ 4 rfl).frozen 4
  have o5 : w9.cell? ⟨w2.heap.size, 5, none⟩ = some (.int .u32 0) := (S13.at_ 4 rfl).cell 5
  have ox5 : w9.frozen? ⟨w2.heap.size, 5, none⟩ = false := (S13.at_ 4 rfl).frozen 5
  have o6 : w9.cell? ⟨w2.heap.size, 6, none⟩ = some (.int .u32 0) := (S13.at_ 4 rfl).cell 6
  have ox6 : w9.frozen? ⟨w2.heap.size, 6, none⟩ = false := (S13.at_ 4 rfl).frozen 6
  have o7 : w9.cell? ⟨w2.heap.size, 7, none⟩ = some (.bool false) := (S13.at_ 4 rfl).cell 7
  have ox7 : w9.frozen? ⟨w2.heap.size, 7, none⟩ = false := (S13.at_ 4 rfl).frozen 7
  have o8 : w9.cell? ⟨w2.heap.size, 8, none⟩ = some (.int .i64 0) := (S13.at_ 4 rfl).cell 8
  have ox8 : w9.frozen? ⟨w2.heap.size, 8, none⟩ = false := (S13.at_ 4 rfl).frozen 8
  have o9 : w9.cell? ⟨w2.heap.size, 9, none⟩ = some (.slice none 0 0) := (S13.at_ 4 rfl).cell 9
  have ox9 : w9.frozen? ⟨w2.heap.size, 9, none⟩ = false := (S13.at_ 4 rfl).frozen 9
  have S14 : Sep None w _ (rdr p q cap l (8 + 4 * m) ++ (([blrow q5 c5 s.opt.blocks] ++ [brow x cx ob]) ++ ([Ob.blk w2.heap.size SgT (sgc ⟨s.kind, s.num, s.opt, []⟩ q5 c5 none 0)] ++ [Ob.blk w.heap.size SgT (sgc Sgm.zero none 0 none 0)]))) := ((((((((S13.set 4 rfl 2 (.int .i64 s.opt.mss)).set 4 rfl 3 (.bool s.opt.permit)).set 4 rfl 4 (.bool s.opt.ts)).set 4 rfl 5 (.int .u32 s.opt.val)).set 4 rfl 6 (.int .u32 s.opt.ecr)).set 4 rfl 7 (.bool s.opt.has)).set 4 rfl 8 (.int .i64 s.opt.scale)).set 4 rfl 9 (.slice q5 s.opt.blocks.length c5))
  have HS14 := Lib.hid S14
  clear R6 T9 HS11 S12 S13 S14
  go_wp2_with fail
  have R7 := rRest_any p q cap l (8 + 4 * m) _ HS14.out.head (by omega) (by omega)
  rw [HV5.out] at R7
  refine R7.mono ?_
  rintro e w10 ⟨x6, c6, rfl, T10⟩
  have S15 := HS14.out.did T10
  clear o2 ox2 o3 ox3 o4 ox4 o5 ox5 o6 ox6 o7 ox7 o8 ox8 o9 ox9
  have o0 : w10.cell? ⟨w2.heap.size, 0, none⟩ = some (.int .i64 s.kind) := (S15.at_ 5 rfl).cell 0
  have ox0 : w10.frozen? ⟨w2.heap.size, 0, none⟩ = false := (S15.at_ 5 rfl).frozen 0
  have o1 : w10.cell? ⟨w2.heap.size, 1, none⟩ = some (.int .u32 s.num) := (S15.at_ 5 rfl).cell 1
  have ox1 : w10.frozen? ⟨w2.heap.size, 1, none⟩ = false := (S15.at_ 5 rfl).frozen 1
  have o2 : w10.cell? ⟨w2.heap.size, 2, none⟩ = some (.int .i64 s.opt.mss) := (S15.at_ 5 rfl).cell 2
  have ox2 : w10.frozen? ⟨w2.heap.size, 2, none⟩ = false := (S15.at_ 5 rfl).frozen 2
  have o3 : w10.cell? ⟨w2.heap.size, 3, none⟩ = some (.bool s.opt.permit) := (S15.at_ 5 rfl).cell 3
  have ox3 : w10.frozen? ⟨w2.heap.size, 3, none⟩ = false := (S15.at_ 5 rfl).frozen 3
  have o4 : w10.cell? ⟨w2.heap.size, 4, none⟩ = some (.bool s.opt.ts) := (S15.at_ 5 rfl).cell 4
  have ox4 : w10.frozen? ⟨w2.heap.size, 4, none⟩ = false := (S15.at_ 5 rfl).frozen 4
  have o5 : w10.cell? ⟨w2.heap.size, 5, none⟩ = some (.int .u32 s.opt.val) := (S15.at_ 5 rfl).cell 5
  have ox5 : w10.frozen? ⟨w2.heap.size, 5, none⟩ = false := (S15.at_ 5 rfl).frozen 5
  have o6 : w10.cell? ⟨w2.heap.size, 6, none⟩ = some (.int .u32 s.opt.ecr) := (S15.at_ 5 rfl).cell 6
  have ox6 : w10.frozen? ⟨w2.heap.size, 6, none⟩ = false := (S15.at_ 5 rfl).frozen 6
  have o7 : w10.cell? ⟨w2.heap.size, 7, none⟩ = some (.bool s.opt.has) := (S15.at_ 5 rfl).cell 7
  have ox7 : w10.frozen? ⟨w2.heap.size, 7, none⟩ = false := (S15.at_ 5 rfl).frozen 7
  have o8 : w10.cell? ⟨w2.heap.size, 8, none⟩ = some (.int .i64 s.opt.scale) := (S15.at_ 5 rfl).cell 8
  have ox8 : w10.frozen? ⟨w2.heap.size, 8, none⟩ = false := (S15.at_ 5 rfl).frozen 8
  have o9 : w10.cell? ⟨w2.heap.size, 9, none⟩ = some (.slice q5 s.opt.blocks.length c5) := (S15.at_ 5 rfl).cell 9
  have ox9 : w10.frozen? ⟨w2.heap.size, 9, none⟩ = false := (S15.at_ 5 rfl).frozen 9
  have o10 : w10.cell? ⟨w2.heap.size, 10, none⟩ = some (.slice none 0 0) := (S15.at_ 5 rfl).cell 10
  have ox10 : w10.frozen? ⟨w2.heap.size, 10, none⟩ = false := (S15.at_ 5 rfl).frozen 10
  have S16 : Sep None w (w10.setCell ⟨w2.heap.size, 10, none⟩ (.slice x6 s.body.length c6)) ((brow x6 c6 s.body :: rdr p q cap l (8 + 4 * m)) ++ (([blrow q5 c5 s.opt.blocks] ++ [brow x cx ob]) ++ ([Ob.blk w2.heap.size SgT (sgc s q5 c5 x6 c6)] ++ [Ob.blk w.heap.size SgT (sgc Sgm.zero none 0 none 0)]))) := S15.set 5 rfl 10 (.slice x6 s.body.length c6)
  have HS16 := Lib.hid S16
  clear R7 T10 HS14 S15 S16
  go_wp2_with fail
  refine (HCH.out q5 c5 x6 c6 _).mono ?_
  rintro e w11 ⟨rfl, f11⟩
  have S17 := HS16.out.same f11
  clear o0 ox0 o1 ox1 o2 ox2 o3 ox3 o4 ox4 o5 ox5 o6 ox6 o7 ox7 o8 ox8 o9 ox9 o10 ox10
  have o0 : w11.cell? ⟨w2.heap.size, 0, none⟩ = some (.int .i64 s.kind) := (S17.at_ 5 rfl).cell 0
  have ox0 : w11.frozen? ⟨w2.heap.size, 0, none⟩ = false := (S17.at_ 5 rfl).frozen 0
  have o1 : w11.cell? ⟨w2.heap.size, 1, none⟩ = some (.int .u32 s.num) := (S17.at_ 5 rfl).cell 1
  have ox1 : w11.frozen? ⟨w2.heap.size, 1, none⟩ = false := (S17.at_ 5 rfl).frozen 1
  have o2 : w11.cell? ⟨w2.heap.size, 2, none⟩ = some (.int .i64 s.opt.mss) := (S17.at_ 5 rfl).cell 2
  have ox2 : w11.frozen? ⟨w2.heap.size, 2, none⟩ = false := (S17.at_ 5 rfl).frozen 2
  have o3 : w11.cell? ⟨w2.heap.size, 3, none⟩ = some (.bool s.opt.permit) := (S17.at_ 5 rfl).cell 3
  have ox3 : w11.frozen? ⟨w2.heap.size, 3, none⟩ = false := (S17.at_ 5 rfl).frozen 3
  have o4 : w11.cell? ⟨w2.heap.size, 4, none⟩ = some (.bool s.opt.ts) := (S17.at_ 5 rfl).cell 4
  have ox4 : w11.frozen? ⟨w2.heap.size, 4, none⟩ = false := (S17.at_ 5 rfl).frozen 4
  have o5 : w11.cell? ⟨w2.heap.size, 5, none⟩ = some (.int .u32 s.opt.val) := (S17.at_ 5 rfl).cell 5
  have ox5 : w11.frozen? ⟨w2.heap.size, 5, none⟩ = false := (S17.at_ 5 rfl).frozen 5
  have o6 : w11.cell? ⟨w2.heap.size, 6, none⟩ = some (.int .u32 s.opt.ecr) := (S17.at_ 5 rfl).cell 6
  have ox6 : w11.frozen? ⟨w2.heap.size, 6, none⟩ = false := (S17.at_ 5 rfl).frozen 6
  have o7 : w11.cell? ⟨w2.heap.size, 7, none⟩ = some (.bool s.opt.has) := (S17.at_ 5 rfl).cell 7
  have ox7 : w11.frozen? ⟨w2.heap.size, 7, none⟩ = false := (S17.at_ 5 rfl).frozen 7
  have o8 : w11.cell? ⟨w2.heap.size, 8, none⟩ = some (.int .i64 s.opt.scale) := (S17.at_ 5 rfl).cell 8
  have ox8 : w11.frozen? ⟨w2.heap.size, 8, none⟩ = false := (S17.at_ 5 rfl).frozen 8
  have o9 : w11.cell? ⟨w2.heap.size, 9, none⟩ = some (.slice q5 s.opt.blocks.length c5) := (S17.at_ 5 rfl).cell 9
  have ox9 : w11.frozen? ⟨w2.heap.size, 9, none⟩ = false := (S17.at_ 5 rfl).frozen 9
  have o10 : w11.cell? ⟨w2.heap.size, 10, none⟩ = some (.slice x6 s.body.length c6) := (S17.at_ 5 rfl).cell 10
  have ox10 : w11.frozen? ⟨w2.heap.size, 10, none⟩ = false := (S17.at_ 5 rfl).frozen 10
  have d0 : w11.cell? ⟨w.heap.size, 0, none⟩ = some (.int .i64 0) := (S17.at_ 6 rfl).cell 0
  have dx0 : w11.frozen? ⟨w.heap.size, 0, none⟩ = false := (S17.at_ 6 rfl).frozen 0
  have d1 : w11.cell? ⟨w.heap.size, 1, none⟩ = some (.int .u32 0) := (S17.at_ 6 rfl).cell 1
  have dx1 : w11.frozen? ⟨w.heap.size, 1, none⟩ = false := (S17.at_ 6 rfl).frozen 1
  have d2 : w11.cell? ⟨w.heap.size, 2, none⟩ = some (.int .i64 0) := (S17.at_ 6 rfl).cell 2
  have dx2 : w11.frozen? ⟨w.heap.size, 2, none⟩ = false := (S17.at_ 6 rfl).frozen 2
  have d3 : w11.cell? ⟨w.heap.size, 3, none⟩ = some (.bool false) := (S17.at_ 6 rfl).cell 3
  have dx3 : w11.frozen? ⟨w.heap.size, 3, none⟩ = false := (S17.at_ 6 rfl).frozen 3
  have d4 : w11.cell? ⟨w.heap.size, 4, none⟩ = some (.bool false) := (S17.at_ 6 rfl).cell 4
  have dx4 : w11.frozen? ⟨w.heap.size, 4, none⟩ = false := (S17.at_ 6 rfl).frozen 4
  have d5 : w11.cell? ⟨w.heap.size, 5, none⟩ = some (.int .u32 0) := (S17.at_ 6 rfl).cell 5
  have dx5 : w11.frozen? ⟨w.heap.size, 5, none⟩ = false := (S17.at_ 6 rfl).frozen 5
  have d6 : w11.cell? ⟨w.heap.size, 6, none⟩ = some (.int .u32 0) := (S17.at_ 6 rfl).cell 6
  have dx6 : w11.frozen? ⟨w.heap.size, 6, none⟩ = false := (S17.at_ 6 rfl).frozen 6
  have d7 : w11.cell? ⟨w.heap.size, 7, none⟩ = some (.bool false) := (S17.at_ 6 rfl).cell 7
  have dx7 : w11.frozen? ⟨w.heap.size, 7, none⟩ = false := (S17.at_ 6 rfl).frozen 7
  have d8 : w11.cell? ⟨w.heap.size, 8, none⟩ = some (.int .i64 0) := (S17.at_ 6 rfl).cell 8
  have dx8 : w11.frozen? ⟨w.heap.size, 8, none⟩ = false := (S17.at_ 6 rfl).frozen 8
  have d9 : w11.cell? ⟨w.heap.size, 9, none⟩ = some (.slice none 0 0) := (S17.at_ 6 rfl).cell 9
  have dx9 : w11.frozen? ⟨w.heap.size, 9, none⟩ = false := (S17.at_ 6 rfl).frozen 9
  have d10 : w11.cell? ⟨w.heap.size, 10, none⟩ = some (.slice none 0 0) := (S17.at_ 6 rfl).cell 10
  have dx10 : w11.frozen? ⟨w.heap.size, 10, none⟩ = false := (S17.at_ 6 rfl).frozen 10
  have S18 := ((((((((((S17.set 6 rfl 0 (.int .i64 s.kind)).set 6 rfl 1 (.int .u32 s.num)).set 6 rfl 2 (.int .i64 s.opt.mss)).set 6 rfl 3 (.bool s.opt.permit)).set 6 rfl 4 (.bool s.opt.ts)).set 6 rfl 5 (.int .u32 s.opt.val)).set 6 rfl 6 (.int .u32 s.opt.ecr)).set 6 rfl 7 (.bool s.opt.has)).set 6 rfl 8 (.int .i64 s.opt.scale)).set 6 rfl 9 (.slice q5 s.opt.blocks.length c5)).set 6 rfl 10 (.slice x6 s.body.length c6)
  have HS18 := Lib.hid S18
  clear f11 HS16 S17 S18
  go_wp2_with fail
  exact bodyPost_ret (v := .tuple #[.agg (sgc s q5 c5 x6 c6), .int .i64 0]) (by simp [results, Try.results19, go_sem, Sgm.zero, Opt.zero, d0, d1, d2, d3, d4, d5, d6, d7, d8, d9, d10]) rfl ⟨q5, c5, x6, c6, rfl, HS18.out.drop (.cons_cons _ (.cons _ (.cons _ (.cons_cons _ (List.nil_sublist _)))))⟩
end Go.Proofs.Ythkhfijfgpccbaa
