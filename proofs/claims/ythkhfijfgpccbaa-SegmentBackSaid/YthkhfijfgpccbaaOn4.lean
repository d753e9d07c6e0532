/- What writes blocks; all of an option's bytes: walked. -/
import Derived.Test.YthkhfijfgpccbaaOn3
import Derived.Test.YthkhfijfgpccbaaOc3
set_option linter.unusedVariables false
set_option linter.unusedSimpArgs false
namespace Go.Proofs.Ythkhfijfgpccbaa
open Go.RowKit Go.Und
attribute [local go_sem] Oper.semAt_some
attribute [local go_sem ↓] Go.wp_at_zero Go.wp_at_succ

set_option maxHeartbeats 1000000 in
theorem wr5_any (p : Nat) (q : Option Addr) (cap : Nat) (l : List Int) (po : Nat) (o : Opt) (qb : Option Addr) (cb pwb : Nat) (w : World) (hS : Sep (fpL (env p q cap l po o qb cb pwb)) w w (env p q cap l po o qb cb pwb)) (hl : l.length ≤ 1000) (hr : 0 < o.blocks.length → Reads w 2 qb o.blocks.length cb (fc blc o.blocks)) (hb : ∀ b ∈ o.blocks, (0 ≤ b.1 ∧ b.1 < 4294967296) ∧ 0 ≤ b.2 ∧ b.2 < 4294967296) (hfar : 0 < o.blocks.length → ∀ ad, qb = some ad → ¬ fpL (env p q cap l po o qb cb pwb) ad.block) (hn : o.blocks.length ≤ 4) :
    Calls Try.prog 64 #[.pointer (at0 po), .pointer (at0 pwb)] w fun e w' => e = .returned (.tuple #[]) ∧ ∃ q' cap', Sep (fpL (env p q cap l po o qb cb pwb)) w w' (env p q' cap' (l ++ encB o) po o qb cb pwb) := by
  obtain ⟨mss, permit, ts, val, ecr, has, scale, blocks⟩ := o
  dsimp only at hr hb hfar hn
  have o0 : w.cell? ⟨po, 7, none⟩ = some (.slice qb blocks.length cb) := (hS.at_ 2 rfl).cell 7
  have b0 : w.cell? ⟨pwb, 0, none⟩ = some (.pointer (at0 p)) := (hS.at_ 3 rfl).cell 0
  have S := Lib.hid hS
  clear hS
  by_cases g : 0 < blocks.length
  · have HR := Lib.hid (hr g)
    have hfar := hfar g
    clear hr
    have en : encB ⟨mss, permit, ts, val, ecr, has, scale, blocks⟩ = [5, 2 + 8 * (blocks.length : Int)] ++ blocks.flatMap blkB := by unfold encB; rw [if_pos g]
    have HE := Lib.hid en
    clear en
    have e9 : IntKind.u8.wrap (2 + 8 * (blocks.length : Int)) = 2 + 8 * (blocks.length : Int) := by simp [IntKind.wrap, IntKind.bits, IntKind.signed]; omega
    go_enter Try.func64, Try.ntmps64
    go_wp2_with fail
    have SA1 := S.out.skip (.cells (fc u8c [5, 2 + 8 * (blocks.length : Int)]).toArray U8T)
    refine (wAll_any p q cap l (some ⟨w.heap.size, 0, none⟩) 2 2 [5, 2 + 8 * (blocks.length : Int)] _ SA1.head (reads_newR w U8T [5, 2 + 8 * (blocks.length : Int)] u8c_len) (by first | omega | (simp [be_len]; omega)) (by decide)).mono ?_
    rintro e w1 ⟨rfl, q1, c1, T1⟩
    have S1 := SA1.did T1
    clear SA1 T1
    have o1 : w1.cell? ⟨po, 7, none⟩ = some (.slice qb blocks.length cb) := (S1.at_ 2 rfl).cell 7
    have HS1 := Lib.hid S1
    clear S1
    clear S o0 b0
    go_wp2_with fail
    go_loopg [20] blocks.length (fun g iv wr => ∃ (k : Nat) (q' : Option Addr) (c' : Nat), k + g = blocks.length ∧ iv = .int .i64 k ∧ Sep (fpL (env p q cap l po ⟨mss, permit, ts, val, ecr, has, scale, blocks⟩ qb cb pwb)) w wr (env p q' c' (l ++ [5, 2 + 8 * (blocks.length : Int)] ++ (blocks.take k).flatMap blkB) po ⟨mss, permit, ts, val, ecr, has, scale, blocks⟩ qb cb pwb))
    case atStart => exact ⟨0, q1, c1, by omega, rfl, by have := HS1.out; simpa using this⟩
    case round =>
      clear HS1
      obtain ⟨k, q5, c5, hk, rfl, S5⟩ := hrel
      by_cases g5 : k < blocks.length
      · have ex : blocks[k]? = some blocks[k] := List.getElem?_eq_getElem g5
        have hbk := hb blocks[k] (List.getElem_mem g5)
        have hts : l ++ [5, 2 + 8 * (blocks.length : Int)] ++ (blocks.take (k + 1)).flatMap blkB = l ++ [5, 2 + 8 * (blocks.length : Int)] ++ (blocks.take k).flatMap blkB ++ be 4 blocks[k].1 ++ be 4 blocks[k].2 := by
          rw [List.take_add_one, ex, List.flatMap_append]; simp only [Option.toList_some, List.flatMap_cons, List.flatMap_nil, List.append_nil, blkB, List.append_assoc]
        have hlen5 : (l ++ [5, 2 + 8 * (blocks.length : Int)] ++ (blocks.take k).flatMap blkB).length ≤ 2000 := by simp only [List.length_append, flat_len, List.length_take, List.length_cons, List.length_nil]; omega
        have HTS := Lib.hid hts
        obtain ⟨b, off, rfl, hc⟩ := (HR.out.fr S5.fr hfar).elem blc_len (by decide) ex
        generalize blocks[k] = y at *
        have x0 : wr.cell? ⟨b, off + k * 2, none⟩ = some (.int .u32 y.1) := hc 0 _ rfl
        have x1 : wr.cell? ⟨b, off + k * 2 + 1, none⟩ = some (.int .u32 y.2) := hc 1 _ rfl
        have b5 : wr.cell? ⟨pwb, 0, none⟩ = some (.pointer (at0 p)) := (S5.at_ 3 rfl).cell 0
        have HS5 := Lib.hid S5
        have hp5 : pwb < wr.heap.size := (S5.at_ 3 rfl).lt
        clear S5 hc ex hts
        generalize l ++ [5, 2 + 8 * (blocks.length : Int)] ++ (blocks.take k).flatMap blkB = l5 at *
        go_wp2_with fail
        have SA := HS5.out.alloc #[.int .u32 y.1, .int .u32 y.2] BlT
        have SB := HS5.out.skip (.cells #[.int .u32 y.1, .int .u32 y.2] BlT)
        refine (wFour_any p q5 c5 l5 y.1 _ SB.head hbk.1 (by omega)).mono ?_
        rintro e w6 ⟨rfl, q6, c6, T6⟩
        have S6 := SB.did T6
        have hy : Blk w6 wr.heap.size BlT #[.int .u32 y.1, .int .u32 y.2] := (SA.at_ 0 rfl).fr T6.fr (fun h => by
          obtain ⟨o, ho, hk⟩ := h
          have := Ob.lt o (HS5.out.ok o (List.mem_append_left _ ho)) hk
          omega)
        have x2 : w6.cell? ⟨wr.heap.size, 1, none⟩ = some (.int .u32 y.2) := hy.cell 1
        have b6 : w6.cell? ⟨pwb, 0, none⟩ = some (.pointer (at0 p)) := (S6.at_ 3 rfl).cell 0
        have HS6 := Lib.hid S6
        clear S6 SA SB T6 hy
        go_wp2_with fail
        refine (wFour_any p q6 c6 (l5 ++ be 4 y.1) y.2 _ HS6.out.self.head hbk.2 (by rw [List.length_append, be_len]; omega)).mono ?_
        rintro e w7 ⟨rfl, q7, c7, T7⟩
        have S7 := Lib.hid (HS6.out.did T7)
        clear T7
        go_wp2_with fail
        go_roundg (gk - 1)
        case measure => omega
        case rel => exact ⟨k + 1, q7, c7, by omega, by go_num, by rw [HTS.out]; exact S7.out⟩
      · obtain rfl : k = blocks.length := by omega
        rw [List.take_length] at S5
        have HS5 := Lib.hid S5
        clear S5
        go_wp2_with fail
        exact ⟨by simp, _, results_none rfl _ _ _, rfl, q5, c5, by have := HS5.out; rw [HE.out]; rwa [← List.append_assoc]⟩
  · have g0 : blocks = [] := List.length_eq_zero_iff.1 (by omega)
    subst g0
    clear g hr hfar
    go_enter Try.func64, Try.ntmps64
    go_wp2_with fail
    go_loopg [20] 0 (fun g iv wr => iv = .int .i64 0 ∧ wr = w)
    case atStart => exact ⟨rfl, rfl⟩
    case round =>
      obtain ⟨rfl, rfl⟩ := hrel
      go_wp2_with fail
      exact ⟨by simp, _, results_none rfl _ _ _, rfl, q, cap, by rw [show l ++ encB ⟨mss, permit, ts, val, ecr, has, scale, []⟩ = l by simp [encB]]; exact S.out⟩
abbrev wrs (po pwb : Nat) : Value := .agg #[.func (.func 57) #[] #[.pointer (at0 po), .pointer (at0 pwb)], .func (.func 60) #[] #[.pointer (at0 po), .pointer (at0 pwb)], .func (.func 61) #[] #[.pointer (at0 po), .pointer (at0 pwb)], .func (.func 63) #[] #[.pointer (at0 po), .pointer (at0 pwb)], .func (.func 64) #[] #[.pointer (at0 po), .pointer (at0 pwb)]]
theorem writers_any (o : Opt) (q : Option Addr) (c p : Nat) (w : World) :
    Calls Try.prog 28 #[.agg (optc o q c), .pointer (at0 p)] w fun e w' => e = .returned (wrs w.heap.size (w.heap.size + 1)) ∧ Sep None w w' [Ob.blk w.heap.size OpT (optc o q c), Ob.blk (w.heap.size + 1) PwT #[.pointer (at0 p)]] := by
  have S := Lib.hid ((((Sep.law w).alloc (optc o q c) OpT).alloc #[.pointer (at0 p)] PwT).skip (.cells #[.func (.func 57) #[] #[.pointer (at0 w.heap.size), .pointer (at0 (w.heap.size + 1))], .func (.func 60) #[] #[.pointer (at0 w.heap.size), .pointer (at0 (w.heap.size + 1))], .func (.func 61) #[] #[.pointer (at0 w.heap.size), .pointer (at0 (w.heap.size + 1))], .func (.func 63) #[] #[.pointer (at0 w.heap.size), .pointer (at0 (w.heap.size + 1))], .func (.func 64) #[] #[.pointer (at0 w.heap.size), .pointer (at0 (w.heap.size + 1))]] 57))
  simp only [World.size_alloc] at S
  go_enter Try.func28, Try.ntmps28
  go_wp2_with fail
  exact bodyPost_ret (v := wrs w.heap.size (w.heap.size + 1)) (by simp [results, Try.results28, go_sem]) rfl ⟨rfl, S.out.perm (List.Perm.swap _ _ _)⟩
theorem encode_no (o : Opt) (q : Option Addr) (c : Nat) (w : World) (h : checkO o ≠ 0) :
    Calls Try.prog 10 #[.agg (optc o q c)] w fun e w' => e = .returned (.tuple #[.slice none 0 0, .int .i64 (checkO o)]) ∧ Fr None w w' := by
  have HC := Lib.hid (fun W => check_any o q c W)
  have g1 : (checkO o == 0) = false := by simpa using h
  have g2 : (checkO o != 0) = true := by simpa using h
  clear h
  generalize checkO o = z at *
  have S := Lib.hid ((Sep.law w).alloc (optc o q c) OpT)
  go_enter Try.func10, Try.ntmps10
  go_wp2_with fail
  refine (HC.out _).mono ?_
  rintro e w1 ⟨rfl, f1⟩
  have F := Lib.hid (S.out.fr.trans f1)
  clear f1 HC S
  go_wp2_with fail
  go_ret2
  exact ⟨rfl, F.out⟩
def encK (o : Opt) (k : Nat) : List Int := ([encM o, encP o, encT o, encS o, encB o].take k).flatten
theorem wrs_ix0 (po pwb : Nat) (w : World) : (Instr.index 57 (wrs po pwb) (.int .i64 0)).run Try.prog w = .ok (.func (.func 57) #[] #[.pointer (at0 po), .pointer (at0 pwb)]) w := by kernel_rfl
theorem wrs_ix1 (po pwb : Nat) (w : World) : (Instr.index 57 (wrs po pwb) (.int .i64 1)).run Try.prog w = .ok (.func (.func 60) #[] #[.pointer (at0 po), .pointer (at0 pwb)]) w := by kernel_rfl
theorem wrs_ix2 (po pwb : Nat) (w : World) : (Instr.index 57 (wrs po pwb) (.int .i64 2)).run Try.prog w = .ok (.func (.func 61) #[] #[.pointer (at0 po), .pointer (at0 pwb)]) w := by kernel_rfl
theorem wrs_ix3 (po pwb : Nat) (w : World) : (Instr.index 57 (wrs po pwb) (.int .i64 3)).run Try.prog w = .ok (.func (.func 63) #[] #[.pointer (at0 po), .pointer (at0 pwb)]) w := by kernel_rfl
theorem wrs_ix4 (po pwb : Nat) (w : World) : (Instr.index 57 (wrs po pwb) (.int .i64 4)).run Try.prog w = .ok (.func (.func 64) #[] #[.pointer (at0 po), .pointer (at0 pwb)]) w := by kernel_rfl
attribute [local go_sem] wrs_ix0 wrs_ix1 wrs_ix2 wrs_ix3 wrs_ix4
def kv : Nat → Value
  | 0 => .int .i64 0
  | 1 => .int .i64 1
  | 2 => .int .i64 2
  | 3 => .int .i64 3
  | 4 => .int .i64 4
  | _ => .int .i64 5
theorem encK_len (o : Opt) (h : o.blocks.length ≤ 4) (k : Nat) : (encK o k).length ≤ 60 := by
  have e : (encL o).length ≤ 53 := by have := encL_len o; have := bareO_pos o h; omega
  have h2 : (encK o k).length ≤ (encL o).length := by
    have e2 : encL o = ([encM o, encP o, encT o, encS o, encB o]).flatten := by simp [encL]
    rw [e2, encK, ← List.take_append_drop k [encM o, encP o, encT o, encS o, encB o], List.flatten_append, List.length_append]
    rw [List.take_append_drop]
    omega
  omega
set_option maxRecDepth 100000 in
set_option maxHeartbeats 4000000 in
theorem encode_ok (o : Opt) (q : Option Addr) (c : Nat) (w : World) (hw : o.Wf) (h0 : checkO o = 0) (hr : 0 < o.blocks.length → Reads w 2 q o.blocks.length c (fc blc o.blocks)) :
    Calls Try.prog 10 #[.agg (optc o q c)] w fun e w' => ∃ q3 c3, e = .returned (.tuple #[.slice q3 (encO o).length c3, .int .i64 0]) ∧ Sep None w w' [brow q3 c3 (encO o)] := by
  obtain ⟨hm, hs, hn⟩ := check_zero h0
  have HC := Lib.hid (fun W => h0 ▸ check_any o q c W)
  have HW := Lib.hid hw
  have HR := Lib.hid hr
  have HM := Lib.hid hm
  have HSc := Lib.hid hs
  have HK := Lib.hid (encK_len o hn)
  have hlt : 0 < o.blocks.length → ∀ ad, q = some ad → ad.block < w.heap.size := fun h => (hr h).lt (by rw [fc_length blc_len]; omega)
  have HLT := Lib.hid hlt
  clear hlt hm hs hr hw h0
  have S := Lib.hid ((Sep.law w).alloc (optc o q c) OpT)
  go_enter Try.func10, Try.ntmps10
  go_wp2_with fail
  refine (HC.out _).mono ?_
  rintro e w1 ⟨rfl, f1⟩
  have S1 := S.out.same f1
  have o0 : w1.cell? ⟨w.heap.size, 0, none⟩ = some (.int .i64 o.mss) := (S1.at_ 0 rfl).cell 0
  have o1 : w1.cell? ⟨w.heap.size, 1, none⟩ = some (.bool o.permit) := (S1.at_ 0 rfl).cell 1
  have o2 : w1.cell? ⟨w.heap.size, 2, none⟩ = some (.bool o.ts) := (S1.at_ 0 rfl).cell 2
  have o3 : w1.cell? ⟨w.heap.size, 3, none⟩ = some (.int .u32 o.val) := (S1.at_ 0 rfl).cell 3
  have o4 : w1.cell? ⟨w.heap.size, 4, none⟩ = some (.int .u32 o.ecr) := (S1.at_ 0 rfl).cell 4
  have o5 : w1.cell? ⟨w.heap.size, 5, none⟩ = some (.bool o.has) := (S1.at_ 0 rfl).cell 5
  have o6 : w1.cell? ⟨w.heap.size, 6, none⟩ = some (.int .i64 o.scale) := (S1.at_ 0 rfl).cell 6
  have o7 : w1.cell? ⟨w.heap.size, 7, none⟩ = some (.slice q o.blocks.length c) := (S1.at_ 0 rfl).cell 7
  have hl1 : w.heap.size < w1.heap.size := (S1.at_ 0 rfl).lt
  have HS1 := Lib.hid S1
  clear S1 f1 S HC
  go_wp2_with fail
  have HWr := writers_any o q c w1.heap.size (w1.alloc (.cells #[.slice none 0 0] WrT))
  simp only [World.size_alloc] at HWr
  refine HWr.mono ?_
  clear HWr
  rintro e w2 ⟨rfl, T2⟩
  have S2 := ((HS1.out.alloc #[.slice none 0 0] WrT).beside T2).add (brow none 0 []) (Fr.refl None _) (Owns.nil u8c 1 U8T _) (fun k hk => by cases hk)
  have S3 : Sep None w w2 (env w1.heap.size none 0 [] (w1.heap.size + 1) o q c (w1.heap.size + 1 + 1)) := (S2.drop (List.sublist_append_left [brow none 0 [], Ob.blk (w1.heap.size + 1) OpT (optc o q c), Ob.blk (w1.heap.size + 1 + 1) PwT #[.pointer (at0 w1.heap.size)], Ob.blk w1.heap.size WrT #[.slice none 0 0]] [Ob.blk w.heap.size OpT (optc o q c)])).perm (List.perm_append_comm (l₁ := [brow none 0 [], Ob.blk (w1.heap.size + 1) OpT (optc o q c), Ob.blk (w1.heap.size + 1 + 1) PwT #[.pointer (at0 w1.heap.size)]]) (l₂ := [Ob.blk w1.heap.size WrT #[.slice none 0 0]]))
  have HR2 := Lib.hid (fun h : 0 < o.blocks.length => (HR.out h).fr S3.fr (fun _ _ h => h))
  have HFar := Lib.hid (fun (h : 0 < o.blocks.length) ad (had : q = some ad) => S3.far (b := ad.block) (fun h => h) (HLT.out h ad had))
  have hsz : ∀ (h : 0 < o.blocks.length) ad (had : q = some ad), ad.block < w2.heap.size := fun h ad had => Nat.lt_of_lt_of_le (HLT.out h ad had) S3.fr.size
  have HSZ := Lib.hid hsz
  have HS3 := Lib.hid S3
  clear S3 S2 T2 HS1 hsz HR HLT o0 o1 o2 o3 o4 o5 o6 o7
  generalize w1.heap.size = p at *
  generalize p + 1 + 1 = pwb at *
  generalize p + 1 = po at *
  go_wp2_with fail
  go_loopg [15] 5 (fun g iv wr => ∃ (k : Nat) (q' : Option Addr) (c' : Nat), k + g = 5 ∧ iv = kv k ∧ Sep (fpL (env p none 0 [] po o q c pwb)) w2 wr (env p q' c' (encK o k) po o q c pwb))
  case atStart => exact ⟨0, none, 0, rfl, rfl, HS3.out.self⟩
  case round =>
    obtain ⟨k, q5, c5, hk, rfl, S5⟩ := hrel
    have hlen := HK.out k
    have HS5 := Lib.hid S5
    clear S5
    have hk2 : k = 0 ∨ k = 1 ∨ k = 2 ∨ k = 3 ∨ k = 4 ∨ k = 5 := by omega
    rcases hk2 with rfl | rfl | rfl | rfl | rfl | rfl
    all_goals dsimp only [kv]
    · go_wp2_with fail
      refine (wr1_any p q5 c5 (encK o 0) po o q c pwb wr HS5.out.self (by omega) HM.out).mono ?_
      rintro e w6 ⟨rfl, q6, c6, T6⟩
      have S6 := Lib.hid (HS5.out.did0 T6)
      clear T6
      go_wp2_with fail
      go_roundg (gk - 1)
      case measure => omega
      case rel => exact ⟨1, q6, c6, by omega, rfl, by rw [show encK o 1 = encK o 0 ++ _ from by simp [encK, List.append_assoc]; rfl]; exact S6.out⟩
    · go_wp2_with fail
      refine (wr2_any p q5 c5 (encK o 1) po o q c pwb wr HS5.out.self (by omega) ).mono ?_
      rintro e w6 ⟨rfl, q6, c6, T6⟩
      have S6 := Lib.hid (HS5.out.did0 T6)
      clear T6
      go_wp2_with fail
      go_roundg (gk - 1)
      case measure => omega
      case rel => exact ⟨2, q6, c6, by omega, rfl, by rw [show encK o 2 = encK o 1 ++ _ from by simp [encK, List.append_assoc]; rfl]; exact S6.out⟩
    · go_wp2_with fail
      refine (wr3_any p q5 c5 (encK o 2) po o q c pwb wr HS5.out.self (by omega) HW.out.val HW.out.ecr).mono ?_
      rintro e w6 ⟨rfl, q6, c6, T6⟩
      have S6 := Lib.hid (HS5.out.did0 T6)
      clear T6
      go_wp2_with fail
      go_roundg (gk - 1)
      case measure => omega
      case rel => exact ⟨3, q6, c6, by omega, rfl, by rw [show encK o 3 = encK o 2 ++ _ from by simp [encK, List.append_assoc]; rfl]; exact S6.out⟩
    · go_wp2_with fail
      refine (wr4_any p q5 c5 (encK o 3) po o q c pwb wr HS5.out.self (by omega) HSc.out).mono ?_
      rintro e w6 ⟨rfl, q6, c6, T6⟩
      have S6 := Lib.hid (HS5.out.did0 T6)
      clear T6
      go_wp2_with fail
      go_roundg (gk - 1)
      case measure => omega
      case rel => exact ⟨4, q6, c6, by omega, rfl, by rw [show encK o 4 = encK o 3 ++ _ from by simp [encK, List.append_assoc]; rfl]; exact S6.out⟩
    · go_wp2_with fail
      refine (wr5_any p q5 c5 (encK o 4) po o q c pwb wr HS5.out.self (by omega) (fun h => (HR2.out h).fr HS5.out.fr (HFar.out h)) HW.out.blocks (fun h ad had => HS5.out.far (HFar.out h ad had) (HSZ.out h ad had)) hn).mono ?_
      rintro e w6 ⟨rfl, q6, c6, T6⟩
      have S6 := Lib.hid (HS5.out.did0 T6)
      clear T6
      go_wp2_with fail
      go_roundg (gk - 1)
      case measure => omega
      case rel => exact ⟨5, q6, c6, by omega, rfl, by rw [show encK o 5 = encK o 4 ++ _ from by simp [encK, List.append_assoc]; rfl]; exact S6.out⟩
    · have hlen2 : (encK o 5) = encL o := by simp [encK, encL]
      rw [hlen2] at HS5 hlen
      have hel := encO_len o hn
      have S6 := HS3.out.did0 HS5.out
      have HS6 := Lib.hid S6
      clear HS5 HS3 HFar HSZ HR2 S6 hk
      go_wp2_with fail
      go_loopg [] ((4 - (encL o).length % 4) % 4) (fun g wr2 => ∃ (j : Nat) (q' : Option Addr) (c' : Nat), j + g = (4 - (encL o).length % 4) % 4 ∧ Sep None w wr2 (env p q' c' (encL o ++ List.replicate j 0) po o q c pwb))
      case atStart => exact ⟨0, q5, c5, by omega, by simpa using HS6.out⟩
      case round =>
        clear HS6
        obtain ⟨j, q6, c6, hj, S7⟩ := hrel
        have hl7 : (encL o ++ List.replicate j 0).length = (encL o).length + j := by rw [List.length_append, List.length_replicate]
        have hrep : encL o ++ List.replicate (j + 1) 0 = (encL o ++ List.replicate j 0) ++ be 1 0 := by rw [List.replicate_succ', ← List.append_assoc]; rfl
        have hpad : gk = 0 → encL o ++ List.replicate j 0 = encO o := fun h => by unfold encO padTo; rw [show (4 - (encL o).length % 4) % 4 = j by omega]
        have HRP := Lib.hid hrep
        have HPD := Lib.hid hpad
        have hm7 : ((encL o ++ List.replicate j 0).length % 4 = 0 ↔ gk = 0) := by rw [hl7]; omega
        have hb7 : (encL o ++ List.replicate j 0).length ≤ 70 := by rw [hl7]; omega
        clear hrep hpad hl7
        generalize encL o ++ List.replicate j 0 = l7 at *
        have cw : wr.cell? ⟨p, 0, none⟩ = some (.slice q6 l7.length c6) := (S7.at_ 0 rfl).cell 0
        have HWL := Lib.hid (wLen_any p q6 c6 l7 wr cw)
        have HS7 := Lib.hid S7
        clear S7 cw
        by_cases g : gk = 0
        · have hz : l7.length % 4 = 0 := hm7.2 g
          have z1 : ((l7.length : Int) % 4 == 0) = true := by simp; omega
          have z2 : ((l7.length : Int) % 4 != 0) = false := by simp; omega
          have HEQ := Lib.hid (HPD.out g)
          clear hz hm7 HPD g
          go_wp2_with fail
          refine HWL.out.mono ?_
          rintro e w8 ⟨rfl, rfl⟩
          go_wp2_with fail
          refine (wBytes_any p q6 c6 l7 _ HS7.out.self.head (by omega)).mono ?_
          rintro e w9 ⟨q9, c9, rfl, T9⟩
          have S9 := Lib.hid ((HS7.out.beside T9).drop (List.sublist_append_left [brow q9 c9 l7] _))
          clear T9
          go_wp2_with fail
          go_ret2
          exact ⟨q9, c9, by rw [← HEQ.out]; rfl, by rw [← HEQ.out]; exact S9.out⟩
        · have hz : ¬ l7.length % 4 = 0 := fun h => g (hm7.1 h)
          have z1 : ((l7.length : Int) % 4 == 0) = false := by simp; omega
          have z2 : ((l7.length : Int) % 4 != 0) = true := by simp; omega
          clear hz hm7 HPD
          go_wp2_with fail
          refine HWL.out.mono ?_
          rintro e w8 ⟨rfl, rfl⟩
          go_wp2_with fail
          refine (wOne_any p q6 c6 l7 0 _ HS7.out.self.head (by decide) (by omega)).mono ?_
          rintro e w9 ⟨rfl, q9, c9, T9⟩
          have S9 := Lib.hid (HS7.out.did T9)
          clear T9
          go_wp2_with fail
          go_roundg (gk - 1)
          case measure => omega
          case rel => exact ⟨j + 1, q9, c9, by omega, by rw [HRP.out]; exact S9.out⟩
end Go.Proofs.Ythkhfijfgpccbaa
