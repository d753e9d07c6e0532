/- OptionSkips: the law, walked. -/
import Derived.Test.YthkhfijfgpccbaaOnB
set_option linter.unusedVariables false
set_option linter.unusedSimpArgs false
namespace Go.Proofs.Ythkhfijfgpccbaa
open Go.RowKit Go.Und
attribute [local go_sem] Oper.semAt_some
attribute [local go_sem ↓] Go.wp_at_zero Go.wp_at_succ

theorem wf_u8L {x : Int} (h : (Lit.int .u8 x).wf = true) : 0 ≤ x ∧ x < 256 := wf_u8 h
set_option maxRecDepth 100000 in
set_option maxHeartbeats 8000000 in
theorem optionSkips_walk (w : World) (vb : Value) (ub : U) (hb : (Sh.slice (.int .u8)).holds w ub [vb]) (hlb : ∀ a n c, vb = .slice a n c → n ≤ 140737488351232) (vm : Value) (um : U) (hm : (Sh.int .u8).holds w um [vm]) (vk : Value) (uk : U) (hk : (Sh.int .u8).holds w uk [vk]) (vt : Value) (ut : U) (ht : (Sh.slice (.int .u8)).holds w ut [vt]) (hlt : ∀ a n c, vt = .slice a n c → n ≤ 140737488351232) :
    Calls Try.prog 4 #[vb, vm, vk, vt] w fun e w' => e = .returned (.bool true) ∧ Below w.heap.size w w' := by
  obtain ⟨a, c, l, rfl, bl, hlm, hr⟩ := bytesB_of hb
  obtain ⟨a2, c2, t, rfl, bt, htm, hrt⟩ := bytesB_of ht
  have hlb2 := hlb a l.length c rfl
  obtain ⟨many, _, hm, wm⟩ := hm
  obtain ⟨kind, _, hk, wk⟩ := hk
  simp only [List.cons.injEq, and_true] at hm hk
  subst hm hk
  obtain ⟨m0, m1⟩ := wf_u8L wm
  obtain ⟨k0, k1⟩ := wf_u8L wk
  have HR := Lib.hid hr
  have HB := Lib.hid bl
  have HRT := Lib.hid hrt
  have HBT := Lib.hid bt
  clear hb ht hr hrt bl bt wm wk hlb hlt hlm htm
  obtain ⟨i, hi, hz0, hz1, hz2⟩ := info_parts u8Info
  have HI := Lib.hid (And.intro hi (And.intro hz0 (And.intro hz1 hz2))); clear hi hz0 hz1 hz2
  by_cases gx : kind ≤ 5 ∨ kind = 8 ∨ 30 < t.length
  · have g4 : kind ≤ 5 ∨ (5 < kind ∧ kind = 8) ∨ (5 < kind ∧ kind ≠ 8 ∧ 30 < t.length) := by omega
    clear gx
    rcases g4 with u1 | ⟨u1, rfl⟩ | ⟨u1, u2, u3⟩
    rotate_left 2
    · have u4 : (kind == 8) = false := by simpa using u2
      clear u2
      go_enter Try.func4, Try.ntmps4
      go_wp2_with fail
      refine (known_any _).mono ?_
      rintro e w1 ⟨rfl, f1⟩
      have HF1 := Lib.hid f1
      clear f1
      go_wp2_with fail
      refine (known_any _).mono ?_
      rintro e w2 ⟨rfl, f2⟩
      have F2 := Lib.hid (HF1.out.trans f2)
      clear f2 HF1
      go_wp2_with fail
      exact bodyPost_ret (v := .bool true) (by simp [results, Try.results4, go_sem]) rfl ⟨rfl, F2.out.none_below⟩
    all_goals
      go_enter Try.func4, Try.ntmps4
      go_wp2_with fail
      refine (known_any _).mono ?_
      rintro e w1 ⟨rfl, f1⟩
      have HF1 := Lib.hid f1
      clear f1
      go_wp2_with fail
      refine (known_any _).mono ?_
      rintro e w2 ⟨rfl, f2⟩
      have F2 := Lib.hid (HF1.out.trans f2)
      clear f2 HF1
      go_wp2_with fail
      exact bodyPost_ret (v := .bool true) (by simp [results, Try.results4, go_sem]) rfl ⟨rfl, F2.out.none_below⟩
  obtain ⟨u1, u2, u3⟩ : 5 < kind ∧ kind ≠ 8 ∧ t.length ≤ 30 := by omega
  clear gx
  have u4 : (kind == 8) = false := by simpa using u2
  have HU := Lib.hid u2
  clear u2
  go_enter Try.func4, Try.ntmps4
  go_wp2_with fail
  refine (known_any _).mono ?_
  rintro e w1 ⟨rfl, f1⟩
  have HF1 := Lib.hid f1
  clear f1
  go_wp2_with fail
  obtain ⟨m, hm⟩ : ∃ m : Nat, (m : Int) = many % 8 := ⟨(many % 8).toNat, by omega⟩
  have HM := Lib.hid hm
  have hm7 : m ≤ 7 := by omega
  clear hm
  go_loopg [9, 10] m (fun g cv iv wr => ∃ (k : Nat) (q : Option Addr) (d : Nat), k + g = m ∧ iv = .int .i64 k ∧ cv = .slice q k d ∧ GrowsR u8c 1 U8T w1 wr q k d (List.replicate k 1))
  case atStart => exact ⟨0, none, 0, by omega, rfl, rfl, ⟨rfl, Owns.nil u8c 1 U8T w1, fun b h => (by cases h), Fr.refl None w1⟩⟩
  case round =>
    obtain ⟨k, q, d, hk, rfl, rfl, G⟩ := hrel
    have HG := Lib.hid G
    clear G
    by_cases g : k < m
    · have z1 : (k : Int) < many % 8 := by rw [← HM.out]; omega
      go_wp2_with (at_builtin; refine Hold.out ?_)
      refine Hold.mk ?_
      refine wpList_append_row _ rfl _ _ _ rfl 0 U8T i _ 1 1 Try.underlying27 HI.out.1 HI.out.2.1 HI.out.2.2.1 HI.out.2.2.2 rfl (by decide) _ k (fc u8c (List.replicate k 1)) rfl (HG.out.row _) (some ⟨wr.heap.size, 0, none⟩) 1 1 (fc u8c [1]) rfl (reads_oneR wr U8T (1 : Int) u8c_len) (fc_one u8c_one _) (by simp [maxLen]; omega) (by omega) (Nat.zero_le _) ?_
      intro q2 d2 w2 ho2 hf2 hb2
      have G2 := (HG.out.alloc (.cells #[.int .u8 1] U8T)).step (r := [(1 : Int)]) (m := 1) rfl ho2 hf2 hb2
      rw [← List.replicate_succ'] at G2
      have HG2 := Lib.hid G2
      clear G2 ho2 hf2 hb2 HG
      go_wp2_with fail
      go_roundg (gk - 1)
      case measure => omega
      case rel => exact ⟨k + 1, q2, d2, by omega, by go_num, rfl, HG2.out⟩
    · obtain rfl : k = m := by omega
      have z1 : many % 8 ≤ (k : Int) := by rw [← HM.out]; exact Int.le_refl _
      have e8 : IntKind.u8.wrap (2 + (t.length : Int)) = 2 + t.length := by simp [IntKind.wrap, IntKind.bits, IntKind.signed]; omega
      go_wp2_with (at_builtin; refine Hold.out ?_)
      refine Hold.mk ?_
      refine wpList_append_row _ rfl _ _ _ rfl 0 U8T i _ 1 1 Try.underlying27 HI.out.1 HI.out.2.1 HI.out.2.2.1 HI.out.2.2.2 rfl (by decide) _ k (fc u8c (List.replicate k 1)) rfl (HG.out.row _) (some ⟨wr.heap.size, 0, none⟩) 2 2 (fc u8c [kind, 2 + (t.length : Int)]) rfl (reads_newR wr U8T [kind, 2 + (t.length : Int)] u8c_len) (fc_one u8c_one _) (by simp [maxLen]; omega) (by omega) (Nat.zero_le _) ?_
      intro q2 d2 w2 ho2 hf2 hb2
      have HG2 := Lib.hid ((HG.out.alloc (.cells #[.int .u8 kind, .int .u8 (2 + (t.length : Int))] U8T)).step (r := [kind, 2 + (t.length : Int)]) (m := 2) rfl ho2 hf2 hb2)
      clear ho2 hf2 hb2 HG
      go_wp2_with (at_builtin; refine Hold.out ?_)
      refine Hold.mk ?_
      refine wpList_append_rowB _ rfl _ _ _ rfl 0 U8T i _ 1 1 Try.underlying27 HI.out.1 HI.out.2.1 HI.out.2.2.1 HI.out.2.2.2 rfl (by decide) _ (k + 2) (fc u8c (List.replicate k 1 ++ [kind, 2 + (t.length : Int)])) rfl HG2.out.row0 a2 t.length c2 (fc u8c t) rfl (HRT.out.fr (HF1.out.trans HG2.out.fr)) (fc_one u8c_one _) (by simp [maxLen]; omega) (by omega) (Nat.zero_le _) ?_
      intro q3 d3 w3 ho3 hf3 hb3
      have HG3 := Lib.hid (HG2.out.step (r := t) rfl ho3 hf3 hb3)
      clear ho3 hf3 hb3 HG2
      go_wp2_with (at_builtin; refine Hold.out ?_)
      refine Hold.mk ?_
      refine wpList_append_rowB _ rfl _ _ _ rfl 0 U8T i _ 1 1 Try.underlying27 HI.out.1 HI.out.2.1 HI.out.2.2.1 HI.out.2.2.2 rfl (by decide) _ (k + 2 + t.length) (fc u8c (List.replicate k 1 ++ [kind, 2 + (t.length : Int)] ++ t)) rfl HG3.out.row0 a l.length c (fc u8c l) rfl (HR.out.fr (HF1.out.trans HG3.out.fr)) (fc_one u8c_one _) (by simp [maxLen]; omega) (by omega) (Nat.zero_le _) ?_
      intro q4 d4 w4 ho4 hf4 hb4
      have G4 := HG3.out.step (r := l) rfl ho4 hf4 hb4
      have hsk : k + 2 + t.length + l.length ≤ 40 → parseO (List.replicate k 1 ++ [kind, 2 + (t.length : Int)] ++ t ++ l) = parseO l := fun h => by
        have e : List.replicate k (1 : Int) ++ [kind, 2 + (t.length : Int)] ++ t ++ l = List.replicate k 1 ++ (kind :: (2 + (t.length : Int)) :: (t ++ l)) := by simp
        rw [e]
        exact parse_skip k ⟨u1, HU.out⟩ (by omega) (by simp; omega)
      have hbb : ∀ x ∈ List.replicate k (1 : Int) ++ [kind, 2 + (t.length : Int)] ++ t ++ l, 0 ≤ x ∧ x < 256 := fun x hx => by
        rcases List.mem_append.1 hx with hx | hx
        · rcases List.mem_append.1 hx with hx | hx
          · rcases List.mem_append.1 hx with hx | hx
            · rw [(List.mem_replicate.1 hx).2]; decide
            · simp at hx; omega
          · exact HBT.out x hx
        · exact HB.out x hx
      have HSK := Lib.hid hsk
      have HBB := Lib.hid hbb
      clear ho4 hf4 hb4 HG3 hsk hbb
      generalize List.replicate k (1 : Int) ++ [kind, 2 + (t.length : Int)] ++ t ++ l = cc at *
      generalize k + 2 + t.length + l.length = m4 at *
      have HCNT := Lib.hid G4.cnt
      have HG4 := Lib.hid G4
      clear G4
      by_cases hc : 40 < m4
      · clear HSK
        go_wp2_with fail
        refine (known_any _).mono ?_
        rintro e w5 ⟨rfl, f5⟩
        have F5 := Lib.hid ((HF1.out.trans HG4.out.fr).trans f5)
        clear f5
        go_wp2_with fail
        exact bodyPost_ret (v := .bool true) (by simp [results, Try.results4, go_sem]) rfl ⟨rfl, F5.out.none_below⟩
      · have hsk := HSK.out (by omega)
        have HPQ := Lib.hid hsk
        have hmay := parseO_may HB.out
        clear hsk HSK
        go_wp2_with fail
        refine (parse_any a c l w4 (HR.out.fr (HF1.out.trans HG4.out.fr)) HB.out).mono ?_
        intro e w5 hpost
        unfold ParsePost at hpost
        generalize hpo : parseO l = r at *
        obtain ⟨o, n⟩ := r
        dsimp only at hpost hmay
        obtain ⟨q5, c5, rfl, T5⟩ := hpost
        have ho4 := hmay.blocks
        have S5 := ((HG4.out.sep.beside T5).alloc (optc o q5 c5) OpT)
        have hrc := (Owns.reads (f := u8c) (T := U8T) (l := cc) (by have := S5.at_ 2 rfl; have e := HCNT.out; subst e; exact this)).2.1
        have HRC := Lib.hid hrc
        have HS5 := Lib.hid S5
        clear hrc S5 T5 hpo hmay
        have hpc := parse_any q4 d4 cc (w5.alloc (.cells (optc o q5 c5) OpT)) (.inr HRC.out) HBB.out
        rw [← HCNT.out] at hpc
        have HPC := Lib.hid hpc
        clear hpc
        go_wp2_with fail
        refine HPC.out.mono ?_
        intro e w6 hpost2
        unfold ParsePost at hpost2
        rw [HPQ.out] at hpost2
        obtain ⟨q6, c6, rfl, T6⟩ := hpost2
        have S6 := (HS5.out.beside T6).alloc (optc o q6 c6) OpT
        have hb1 : w5.heap.size < w6.heap.size := ((HS5.out.beside T6).at_ 1 rfl).lt
        have s0 : (w6.alloc (.cells (optc o q6 c6) OpT)).cell? ⟨w5.heap.size, 0, none⟩ = some (.int .i64 o.mss) := (S6.at_ 2 rfl).cell 0
        have s1 : (w6.alloc (.cells (optc o q6 c6) OpT)).cell? ⟨w5.heap.size, 1, none⟩ = some (.bool o.permit) := (S6.at_ 2 rfl).cell 1
        have s2 : (w6.alloc (.cells (optc o q6 c6) OpT)).cell? ⟨w5.heap.size, 2, none⟩ = some (.bool o.ts) := (S6.at_ 2 rfl).cell 2
        have s3 : (w6.alloc (.cells (optc o q6 c6) OpT)).cell? ⟨w5.heap.size, 3, none⟩ = some (.int .u32 o.val) := (S6.at_ 2 rfl).cell 3
        have s4 : (w6.alloc (.cells (optc o q6 c6) OpT)).cell? ⟨w5.heap.size, 4, none⟩ = some (.int .u32 o.ecr) := (S6.at_ 2 rfl).cell 4
        have s5 : (w6.alloc (.cells (optc o q6 c6) OpT)).cell? ⟨w5.heap.size, 5, none⟩ = some (.bool o.has) := (S6.at_ 2 rfl).cell 5
        have s6 : (w6.alloc (.cells (optc o q6 c6) OpT)).cell? ⟨w5.heap.size, 6, none⟩ = some (.int .i64 o.scale) := (S6.at_ 2 rfl).cell 6
        have s7 : (w6.alloc (.cells (optc o q6 c6) OpT)).cell? ⟨w5.heap.size, 7, none⟩ = some (.slice q5 o.blocks.length c5) := (S6.at_ 2 rfl).cell 7
        have HR5 := Lib.hid (Owns.reads (f := blc) (T := BlT) (S6.at_ 3 rfl)).2.1
        have HR6 := Lib.hid (Owns.reads (f := blc) (T := BlT) (S6.at_ 1 rfl)).2.1
        have HS6 := Lib.hid S6
        clear S6 T6 HS5 HPC HRC
        go_wp2_with fail
        refine (osame_any o q5 q6 c5 c6 _ (fun _ => HR5.out) (fun _ => HR6.out) (by omega)).mono ?_
        rintro e w7 ⟨rfl, f7⟩
        have F7 := Lib.hid ((HF1.out.trans HS6.out.fr).trans f7)
        clear f7 HR5 HR6
        go_wp2_with fail
        refine (known_any _).mono ?_
        rintro e w8 ⟨rfl, f8⟩
        have F8 := Lib.hid (F7.out.trans f8)
        clear f8 F7
        go_wp2_with fail
        exact bodyPost_ret (v := .bool true) (by simp [results, Try.results4, go_sem]) rfl ⟨rfl, F8.out.none_below⟩
end Go.Proofs.Ythkhfijfgpccbaa
