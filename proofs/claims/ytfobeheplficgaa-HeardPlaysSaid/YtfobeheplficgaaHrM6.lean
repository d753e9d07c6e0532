/- HeardKeeps: walked. -/
import Derived.Test.YtfobeheplficgaaHrM5
set_option linter.unusedVariables false
set_option linter.unusedSimpArgs false
namespace Go.Proofs.Ytfobeheplficgaa
open Go.RowKit Go.Und Go.Shelf
open Go.ChangeShapes Go.WideShapes Go.ChangeAt
attribute [local go_sem] Oper.semAt_some
attribute [local go_sem ↓] Go.wp_at_zero Go.wp_at_succ

theorem hT_ok {first num : Int} {n room : Nat} {l : List (Int × Int)} {b body : List Int} {o : Nat} (h : offH n first num = o) (h0 : 0 < body.length) (h1 : body.length ≤ 2048) (h2 : o + body.length ≤ n + room) : hT first num n room l b body = hTy l b body o := by
  unfold hT
  rw [h, if_pos (code_ok h0 h1 (by omega) (by omega))]
  rfl
theorem off_first (first : Int) : offH 0 first first = (0 : Nat) := by
  unfold offH
  rw [Int.sub_self]; rfl
theorem off_at {first : Int} {n f : Nat} (h : f ≤ 1000000) (hn : n ≤ 1000000) : offH n first ((first + f) % 4294967296) = (f : Nat) := by
  unfold offH sdI; omega
theorem cutB_run (q : Option Addr) (n cap k : Nat) (hk : k ≤ n) (hc : n ≤ cap) (W : World) : (Instr.sliceAt BlT (.slice q n cap) (some (.int .i64 (k : Int))) none none).run Try.prog W = .ok (.slice (if cap = k then q else q.map (·.add (k * 1))) (n - k) (cap - k)) W := by
  obtain ⟨i, hi, _, hz1, _⟩ := info_parts u8Info
  have h1 := run_cut_from (P := Try.prog) W BlT U8T i 1 Try.underlying62 hi hz1 q n cap .i64 (k : Int) (by omega) (by omega)
  rw [h1, show (k : Int).toNat = k by omega]
set_option maxRecDepth 100000 in
set_option maxHeartbeats 16000000 in
theorem heardKeeps_walk (w : World) (vf : Value) (uf : U) (hf : (Sh.int .u32).holds w uf [vf]) (vp : Value) (up : U) (hp : (Sh.slice (.int .u8)).holds w up [vp]) (vq : Value) (uq : U) (hq : (Sh.slice (.int .u8)).holds w uq [vq]) (va : Value) (ua : U) (ha : (Sh.int .u16).holds w ua [va]) :
    Calls Try.prog 8 #[vf, vp, vq, va] w fun e w' => e = .returned (.bool true) ∧ Below w.heap.size w w' := by
  obtain ⟨first, _, hf, wf⟩ := hf
  simp only [List.cons.injEq, and_true] at hf
  subst hf
  obtain ⟨at_, _, ha, wa⟩ := ha
  simp only [List.cons.injEq, and_true] at ha
  subst ha
  obtain ⟨pa, pc, p, rfl, hpc, hpm, hpr⟩ := bytes_of hp
  obtain ⟨qa, qc, q, rfl, hqc, hqm, hqr⟩ := bytes_of hq
  have hu := wf_u32 wf
  have hat : 0 ≤ at_ ∧ at_ < 65536 := by
    have h1 : IntKind.u16.min ≤ at_ ∧ at_ ≤ IntKind.u16.max := by simpa [Lit.wf] using wa
    exact ⟨h1.1, by have : IntKind.u16.max = 65535 := by decide
                    omega⟩
  clear hp hq wf wa
  unfold maxLen at hpm hqm
  by_cases c1 : p.length = 0
  · clear hpr hqr
    generalize p.length = pl at *
    generalize q.length = ql at *
    subst c1
    go_enter Try.func8, Try.ntmps8
    go_wp2_with ((with_reducible refine (known23_any _).mono ?_); rintro y0 w0 ⟨rfl, F0⟩; (first | (have HS1 := Lib.hid (Fr.trans HS0.out F0); clear HS0) | (have HS0 := Lib.hid F0)); clear F0)
    go_ret
    exact ⟨by simp, HS1.out.none_below⟩
  by_cases c2 : 2000 < p.length
  · have c1' : 0 < p.length := by omega
    clear hpr hqr
    generalize p.length = pl at *
    generalize q.length = ql at *
    go_enter Try.func8, Try.ntmps8
    go_wp2_with ((with_reducible refine (known23_any _).mono ?_); rintro y0 w0 ⟨rfl, F0⟩; (first | (have HS1 := Lib.hid (Fr.trans HS0.out F0); clear HS0) | (have HS0 := Lib.hid F0)); clear F0)
    go_ret
    exact ⟨by simp, HS1.out.none_below⟩
  by_cases c3 : q.length = 0
  · have c1' : 0 < p.length := by omega
    have c2' : p.length ≤ 2000 := by omega
    clear hpr hqr
    generalize p.length = pl at *
    generalize q.length = ql at *
    subst c3
    go_enter Try.func8, Try.ntmps8
    go_wp2_with ((with_reducible refine (known23_any _).mono ?_); rintro y0 w0 ⟨rfl, F0⟩; (first | (have HS1 := Lib.hid (Fr.trans HS0.out F0); clear HS0) | (have HS0 := Lib.hid F0)); clear F0)
    go_ret
    exact ⟨by simp, HS1.out.none_below⟩
  by_cases c4 : 2000 < q.length
  · have c1' : 0 < p.length := by omega
    have c2' : p.length ≤ 2000 := by omega
    have c3' : 0 < q.length := by omega
    clear hpr hqr
    generalize p.length = pl at *
    generalize q.length = ql at *
    go_enter Try.func8, Try.ntmps8
    go_wp2_with ((with_reducible refine (known23_any _).mono ?_); rintro y0 w0 ⟨rfl, F0⟩; (first | (have HS1 := Lib.hid (Fr.trans HS0.out F0); clear HS0) | (have HS0 := Lib.hid F0)); clear F0)
    go_ret
    exact ⟨by simp, HS1.out.none_below⟩
  have c1' : 0 < p.length := by omega
  have c2' : p.length ≤ 2000 := by omega
  have c3' : 0 < q.length := by omega
  have c4' : q.length ≤ 2000 := by omega
  have hpe : ¬ p = [] := fun h => by rw [h] at c1'; simp at c1'
  have hqe : ¬ q = [] := fun h => by rw [h] at c3'; simp at c3'
  have hp0 : ((p.length : Int) == 0) = false := beq_eq_false_iff_ne.2 (by omega)
  have hq0 : ((q.length : Int) == 0) = false := beq_eq_false_iff_ne.2 (by omega)
  have hp2 : (p.length : Int) ≤ 2000 := by omega
  have hq2 : (q.length : Int) ≤ 2000 := by omega
  have HP := Lib.hid (hpr c1')
  have HQ := Lib.hid (hqr c3')
  obtain ⟨m, rfl⟩ := Int.eq_ofNat_of_zero_le hat.1
  obtain ⟨f, hf⟩ : ∃ f, f = m % (p.length + 1) := ⟨_, rfl⟩
  have hfp : f ≤ p.length := by have := Nat.mod_lt m (show 0 < p.length + 1 by omega); omega
  have ef : (m : Int) % ((p.length : Int) + 1) = f := by rw [hf]; rfl
  have eft : (m : Int).tmod ((p.length : Int) + 1) = f := by rw [Int.tmod_eq_emod_of_nonneg (by omega)]; exact ef
  have hwm : wrap64 (m : Int) = m := by have := hat.2; unfold wrap64; omega
  have T1 := hT_ok (room := 65536) (l := []) (b := []) (off_first first) c1' (by omega) (by omega)
  have T2 := hT_ok (room := 65536) (l := [(0, (p.length : Int))]) (b := p) (off_at (first := first) (n := p.length) (f := f) (by omega) (by omega)) c3' (by omega) (by omega)
  have ea1 := addL_nil (P := p.length) (by omega) (by omega)
  have ea2 := add_one (P := p.length) (f := f) (Q := q.length) (by omega) (by omega) (by omega) (by omega) (by omega)
  have el1 := lay_nil p
  have el2 := lay_one p q hfp
  have eg1 := gap_one (P := p.length) (by omega) (by omega)
  have eg2 := gap_one (P := max (p.length : Int) (f + q.length)) (by omega) (by omega)
  have efr := (fresh_is (ok_one (P := p.length) (by omega) (by omega)) (o := f) (n := q.length) (by omega) (by omega)).trans (frN_one (by omega) (by omega) q.length)
  have edp := dup_one (P := p.length) (f := f) (Q := q.length) (by omega) (by omega) (by omega) (by omega) (by omega)
  have HALL := Lib.hid (And.intro T1 (And.intro T2 (And.intro ea1 (And.intro ea2 (And.intro el1 (And.intro el2 (And.intro eg1 (And.intro eg2 (And.intro efr edp)))))))))
  clear hpr hqr hf T1 T2 ea1 ea2 el1 el2 eg1 eg2 efr edp hat
  go_enter Try.func8, Try.ntmps8
  go_wp2_with fail
  refine (known23_any _).mono ?_
  rintro y0 w0 ⟨rfl, F0⟩
  have HF0 := Lib.hid F0
  clear F0
  go_wp2_with fail
  refine (hnew_any first 65536 (by omega) (by omega) w0).mono ?_
  rintro y1 w1 ⟨hp, gp, rb, rfl, T1⟩
  have HS1 := Lib.hid (show Sep None w w1 _ from (Sep.law w).same HF0.out |>.beside T1)
  clear T1
  go_wp2_with fail
  have HT := htake_all (D := None) (w0 := w) (R := []) hp gp first first none 0 [] none 0 [] rb 65536 (List.replicate 65536 0) [] pa pc p w1 HS1.out (fun V f _ => HP.out.fr (Sep.old HS1.out f) (fun _ _ h => h)) (hok_new (room := (List.replicate 65536 (0 : Int)).length) (by rw [List.length_replicate]; omega) _ rfl) (by rw [List.length_replicate]; omega) (by simp) (by simp)
  rw [List.length_replicate] at HT
  have HTk := Lib.hid HT
  clear HT
  refine HTk.out.mono ?_
  rintro y2 w2 ⟨q2, k2, tq2, tc2, text2, ring2, rfl, hok2, hrl2, _, S2⟩
  rw [show ([] : List Int).length = 0 from rfl, HALL.out.1] at hok2 S2
  unfold hTy at hok2 S2
  simp only [Int.zero_add, Int.ofNat_zero, Int.cast_ofNat_Int] at hok2 S2
  obtain ⟨-, hT2, ea1, ea2, el1, el2, eg1, eg2, efr, edp⟩ := HALL.out
  rw [ea1, el1] at hok2
  rw [ea1] at S2
  have hl2 : text2.length = p.length := by have := hok2.nx; rw [eg1] at this; omega
  obtain rfl : text2 = p := by have h := hok2.tx; rw [hl2, List.take_length] at h; exact h
  have HT2 := Lib.hid (htake_all (D := None) (w0 := w) (R := []) hp gp first ((first + f) % 4294967296) q2 k2 [(0, (text2.length : Int))] tq2 tc2 text2 rb 65536 ring2 text2 qa qc q w2 S2 (fun V f _ => HQ.out.fr (Sep.old S2 f) (fun _ _ h => h)) (by rw [hrl2]; exact hok2) (by omega) (by omega) (by simp))
  rw [hrl2, hT2] at HT2
  have HRl := Lib.hid hrl2
  generalize (hT first first 0 65536 [] [] text2).told = tv1 at *
  generalize (hT first first 0 65536 [] [] text2).c = tc1 at *
  clear hok2 S2 hl2 hT2 ea1 ea2 el1 el2 eg1 eg2 efr edp HTk HS1 hrl2
  go_wp2_with fail
  refine HT2.out.mono ?_
  rintro y3 w3 ⟨q3, k3, tq3, tc3, text3, ring3, rfl, hok3, hrl3, -, S3⟩
  obtain ⟨-, -, ea1, ea2, el1, el2, eg1, eg2, efr, edp⟩ := HALL.out
  unfold hTy at hok3 S3 ⊢
  rw [ea2, el2] at hok3
  rw [ea2] at S3
  simp only at hok3 S3 ⊢
  rw [ea2, el2, efr, edp]
  generalize (meetS (nextL [(0, (text2.length : Int))] f) ((f : Int), (f : Int) + q.length)).1 = md1 at *
  generalize (meetS (nextL [(0, (text2.length : Int))] f) ((f : Int), (f : Int) + q.length)).2 = md2 at *
  have hl3 : text3.length = (text2 ++ q.drop (text2.length - f)).length := by
    have h := hok3.nx
    rw [eg2] at h
    rw [List.length_append, List.length_drop]
    omega
  have ht3 : text3 = text2 ++ q.drop (text2.length - f) := by have h := hok3.tx; rw [hl3, List.take_length] at h; exact h
  generalize hfr : max ((f : Int) + q.length - text2.length) 0 = fr at *
  generalize hdb : decide ((f : Int) < text2.length) = db at *
  have HFD := Lib.hid (And.intro hfr hdb)
  have S4 := S3.alloc #[.int .i64 f, .int .i64 ((f : Int) + q.length), .int .i64 fr, .bool db, .int .i64 md1, .int .i64 md2] TdT
  obtain ⟨i, hi, hz0, hz1, hz2⟩ := info_parts u8Info
  have HI := Lib.hid (And.intro hi (And.intro hz0 (And.intro hz1 hz2))); clear hi hz0 hz1 hz2
  have HT3 := Lib.hid ht3
  have htl : text3.length ≤ 5000 := by rw [ht3, List.length_append, List.length_drop]; omega
  have hcut : text2.length - f ≤ q.length ∨ q.length < text2.length - f := by omega
  have HS4 := Lib.hid S4
  clear hok3 S3 S4 ea1 ea2 el1 el2 eg1 eg2 efr edp hl3 ht3 HT2 HALL HRl hrl3 hfr hdb
  go_wp2_with (at_builtin; refine Hold.out ?_)
  refine Hold.mk ?_
  have S5 := HS4.out.add (Ob.row 0 U8T 1 (.slice (some ⟨_, 0, none⟩) 0 0) 0 (fc u8c [])) ((Fr.refl None _).alloc (.cells #[] U8T)) (owns_bare (Blk.new _ U8T #[])) (fun k hk => by cases hk; exact Nat.le_refl _)
  simp only [World.size_alloc] at S5
  refine wpList_append_row _ rfl _ _ _ rfl 0 U8T i _ 1 1 Try.underlying62 HI.out.1 HI.out.2.1 HI.out.2.2.1 HI.out.2.2.2 rfl (by decide) _ 0 (fc u8c []) rfl (S5.at_ 0 rfl) pa text2.length pc (fc u8c text2) rfl (HP.out.fr S5.fr (fun _ _ h => h)) (fc_one u8c_one _) (by simp [maxLen]; omega) (by omega) (Nat.zero_le _) ?_
  intro q5 c5 w5 ho5 hf5 hb5
  rw [Nat.zero_add, fc_nil, List.nil_append] at ho5
  rw [Nat.zero_add] at hb5
  have S6 := S5.turn 0 rfl (brow q5 c5 text2) hf5 (fun _ _ h => h) ho5 (fun k hk => by
      have hk' : (Value.slice q5 text2.length c5).ownBlock = some k := hk
      rcases hb5 with e | e
      · exact .inl (Eq.trans e.symm hk')
      · rw [e] at hk'; cases hk'; exact .inr (Nat.le_refl _))
  simp only [List.set_cons_zero] at S6
  have HS6 := Lib.hid S6
  clear S5 S6 ho5 hf5 hb5 HS4
  simp only [Nat.zero_add]
  by_cases hbig : text2.length < f + q.length
  · have b1 : (text2.length : Int) < (f : Int) + q.length := by omega
    have b2 : IntKind.i64.wrap ((text2.length : Int) - (f : Int)) = ((text2.length - f : Nat) : Int) := by rw [IntWalk.i64_in _ (by omega)]; omega
    have b3 : (text2.length : Int) - (f : Int) = ((text2.length - f : Nat) : Int) := by omega
    have hcr := cutB_run qa q.length qc (text2.length - f) (by omega) hqc
    have HRd := Lib.hid (HQ.out.drop (k := text2.length - f) (by omega))
    rw [show (fc u8c q).drop ((text2.length - f) * 1) = fc u8c (q.drop (text2.length - f)) from fc_drop u8c_len q _] at HRd
    have hdl : (q.drop (text2.length - f)).length = q.length - (text2.length - f) := by rw [List.length_drop]
    have HDl := Lib.hid hdl
    generalize hqx : (if qc = text2.length - f then qa else qa.map (·.add ((text2.length - f) * 1))) = qx at *
    generalize hkx : text2.length - f = kx at *
    have hk1 : kx ≤ q.length := by omega
    clear hqx hdl
    have hw3 : text2.length + (q.length - kx) = text3.length := by rw [HT3.out, List.length_append, HDl.out]
    have hfr3 : (text3.length : Int) - text2.length = fr := by rw [← HFD.out.1]; omega
    go_wp2_with (at_builtin; refine Hold.out ?_)
    refine Hold.mk ?_
    refine wpList_append_row _ rfl _ _ _ rfl 0 U8T i _ 1 1 Try.underlying62 HI.out.1 HI.out.2.1 HI.out.2.2.1 HI.out.2.2.2 rfl (by decide) _ text2.length (fc u8c text2) rfl (HS6.out.at_ 0 rfl) qx (q.length - kx) (qc - kx) (fc u8c (q.drop kx)) rfl (HRd.out.fr HS6.out.fr (fun _ _ h => h)) (fc_one u8c_one _) (by simp [maxLen]; omega) (by omega) (Nat.zero_le _) ?_
    intro q7 c7 w7 ho7 hf7 hb7
    rw [← fc_append, ← HT3.out, hw3] at ho7
    rw [hw3] at hb7 ⊢
    have S7 := HS6.out.turn 0 rfl (brow q7 c7 text3) hf7 (fun _ _ h => h) ho7 (fun k hk => by
      have hk' : (Value.slice q7 text3.length c7).ownBlock = some k := hk
      rcases hb7 with e | e
      · exact .inl (Eq.trans e.symm hk')
      · rw [e] at hk'; cases hk'; exact .inr (Nat.le_refl _))
    simp only [List.set_cons_zero] at S7
    have HF3 := Lib.hid hfr3
    clear ho7 hf7 hb7 hw3 HS6 hcr HRd HDl hfr3
    have t2c : w7.cell? ⟨w3.heap.size, 2, none⟩ = some (.int .i64 fr) := (S7.at_ 1 rfl).cell 2
    have t3c : w7.cell? ⟨w3.heap.size, 3, none⟩ = some (.bool db) := (S7.at_ 1 rfl).cell 3
    have HX := Lib.hid (htext_any hp tq3 tc3 text3 w7 (by omega) ((show Blk w7 hp HdT _ from S7.at_ 4 rfl).cell 2) (brow_reads (S7.at_ 5 rfl)))
    have HS7 := Lib.hid S7
    have ef : IntKind.i64.wrap ((text3.length : Int) - text2.length) = fr := by rw [HF3.out]; exact IntWalk.i64_in _ (by have := HF3.out; omega)
    have ef0 : (text3.length : Int) - text2.length = fr := HF3.out
    have edb : (db == decide (f < text2.length)) = true := by rw [← HFD.out.2]; simp
    clear S7
    go_wp2_with fail
    refine HX.out.mono ?_
    rintro y8 w8 ⟨q8, c8, rfl, T8⟩
    have S8 := HS7.out.beside T8
    have t2c : w8.cell? ⟨w3.heap.size, 2, none⟩ = some (.int .i64 fr) := (S8.at_ 2 rfl).cell 2
    have t3c : w8.cell? ⟨w3.heap.size, 3, none⟩ = some (.bool db) := (S8.at_ 2 rfl).cell 3
    have HSm := Lib.hid (bSame_refl q8 q7 c8 c7 text3 w8 (brow_reads (S8.at_ 0 rfl)) (brow_reads (S8.at_ 1 rfl)) (by omega))
    have HS8 := Lib.hid S8
    clear S8 T8 HS7 HX
    go_wp2_with fail
    refine HSm.out.mono ?_
    rintro y9 w9 ⟨rfl, F9⟩
    have S9 := HS8.out.same F9
    have t2d : w9.cell? ⟨w3.heap.size, 2, none⟩ = some (.int .i64 fr) := (S9.at_ 2 rfl).cell 2
    have t3d : w9.cell? ⟨w3.heap.size, 3, none⟩ = some (.bool db) := (S9.at_ 2 rfl).cell 3
    have HS9 := Lib.hid S9
    clear S9 F9 HS8 HSm t2c t3c
    go_wp2_with fail
    refine (known23_any _).mono ?_
    rintro y10 w10 ⟨rfl, F10⟩
    have HF10 := Lib.hid (HS9.out.same F10).fr
    clear F10
    go_wp2_with fail
    go_ret
    exact ⟨by simp, HF10.out.none_below⟩
  · have hdn : q.drop (text2.length - f) = [] := List.drop_eq_nil_of_le (by omega)
    have h3 : text3 = text2 := by rw [HT3.out, hdn, List.append_nil]
    have b1 : ¬ (text2.length : Int) < (f : Int) + q.length := by omega
    have S7 := HS6.out
    have HF3 := Lib.hid (show (text2.length : Int) - text2.length = fr by rw [← HFD.out.1]; omega)
    clear hdn HS6
    subst h3
    obtain ⟨q7, hq7⟩ : ∃ q7, q7 = q5 := ⟨_, rfl⟩
    obtain ⟨c7, hc7⟩ : ∃ c7, c7 = c5 := ⟨_, rfl⟩
    obtain ⟨w7, hw7⟩ : ∃ w7, w7 = w5 := ⟨_, rfl⟩
    subst hq7 hc7 hw7
    have t2c : w7.cell? ⟨w3.heap.size, 2, none⟩ = some (.int .i64 fr) := (S7.at_ 1 rfl).cell 2
    have t3c : w7.cell? ⟨w3.heap.size, 3, none⟩ = some (.bool db) := (S7.at_ 1 rfl).cell 3
    have HX := Lib.hid (htext_any hp tq3 tc3 text3 w7 (by omega) ((show Blk w7 hp HdT _ from S7.at_ 4 rfl).cell 2) (brow_reads (S7.at_ 5 rfl)))
    have HS7 := Lib.hid S7
    have ef : IntKind.i64.wrap ((text3.length : Int) - text3.length) = fr := by rw [HF3.out]; exact IntWalk.i64_in _ (by have := HF3.out; omega)
    have ef0 : (text3.length : Int) - text3.length = fr := HF3.out
    have edb : (db == decide (f < text3.length)) = true := by rw [← HFD.out.2]; simp
    clear S7
    go_wp2_with fail
    refine HX.out.mono ?_
    rintro y8 w8 ⟨q8, c8, rfl, T8⟩
    have S8 := HS7.out.beside T8
    have t2c : w8.cell? ⟨w3.heap.size, 2, none⟩ = some (.int .i64 fr) := (S8.at_ 2 rfl).cell 2
    have t3c : w8.cell? ⟨w3.heap.size, 3, none⟩ = some (.bool db) := (S8.at_ 2 rfl).cell 3
    have HSm := Lib.hid (bSame_refl q8 q7 c8 c7 text3 w8 (brow_reads (S8.at_ 0 rfl)) (brow_reads (S8.at_ 1 rfl)) (by omega))
    have HS8 := Lib.hid S8
    clear S8 T8 HS7 HX
    go_wp2_with fail
    refine HSm.out.mono ?_
    rintro y9 w9 ⟨rfl, F9⟩
    have S9 := HS8.out.same F9
    have t2d : w9.cell? ⟨w3.heap.size, 2, none⟩ = some (.int .i64 fr) := (S9.at_ 2 rfl).cell 2
    have t3d : w9.cell? ⟨w3.heap.size, 3, none⟩ = some (.bool db) := (S9.at_ 2 rfl).cell 3
    have HS9 := Lib.hid S9
    clear S9 F9 HS8 HSm t2c t3c
    go_wp2_with fail
    refine (known23_any _).mono ?_
    rintro y10 w10 ⟨rfl, F10⟩
    have HF10 := Lib.hid (HS9.out.same F10).fr
    clear F10
    go_wp2_with fail
    go_ret
    exact ⟨by simp, HF10.out.none_below⟩
end Go.Proofs.Ytfobeheplficgaa
/- Pieces of one text, in whatever order: plain. -/
namespace Go.Proofs.Ytfobeheplficgaa
open Go.Und

/-- A receiver that has had pieces of one text. -/
structure OrdI (T : List Int) (P : Int → Prop) (l : List (Int × Int)) (b text ring : List Int) : Prop where
  hok : HOk 65536 l b text ring
  mem : ∀ o, memL l o ↔ P o
  tx : ∀ k : Nat, memL l k → b[k]? = T[k]?
theorem OrdI.len {T : List Int} {P : Int → Prop} {l : List (Int × Int)} {b text ring : List Int} (h : OrdI T P l b text ring) : text.length ≤ T.length := by
  rcases Nat.lt_or_ge T.length text.length with g | g
  · have hm := (gap_spec h.hok.ok).2.1 (T.length : Int) (by omega) (by rw [h.hok.nx]; omega)
    have h1 := h.tx T.length hm
    rw [List.getElem?_eq_none (Nat.le_refl _)] at h1
    have h2 := congrArg List.length h.hok.tx
    rw [List.length_take] at h2
    have h3 := List.getElem?_eq_none_iff.1 h1
    omega
  · exact g
theorem OrdI.text {T : List Int} {P : Int → Prop} {l : List (Int × Int)} {b text ring : List Int} (h : OrdI T P l b text ring) : text = T.take text.length := by
  have h2 := congrArg List.length h.hok.tx
  rw [List.length_take] at h2
  conv => lhs; rw [h.hok.tx]
  refine List.ext_getElem? fun k => ?_
  rw [List.getElem?_take, List.getElem?_take]
  split
  · exact h.tx k ((gap_spec h.hok.ok).2.1 k (by omega) (by rw [h.hok.nx]; omega))
  · rfl
theorem OrdI.same {T : List Int} {P : Int → Prop} {l m : List (Int × Int)} {b text ring b' text' ring' : List Int} (h : OrdI T P l b text ring) (h' : OrdI T P m b' text' ring') : l = m ∧ text = text' := by
  have e : l = m := ok_ext h.hok.ok h'.hok.ok fun o => by rw [h.mem, h'.mem]
  subst e
  have h1 := h.hok.nx
  have h2 := h'.hok.nx
  have e2 : text.length = text'.length := by omega
  exact ⟨rfl, by rw [h.text, h'.text, e2]⟩
theorem ord_new (T : List Int) (ring : List Int) (h : ring.length = 65536) : OrdI T (fun _ => False) [] [] [] ring :=
  ⟨hok_new (by decide) ring h, fun o => ⟨fun h => absurd h (memL_nil o), fun h => h.elim⟩, fun k h => absurd h (memL_nil _)⟩
theorem OrdI.congr {T : List Int} {P P' : Int → Prop} {l : List (Int × Int)} {b text ring : List Int} (h : OrdI T P l b text ring) (e : ∀ o, P o ↔ P' o) : OrdI T P' l b text ring := ⟨h.hok, fun o => (h.mem o).trans (e o), h.tx⟩
theorem ord_step {T : List Int} {P : Int → Prop} {l : List (Int × Int)} {b text ring text' ring' : List Int} {first : Int} {f L : Nat} (h : OrdI T P l b text ring) (hT2 : T.length ≤ 2000) (hf : f + L ≤ T.length)
    (h' : HOk 65536 (hT first ((first + f) % 4294967296) text.length 65536 l b ((T.drop f).take L)).l (hT first ((first + f) % 4294967296) text.length 65536 l b ((T.drop f).take L)).b text' ring') :
    OrdI T (fun o => P o ∨ inS ((f : Int), ((f + L : Nat) : Int)) o) (hT first ((first + f) % 4294967296) text.length 65536 l b ((T.drop f).take L)).l (hT first ((first + f) % 4294967296) text.length 65536 l b ((T.drop f).take L)).b text' ring' := by
  have hl := h.len
  have hbl : ((T.drop f).take L).length = L := by rw [List.length_take, List.length_drop]; omega
  have hoff := off_at (first := first) (n := text.length) (f := f) (by omega) (by omega)
  rcases hT_cases first ((first + f) % 4294967296) text.length 65536 l b ((T.drop f).take L) with ⟨o, _, h1, h2, h3, h4, e⟩ | ⟨h0, e⟩
  · rw [hoff] at h1
    obtain rfl : f = o := by omega
    rw [e] at h' ⊢
    unfold hTy at h' ⊢
    simp only at h' ⊢
    rw [hbl] at h2
    have hps : PrS ((f : Int), (f : Int) + ((T.drop f).take L).length) := ⟨by simp only; omega, by simp only; rw [hbl]; omega, by simp only; rw [hbl]; omega⟩
    obtain ⟨_, hm⟩ := add_ok h.hok.ok hps
    refine ⟨h', fun k => ?_, fun k hk => ?_⟩
    · rw [hm, h.mem, inS_pr ⟨by simp only; omega, by simp only; omega, by simp only; omega⟩]
      simp only; rw [hbl]; push_cast; exact Iff.rfl
    · by_cases g : memL l k
      · have hkb : k < b.length := by
          rcases Nat.lt_or_ge k text.length with g2 | g2
          · have h5 := congrArg List.length h.hok.tx
            rw [List.length_take] at h5; omega
          · exact (h.hok.rg k g g2).1
        rw [layB_old l _ b f hkb (fun _ => g)]
        exact h.tx k g
      · have hin := ((hm k).1 hk).resolve_left g
        simp only at hin
        rw [hbl] at hin
        rw [layB_new l g _ b f (by omega) (by rw [hbl]; omega), List.getElem?_take, if_pos (by omega), List.getElem?_drop, show f + (k - f) = k by omega]
  · have hL : L = 0 := by
      rcases Nat.eq_zero_or_pos L with g | g
      · exact g
      · refine absurd ?_ h0
        rw [hoff]
        exact code_ok (by rw [hbl]; exact g) (by rw [hbl]; omega) (by omega) (by rw [hbl]; omega)
    subst hL
    rw [e] at h' ⊢
    exact ⟨h', fun k => by
      simp only [hTn]
      rw [h.mem]
      exact ⟨.inl, fun hh => hh.elim id fun hh => absurd hh (inS_zero (by have : lenS ((f : Int), ((f + 0 : Nat) : Int)) = 0 := by
                                                                            rcases plainS_cases ((f : Int), ((f + 0 : Nat) : Int)) with ⟨_, h9⟩ | ⟨h9, _⟩
                                                                            · simp only at h9; omega
                                                                            · unfold lenS; rw [h9]; rfl
                                                                          exact this) k)⟩, h.tx⟩
end Go.Proofs.Ytfobeheplficgaa
