/- Segments that came in; fixed calls: walked. -/
import Derived.Test.YthkhfijfgpccbaaSe8
import Derived.Test.YthkhfijfgpccbaaOnB
set_option linter.unusedVariables false
set_option linter.unusedSimpArgs false
namespace Go.Proofs.Ythkhfijfgpccbaa
open Go.RowKit Go.Und Go.Shelf
attribute [local go_sem] Oper.semAt_some
attribute [local go_sem ↓] Go.wp_at_zero Go.wp_at_succ

abbrev shSeg : Sh := .agg (.cons (.int .i64) (.cons (.int .u32) (.cons shOpt (.cons (.slice (.int .u8)) .nil))))
theorem sgm_of {W : World} {u : U} {cs : List Value} (h : shSeg.holds W u cs) : ∃ (s : Sgm) (q : Option Addr) (c : Nat) (p : Option Addr) (d : Nat), cs = (sgc s q c p d).toList ∧ s.Wf ∧ s.body.length ≤ maxLen ∧ ReadsB W 2 q s.opt.blocks.length c (fc blc s.opt.blocks) ∧ ReadsB W 1 p s.body.length d (fc u8c s.body) := by
  obtain ⟨_, _, g⟩ := h
  obtain ⟨_, _, _, _, _, e0, _, ⟨kind, _, rfl, _⟩, g⟩ := g
  obtain ⟨_, _, _, _, _, e1, _, ⟨num, _, rfl, wn⟩, g⟩ := g
  obtain ⟨_, _, c2, _, _, e2, l2, ho, g⟩ := g
  obtain ⟨_, _, c3, _, _, e3, l3, hb, g⟩ := g
  obtain ⟨_, rfl⟩ := g
  obtain ⟨v, rfl⟩ := List.length_eq_one_iff.1 (show c3.length = 1 from l3)
  obtain ⟨o, q, c, rfl, hw, hr⟩ := opt_of ho
  obtain ⟨p, d, l, rfl, hl, hm, hrb⟩ := bytesB_of hb
  subst e3 e2 e1 e0
  exact ⟨⟨kind, num, o, l⟩, q, c, p, d, rfl, ⟨wf_u32 wn, hw, hl⟩, hm, hr, hrb⟩

/-! The fixed calls. -/
def kSg : Sgm := ⟨2, 5, Opt.zero, []⟩
theorem kSg_enc : encS_ kSg = [2, 0, 253, 250, 0, 0, 0, 5] := by decide
theorem kSg_wf : kSg.Wf := ⟨by decide, ⟨by decide, by decide, by decide⟩, by decide⟩
set_option maxRecDepth 100000 in
set_option maxHeartbeats 2000000 in
theorem known5_any (w : World) : Calls Try.prog 17 #[] w fun e w' => e = .returned (.bool true) ∧ Fr None w w' := by
  have H1 := sencode_ok kSg none 0 none 0 w kSg_wf (by decide) (fun h => absurd h (by decide)) (.inr (Reads.empty _ _))
  have H2 := fun (a : Option Addr) (c : Nat) (W : World) (h : Reads W 1 a (encS_ kSg).length c (fc u8c (encS_ kSg))) => sdecode_ok kSg a c W kSg_wf (by decide) h
  rw [kSg_enc] at H1
  rw [kSg_enc] at H2
  have HE := Lib.hid H1
  have HD := Lib.hid H2
  clear H1 H2
  go_enter Try.func17, Try.ntmps17
  go_wp2_with fail
  refine HE.out.mono ?_
  rintro e w1 ⟨q1, c1, rfl, T1⟩
  have HS1 := Lib.hid T1
  clear T1 HE
  go_wp2_with fail
  refine (HD.out q1 c1 _ (Owns.reads (f := u8c) (T := U8T) (HS1.out.at_ 0 rfl)).2.1).mono ?_
  rintro e w2 ⟨q2, c2, p2, d2, rfl, T2⟩
  have S2 := (HS1.out.beside T2).alloc (sgc kSg q2 c2 p2 d2) SgT
  have HS2 := Lib.hid S2
  clear T2 S2 HS1 HD
  go_wp2_with fail
  have SB := HS2.out.skip (.cells (fc u8c [(2 : Int), 0, 253, 250, 0, 0, 0, 5]).toArray U8T)
  have hsm := bsame_any q1 (some ⟨(w2.alloc (.cells (sgc kSg q2 c2 p2 d2) SgT)).heap.size, 0, none⟩) c1 8 [2, 0, 253, 250, 0, 0, 0, 5] _ (Owns.reads (f := u8c) (T := U8T) (SB.at_ 3 rfl)).2.1 (reads_newR (w2.alloc (.cells (sgc kSg q2 c2 p2 d2) SgT)) U8T [(2 : Int), 0, 253, 250, 0, 0, 0, 5] u8c_len) (by decide)
  have c1' : ((w2.alloc (.cells (sgc kSg q2 c2 p2 d2) SgT)).alloc (.cells (fc u8c [(2 : Int), 0, 253, 250, 0, 0, 0, 5]).toArray U8T)).cell? ⟨w2.heap.size, 1, none⟩ = some (.int .u32 5) := (SB.at_ 0 rfl).cell 1
  simp only [World.size_alloc] at hsm
  refine hsm.mono ?_
  rintro e w3 ⟨rfl, n3, rfl⟩
  have F3 := Lib.hid (SB.fr.drewN n3)
  clear SB hsm HS2
  go_wp2_with fail
  go_ret
  exact ⟨rfl, F3.out⟩
end Go.Proofs.Ythkhfijfgpccbaa
