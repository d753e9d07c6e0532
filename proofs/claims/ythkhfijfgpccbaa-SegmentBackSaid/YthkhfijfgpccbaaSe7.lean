/- Segments: Encode, walked. -/
import Derived.Test.YthkhfijfgpccbaaSe6
import Derived.Test.YthkhfijfgpccbaaOn4
set_option linter.unusedVariables false
set_option linter.unusedSimpArgs false
namespace Go.Proofs.Ythkhfijfgpccbaa
open Go.RowKit Go.Und Go.Shelf
attribute [local go_sem] Oper.semAt_some

theorem sencode_no (s : Sgm) (q : Option Addr) (c : Nat) (p : Option Addr) (d : Nat) (w : World) (h : checkS s ≠ 0) :
    Calls Try.prog 18 #[.agg (sgc s q c p d)] w fun e w' => e = .returned (.tuple #[.slice none 0 0, .int .i64 (checkS s)]) ∧ Fr None w w' := by
  have HC := Lib.hid (fun W => scheck_any s q c p d W)
  have g2 : (checkS s != 0) = true := by simpa using h
  clear h
  generalize checkS s = z at *
  have S := Lib.hid ((Sep.law w).alloc (sgc s q c p d) SgT)
  go_enter Try.func18, Try.ntmps18
  go_wp2_with fail
  refine (HC.out _).mono ?_
  rintro e w1 ⟨rfl, f1⟩
  have F := Lib.hid (S.out.fr.trans f1)
  clear f1 HC S
  go_wp2_with fail
  go_ret2
  exact ⟨rfl, F.out⟩
theorem chk_eq (s : Sgm) : 65535 - sumB (formS s (encO s.opt) 0) = chkS s := rfl
theorem form_len (s : Sgm) (ob : List Int) (c : Int) : (formS s ob c).length = 8 + ob.length + s.body.length := by
  unfold formS
  simp only [List.length_append, be_len, List.length_cons, List.length_nil]
theorem encO_len40 {s : Sgm} (h : checkS s = 0) : (encO s.opt).length ≤ 40 := by
  obtain ⟨_, h2, _⟩ := checkS_zero h
  obtain ⟨_, _, g3, g4⟩ := check_zero0 h2
  have := encO_len s.opt g3
  omega
theorem sg_k {w : World} {b : Nat} {s : Sgm} {q : Option Addr} {c : Nat} {p : Option Addr} {d : Nat} (h : Blk w b SgT (sgc s q c p d)) : w.cell? ⟨b, 0, none⟩ = some (.int .i64 s.kind) ∧ w.cell? ⟨b, 1, none⟩ = some (.int .u32 s.num) ∧ w.cell? ⟨b, 2, none⟩ = some (.int .i64 s.opt.mss) ∧ w.cell? ⟨b, 3, none⟩ = some (.bool s.opt.permit) ∧ w.cell? ⟨b, 4, none⟩ = some (.bool s.opt.ts) ∧ w.cell? ⟨b, 5, none⟩ = some (.int .u32 s.opt.val) ∧ w.cell? ⟨b, 6, none⟩ = some (.int .u32 s.opt.ecr) ∧ w.cell? ⟨b, 7, none⟩ = some (.bool s.opt.has) ∧ w.cell? ⟨b, 8, none⟩ = some (.int .i64 s.opt.scale) ∧ w.cell? ⟨b, 9, none⟩ = some (.slice q s.opt.blocks.length c) ∧ w.cell? ⟨b, 10, none⟩ = some (.slice p s.body.length d) :=
  ⟨h.cell 0, h.cell 1, h.cell 2, h.cell 3, h.cell 4, h.cell 5, h.cell 6, h.cell 7, h.cell 8, h.cell 9, h.cell 10⟩
set_option maxHeartbeats 4000000 in
theorem sencode_ok (s : Sgm) (q : Option Addr) (c : Nat) (p : Option Addr) (d : Nat) (w : World) (hw : s.Wf) (h : checkS s = 0)
    (hr : 0 < s.opt.blocks.length → Reads w 2 q s.opt.blocks.length c (fc blc s.opt.blocks)) (hrb : ReadsB w 1 p s.body.length d (fc u8c s.body)) :
    Calls Try.prog 18 #[.agg (sgc s q c p d)] w fun e w' => ∃ q' c', e = .returned (.tuple #[.slice q' (encS_ s).length c', .int .i64 0]) ∧ Sep None w w' [brow q' c' (encS_ s)] := by
  have HC := Lib.hid (fun W => h ▸ scheck_any s q c p d W)
  obtain ⟨hk, h2, h3⟩ := checkS_zero h
  have HH := Lib.hid (And.intro h h2)
  have hl40 := encO_len40 h
  have hcb := chkS_bound s
  have HB := Lib.hid (fun c => formS_bytes hw h c)
  have hkk : 0 ≤ s.kind ∧ s.kind < 256 := by omega
  have hnum := hw.num
  have hopt := hw.opt
  have HR := Lib.hid hr
  have HRB := Lib.hid hrb
  have HW := Lib.hid hopt
  clear hr hrb hw hopt h h2 hk
  have S := Lib.hid ((Sep.law w).alloc (sgc s q c p d) SgT)
  go_enter Try.func18, Try.ntmps18
  go_wp2_with fail
  refine (HC.out _).mono ?_
  rintro e w1 ⟨rfl, f1⟩
  have S1 := S.out.same f1
  have o2 : w1.cell? ⟨w.heap.size, 2, none⟩ = some (.int .i64 s.opt.mss) := (S1.at_ 0 rfl).cell 2
  have o3 : w1.cell? ⟨w.heap.size, 3, none⟩ = some (.bool s.opt.permit) := (S1.at_ 0 rfl).cell 3
  have o4 : w1.cell? ⟨w.heap.size, 4, none⟩ = some (.bool s.opt.ts) := (S1.at_ 0 rfl).cell 4
  have o5 : w1.cell? ⟨w.heap.size, 5, none⟩ = some (.int .u32 s.opt.val) := (S1.at_ 0 rfl).cell 5
  have o6 : w1.cell? ⟨w.heap.size, 6, none⟩ = some (.int .u32 s.opt.ecr) := (S1.at_ 0 rfl).cell 6
  have o7 : w1.cell? ⟨w.heap.size, 7, none⟩ = some (.bool s.opt.has) := (S1.at_ 0 rfl).cell 7
  have o8 : w1.cell? ⟨w.heap.size, 8, none⟩ = some (.int .i64 s.opt.scale) := (S1.at_ 0 rfl).cell 8
  have o9 : w1.cell? ⟨w.heap.size, 9, none⟩ = some (.slice q s.opt.blocks.length c) := (S1.at_ 0 rfl).cell 9
  have HS1 := Lib.hid S1
  clear f1 HC S S1
  go_wp2_with fail
  refine (encode_ok s.opt q c _ HW.out HH.out.2 (fun g => (HR.out g).fr HS1.out.fr (fun _ _ h => h))).mono ?_
  rintro e w2 ⟨q2, c2, rfl, T2⟩
  have HS2 := Lib.hid (HS1.out.beside T2)
  clear T2 HS1 o2 o3 o4 o5 o6 o7 o8 o9
  go_wp2_with fail
  have hb0 : w.heap.size < w2.heap.size := (Blk.lt (HS2.out.at_ 1 rfl))
  have o0 : w2.cell? ⟨w.heap.size, 0, none⟩ = some (.int .i64 s.kind) := (HS2.out.at_ 1 rfl).cell 0
  have o1 : w2.cell? ⟨w.heap.size, 1, none⟩ = some (.int .u32 s.num) := (HS2.out.at_ 1 rfl).cell 1
  have o2 : w2.cell? ⟨w.heap.size, 2, none⟩ = some (.int .i64 s.opt.mss) := (HS2.out.at_ 1 rfl).cell 2
  have o3 : w2.cell? ⟨w.heap.size, 3, none⟩ = some (.bool s.opt.permit) := (HS2.out.at_ 1 rfl).cell 3
  have o4 : w2.cell? ⟨w.heap.size, 4, none⟩ = some (.bool s.opt.ts) := (HS2.out.at_ 1 rfl).cell 4
  have o5 : w2.cell? ⟨w.heap.size, 5, none⟩ = some (.int .u32 s.opt.val) := (HS2.out.at_ 1 rfl).cell 5
  have o6 : w2.cell? ⟨w.heap.size, 6, none⟩ = some (.int .u32 s.opt.ecr) := (HS2.out.at_ 1 rfl).cell 6
  have o7 : w2.cell? ⟨w.heap.size, 7, none⟩ = some (.bool s.opt.has) := (HS2.out.at_ 1 rfl).cell 7
  have o8 : w2.cell? ⟨w.heap.size, 8, none⟩ = some (.int .i64 s.opt.scale) := (HS2.out.at_ 1 rfl).cell 8
  have o9 : w2.cell? ⟨w.heap.size, 9, none⟩ = some (.slice q s.opt.blocks.length c) := (HS2.out.at_ 1 rfl).cell 9
  have o10 : w2.cell? ⟨w.heap.size, 10, none⟩ = some (.slice p s.body.length d) := (HS2.out.at_ 1 rfl).cell 10
  have HFo := Lib.hid (show ∀ ck, 0 ≤ ck ∧ ck < 65536 → ∀ W, Fr None w2 W → Calls Try.prog 39 #[.agg (sgc s q c p d), .slice q2 (encO s.opt).length c2, .int .u16 ck] W (fun e w' => ∃ q' c', e = .returned (.slice q' (formS s (encO s.opt) ck).length c') ∧ Sep None W w' [brow q' c' (formS s (encO s.opt) ck)]) from fun ck hck W hf =>
    form_any s q c p d q2 c2 (encO s.opt) ck W hkk hnum hck hl40 h3 ((Owns.reads (f := u8c) (T := U8T) (HS2.out.at_ 0 rfl)).2.1.fr hf (fun _ _ h => h)) (HRB.out.fr (HS2.out.fr.trans hf)))
  have hlf := form_len s (encO s.opt) 0
  have HSC := Lib.hid (show ∀ W q3 c3, Reads W 1 q3 (formS s (encO s.opt) 0).length c3 (fc u8c (formS s (encO s.opt) 0)) → ∀ sb, W.cell? ⟨sb, 0, none⟩ = some (.slice q3 (formS s (encO s.opt) 0).length c3) → Calls Try.prog 40 #[.slice (some ⟨sb, 0, none⟩) 1 1] W (fun e w' => e = .returned (.int .u16 (chkS s)) ∧ Fr None W w') from fun W q3 c3 h1 sb h2 =>
    sumCheck_any sb q3 c3 (formS s (encO s.opt) 0) W h2 h1 (HB.out 0) (by omega))
  have HF2 := Lib.hid (show Fr None w2 w2.drew from (Fr.refl None w2).drew)
  clear hlf
  go_region_held3 (fun w' => w'.cell? ⟨w.heap.size, 0, none⟩ = some (.int .i64 s.kind) ∧ w'.cell? ⟨w.heap.size, 1, none⟩ = some (.int .u32 s.num) ∧ w'.cell? ⟨w.heap.size, 2, none⟩ = some (.int .i64 s.opt.mss) ∧ w'.cell? ⟨w.heap.size, 3, none⟩ = some (.bool s.opt.permit) ∧ w'.cell? ⟨w.heap.size, 4, none⟩ = some (.bool s.opt.ts) ∧ w'.cell? ⟨w.heap.size, 5, none⟩ = some (.int .u32 s.opt.val) ∧ w'.cell? ⟨w.heap.size, 6, none⟩ = some (.int .u32 s.opt.ecr) ∧ w'.cell? ⟨w.heap.size, 7, none⟩ = some (.bool s.opt.has) ∧ w'.cell? ⟨w.heap.size, 8, none⟩ = some (.int .i64 s.opt.scale) ∧ w'.cell? ⟨w.heap.size, 9, none⟩ = some (.slice q s.opt.blocks.length c) ∧ w'.cell? ⟨w.heap.size, 10, none⟩ = some (.slice p s.body.length d)) (first | (with_reducible assumption) | (go_keep; done)) (first
    | ((with_reducible refine (HFo.out 0 (by decide) _ HF2.out).mono ?_); rintro e w3 ⟨q3, c3, rfl, T3⟩; have HS3 := Lib.hid (HS2.out.drew.beside T3); have K3 := sg_k (HS3.out.at_ 2 rfl); have HF3 := Lib.hid (HF2.out.trans T3.fr); clear T3)
    | (have HC := Lib.hid (HSC.out (w3.alloc (.cells #[.slice q3 (formS s (encO s.opt) 0).length c3] BsT)) q3 c3 (Owns.reads (f := u8c) (T := U8T) ((HS3.out.alloc #[.slice q3 (formS s (encO s.opt) 0).length c3] BsT).at_ 1 rfl)).2.1 w3.heap.size (((HS3.out.alloc #[.slice q3 (formS s (encO s.opt) 0).length c3] BsT).at_ 0 rfl).cell 0)); (with_reducible refine HC.out.mono ?_); rintro e w4 ⟨rfl, f4⟩; have HS4 := Lib.hid ((HS3.out.alloc #[.slice q3 (formS s (encO s.opt) 0).length c3] BsT).same f4); have K4 := sg_k (HS4.out.at_ 3 rfl); have HF4 := Lib.hid (show Fr None w2 w4 from (HF3.out.alloc _).trans f4); clear f4)
    | ((with_reducible refine (HFo.out (chkS s) (by omega) _ HF4.out).mono ?_); rintro e w5 ⟨q5, c5, rfl, T5⟩; have HS5 := Lib.hid (HS4.out.beside T5); have K5 := sg_k (HS5.out.at_ 4 rfl); clear T5)
    | fail)
  clear HFo HSC HF4 K5 o0 o1 o2 o3 o4 o5 o6 o7 o8 o9 o10
  have HS6 := Lib.hid (show Sep None w w5 [brow q5 c5 (encS_ s)] from HS5.out.drop (List.sublist_append_left _ _))
  rw [show formS s (encO s.opt) (chkS s) = encS_ s from rfl]
  go_wp2_with fail
  go_ret2
  exact ⟨q5, c5, rfl, HS6.out⟩
end Go.Proofs.Ythkhfijfgpccbaa
