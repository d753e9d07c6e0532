/- Segments: the sum's tests, and the small looks, walked. -/
import Derived.Test.YthkhfijfgpccbaaSe2
import Derived.Test.YthkhfijfgpccbaaOn2
import Derived.Test.YthkhfijfgpccbaaSe0
set_option linter.unusedVariables false
set_option linter.unusedSimpArgs false
namespace Go.Proofs.Ythkhfijfgpccbaa
open Go.RowKit Go.Und Go.Shelf
attribute [local go_sem] Oper.semAt_some

abbrev SgT : TypeId := 40
abbrev sgc (s : Sgm) (q : Option Addr) (c : Nat) (p : Option Addr) (d : Nat) : Array Value := #[.int .i64 s.kind, .int .u32 s.num, .int .i64 s.opt.mss, .bool s.opt.permit, .bool s.opt.ts, .int .u32 s.opt.val, .int .u32 s.opt.ecr, .bool s.opt.has, .int .i64 s.opt.scale, .slice q s.opt.blocks.length c, .slice p s.body.length d]

set_option maxRecDepth 100000 in
set_option maxHeartbeats 2000000 in
theorem fine_any (a : Option Addr) (c : Nat) (l : List Int) (w : World) (hr : Reads w 1 a l.length c (fc u8c l)) (hb : ∀ x ∈ l, 0 ≤ x ∧ x < 256) (hl : l.length ≤ 100000) :
    Calls Try.prog 41 #[.slice a l.length c] w fun e w' => e = .returned (.bool (decide (sumB l = 65535))) ∧ Fr None w w' := by
  have S0 := (Sep.law w).alloc #[.slice a l.length c] BsT
  have he := (Blk.new w BsT #[.slice a l.length c]).cell 0
  have H := Lib.hid (of_any w.heap.size a c l (w.alloc (.cells #[.slice a l.length c] BsT)) he (hr.fr S0.fr (fun _ _ h => h)) hb hl)
  have HF := Lib.hid S0.fr
  clear S0 he hr
  go_enter Try.func41, Try.ntmps41
  go_wp2_with fail
  refine H.out.mono ?_
  rintro e w1 ⟨rfl, f1⟩
  have F := Lib.hid (HF.out.trans f1)
  clear f1 H
  go_wp2_with fail
  go_ret
  exact ⟨rfl, F.out⟩
theorem u16_not (v : Int) (h : 0 ≤ v ∧ v ≤ 65535) : bits .xor .u16 IntKind.u16.max v = 65535 - v := by
  have hb : (BitVec.ofInt 16 v).toNat = v.toNat := by rw [BitVec.toNat_ofInt]; omega
  have e : BitVec.ofInt 16 65535 ^^^ BitVec.ofInt 16 v = ~~~ (BitVec.ofInt 16 v) := by
    rw [show BitVec.ofInt 16 65535 = BitVec.allOnes 16 by decide]
    exact BitVec.allOnes_xor
  show IntKind.u16.wrap ((BitVec.ofInt 16 65535 ^^^ BitVec.ofInt 16 v).toNat : Int) = _
  rw [e, BitVec.toNat_not, hb]
  simp [IntKind.wrap, IntKind.bits, IntKind.signed]
  omega
theorem sumCheck_any (sb : Nat) (a : Option Addr) (c : Nat) (l : List Int) (w : World) (he : w.cell? ⟨sb, 0, none⟩ = some (.slice a l.length c)) (hr : Reads w 1 a l.length c (fc u8c l)) (hb : ∀ x ∈ l, 0 ≤ x ∧ x < 256) (hl : l.length ≤ 100000) :
    Calls Try.prog 40 #[.slice (some ⟨sb, 0, none⟩) 1 1] w fun e w' => e = .returned (.int .u16 (65535 - sumB l)) ∧ Fr None w w' := by
  have H := Lib.hid (of_any sb a c l w he hr hb hl)
  have hs := oc_bound (sumP false l)
  clear he hr
  unfold sumB
  generalize oc (sumP false l) = v at *
  go_enter Try.func40, Try.ntmps40
  go_wp2_with fail
  refine H.out.mono ?_
  rintro e w1 ⟨rfl, f1⟩
  have F := Lib.hid f1
  clear f1 H
  go_wp2_with fail
  go_ret
  exact ⟨by rw [← u16_not v hs]; rfl, F.out⟩
def kindS (s : Sgm) : Int := if s.kind ≠ 1 ∧ s.kind ≠ 2 then 8 else 0
theorem kind_any (s : Sgm) (q : Option Addr) (c : Nat) (p : Option Addr) (d : Nat) (w : World) :
    Calls Try.prog 42 #[.agg (sgc s q c p d)] w fun e w' => e = .returned (.int .i64 (kindS s)) ∧ Fr None w w' := by
  unfold kindS
  obtain ⟨k, num, opt, body⟩ := s
  by_cases h1 : k = 1
  · subst h1
    go_enter Try.func42, Try.ntmps42
    go_wp2_with fail
    go_ret
    exact ⟨rfl, (Fr.refl None w).alloc _⟩
  · by_cases h2 : k = 2
    · subst h2
      go_enter Try.func42, Try.ntmps42
      go_wp2_with fail
      go_ret
      exact ⟨rfl, (Fr.refl None w).alloc _⟩
    · have d1 : (k != 1) = true := by simpa using h1
      have d2 : (k != 2) = true := by simpa using h2
      go_enter Try.func42, Try.ntmps42
      go_wp2_with fail
      go_ret
      exact ⟨by simp [h1, h2], (Fr.refl None w).alloc _⟩
theorem look1_any (b : Nat) (s : Sgm) (q : Option Addr) (c : Nat) (p : Option Addr) (d : Nat) (w : World) (hB : Blk w b SgT (sgc s q c p d)) :
    Calls Try.prog 51 #[.pointer (at0 b)] w fun e w' => e = .returned (.int .i64 (kindS s)) ∧ Fr None w w' := by
  have H := Lib.hid (kind_any s q c p d w)
  have c0 := hB.cell 0
  have c1 := hB.cell 1
  have c2 := hB.cell 2
  have c3 := hB.cell 3
  have c4 := hB.cell 4
  have c5 := hB.cell 5
  have c6 := hB.cell 6
  have c7 := hB.cell 7
  have c8 := hB.cell 8
  have c9 := hB.cell 9
  have c10 := hB.cell 10
  clear hB
  go_enter Try.func51, Try.ntmps51
  go_wp2_with fail
  refine H.out.mono ?_
  rintro e w1 ⟨rfl, f1⟩
  have F := Lib.hid f1
  clear f1 H
  go_wp2_with fail
  go_ret
  exact ⟨rfl, F.out⟩
theorem look2_any (b : Nat) (s : Sgm) (q : Option Addr) (c : Nat) (p : Option Addr) (d : Nat) (w : World) (hB : Blk w b SgT (sgc s q c p d)) :
    Calls Try.prog 52 #[.pointer (at0 b)] w fun e w' => e = .returned (.int .i64 (checkO s.opt)) ∧ Fr None w w' := by
  have H := Lib.hid (check_any s.opt q c w)
  have c2 := hB.cell 2
  have c3 := hB.cell 3
  have c4 := hB.cell 4
  have c5 := hB.cell 5
  have c6 := hB.cell 6
  have c7 := hB.cell 7
  have c8 := hB.cell 8
  have c9 := hB.cell 9
  clear hB
  go_enter Try.func52, Try.ntmps52
  go_wp2_with fail
  refine H.out.mono ?_
  rintro e w1 ⟨rfl, f1⟩
  have F := Lib.hid f1
  clear f1 H
  go_wp2_with fail
  go_ret
  exact ⟨rfl, F.out⟩
def longS (s : Sgm) : Int := if 2048 < s.body.length then 9 else 0
theorem look4_any (b : Nat) (s : Sgm) (q : Option Addr) (c : Nat) (p : Option Addr) (d : Nat) (w : World) (hB : Blk w b SgT (sgc s q c p d)) :
    Calls Try.prog 54 #[.pointer (at0 b)] w fun e w' => e = .returned (.int .i64 (longS s)) ∧ Fr None w w' := by
  have c10 := hB.cell 10
  clear hB
  unfold longS
  by_cases h : 2048 < s.body.length
  · have d1 : decide ((s.body.length : Int) > 2048) = true := by simp; omega
    rw [if_pos h]
    go_enter Try.func54, Try.ntmps54
    go_wp2_with fail
    go_ret
    exact ⟨rfl, Fr.refl None w⟩
  · have d1 : decide ((s.body.length : Int) > 2048) = false := by simp; omega
    rw [if_neg h]
    go_enter Try.func54, Try.ntmps54
    go_wp2_with fail
    go_ret
    exact ⟨rfl, Fr.refl None w⟩
end Go.Proofs.Ythkhfijfgpccbaa
