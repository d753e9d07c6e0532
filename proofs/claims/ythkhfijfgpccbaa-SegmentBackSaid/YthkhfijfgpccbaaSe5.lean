/- Segments: Check, walked. -/
import Derived.Test.YthkhfijfgpccbaaSe4
import Derived.Laws.EntriesVeiled
set_option linter.unusedVariables false
set_option linter.unusedSimpArgs false
namespace Go.Proofs.Ythkhfijfgpccbaa
open Go.RowKit Go.Und Go.Shelf
attribute [local go_sem] Oper.semAt_some

abbrev FsT : TypeId := 82
abbrev looks (b : Nat) : Value := .agg #[.func (.func 51) #[] #[.pointer (at0 b)], .func (.func 52) #[] #[.pointer (at0 b)], .func (.func 53) #[] #[.pointer (at0 b)], .func (.func 54) #[] #[.pointer (at0 b)]]
theorem looks_ix0 (b : Nat) (w : World) : (Instr.index 82 (looks b) (.int .i64 0)).run Try.prog w = .ok (.func (.func 51) #[] #[.pointer (at0 b)]) w := by kernel_rfl
theorem looks_ix1 (b : Nat) (w : World) : (Instr.index 82 (looks b) (.int .i64 1)).run Try.prog w = .ok (.func (.func 52) #[] #[.pointer (at0 b)]) w := by kernel_rfl
theorem looks_ix2 (b : Nat) (w : World) : (Instr.index 82 (looks b) (.int .i64 2)).run Try.prog w = .ok (.func (.func 53) #[] #[.pointer (at0 b)]) w := by kernel_rfl
theorem looks_ix3 (b : Nat) (w : World) : (Instr.index 82 (looks b) (.int .i64 3)).run Try.prog w = .ok (.func (.func 54) #[] #[.pointer (at0 b)]) w := by kernel_rfl
attribute [local go_sem] looks_ix0 looks_ix1 looks_ix2 looks_ix3
def kw : Nat → Value
  | 0 => .int .i64 0
  | 1 => .int .i64 1
  | 2 => .int .i64 2
  | 3 => .int .i64 3
  | _ => .int .i64 4
def first4 (a b c d : Int) : Int := if a ≠ 0 then a else if b ≠ 0 then b else if c ≠ 0 then c else d
theorem checkS_eq (s : Sgm) : checkS s = first4 (kindS s) (checkO s.opt) (shapeS s) (longS s) := by
  unfold checkS first4 kindS shapeS longS
  generalize checkO s.opt = z
  by_cases h1 : s.kind ≠ 1 ∧ s.kind ≠ 2
  · rw [if_pos h1, if_pos h1, if_pos (by decide)]
  · rw [if_neg h1, if_neg h1, if_neg (show ¬ ((0 : Int) ≠ 0) by decide)]
    by_cases h2 : z ≠ 0
    · rw [if_pos h2, if_pos h2]
    · rw [if_neg h2, if_neg h2]
      by_cases h3 : ¬ (s.kind = 1 ↔ 0 < s.body.length) ∨ (s.kind = 1 ∧ 0 < s.opt.blocks.length)
      · rw [if_pos h3, if_pos h3, if_pos (show (6 : Int) ≠ 0 by decide)]
      · rw [if_neg h3, if_neg h3, if_neg (show ¬ ((0 : Int) ≠ 0) by decide)]
set_option maxHeartbeats 4000000 in
theorem scheck_any (s : Sgm) (q : Option Addr) (c : Nat) (p : Option Addr) (d : Nat) (w : World) :
    Calls Try.prog 26 #[.agg (sgc s q c p d)] w fun e w' => e = .returned (.int .i64 (checkS s)) ∧ Fr None w w' := by
  have S0 := ((Sep.law w).alloc (sgc s q c p d) SgT).skip (.cells #[.func (.func 51) #[] #[.pointer (at0 w.heap.size)], .func (.func 52) #[] #[.pointer (at0 w.heap.size)], .func (.func 53) #[] #[.pointer (at0 w.heap.size)], .func (.func 54) #[] #[.pointer (at0 w.heap.size)]] FsT)
  have HS := Lib.hid S0
  clear S0
  go_enter Try.func26, Try.ntmps26
  go_wp2_with fail
  go_loopg [13] 4 (fun g iv wr => ∃ k : Nat, k + g = 4 ∧ iv = kw k ∧ Blk wr w.heap.size SgT (sgc s q c p d) ∧ Fr None w wr ∧ ((1 ≤ k → kindS s = 0) ∧ (2 ≤ k → checkO s.opt = 0) ∧ (3 ≤ k → shapeS s = 0) ∧ (4 ≤ k → longS s = 0)))
  case atStart => exact ⟨0, by omega, rfl, HS.out.at_ 0 rfl, HS.out.fr, by omega⟩
  case round =>
    clear HS
    obtain ⟨k, hk, rfl, hB, hf, hv⟩ := hrel
    have hk2 : k = 0 ∨ k = 1 ∨ k = 2 ∨ k = 3 ∨ k = 4 := by omega
    rcases hk2 with rfl | rfl | rfl | rfl | rfl
    all_goals dsimp only [kw]
    · have hz : kindS s = 0 ∨ kindS s ≠ 0 := by omega
      have HB := Lib.hid hB
      have HF := Lib.hid hf
      have HV := Lib.hid hv
      clear hB hf hv
      go_wp2_with fail
      refine (look1_any w.heap.size s q c p d wr HB.out).mono ?_
      rintro e w6 ⟨rfl, f6⟩
      have hB6 := HB.out.fr f6 id
      have H6 := Lib.hid (And.intro hB6 (HF.out.trans f6))
      clear f6 hB6
      rcases hz with hz | hz
      · have HZ := Lib.hid hz
        rw [hz]
        clear hz
        go_wp2_with fail
        go_roundg (gk - 1)
        case measure => omega
        case rel => exact ⟨1, by omega, rfl, H6.out.1, H6.out.2, by have := HV.out; have := HZ.out; omega⟩
      · have g1 : (kindS s != 0) = true := by simpa using hz
        have HQ := Lib.hid (show checkS s = kindS s from by
          rw [checkS_eq]; have := HV.out; unfold first4
          generalize kindS s = a1 at *
          generalize checkO s.opt = a2 at *
          generalize shapeS s = a3 at *
          generalize longS s = a4 at *
          repeat' split
          all_goals omega)
        generalize kindS s = z at *
        clear hz
        go_wp2_with fail
        go_ret
        exact ⟨by rw [HQ.out]; rfl, H6.out.2⟩
    · have hz : checkO s.opt = 0 ∨ checkO s.opt ≠ 0 := by omega
      have HB := Lib.hid hB
      have HF := Lib.hid hf
      have HV := Lib.hid hv
      clear hB hf hv
      go_wp2_with fail
      refine (look2_any w.heap.size s q c p d wr HB.out).mono ?_
      rintro e w6 ⟨rfl, f6⟩
      have hB6 := HB.out.fr f6 id
      have H6 := Lib.hid (And.intro hB6 (HF.out.trans f6))
      clear f6 hB6
      rcases hz with hz | hz
      · have HZ := Lib.hid hz
        rw [hz]
        clear hz
        go_wp2_with fail
        go_roundg (gk - 1)
        case measure => omega
        case rel => exact ⟨2, by omega, rfl, H6.out.1, H6.out.2, by have := HV.out; have := HZ.out; omega⟩
      · have g1 : (checkO s.opt != 0) = true := by simpa using hz
        have HQ := Lib.hid (show checkS s = checkO s.opt from by
          rw [checkS_eq]; have := HV.out; unfold first4
          generalize kindS s = a1 at *
          generalize checkO s.opt = a2 at *
          generalize shapeS s = a3 at *
          generalize longS s = a4 at *
          repeat' split
          all_goals omega)
        generalize checkO s.opt = z at *
        clear hz
        go_wp2_with fail
        go_ret
        exact ⟨by rw [HQ.out]; rfl, H6.out.2⟩
    · have hz : shapeS s = 0 ∨ shapeS s ≠ 0 := by omega
      have HB := Lib.hid hB
      have HF := Lib.hid hf
      have HV := Lib.hid hv
      clear hB hf hv
      go_wp2_with fail
      refine (look3_any w.heap.size s q c p d wr HB.out).mono ?_
      rintro e w6 ⟨rfl, f6⟩
      have hB6 := HB.out.fr f6 id
      have H6 := Lib.hid (And.intro hB6 (HF.out.trans f6))
      clear f6 hB6
      rcases hz with hz | hz
      · have HZ := Lib.hid hz
        rw [hz]
        clear hz
        go_wp2_with fail
        go_roundg (gk - 1)
        case measure => omega
        case rel => exact ⟨3, by omega, rfl, H6.out.1, H6.out.2, by have := HV.out; have := HZ.out; omega⟩
      · have g1 : (shapeS s != 0) = true := by simpa using hz
        have HQ := Lib.hid (show checkS s = shapeS s from by
          rw [checkS_eq]; have := HV.out; unfold first4
          generalize kindS s = a1 at *
          generalize checkO s.opt = a2 at *
          generalize shapeS s = a3 at *
          generalize longS s = a4 at *
          repeat' split
          all_goals omega)
        generalize shapeS s = z at *
        clear hz
        go_wp2_with fail
        go_ret
        exact ⟨by rw [HQ.out]; rfl, H6.out.2⟩
    · have hz : longS s = 0 ∨ longS s ≠ 0 := by omega
      have HB := Lib.hid hB
      have HF := Lib.hid hf
      have HV := Lib.hid hv
      clear hB hf hv
      go_wp2_with fail
      refine (look4_any w.heap.size s q c p d wr HB.out).mono ?_
      rintro e w6 ⟨rfl, f6⟩
      have hB6 := HB.out.fr f6 id
      have H6 := Lib.hid (And.intro hB6 (HF.out.trans f6))
      clear f6 hB6
      rcases hz with hz | hz
      · have HZ := Lib.hid hz
        rw [hz]
        clear hz
        go_wp2_with fail
        go_roundg (gk - 1)
        case measure => omega
        case rel => exact ⟨4, by omega, rfl, H6.out.1, H6.out.2, by have := HV.out; have := HZ.out; omega⟩
      · have g1 : (longS s != 0) = true := by simpa using hz
        have HQ := Lib.hid (show checkS s = longS s from by
          rw [checkS_eq]; have := HV.out; unfold first4
          generalize kindS s = a1 at *
          generalize checkO s.opt = a2 at *
          generalize shapeS s = a3 at *
          generalize longS s = a4 at *
          repeat' split
          all_goals omega)
        generalize longS s = z at *
        clear hz
        go_wp2_with fail
        go_ret
        exact ⟨by rw [HQ.out]; rfl, H6.out.2⟩
    · have HQ := Lib.hid (show checkS s = 0 from by
        rw [checkS_eq]; unfold first4
        generalize kindS s = a1 at *
        generalize checkO s.opt = a2 at *
        generalize shapeS s = a3 at *
        generalize longS s = a4 at *
        repeat' split
        all_goals omega)
      have HF := Lib.hid hf
      clear hB hf hv
      go_wp2_with fail
      go_ret
      exact ⟨by rw [HQ.out]; rfl, HF.out⟩
end Go.Proofs.Ythkhfijfgpccbaa
