/- Segments: Check, walked. -/
import Derived.Test.YthkhfijfgpccbaaSe3
set_option linter.unusedVariables false
set_option linter.unusedSimpArgs false
namespace Go.Proofs.Ythkhfijfgpccbaa
open Go.RowKit Go.Und Go.Shelf
attribute [local go_sem] Oper.semAt_some

def shapeS (s : Sgm) : Int := if ¬ (s.kind = 1 ↔ 0 < s.body.length) ∨ (s.kind = 1 ∧ 0 < s.opt.blocks.length) then 6 else 0
set_option maxHeartbeats 2000000 in
theorem look3_any (b : Nat) (s : Sgm) (q : Option Addr) (c : Nat) (p : Option Addr) (d : Nat) (w : World) (hB : Blk w b SgT (sgc s q c p d)) :
    Calls Try.prog 53 #[.pointer (at0 b)] w fun e w' => e = .returned (.int .i64 (shapeS s)) ∧ Fr None w w' := by
  have c0 := hB.cell 0
  have c2 := hB.cell 2
  have c3 := hB.cell 3
  have c4 := hB.cell 4
  have c5 := hB.cell 5
  have c6 := hB.cell 6
  have c7 := hB.cell 7
  have c8 := hB.cell 8
  have c9 := hB.cell 9
  have c10 := hB.cell 10
  clear hB
  unfold shapeS
  obtain ⟨k, num, opt, body⟩ := s
  dsimp only at *
  have k1 : k = 1 ∨ k ≠ 1 := by omega
  have k2 : 0 < body.length ∨ ¬ 0 < body.length := by omega
  have k3 : 0 < opt.blocks.length ∨ ¬ 0 < opt.blocks.length := by omega
  rcases k1 with h1 | h1 <;> rcases k2 with h2 | h2 <;> rcases k3 with h3 | h3
  all_goals
    first
    | (have d1 : (k == 1) = true := by simpa using h1)
    | (have d1 : (k == 1) = false := by simpa using h1)
    first
    | (have d2 : decide ((body.length : Int) > 0) = true := decide_eq_true (by omega))
    | (have d2 : decide ((body.length : Int) > 0) = false := decide_eq_false (by omega))
    first
    | (have d3 : decide ((opt.blocks.length : Int) > 0) = true := decide_eq_true (by omega))
    | (have d3 : decide ((opt.blocks.length : Int) > 0) = false := decide_eq_false (by omega))
    simp only [h1, h2, h3, not_true, not_false_iff, iff_true, iff_false, true_iff, false_iff, and_true, and_false, true_and, false_and, or_true, or_false, true_or, false_or, if_true, if_false]
    go_enter Try.func53, Try.ntmps53
    go_wp2_with fail
    go_ret
    exact ⟨rfl, Fr.refl None w⟩
end Go.Proofs.Ythkhfijfgpccbaa
