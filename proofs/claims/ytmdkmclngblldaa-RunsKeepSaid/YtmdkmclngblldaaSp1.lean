/- Spans: none, Meet, Below, From: walked. -/
import Derived.Test.YtmdkmclngblldaaSpw
import Derived.Test.YtmdkmclngblldaaOc0
import Derived.Test.YtmdkmclngblldaaBk0
import Derived.Laws.StructEq
import Derived.IntWalk
import Derived.Lib.Hide
import Derived.Outline
import Derived.Handy
import Derived.WalkKit
import Derived.WalkSpells
import Derived.BigQuiet
import Derived.Deep.QuietTactic
import Derived.Deep.DrawnRows
import Derived.Deep.LoopGhost
import Derived.Deep.DeepCutAuto
import Derived.Deep.CutRange
import Derived.Deep.CutBlock
import Derived.Deep.RegionLaw
import Derived.Deep.RegionHeld3
set_option linter.unusedVariables false
set_option linter.unusedSimpArgs false
namespace Go.Proofs.Ytmdkmclngblldaa
open Go.RowKit Go.Und
attribute [local go_sem ↓] Go.wp_at_zero Go.wp_at_succ

theorem eqSp (a b c d : Int) (w : World) : (binOp .eql SpT (.agg #[.int .i64 a, .int .i64 b]) (.agg #[.int .i64 c, .int .i64 d])).run Try.prog w = .ok (.bool (a == c && b == d)) w := by
  have u3 := Try.underlying3
  have a3 := Try.isAgg3
  have z3 := Try.sizeOf3
  have hS : Try.prog.underlying SpT = some (.struct (Try.prog.fieldsOf SpT)) := by kernel_rfl
  have hp : Try.prog.stoodInHeld SpT = false := by kernel_rfl
  rw [run_eql_struct, show (10000 : Nat) = 9999 + 1 from rfl, run_equalIn_agg w 9999 SpT _ _ hS hp]
  simp only [Program.fieldsOf, Try.underlying24]
  go_simp
  by_cases h1 : a = c <;> by_cases h2 : b = d <;> simp [h1, h2]

abbrev spV (s : Int × Int) : Value := .agg #[.int .i64 s.1, .int .i64 s.2]
set_option maxHeartbeats 1000000 in
theorem none_any (a b : Int) (w : World) : Calls Try.prog 87 #[.agg #[.int .i64 a, .int .i64 b]] w fun e w' => e = .returned (.bool (decide (lenS (a, b) = 0))) ∧ Fr None w w' := by
  have HM := Lib.hid (plain_any a b (w.alloc (.cells #[.int .i64 a, .int .i64 b] SpT)))
  have F0 := Lib.hid ((Fr.refl None w).alloc (.cells #[.int .i64 a, .int .i64 b] SpT))
  have hp := plain_pr_or (a, b)
  have E := Lib.hid (show decide (lenS (a, b) = 0) = ((plainS (a, b)).1 == 0 && (plainS (a, b)).2 == 0) by
    unfold lenS
    rw [Bool.eq_iff_iff]
    simp
    rcases hp with ⟨h, _⟩ | h
    · have := h.1; have := h.2.1; omega
    · rw [h]; simp)
  clear hp
  generalize plainS (a, b) = s at *
  obtain ⟨s1, s2⟩ := s
  simp only at HM E
  have he := eqSp s1 s2 0 0
  go_enter Try.func87, Try.ntmps87
  go_wp2_with fail
  refine HM.out.mono ?_
  rintro e w1 ⟨rfl, f1⟩
  have F1 := Lib.hid (F0.out.trans f1)
  clear f1 F0 HM
  go_wp2_with fail
  go_ret
  exact ⟨by rw [E.out]; rfl, F1.out⟩
theorem plain_is (x y : Int) (g : Int × Int) (h : plainS (x, y) = g) (w : World) : Calls Try.prog 89 #[.agg #[.int .i64 x, .int .i64 y]] w fun e w' => e = .returned (spV g) ∧ Fr None w w' := by
  subst h; exact plain_any x y w
theorem sp_k2 {w : World} {p q : Nat} {a b c d : Int} (h : Blk w p SpT #[.int .i64 a, .int .i64 b]) (g : Blk w q SpT #[.int .i64 c, .int .i64 d]) : w.cell? ⟨p, 0, none⟩ = some (.int .i64 a) ∧ w.cell? ⟨p, 1, none⟩ = some (.int .i64 b) ∧ w.cell? ⟨q, 0, none⟩ = some (.int .i64 c) ∧ w.cell? ⟨q, 1, none⟩ = some (.int .i64 d) :=
  ⟨h.cell 0, h.cell 1, g.cell 0, g.cell 1⟩
set_option maxRecDepth 100000 in
set_option maxHeartbeats 4000000 in
theorem meet_any (a b c d : Int) (w : World) : Calls Try.prog 92 #[.agg #[.int .i64 a, .int .i64 b], .agg #[.int .i64 c, .int .i64 d]] w fun e w' => e = .returned (spV (meetS (a, b) (c, d))) ∧ Fr None w w' := by
  have S0 := (((Sep.law w).alloc #[.int .i64 a, .int .i64 b] SpT).alloc #[.int .i64 c, .int .i64 d] SpT).alloc #[.int .i64 0, .int .i64 0] SpT
  simp only [World.size_alloc] at S0
  have P1 := Lib.hid (fun W => plain_any a b W)
  have P2 := Lib.hid (fun W => plain_any c d W)
  have HS := Lib.hid S0
  have P3 := Lib.hid (fun W => plain_any (max (plainS (a, b)).1 (plainS (c, d)).1) (min (plainS (a, b)).2 (plainS (c, d)).2) W)
  have E := Lib.hid (show plainS (max (plainS (a, b)).1 (plainS (c, d)).1, min (plainS (a, b)).2 (plainS (c, d)).2) = meetS (a, b) (c, d) from rfl)
  clear S0
  generalize plainS (a, b) = s at *
  generalize plainS (c, d) = t at *
  obtain ⟨s1, s2⟩ := s
  obtain ⟨t1, t2⟩ := t
  dsimp only at P1 P2 P3 E
  go_enter Try.func92, Try.ntmps92
  go_wp2_with fail
  refine Sep.gen _ HS.out ?_
  intro V SV
  have a0 : V.cell? ⟨w.heap.size, 0, none⟩ = some (.int .i64 a) := (SV.at_ 2 rfl).cell 0
  have a1 : V.cell? ⟨w.heap.size, 1, none⟩ = some (.int .i64 b) := (SV.at_ 2 rfl).cell 1
  have b0 : V.cell? ⟨w.heap.size + 1, 0, none⟩ = some (.int .i64 c) := (SV.at_ 1 rfl).cell 0
  have b1 : V.cell? ⟨w.heap.size + 1, 1, none⟩ = some (.int .i64 d) := (SV.at_ 1 rfl).cell 1
  have HV := Lib.hid SV
  clear HS SV
  go_region_with (first
    | ((with_reducible refine (P1.out _).mono ?_); rintro e w3 ⟨rfl, f3⟩; have HS3 := Lib.hid (HV.out.same (Fr.trans (by first | exact Fr.refl _ _ | exact (Fr.refl None V).drew) f3)); have k0 := (HS3.out.at_ 2 rfl).cell 0; have k1 := (HS3.out.at_ 2 rfl).cell 1; have k2 := (HS3.out.at_ 1 rfl).cell 0; have k3 := (HS3.out.at_ 1 rfl).cell 1; simp only [List.getElem?_toArray, List.getElem?_cons_zero, List.getElem?_cons_succ] at k0 k1 k2 k3; clear f3)
    | ((with_reducible refine (P2.out _).mono ?_); rintro e w4 ⟨rfl, f4⟩; have HS4 := Lib.hid (HS3.out.same (Fr.trans (by first | exact Fr.refl _ _ | exact (Fr.refl None w3).drew) f4)); have l0 := (HS4.out.at_ 2 rfl).cell 0; have l1 := (HS4.out.at_ 2 rfl).cell 1; have l2 := (HS4.out.at_ 1 rfl).cell 0; have l3 := (HS4.out.at_ 1 rfl).cell 1; have z0 := (HS4.out.at_ 2 rfl).frozen 0; have z1 := (HS4.out.at_ 2 rfl).frozen 1; have y0 := (HS4.out.at_ 1 rfl).frozen 0; have y1 := (HS4.out.at_ 1 rfl).frozen 1; clear f4)
    | fail)
  all_goals
    have S5 : Sep None w _ [Ob.blk (w.heap.size + 1 + 1) SpT #[.int .i64 0, .int .i64 0], Ob.blk (w.heap.size + 1) SpT #[.int .i64 t1, .int .i64 t2], Ob.blk w.heap.size SpT #[.int .i64 s1, .int .i64 s2]] := (((HS4.out.set 2 rfl 0 (.int .i64 s1)).set 2 rfl 1 (.int .i64 s2)).set 1 rfl 0 (.int .i64 t1)).set 1 rfl 1 (.int .i64 t2)
    refine Sep.gen _ S5 ?_
    clear S5 HS3 HS4 HV k0 k1 k2 k3 l0 l1 l2 l3 a0 a1 b0 b1 z0 z1 y0 y1
    intro W5 S5
    have k0 : W5.cell? ⟨w.heap.size, 0, none⟩ = some (.int .i64 s1) := (S5.at_ 2 rfl).cell 0
    have k1 : W5.cell? ⟨w.heap.size, 1, none⟩ = some (.int .i64 s2) := (S5.at_ 2 rfl).cell 1
    have k2 : W5.cell? ⟨w.heap.size + 1, 0, none⟩ = some (.int .i64 t1) := (S5.at_ 1 rfl).cell 0
    have k3 : W5.cell? ⟨w.heap.size + 1, 1, none⟩ = some (.int .i64 t2) := (S5.at_ 1 rfl).cell 1
    have HS5 := Lib.hid S5
    clear S5
    go_wp2_with fail
  all_goals
    refine (plain_is _ _ (meetS (a, b) (c, d)) (by rw [← E.out]; exact congrArg plainS (Prod.ext (by dsimp only; omega) (by dsimp only; omega))) _).mono ?_
    rintro e w6 ⟨rfl, f6⟩
    have S6 := HS5.out.same f6
    have d0 : w6.cell? ⟨w.heap.size + 1 + 1, 0, none⟩ = some (.int .i64 0) := (S6.at_ 0 rfl).cell 0
    have d1 : w6.cell? ⟨w.heap.size + 1 + 1, 1, none⟩ = some (.int .i64 0) := (S6.at_ 0 rfl).cell 1
    have z0 : w6.frozen? ⟨w.heap.size + 1 + 1, 0, none⟩ = false := (S6.at_ 0 rfl).frozen 0
    have z1 : w6.frozen? ⟨w.heap.size + 1 + 1, 1, none⟩ = false := (S6.at_ 0 rfl).frozen 1
    have HS6 := Lib.hid S6
    clear S6 f6 HS5 k0 k1 k2 k3
    go_wp2_with fail
    exact bodyPost_ret (v := spV (meetS (a, b) (c, d))) (by simp [results, Try.results92, go_sem, d0, d1]) rfl ⟨rfl, ((HS6.out.set 0 rfl 0 (.int .i64 (meetS (a, b) (c, d)).1)).set 0 rfl 1 (.int .i64 (meetS (a, b) (c, d)).2)).fr⟩
end Go.Proofs.Ytmdkmclngblldaa
