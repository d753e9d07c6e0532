/- Spans: walked. -/
import Derived.Test.YtfobeheplficgaaSep
import Derived.Test.YtfobeheplficgaaRns
import Derived.WalkSpells
import Derived.WalkLawsBesides
import Derived.Deep.QuietTactic
import Derived.BigQuiet
import Derived.Handy
import Derived.Test.YtfobeheplficgaaOc0
import Derived.Test.YtfobeheplficgaaBk0
import Derived.Laws.StructEq
import Derived.IntWalk
import Derived.Lib.Hide
import Derived.Outline
import Derived.WalkKit
import Derived.Deep.DrawnRows
import Derived.Deep.LoopGhost
import Derived.Deep.DeepCutAuto
import Derived.Deep.CutRange
import Derived.Deep.CutBlock
import Derived.Deep.RegionLaw
import Derived.Deep.RegionHeld3
set_option linter.unusedVariables false
set_option linter.unusedSimpArgs false
namespace Go.Proofs.Ytfobeheplficgaa
open Go.RowKit Go.Und

abbrev SpT : TypeId := 24

set_option maxHeartbeats 400000 in
theorem may_any (a b : Int) (w : World) : Calls Try.prog 84 #[.agg #[.int .i64 a, .int .i64 b]] w fun e w' => e = .returned (.bool (mayS (a, b))) ∧ Fr None w w' := by
  have f := (Fr.refl None w).alloc (.cells #[.int .i64 a, .int .i64 b] SpT)
  have F := Lib.hid f; clear f
  by_cases h1 : 0 ≤ a
  · by_cases h2 : a ≤ b
    · have E := Lib.hid (show decide (b ≤ 4611686018427387904) = mayS (a, b) by simp [mayS, h1, h2])
      go_enter Try.func84, Try.ntmps84
      go_wp2_with fail
      go_ret
      exact ⟨by rw [← E.out]; rfl, F.out⟩
    · have E := Lib.hid (show false = mayS (a, b) by simp [mayS, h2])
      go_enter Try.func84, Try.ntmps84
      go_wp2_with fail
      go_ret
      exact ⟨by rw [← E.out]; rfl, F.out⟩
  · have E := Lib.hid (show false = mayS (a, b) by simp [mayS, h1])
    go_enter Try.func84, Try.ntmps84
    go_wp2_with fail
    go_ret
    exact ⟨by rw [← E.out]; rfl, F.out⟩

set_option maxHeartbeats 1000000 in
theorem plain_any (a b : Int) (w : World) : Calls Try.prog 89 #[.agg #[.int .i64 a, .int .i64 b]] w fun e w' => e = .returned (.agg #[.int .i64 (plainS (a, b)).1, .int .i64 (plainS (a, b)).2]) ∧ Fr None w w' := by
  have HM := Lib.hid (may_any a b ((w.alloc (.cells #[.int .i64 a, .int .i64 b] SpT)).alloc (.cells #[.int .i64 0, .int .i64 0] SpT)))
  have S0 := Lib.hid (((Sep.law w).alloc #[.int .i64 a, .int .i64 b] SpT).alloc #[.int .i64 0, .int .i64 0] SpT)
  go_enter Try.func89, Try.ntmps89
  go_wp2_with fail
  refine HM.out.mono ?_
  rintro e w1 ⟨rfl, f1⟩
  have S1 := Lib.hid (S0.out.same f1)
  simp only [World.size_alloc] at S1
  have b0 := S1.out.at_ 0 rfl; have b1 := S1.out.at_ 1 rfl
  have c1 := Blk.cell b0; have z1 := Blk.frozen b0; have l1 := Blk.lt b0
  have c0 := Blk.cell b1
  clear f1 b0 b1 S0 HM
  by_cases hm : mayS (a, b) = true
  · by_cases he : a = b
    · subst he
      have E := Lib.hid (show plainS (a, a) = (0, 0) by simp [plainS])
      have S2 := Lib.hid ((S1.out.set 0 rfl 0 (.int .i64 0)).set 0 rfl 1 (.int .i64 0))
      go_wp2_with fail
      refine bodyPost_ret (v := .agg #[.int .i64 0, .int .i64 0]) (by simp [results, Try.results89, go_sem, c1]) rfl ⟨by rw [E.out], S2.out.fr⟩
    · have E := Lib.hid (show plainS (a, b) = (a, b) by simp [plainS, hm, he])
      have S2 := Lib.hid ((S1.out.set 0 rfl 0 (.int .i64 a)).set 0 rfl 1 (.int .i64 b))
      go_wp2_with fail
      refine bodyPost_ret (v := .agg #[.int .i64 a, .int .i64 b]) (by simp [results, Try.results89, go_sem, c1]) rfl ⟨by rw [E.out], S2.out.fr⟩
  · have hm' : mayS (a, b) = false := by simpa using hm
    have E := Lib.hid (show plainS (a, b) = (0, 0) by simp [plainS, hm'])
    have S2 := Lib.hid ((S1.out.set 0 rfl 0 (.int .i64 0)).set 0 rfl 1 (.int .i64 0))
    go_wp2_with fail
    refine bodyPost_ret (v := .agg #[.int .i64 0, .int .i64 0]) (by simp [results, Try.results89, go_sem, c1]) rfl ⟨by rw [E.out], S2.out.fr⟩

set_option maxHeartbeats 1000000 in
theorem len_any (a b : Int) (w : World) : Calls Try.prog 57 #[.agg #[.int .i64 a, .int .i64 b]] w fun e w' => e = .returned (.int .i64 (lenS (a, b))) ∧ Fr None w w' := by
  have HM := Lib.hid (plain_any a b (w.alloc (.cells #[.int .i64 a, .int .i64 b] SpT)))
  have S0 := Lib.hid ((Sep.law w).alloc #[.int .i64 a, .int .i64 b] SpT)
  have B := plainS_bounds (a, b)
  have E := Lib.hid (show (plainS (a, b)).2 - (plainS (a, b)).1 = lenS (a, b) from rfl)
  generalize plainS (a, b) = s at *
  obtain ⟨s1, s2⟩ := s
  simp only at B HM E
  go_enter Try.func57, Try.ntmps57
  go_wp2_with fail
  refine HM.out.mono ?_
  rintro e w1 ⟨rfl, f1⟩
  have S1 := Lib.hid (S0.out.same f1)
  have b0 := S1.out.at_ 0 rfl
  have c1 := Blk.cell b0; have z1 := Blk.frozen b0; have l1 := Blk.lt b0
  have S2 := Lib.hid ((S1.out.set 0 rfl 0 (.int .i64 s1)).set 0 rfl 1 (.int .i64 s2))
  clear f1 b0 S0 HM
  go_wp2_with fail
  go_ret
  exact ⟨by rw [← E.out]; rfl, S2.out.fr⟩
end Go.Proofs.Ytfobeheplficgaa
namespace Go.Proofs.Ytfobeheplficgaa
open Go.RowKit Go.Und
attribute [local go_sem ↓] Go.wp_at_zero Go.wp_at_succ

theorem eqSp (a b c d : Int) (w : World) : (binOp .eql SpT (.agg #[.int .i64 a, .int .i64 b]) (.agg #[.int .i64 c, .int .i64 d])).run Try.prog w = .ok (.bool (a == c && b == d)) w := by
  have u3 := Try.underlying3
  have a3 := Try.isAgg3
  have z3 := Try.sizeOf3
  have hS : Try.prog.underlying SpT = some (.struct (Try.prog.fieldsOf SpT)) := by kernel_rfl
  have hp : Try.prog.stoodInHeld SpT = false := by kernel_rfl
  rw [run_eql_struct, show (10000 : Nat) = 9999 + 1 from rfl, run_equalIn_agg w 9999 SpT _ _ hS hp]
  simp only [Program.fieldsOf, Try.underlying24]
  go_simp
  by_cases h1 : a = c <;> by_cases h2 : b = d <;> simp [h1, h2]

abbrev spV (s : Int × Int) : Value := .agg #[.int .i64 s.1, .int .i64 s.2]
set_option maxHeartbeats 1000000 in
theorem none_any (a b : Int) (w : World) : Calls Try.prog 87 #[.agg #[.int .i64 a, .int .i64 b]] w fun e w' => e = .returned (.bool (decide (lenS (a, b) = 0))) ∧ Fr None w w' := by
  have HM := Lib.hid (plain_any a b (w.alloc (.cells #[.int .i64 a, .int .i64 b] SpT)))
  have F0 := Lib.hid ((Fr.refl None w).alloc (.cells #[.int .i64 a, .int .i64 b] SpT))
  have hp := plain_pr_or (a, b)
  have E := Lib.hid (show decide (lenS (a, b) = 0) = ((plainS (a, b)).1 == 0 && (plainS (a, b)).2 == 0) by
    unfold lenS
    rw [Bool.eq_iff_iff]
    simp
    rcases hp with ⟨h, _⟩ | h
    · have := h.1; have := h.2.1; omega
    · rw [h]; simp)
  clear hp
  generalize plainS (a, b) = s at *
  obtain ⟨s1, s2⟩ := s
  simp only at HM E
  have he := eqSp s1 s2 0 0
  go_enter Try.func87, Try.ntmps87
  go_wp2_with fail
  refine HM.out.mono ?_
  rintro e w1 ⟨rfl, f1⟩
  have F1 := Lib.hid (F0.out.trans f1)
  clear f1 F0 HM
  go_wp2_with fail
  go_ret
  exact ⟨by rw [E.out]; rfl, F1.out⟩
theorem plain_is (x y : Int) (g : Int × Int) (h : plainS (x, y) = g) (w : World) : Calls Try.prog 89 #[.agg #[.int .i64 x, .int .i64 y]] w fun e w' => e = .returned (spV g) ∧ Fr None w w' := by
  subst h; exact plain_any x y w
theorem sp_k2 {w : World} {p q : Nat} {a b c d : Int} (h : Blk w p SpT #[.int .i64 a, .int .i64 b]) (g : Blk w q SpT #[.int .i64 c, .int .i64 d]) : w.cell? ⟨p, 0, none⟩ = some (.int .i64 a) ∧ w.cell? ⟨p, 1, none⟩ = some (.int .i64 b) ∧ w.cell? ⟨q, 0, none⟩ = some (.int .i64 c) ∧ w.cell? ⟨q, 1, none⟩ = some (.int .i64 d) :=
  ⟨h.cell 0, h.cell 1, g.cell 0, g.cell 1⟩
set_option maxRecDepth 100000 in
set_option maxHeartbeats 4000000 in
theorem meet_any (a b c d : Int) (w : World) : Calls Try.prog 92 #[.agg #[.int .i64 a, .int .i64 b], .agg #[.int .i64 c, .int .i64 d]] w fun e w' => e = .returned (spV (meetS (a, b) (c, d))) ∧ Fr None w w' := by
  have S0 := (((Sep.law w).alloc #[.int .i64 a, .int .i64 b] SpT).alloc #[.int .i64 c, .int .i64 d] SpT).alloc #[.int .i64 0, .int .i64 0] SpT
  simp only [World.size_alloc] at S0
  have P1 := Lib.hid (fun W => plain_any a b W)
  have P2 := Lib.hid (fun W => plain_any c d W)
  have HS := Lib.hid S0
  have P3 := Lib.hid (fun W => plain_any (max (plainS (a, b)).1 (plainS (c, d)).1) (min (plainS (a, b)).2 (plainS (c, d)).2) W)
  have E := Lib.hid (show plainS (max (plainS (a, b)).1 (plainS (c, d)).1, min (plainS (a, b)).2 (plainS (c, d)).2) = meetS (a, b) (c, d) from rfl)
  clear S0
  generalize plainS (a, b) = s at *
  generalize plainS (c, d) = t at *
  obtain ⟨s1, s2⟩ := s
  obtain ⟨t1, t2⟩ := t
  dsimp only at P1 P2 P3 E
  go_enter Try.func92, Try.ntmps92
  go_wp2_with fail
  refine Sep.gen _ HS.out ?_
  intro V SV
  have a0 : V.cell? ⟨w.heap.size, 0, none⟩ = some (.int .i64 a) := (SV.at_ 2 rfl).cell 0
  have a1 : V.cell? ⟨w.heap.size, 1, none⟩ = some (.int .i64 b) := (SV.at_ 2 rfl).cell 1
  have b0 : V.cell? ⟨w.heap.size + 1, 0, none⟩ = some (.int .i64 c) := (SV.at_ 1 rfl).cell 0
  have b1 : V.cell? ⟨w.heap.size + 1, 1, none⟩ = some (.int .i64 d) := (SV.at_ 1 rfl).cell 1
  have HV := Lib.hid SV
  clear HS SV
  go_region_with (first
    | ((with_reducible refine (P1.out _).mono ?_); rintro e w3 ⟨rfl, f3⟩; have HS3 := Lib.hid (HV.out.same (Fr.trans (by first | exact Fr.refl _ _ | exact (Fr.refl None V).drew) f3)); have k0 := (HS3.out.at_ 2 rfl).cell 0; have k1 := (HS3.out.at_ 2 rfl).cell 1; have k2 := (HS3.out.at_ 1 rfl).cell 0; have k3 := (HS3.out.at_ 1 rfl).cell 1; simp only [List.getElem?_toArray, List.getElem?_cons_zero, List.getElem?_cons_succ] at k0 k1 k2 k3; clear f3)
    | ((with_reducible refine (P2.out _).mono ?_); rintro e w4 ⟨rfl, f4⟩; have HS4 := Lib.hid (HS3.out.same (Fr.trans (by first | exact Fr.refl _ _ | exact (Fr.refl None w3).drew) f4)); have l0 := (HS4.out.at_ 2 rfl).cell 0; have l1 := (HS4.out.at_ 2 rfl).cell 1; have l2 := (HS4.out.at_ 1 rfl).cell 0; have l3 := (HS4.out.at_ 1 rfl).cell 1; have z0 := (HS4.out.at_ 2 rfl).frozen 0; have z1 := (HS4.out.at_ 2 rfl).frozen 1; have y0 := (HS4.out.at_ 1 rfl).frozen 0; have y1 := (HS4.out.at_ 1 rfl).frozen 1; clear f4)
    | fail)
  all_goals
    have S5 : Sep None w _ [Ob.blk (w.heap.size + 1 + 1) SpT #[.int .i64 0, .int .i64 0], Ob.blk (w.heap.size + 1) SpT #[.int .i64 t1, .int .i64 t2], Ob.blk w.heap.size SpT #[.int .i64 s1, .int .i64 s2]] := (((HS4.out.set 2 rfl 0 (.int .i64 s1)).set 2 rfl 1 (.int .i64 s2)).set 1 rfl 0 (.int .i64 t1)).set 1 rfl 1 (.int .i64 t2)
    refine Sep.gen _ S5 ?_
    clear S5 HS3 HS4 HV k0 k1 k2 k3 l0 l1 l2 l3 a0 a1 b0 b1 z0 z1 y0 y1
    intro W5 S5
    have k0 : W5.cell? ⟨w.heap.size, 0, none⟩ = some (.int .i64 s1) := (S5.at_ 2 rfl).cell 0
    have k1 : W5.cell? ⟨w.heap.size, 1, none⟩ = some (.int .i64 s2) := (S5.at_ 2 rfl).cell 1
    have k2 : W5.cell? ⟨w.heap.size + 1, 0, none⟩ = some (.int .i64 t1) := (S5.at_ 1 rfl).cell 0
    have k3 : W5.cell? ⟨w.heap.size + 1, 1, none⟩ = some (.int .i64 t2) := (S5.at_ 1 rfl).cell 1
    have HS5 := Lib.hid S5
    clear S5
    go_wp2_with fail
  all_goals
    refine (plain_is _ _ (meetS (a, b) (c, d)) (by rw [← E.out]; exact congrArg plainS (Prod.ext (by dsimp only; omega) (by dsimp only; omega))) _).mono ?_
    rintro e w6 ⟨rfl, f6⟩
    have S6 := HS5.out.same f6
    have d0 : w6.cell? ⟨w.heap.size + 1 + 1, 0, none⟩ = some (.int .i64 0) := (S6.at_ 0 rfl).cell 0
    have d1 : w6.cell? ⟨w.heap.size + 1 + 1, 1, none⟩ = some (.int .i64 0) := (S6.at_ 0 rfl).cell 1
    have z0 : w6.frozen? ⟨w.heap.size + 1 + 1, 0, none⟩ = false := (S6.at_ 0 rfl).frozen 0
    have z1 : w6.frozen? ⟨w.heap.size + 1 + 1, 1, none⟩ = false := (S6.at_ 0 rfl).frozen 1
    have HS6 := Lib.hid S6
    clear S6 f6 HS5 k0 k1 k2 k3
    go_wp2_with fail
    exact bodyPost_ret (v := spV (meetS (a, b) (c, d))) (by simp [results, Try.results92, go_sem, d0, d1]) rfl ⟨rfl, ((HS6.out.set 0 rfl 0 (.int .i64 (meetS (a, b) (c, d)).1)).set 0 rfl 1 (.int .i64 (meetS (a, b) (c, d)).2)).fr⟩
end Go.Proofs.Ytfobeheplficgaa
namespace Go.Proofs.Ytfobeheplficgaa
open Go.RowKit Go.Und
attribute [local go_sem ↓] Go.wp_at_zero Go.wp_at_succ

set_option maxRecDepth 100000 in
set_option maxHeartbeats 4000000 in
theorem below_any (a b k : Int) (w : World) : Calls Try.prog 64 #[.agg #[.int .i64 a, .int .i64 b], .int .i64 k] w fun e w' => e = .returned (spV (belowS (a, b) k)) ∧ Fr None w w' := by
  have S0 := ((Sep.law w).alloc #[.int .i64 a, .int .i64 b] SpT).alloc #[.int .i64 0, .int .i64 0] SpT
  simp only [World.size_alloc] at S0
  have P1 := Lib.hid (fun W => plain_any a b W)
  have HS := Lib.hid S0
  have E := Lib.hid (show plainS ((plainS (a, b)).1, min (plainS (a, b)).2 k) = belowS (a, b) k from rfl)
  clear S0
  generalize plainS (a, b) = s at *
  obtain ⟨s1, s2⟩ := s
  dsimp only at P1 E
  go_enter Try.func64, Try.ntmps64
  go_wp2_with fail
  refine (P1.out _).mono ?_
  rintro e w3 ⟨rfl, f3⟩
  have S3 := HS.out.same f3
  have k0 : w3.cell? ⟨w.heap.size, 0, none⟩ = some (.int .i64 a) := (S3.at_ 1 rfl).cell 0
  have k1 : w3.cell? ⟨w.heap.size, 1, none⟩ = some (.int .i64 b) := (S3.at_ 1 rfl).cell 1
  have z0 : w3.frozen? ⟨w.heap.size, 0, none⟩ = false := (S3.at_ 1 rfl).frozen 0
  have z1 : w3.frozen? ⟨w.heap.size, 1, none⟩ = false := (S3.at_ 1 rfl).frozen 1
  have S5 : Sep None w _ [Ob.blk (w.heap.size + 1) SpT #[.int .i64 0, .int .i64 0], Ob.blk w.heap.size SpT #[.int .i64 s1, .int .i64 s2]] := (S3.set 1 rfl 0 (.int .i64 s1)).set 1 rfl 1 (.int .i64 s2)
  have HS5 := Lib.hid S5
  clear S3 S5 f3 HS
  go_wp2_with fail
  all_goals
    refine (plain_is _ _ (belowS (a, b) k) (by rw [← E.out]; exact congrArg plainS (Prod.ext (by dsimp only; try omega) (by dsimp only; try omega))) _).mono ?_
    rintro e w6 ⟨rfl, f6⟩
    have S6 := HS5.out.same f6
    have d0 : w6.cell? ⟨w.heap.size + 1, 0, none⟩ = some (.int .i64 0) := (S6.at_ 0 rfl).cell 0
    have d1 : w6.cell? ⟨w.heap.size + 1, 1, none⟩ = some (.int .i64 0) := (S6.at_ 0 rfl).cell 1
    have z0 : w6.frozen? ⟨w.heap.size + 1, 0, none⟩ = false := (S6.at_ 0 rfl).frozen 0
    have z1 : w6.frozen? ⟨w.heap.size + 1, 1, none⟩ = false := (S6.at_ 0 rfl).frozen 1
    have HS6 := Lib.hid S6
    clear S6 f6 HS5 k0 k1
    go_wp2_with fail
    exact bodyPost_ret (v := spV (belowS (a, b) k)) (by simp [results, Try.results64, go_sem, d0, d1]) rfl ⟨rfl, ((HS6.out.set 0 rfl 0 (.int .i64 (belowS (a, b) k).1)).set 0 rfl 1 (.int .i64 (belowS (a, b) k).2)).fr⟩
set_option maxRecDepth 100000 in
set_option maxHeartbeats 4000000 in
theorem from_any (a b k : Int) (w : World) : Calls Try.prog 65 #[.agg #[.int .i64 a, .int .i64 b], .int .i64 k] w fun e w' => e = .returned (spV (fromS (a, b) k)) ∧ Fr None w w' := by
  have S0 := ((Sep.law w).alloc #[.int .i64 a, .int .i64 b] SpT).alloc #[.int .i64 0, .int .i64 0] SpT
  simp only [World.size_alloc] at S0
  have P1 := Lib.hid (fun W => plain_any a b W)
  have HS := Lib.hid S0
  have E := Lib.hid (show plainS (max (plainS (a, b)).1 k, (plainS (a, b)).2) = fromS (a, b) k from rfl)
  clear S0
  generalize plainS (a, b) = s at *
  obtain ⟨s1, s2⟩ := s
  dsimp only at P1 E
  go_enter Try.func65, Try.ntmps65
  go_wp2_with fail
  refine (P1.out _).mono ?_
  rintro e w3 ⟨rfl, f3⟩
  have S3 := HS.out.same f3
  have k0 : w3.cell? ⟨w.heap.size, 0, none⟩ = some (.int .i64 a) := (S3.at_ 1 rfl).cell 0
  have k1 : w3.cell? ⟨w.heap.size, 1, none⟩ = some (.int .i64 b) := (S3.at_ 1 rfl).cell 1
  have z0 : w3.frozen? ⟨w.heap.size, 0, none⟩ = false := (S3.at_ 1 rfl).frozen 0
  have z1 : w3.frozen? ⟨w.heap.size, 1, none⟩ = false := (S3.at_ 1 rfl).frozen 1
  have S5 : Sep None w _ [Ob.blk (w.heap.size + 1) SpT #[.int .i64 0, .int .i64 0], Ob.blk w.heap.size SpT #[.int .i64 s1, .int .i64 s2]] := (S3.set 1 rfl 0 (.int .i64 s1)).set 1 rfl 1 (.int .i64 s2)
  have HS5 := Lib.hid S5
  clear S3 S5 f3 HS
  go_wp2_with fail
  all_goals
    refine (plain_is _ _ (fromS (a, b) k) (by rw [← E.out]; exact congrArg plainS (Prod.ext (by dsimp only; try omega) (by dsimp only; try omega))) _).mono ?_
    rintro e w6 ⟨rfl, f6⟩
    have S6 := HS5.out.same f6
    have d0 : w6.cell? ⟨w.heap.size + 1, 0, none⟩ = some (.int .i64 0) := (S6.at_ 0 rfl).cell 0
    have d1 : w6.cell? ⟨w.heap.size + 1, 1, none⟩ = some (.int .i64 0) := (S6.at_ 0 rfl).cell 1
    have z0 : w6.frozen? ⟨w.heap.size + 1, 0, none⟩ = false := (S6.at_ 0 rfl).frozen 0
    have z1 : w6.frozen? ⟨w.heap.size + 1, 1, none⟩ = false := (S6.at_ 0 rfl).frozen 1
    have HS6 := Lib.hid S6
    clear S6 f6 HS5 k0 k1
    go_wp2_with fail
    exact bodyPost_ret (v := spV (fromS (a, b) k)) (by simp [results, Try.results65, go_sem, d0, d1]) rfl ⟨rfl, ((HS6.out.set 0 rfl 0 (.int .i64 (fromS (a, b) k).1)).set 0 rfl 1 (.int .i64 (fromS (a, b) k).2)).fr⟩

def spc (x : Int × Int) : List Value := [.int .i64 x.1, .int .i64 x.2]
theorem spc_len : ∀ x, (spc x).length = 2 := fun _ => rfl
theorem spc_one : ∀ x, ∀ u ∈ spc x, u.oneCell' = true := fun x u hu => by
  simp only [spc, List.mem_cons, List.not_mem_nil, or_false] at hu
  rcases hu with rfl | rfl <;> rfl
theorem hull_take {l : List (Int × Int)} {k : Nat} {x : Int × Int} (h : l[k]? = some x) : hullS (l.take (k + 1)) = if lenS x = 0 then hullS (l.take k) else if lenS (hullS (l.take k)) = 0 then x else (min (hullS (l.take k)).1 x.1, max (hullS (l.take k)).2 x.2) := by
  rw [List.take_add_one, h]; exact hull_snoc _ _
set_option maxRecDepth 100000 in
set_option maxHeartbeats 4000000 in
theorem hull_any (p : Option Addr) (c : Nat) (l : List (Int × Int)) (w : World) (hr : Reads w 2 p l.length c (fc spc l)) (hl : l.length ≤ 1000000) :
    Calls Try.prog 55 #[.slice p l.length c] w fun e w' => e = .returned (spV (hullS l)) ∧ Fr None w w' := by
  have S0 := ((Sep.law w).alloc #[.int .i64 0, .int .i64 0] SpT).alloc #[.int .i64 0, .int .i64 0] SpT
  simp only [World.size_alloc] at S0
  have HS := Lib.hid S0
  have HR := Lib.hid hr
  clear S0 hr
  go_enter Try.func55, Try.ntmps55
  go_wp2_with fail
  go_loopg [8] l.length (fun r i wr => ∃ k : Nat, k + r = l.length ∧ i = .int .i64 k ∧ Sep None w wr [Ob.blk (w.heap.size + 1) SpT #[.int .i64 (hullS (l.take k)).1, .int .i64 (hullS (l.take k)).2], Ob.blk w.heap.size SpT #[.int .i64 0, .int .i64 0]])
  case atStart => exact ⟨0, by omega, rfl, HS.out⟩
  case round =>
    clear HS
    obtain ⟨k, hk, rfl, S1⟩ := hrel
    by_cases g : k < l.length
    · have ex := List.getElem?_eq_getElem g
      obtain ⟨b, off, rfl, hc⟩ := (HR.out.fr S1.fr (fun _ _ h => h)).elem spc_len (by decide) ex
      have hs := hull_take ex
      generalize l[k] = x at *
      obtain ⟨x1, x2⟩ := x
      have c1 : wr.cell? ⟨b, off + k * 2, none⟩ = some (.int .i64 x1) := hc 0 _ rfl
      have c2 : wr.cell? ⟨b, off + k * 2 + 1, none⟩ = some (.int .i64 x2) := hc 1 _ rfl
      have HN := Lib.hid hs
      have S2 := S1.alloc #[.int .i64 x1, .int .i64 x2] SpT
      have HS2 := Lib.hid S2
      clear hc hs ex S1 S2
      go_wp2_with fail
      have N1 := none_any x1 x2 (wr.alloc (.cells #[.int .i64 x1, .int .i64 x2] SpT))
      refine N1.mono ?_
      rintro e w3 ⟨rfl, f3⟩
      have S3 := HS2.out.same f3
      clear N1 f3 HS2 c1 c2
      generalize hullS (l.take k) = h at *
      obtain ⟨h1, h2⟩ := h
      have k0 : w3.cell? ⟨w.heap.size + 1, 0, none⟩ = some (.int .i64 h1) := (S3.at_ 1 rfl).cell 0
      have k1 : w3.cell? ⟨w.heap.size + 1, 1, none⟩ = some (.int .i64 h2) := (S3.at_ 1 rfl).cell 1
      by_cases q1 : lenS (x1, x2) = 0
      · have hn := HN.out
        rw [if_pos q1] at hn
        have HN2 := Lib.hid hn
        have HS3 := Lib.hid S3
        rw [decide_eq_true q1]
        clear hn HN q1 S3
        go_wp2_with fail
        go_roundg (gk - 1)
        case measure => omega
        case rel => exact ⟨k + 1, by omega, by go_num, by rw [HN2.out]; exact HS3.out.drop (List.sublist_cons_self _ _)⟩
      · rw [decide_eq_false q1]
        have hn := HN.out
        rw [if_neg q1] at hn
        have HN1 := Lib.hid hn
        have HS3 := Lib.hid S3
        clear hn HN q1 S3
        go_wp2_with fail
        have N2 := none_any h1 h2 w3
        refine N2.mono ?_
        rintro e w4 ⟨rfl, f4⟩
        have S4 := HS3.out.same f4
        clear N2 f4 HS3 k0 k1
        have k0 : w4.cell? ⟨w.heap.size + 1, 0, none⟩ = some (.int .i64 h1) := (S4.at_ 1 rfl).cell 0
        have k1 : w4.cell? ⟨w.heap.size + 1, 1, none⟩ = some (.int .i64 h2) := (S4.at_ 1 rfl).cell 1
        have z0 : w4.frozen? ⟨w.heap.size + 1, 0, none⟩ = false := (S4.at_ 1 rfl).frozen 0
        have z1 : w4.frozen? ⟨w.heap.size + 1, 1, none⟩ = false := (S4.at_ 1 rfl).frozen 1
        have m0 : w4.cell? ⟨wr.heap.size, 0, none⟩ = some (.int .i64 x1) := (S4.at_ 0 rfl).cell 0
        have m1 : w4.cell? ⟨wr.heap.size, 1, none⟩ = some (.int .i64 x2) := (S4.at_ 0 rfl).cell 1
        have HS4 := Lib.hid S4
        clear S4
        by_cases q2 : lenS (h1, h2) = 0
        · have hn := HN1.out
          rw [if_pos q2] at hn
          have HN2 := Lib.hid hn
          rw [decide_eq_true q2]
          clear hn HN1 q2
          go_wp2_with fail
          go_roundg (gk - 1)
          case measure => omega
          case rel => exact ⟨k + 1, by omega, by go_num, by rw [HN2.out]; exact ((HS4.out.set 1 rfl 0 (.int .i64 x1)).set 1 rfl 1 (.int .i64 x2)).drop (List.sublist_cons_self _ _)⟩
        · have hn := HN1.out
          rw [if_neg q2] at hn
          have HN2 := Lib.hid hn
          rw [decide_eq_false q2]
          clear hn HN1 q2
          go_wp2_with fail
          all_goals
            go_roundg (gk - 1)
            case measure => omega
            case rel => exact ⟨k + 1, by omega, by go_num, by
              rw [HN2.out]
              dsimp only
              have hs := (HS4.out.set 1 rfl 0 (.int .i64 (min h1 x1))).set 1 rfl 1 (.int .i64 (max h2 x2))
              first
              | (rw [show min h1 x1 = h1 by omega, show max h2 x2 = h2 by omega] at *; exact hs.drop (List.sublist_cons_self _ _))
              | (rw [show min h1 x1 = x1 by omega, show max h2 x2 = h2 by omega] at *; exact hs.drop (List.sublist_cons_self _ _))
              | (rw [show min h1 x1 = h1 by omega, show max h2 x2 = x2 by omega] at *; exact hs.drop (List.sublist_cons_self _ _))
              | (rw [show min h1 x1 = x1 by omega, show max h2 x2 = x2 by omega] at *; exact hs.drop (List.sublist_cons_self _ _))⟩
    · obtain rfl : k = l.length := by omega
      rw [List.take_length] at S1
      have k0 : wr.cell? ⟨w.heap.size + 1, 0, none⟩ = some (.int .i64 (hullS l).1) := (S1.at_ 0 rfl).cell 0
      have k1 : wr.cell? ⟨w.heap.size + 1, 1, none⟩ = some (.int .i64 (hullS l).2) := (S1.at_ 0 rfl).cell 1
      have d0 : wr.cell? ⟨w.heap.size, 0, none⟩ = some (.int .i64 0) := (S1.at_ 1 rfl).cell 0
      have d1 : wr.cell? ⟨w.heap.size, 1, none⟩ = some (.int .i64 0) := (S1.at_ 1 rfl).cell 1
      have z0 : wr.frozen? ⟨w.heap.size, 0, none⟩ = false := (S1.at_ 1 rfl).frozen 0
      have z1 : wr.frozen? ⟨w.heap.size, 1, none⟩ = false := (S1.at_ 1 rfl).frozen 1
      have HS1 := Lib.hid S1
      clear S1
      go_wp2_with fail
      exact bodyPost_ret (v := spV (hullS l)) (by simp [results, Try.results55, go_sem, d0, d1]) rfl ⟨rfl, ((HS1.out.set 1 rfl 0 (.int .i64 (hullS l).1)).set 1 rfl 1 (.int .i64 (hullS l).2)).fr⟩
end Go.Proofs.Ytfobeheplficgaa
