/- ask, New, Len, Add: walked. -/
import Derived.Test.YtmdkmclngblldaaRw8
set_option linter.unusedVariables false
set_option linter.unusedSimpArgs false
namespace Go.Proofs.Ytmdkmclngblldaa
open Go.RowKit Go.Und Go.Shelf
attribute [local go_sem] Oper.semAt_some
attribute [local go_sem ↓] Go.wp_at_zero Go.wp_at_succ

set_option maxRecDepth 100000 in
set_option maxHeartbeats 4000000 in
theorem ask_any (p : Nat) (a b : Int) (w : World) : Calls Try.prog 51 #[.pointer (at0 p), .agg #[.int .i64 a, .int .i64 b]] w fun e w' => e = .returned (.int .i64 (if mayS (a, b) = true then 0 else 3)) ∧ Fr None w w' := by
  have F := Lib.hid ((Fr.refl None w).alloc (.cells #[.int .i64 a, .int .i64 b] SpT))
  have HM := Lib.hid (may_any a b (w.alloc (.cells #[.int .i64 a, .int .i64 b] SpT)))
  cases hm : mayS (a, b) <;> rw [hm] at HM
  all_goals
    go_enter Try.func51, Try.ntmps51
    go_wp2_with ((refine (HM.out).mono ?_); rintro e1 w1 ⟨rfl, F1⟩; have F2 := Lib.hid (F.out.trans F1); clear F1)
    go_ret
    exact ⟨rfl, F2.out⟩
set_option maxRecDepth 100000 in
theorem ask_nil (a b : Int) (w : World) : Calls Try.prog 51 #[.pointer none, .agg #[.int .i64 a, .int .i64 b]] w fun e w' => e = .returned (.int .i64 1) ∧ Fr None w w' := by
  have F := Lib.hid ((Fr.refl None w).alloc (.cells #[.int .i64 a, .int .i64 b] SpT))
  go_enter Try.func51, Try.ntmps51
  go_wp2_with fail
  go_ret
  exact ⟨rfl, F.out⟩
set_option maxRecDepth 100000 in
theorem new_any (w : World) : Calls Try.prog 14 #[] w fun e w' => e = .returned (.pointer (at0 w.heap.size)) ∧ Sep None w w' (rns w.heap.size none 0 []) := by
  have S := Lib.hid (((Sep.law w).alloc #[.slice none 0 0] RnT).add (srow none 0 []) (Fr.refl None _) (Owns.nil spc 2 SpT _) (fun k hk => by cases hk))
  go_enter Try.func14, Try.ntmps14
  go_wp2_with fail
  go_ret
  exact ⟨rfl, S.out.perm (List.Perm.swap _ _ _)⟩
set_option maxRecDepth 100000 in
theorem rlen_any (p : Nat) (q : Option Addr) (cap n : Nat) (w : World) (c1 : w.cell? ⟨p, 0, none⟩ = some (.slice q n cap)) : Calls Try.prog 22 #[.pointer (at0 p)] w fun e w' => e = .returned (.int .i64 (n : Int)) ∧ w' = w := by
  go_enter Try.func22, Try.ntmps22
  go_wp2_with fail
  go_ret
  exact ⟨rfl, rfl⟩
theorem mayS_pr {a b : Int} (h : PrS (a, b)) : mayS (a, b) = true := (mayS_iff _).2 ⟨h.1, by have := h.2.1; omega, h.2.2⟩
set_option maxRecDepth 100000 in
set_option maxHeartbeats 4000000 in
/-- What is no span that counts is not put in. -/
theorem add_odd (p : Nat) (a b : Int) (w : World) (h : mayS (a, b) = false ∨ a = b) : Calls Try.prog 15 #[.pointer (at0 p), .agg #[.int .i64 a, .int .i64 b]] w fun e w' => e = .returned (.tuple #[.int .i64 0, .int .i64 (if mayS (a, b) = true then 0 else 3)]) ∧ Fr None w w' := by
  have S0 := (Sep.law w).alloc #[.int .i64 a, .int .i64 b] SpT
  have HK := Lib.hid (ask_any p a b (w.alloc (.cells #[.int .i64 a, .int .i64 b] SpT)))
  have HS := Lib.hid S0
  clear S0
  cases hm : mayS (a, b)
  · rw [hm] at HK
    clear h
    go_enter Try.func15, Try.ntmps15
    go_wp2_with ((refine (HK.out).mono ?_); rintro e1 w1 ⟨rfl, F1⟩; have S1 := HS.out.same F1; clear F1; have HS1 := Lib.hid S1; clear S1)
    go_ret2
    exact ⟨rfl, HS1.out.fr⟩
  · rw [hm] at HK
    have hab : (a == b) = true := beq_iff_eq.2 (h.resolve_left (fun e => by rw [hm] at e; cases e))
    clear h
    go_enter Try.func15, Try.ntmps15
    go_wp2_with ((refine (HK.out).mono ?_); rintro e1 w1 ⟨rfl, F1⟩; have S1 := HS.out.same F1; clear F1; have d1 : w1.cell? ⟨w.heap.size, 0, none⟩ = some (.int .i64 a) := (S1.at_ 0 rfl).cell 0; have d2 : w1.cell? ⟨w.heap.size, 1, none⟩ = some (.int .i64 b) := (S1.at_ 0 rfl).cell 1; have HS1 := Lib.hid S1; clear S1)
    go_ret2
    exact ⟨rfl, HS1.out.fr⟩
end Go.Proofs.Ytmdkmclngblldaa
