/- The rack: bytes that came once more, a recovery's end, the window; and a rack that is none. Walked. -/
import Derived.Test.YtckbeppofnnfkaaRk4
namespace Go.Proofs.Ytckbeppofnnfkaa
open Go.RowKit Go.Und Go.Shelf
attribute [local go_sem] Oper.semAt_some

def Rk.dup (x : Rk) (una nxt : Int) : Rk := if una < x.round then x else { x with mult := min (x.mult + 1) 16, round := nxt, rest := 16 }
def Rk.calm (x : Rk) : Rk := if x.rest - 1 = 0 then { x with mult := 1, rest := 16 } else { x with rest := x.rest - 1 }

set_option maxHeartbeats 1000000 in
theorem dup_any (x : Rk) (una nxt : Int) (px : Nat) (W : World) (hx : Blk W px RkT (rkc x)) (hm : 1 ≤ x.mult ∧ x.mult ≤ 16) :
    Calls Try.prog 27 #[.pointer (at0 px), .int .i64 una, .int .i64 nxt] W fun e W' => e = .returned (.bool (decide (x.round ≤ una))) ∧ Sep (· = px) W W' [Ob.blk px RkT (rkc (x.dup una nxt))] := by
  have x5 : W.cell? ⟨px, 5, none⟩ = some (.int .i64 x.mult) := hx.cell 5
  have x6 : W.cell? ⟨px, 6, none⟩ = some (.int .i64 x.round) := hx.cell 6
  have x7 : W.cell? ⟨px, 7, none⟩ = some (.int .i64 x.rest) := hx.cell 7
  have z := hx.frozen
  have S := Lib.hid (Sep.one (.blk px RkT (rkc x)) hx)
  clear hx
  by_cases g : una < x.round
  · go_enter Try.func27, Try.ntmps27
    go_wp2_with fail
    go_ret
    rw [show x.dup una nxt = x by unfold Rk.dup; rw [if_pos g], decide_eq_false (by omega)]
    exact ⟨rfl, S.out⟩
  · rw [show x.dup una nxt = { x with mult := min (x.mult + 1) 16, round := nxt, rest := 16 } by unfold Rk.dup; rw [if_neg g], decide_eq_true (show x.round ≤ una by omega)]
    by_cases g2 : x.mult + 1 ≤ 16
    · rw [show min (x.mult + 1) 16 = x.mult + 1 by omega]
      go_enter Try.func27, Try.ntmps27
      go_wp2_with fail
      go_ret
      exact ⟨rfl, ((S.out.set 0 rfl 5 (.int .i64 (x.mult + 1))).set 0 rfl 6 (.int .i64 nxt)).set 0 rfl 7 (.int .i64 16)⟩
    · rw [show min (x.mult + 1) 16 = 16 by omega]
      go_enter Try.func27, Try.ntmps27
      go_wp2_with fail
      go_ret
      exact ⟨rfl, ((S.out.set 0 rfl 5 (.int .i64 16)).set 0 rfl 6 (.int .i64 nxt)).set 0 rfl 7 (.int .i64 16)⟩

set_option maxHeartbeats 1000000 in
theorem calm_any (x : Rk) (px : Nat) (W : World) (hx : Blk W px RkT (rkc x)) (hm : 1 ≤ x.rest ∧ x.rest ≤ 16) :
    Calls Try.prog 26 #[.pointer (at0 px)] W fun e W' => e = .returned (.tuple #[]) ∧ Sep (· = px) W W' [Ob.blk px RkT (rkc x.calm)] := by
  have x5 : W.cell? ⟨px, 5, none⟩ = some (.int .i64 x.mult) := hx.cell 5
  have x7 : W.cell? ⟨px, 7, none⟩ = some (.int .i64 x.rest) := hx.cell 7
  have z := hx.frozen
  have S := Lib.hid (Sep.one (.blk px RkT (rkc x)) hx)
  clear hx
  by_cases g : x.rest - 1 = 0
  · rw [show x.calm = { x with mult := 1, rest := 16 } by unfold Rk.calm; rw [if_pos g]]
    go_enter Try.func26, Try.ntmps26
    go_wp2_with fail
    go_end0
    exact ⟨rfl, ((S.out.set 0 rfl 7 (.int .i64 0)).set 0 rfl 5 (.int .i64 1)).set 0 rfl 7 (.int .i64 16)⟩
  · rw [show x.calm = { x with rest := x.rest - 1 } by unfold Rk.calm; rw [if_neg g]]
    go_enter Try.func26, Try.ntmps26
    go_wp2_with fail
    go_end0
    exact ⟨rfl, S.out.set 0 rfl 7 (.int .i64 (x.rest - 1))⟩

set_option maxHeartbeats 1000000 in
/-- The window: never below the floor, never above the greater one of it and the smoothed time. -/
theorem window_any (x : Rk) (least srtt : Int) (has sharp : Bool) (px : Nat) (W : World) (hx : Blk W px RkT (rkc x)) (hm : 1 ≤ x.mult ∧ x.mult ≤ 16) :
    ∃ n, x.floor ≤ n ∧ n ≤ max x.floor (timeS srtt) ∧ Calls Try.prog 14 #[.pointer (at0 px), .int .i64 least, .bool has, .int .i64 srtt, .bool sharp] W fun e W' => e = .returned (.int .i64 n) ∧ ∃ m, W' = W.drewN m := by
  have ht1 := timeS_bounds least
  have ht2 := timeS_bounds srtt
  have x0 : W.cell? ⟨px, 0, none⟩ = some (.int .i64 x.floor) := hx.cell 0
  have x4 : W.cell? ⟨px, 4, none⟩ = some (.bool x.mixed) := hx.cell 4
  have x5 : W.cell? ⟨px, 5, none⟩ = some (.int .i64 x.mult) := hx.cell 5
  clear hx
  have key : ∀ b : Bool, has = b → ∀ m : Bool, x.mixed = m → ∃ n, x.floor ≤ n ∧ n ≤ max x.floor (timeS srtt) ∧ Calls Try.prog 14 #[.pointer (at0 px), .int .i64 least, .bool has, .int .i64 srtt, .bool sharp] W fun e W' => e = .returned (.int .i64 n) ∧ ∃ m, W' = W.drewN m := by
    intro b hb m hm2
    rw [hm2] at x4
    subst hb
    cases has with
    | false =>
      refine ⟨max 0 x.floor, by omega, by omega, ?_⟩
      go_enter Try.func14, Try.ntmps14
      go_wp2_with fail
      all_goals
        go_ret
        exact ⟨ret_int (by omega), 0, rfl⟩
    | true =>
      have hmul : 0 ≤ x.mult * timeS least ∧ x.mult * timeS least ≤ 1099511627776 := ⟨Int.mul_nonneg (by omega) (by omega), by
        have h1 := Int.mul_le_mul_of_nonneg_right hm.2 ht1.1
        omega⟩
      have T1 := Lib.hid (time_any least); have T2 := Lib.hid (time_any srtt)
      cases m <;> cases sharp
      rotate_left
      · refine ⟨max 0 x.floor, by omega, by omega, ?_⟩
        go_enter Try.func14, Try.ntmps14
        go_wp2_with fail
        all_goals
          go_ret
          exact ⟨ret_int (by omega), 0, rfl⟩
      all_goals
        refine ⟨max (min (x.mult * timeS least / 4) (timeS srtt)) x.floor, by omega, by omega, ?_⟩
        go_enter Try.func14, Try.ntmps14
        go_wp2_with fail
        go_quiet (exact (time_any _ _).mono (by rintro e w1 ⟨rfl, rfl⟩; exact ⟨rfl, _, rfl⟩))
        go_wp2_with fail
        all_goals
          go_ret
          exact ⟨ret_int (by omega), _, rfl⟩
  exact key _ rfl _ rfl

/-! A rack that is none. -/
theorem dup_nil (a b : Int) (w : World) : Calls Try.prog 27 #[.pointer none, .int .i64 a, .int .i64 b] w fun e w' => e = .returned (.bool false) ∧ Fr None w w' := by
  go_enter Try.func27, Try.ntmps27
  go_wp2_with fail
  go_ret
  exact ⟨rfl, Fr.refl None w⟩
theorem calm_nil (w : World) : Calls Try.prog 26 #[.pointer none] w fun e w' => e = .returned (.tuple #[]) ∧ Fr None w w' := by
  go_enter Try.func26, Try.ntmps26
  go_wp2_with fail
  exact bodyPost_ret (results_none rfl _ _ _) rfl ⟨rfl, Fr.refl None w⟩
theorem window_nil (a c : Int) (b d : Bool) (w : World) : Calls Try.prog 14 #[.pointer none, .int .i64 a, .bool b, .int .i64 c, .bool d] w fun e w' => e = .returned (.int .i64 0) ∧ Fr None w w' := by
  go_enter Try.func14, Try.ntmps14
  go_wp2_with fail
  go_ret
  exact ⟨rfl, Fr.refl None w⟩
theorem came_nil (r : Rc) (now least : Int) (has told : Bool) (val : Int) (w : World) : Calls Try.prog 19 #[.pointer none, rcv r, .int .i64 now, .int .i64 least, .bool has, .agg #[.bool told, .int .u32 val]] w fun e w' => e = .returned (.bool false) ∧ Fr None w w' := by
  go_enter Try.func19, Try.ntmps19
  go_wp2_with fail
  go_ret
  exact ⟨rfl, ((Fr.refl None w).alloc _).alloc _⟩
theorem rtt_nil (w : World) : Calls Try.prog 24 #[.pointer none] w fun e w' => e = .returned (.int .i64 0) ∧ Fr None w w' := by
  go_enter Try.func24, Try.ntmps24
  go_wp2_with fail
  go_ret
  exact ⟨rfl, Fr.refl None w⟩
theorem order_nil (w : World) : Calls Try.prog 25 #[.pointer none] w fun e w' => e = .returned (.int .i64 0) ∧ Fr None w w' := by
  go_enter Try.func25, Try.ntmps25
  go_wp2_with fail
  go_ret
  exact ⟨rfl, Fr.refl None w⟩
theorem mult_nil (w : World) : Calls Try.prog 28 #[.pointer none] w fun e w' => e = .returned (.int .i64 0) ∧ Fr None w w' := by
  go_enter Try.func28, Try.ntmps28
  go_wp2_with fail
  go_ret
  exact ⟨rfl, Fr.refl None w⟩
theorem mixed_nil (w : World) : Calls Try.prog 29 #[.pointer none] w fun e w' => e = .returned (.bool false) ∧ Fr None w w' := by
  go_enter Try.func29, Try.ntmps29
  go_wp2_with fail
  go_ret
  exact ⟨rfl, Fr.refl None w⟩
theorem clone_nil (w : World) : Calls Try.prog 30 #[.pointer none] w fun e w' => e = .returned (.pointer none) ∧ Fr None w w' := by
  go_enter Try.func30, Try.ntmps30
  go_wp2_with fail
  go_ret
  exact ⟨rfl, Fr.refl None w⟩
theorem order_any (p : Nat) (x : Rk) (w : World) (h : Blk w p RkT (rkc x)) : Calls Try.prog 25 #[.pointer (at0 p)] w fun e w' => e = .returned (.int .i64 x.order) ∧ w' = w := by
  have c : w.cell? ⟨p, 2, none⟩ = some (.int .i64 x.order) := h.cell 2
  clear h
  go_enter Try.func25, Try.ntmps25
  go_wp2_with fail
  go_ret
  exact ⟨rfl, rfl⟩
end Go.Proofs.Ytckbeppofnnfkaa
