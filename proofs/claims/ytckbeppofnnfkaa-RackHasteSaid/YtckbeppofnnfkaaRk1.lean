/- The rack, walked: its making, what it tells, and what is late. -/
import Derived.Test.YtckbeppofnnfkaaBkJ
import Derived.Test.YtckbeppofnnfkaaPc
import Derived.IntWalk
namespace Go.Proofs.Ytckbeppofnnfkaa
open Go.RowKit Go.Und Go.Shelf
attribute [local go_sem] Oper.semAt_some

/-- What a rack holds. -/
structure Rk where
  (floor rtt order fin : Int) (mixed : Bool) (mult round rest : Int)
abbrev RkT : TypeId := 106
abbrev PrT : TypeId := 24
abbrev SpsT : TypeId := 59
def rkc (x : Rk) : Array Value := #[.int .i64 x.floor, .int .i64 x.rtt, .int .i64 x.order, .int .i64 x.fin, .bool x.mixed, .int .i64 x.mult, .int .i64 x.round, .int .i64 x.rest]
/-- A time that may be. -/
def timeS (t : Int) : Int := min (max t 0) 68719476736
theorem timeS_bounds (t : Int) : 0 ≤ timeS t ∧ timeS t ≤ 68719476736 := by unfold timeS; omega
theorem max_ifR (a b : Int) : (if a < b then b else a) = max a b := by omega
theorem min_ifR (a b : Int) : (if b < a then b else a) = min a b := by omega

theorem ret_int {a b : Int} (h : a = b) : (Ending.returned (.int .i64 a) : Ending) = .returned (.int .i64 b) := by rw [h]
theorem held_any (a b c : Int) (w : World) : Calls Try.prog 111 #[.int .i64 a, .int .i64 b, .int .i64 c] w fun e w' => e = .returned (.int .i64 (min (max a b) c)) ∧ w' = w := by
  go_enter Try.func111, Try.ntmps111
  go_wp2_with fail
  all_goals
    go_ret
    exact ⟨ret_int (by omega), rfl⟩
theorem time_any (t : Int) (w : World) : Calls Try.prog 63 #[.int .i64 t] w fun e w' => e = .returned (.int .i64 (timeS t)) ∧ w' = w := by
  go_enter Try.func63, Try.ntmps63
  go_wp2_with fail
  refine (held_any t 0 68719476736 w).mono ?_
  rintro e w1 ⟨rfl, rfl⟩
  go_wp2_with fail
  go_ret
  exact ⟨rfl, rfl⟩
theorem newRack_any (f : Int) (h0 : 0 ≤ f) (h1 : f ≤ 68719476736) (w : World) : Calls Try.prog 11 #[.int .i64 f] w fun e w' =>
    e = .returned (.tuple #[.pointer (at0 w.heap.size), .int .i64 0]) ∧ w' = w.alloc (.cells (rkc ⟨f, 0, 0, 0, false, 1, 0, 16⟩) RkT) := by
  go_enter Try.func11, Try.ntmps11
  go_wp2_with fail
  go_ret2
  exact ⟨rfl, rfl⟩
theorem newRack_no (f : Int) (h : f < 0 ∨ 68719476736 < f) (w : World) : Calls Try.prog 11 #[.int .i64 f] w fun e w' =>
    e = .returned (.tuple #[.pointer none, .int .i64 2]) ∧ w' = w := by
  by_cases g : f < 0
  all_goals
    try have g2 : 68719476736 < f := by omega
    clear h
    go_enter Try.func11, Try.ntmps11
    go_wp2_with fail
    go_ret2
    exact ⟨rfl, rfl⟩
theorem rtt_any (p : Nat) (x : Rk) (w : World) (h : Blk w p RkT (rkc x)) : Calls Try.prog 24 #[.pointer (at0 p)] w fun e w' => e = .returned (.int .i64 x.rtt) ∧ w' = w := by
  have c : w.cell? ⟨p, 1, none⟩ = some (.int .i64 x.rtt) := h.cell 1
  clear h
  go_enter Try.func24, Try.ntmps24
  go_wp2_with fail
  go_ret
  exact ⟨rfl, rfl⟩

/-! What is late. -/
structure LtS where
  (out : List (Int × Int)) (next : Int) (some : Bool)
def Rk.step (x : Rk) (now win : Int) (s : LtS) (r : Rc) : LtS :=
  if r.lost = true then s else if r.sent + x.rtt + timeS win < now then { s with out := s.out ++ [(r.fr, r.to)] }
  else if s.some = false ∨ r.sent + x.rtt + timeS win + 1 < s.next then { s with next := r.sent + x.rtt + timeS win + 1, some := true } else s
def Rk.goes (x : Rk) (now win : Int) (l : List Rc) : LtS := l.foldl (x.step now win) ⟨[], 0, false⟩
def Rk.late (x : Rk) (now win : Int) (l : List Rc) : LtS := x.goes now win (l.takeWhile fun r => decide (r.order < x.order))

theorem late_nil (pb now win : Int) (b : Value) (w : World) : Calls Try.prog 20 #[.pointer none, b, .int .i64 now, .int .i64 win] w fun e w' => e = .returned (.tuple #[.slice none 0 0, .int .i64 0, .bool false]) ∧ Fr None w w' := by
  go_enter Try.func20, Try.ntmps20
  go_wp2_with fail
  go_ret3
  exact ⟨rfl, (((Fr.refl None w).alloc _).alloc _).alloc _⟩
end Go.Proofs.Ytckbeppofnnfkaa
