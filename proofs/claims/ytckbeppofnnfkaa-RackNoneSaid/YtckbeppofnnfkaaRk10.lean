/- RackNone: what is none deems nothing lost: the law, walked. -/
import Derived.Test.YtckbeppofnnfkaaRk9
import Derived.Test.YtckbeppofnnfkaaFl1
namespace Go.Proofs.Ytckbeppofnnfkaa
open Go.RowKit Go.Und Go.Shelf
attribute [local go_sem] Oper.semAt_some

set_option maxRecDepth 100000 in
set_option maxHeartbeats 4000000 in
theorem rackNone_walk (w : World) (cr : Array Value) (ur : U) (hr : shRec.holds w ur cr.toList) (vn : Value) (un : U) (hn : (Sh.int .i64).holds w un [vn]) :
    Calls Try.prog 6 #[.agg cr, vn] w fun e w' => e = .returned (.bool true) ∧ Below w.heap.size w w' := by
  obtain ⟨r, hr⟩ := rec_of hr
  obtain rfl : cr = rcc r := Array.ext' hr
  clear hr
  obtain ⟨n, _, hn, _⟩ := hn
  simp only [List.cons.injEq, and_true] at hn
  subst hn
  have S := Lib.hid ((Sep.law w).alloc (rcc r) RcT)
  go_enter Try.func6, Try.ntmps6
  go_wp2_with fail
  refine (known_any _).mono ?_
  rintro e w1 ⟨rfl, f1⟩
  have S1 := Lib.hid (S.out.same f1)
  clear S f1
  go_wp2_with fail
  have T1 : Twos (w1.alloc (.cells #[.int .u8 1, .int .u8 1] 68)) (some ⟨w1.heap.size, 0, none⟩) [(1, 1)] := fun k x hx => by
    have hk : k = 0 := by have := (List.getElem?_eq_some_iff.1 hx).1; simpa using this
    subst hk
    obtain rfl : (1, 1) = x := by simpa using hx
    have b := Blk.new w1 68 #[.int .u8 1, .int .u8 1]
    exact ⟨_, _, rfl, b.lt, b.cell 0, b.cell 1, by decide, by decide⟩
  have T2 : Bytes (w1.alloc (.cells #[.int .u8 1, .int .u8 1] 68)) none [] := fun k x hx => by simp at hx
  refine (fly_any _ _ none none 1 0 0 [(1, 1)] [] [] T1 T2 T2).mono ?_
  rintro e w2 ⟨pb, bk, q, cap, rs, now, M, rfl, -, -, S2⟩
  have S3 := (S1.out.skip (.cells #[.int .u8 1, .int .u8 1] 68)).same S2.fr
  have HS3 := Lib.hid S3
  clear S2 S3 S1 T1 T2
  go_wp2_with fail
  refine (calm_nil _).mono ?_
  rintro e w3 ⟨rfl, f3⟩
  have S4 := Lib.hid ((HS3.out.skip (.cells #[.slice q rs.length cap, .int .i64 bk.nxt, .int .i64 bk.last, .int .i64 bk.order] Bk2T)).same f3)
  clear HS3 f3
  go_wp2_with fail
  refine (late_nil 0 n n _ _).mono ?_
  rintro e w4 ⟨rfl, f4⟩
  have S5 := S4.out.same f4
  have c0 : w4.cell? ⟨w.heap.size, 0, none⟩ = some (.int .i64 r.fr) := (S5.at_ 0 rfl).cell 0
  have c1 : w4.cell? ⟨w.heap.size, 1, none⟩ = some (.int .i64 r.to) := (S5.at_ 0 rfl).cell 1
  have c2 : w4.cell? ⟨w.heap.size, 2, none⟩ = some (.int .i64 r.sent) := (S5.at_ 0 rfl).cell 2
  have c3 : w4.cell? ⟨w.heap.size, 3, none⟩ = some (.int .i64 r.order) := (S5.at_ 0 rfl).cell 3
  have c4 : w4.cell? ⟨w.heap.size, 4, none⟩ = some (.int .i64 r.times) := (S5.at_ 0 rfl).cell 4
  have c5 : w4.cell? ⟨w.heap.size, 5, none⟩ = some (.int .i64 r.out) := (S5.at_ 0 rfl).cell 5
  have c6 : w4.cell? ⟨w.heap.size, 6, none⟩ = some (.bool r.lost) := (S5.at_ 0 rfl).cell 6
  have F := Lib.hid S5.fr
  clear S5 S4 f4
  go_wp2_with (first | ((with_reducible refine (came_nil r n n true false 0 _).mono ?_); rintro e wx ⟨rfl, fx⟩; have F := Lib.hid (F.out.trans fx); clear fx) | ((with_reducible refine (dup_nil n n _).mono ?_); rintro e wx ⟨rfl, fx⟩; have F := Lib.hid (F.out.trans fx); clear fx) | ((with_reducible refine (window_nil n n true false _).mono ?_); rintro e wx ⟨rfl, fx⟩; have F := Lib.hid (F.out.trans fx); clear fx) | ((with_reducible refine (rtt_nil _).mono ?_); rintro e wx ⟨rfl, fx⟩; have F := Lib.hid (F.out.trans fx); clear fx) | ((with_reducible refine (order_nil _).mono ?_); rintro e wx ⟨rfl, fx⟩; have F := Lib.hid (F.out.trans fx); clear fx) | ((with_reducible refine (mult_nil _).mono ?_); rintro e wx ⟨rfl, fx⟩; have F := Lib.hid (F.out.trans fx); clear fx) | ((with_reducible refine (mixed_nil _).mono ?_); rintro e wx ⟨rfl, fx⟩; have F := Lib.hid (F.out.trans fx); clear fx) | ((with_reducible refine (clone_nil _).mono ?_); rintro e wx ⟨rfl, fx⟩; have F := Lib.hid (F.out.trans fx); clear fx) | ((with_reducible refine (known_any _).mono ?_); rintro e wx ⟨rfl, fx⟩; have F := Lib.hid (F.out.trans fx); clear fx))
  exact bodyPost_ret (v := .bool true) (by simp [results, Try.results6, go_sem]) rfl ⟨rfl, F.out.none_below⟩
end Go.Proofs.Ytckbeppofnnfkaa
