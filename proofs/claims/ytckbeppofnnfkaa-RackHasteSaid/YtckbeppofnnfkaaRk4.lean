/- The rack: a record that came; walked. -/
import Derived.Test.YtckbeppofnnfkaaRk3
import Derived.Deep.DrawnRows
namespace Go.Proofs.Ytckbeppofnnfkaa
open Go.RowKit Go.Und Go.Shelf
attribute [local go_sem] Oper.semAt_some
attribute [local go_sem ↓] Go.wp_at_zero Go.wp_at_succ

/-- Where objects stand side by side, the world may be any. -/
@[elab_as_elim] theorem Sep.gen {D : Nat → Prop} {w0 : World} {L : List Ob} {P : World → Prop} (w : World) (S : Sep D w0 w L) (h : ∀ V, Sep D w0 V L → P V) : P w := h w S

def Rk.seen (x : Rk) (r : Rc) : Rk := { x with mixed := x.mixed || (decide (r.times = 1) && decide (r.to < x.fin)), fin := max x.fin r.to }
def Rk.took (x : Rk) (r : Rc) (c : Bool) : Bool := c && decide (x.order < r.order)
def Rk.came (x : Rk) (r : Rc) (now : Int) (c : Bool) : Rk := if x.took r c = true then { x.seen r with rtt := now - r.sent, order := r.order } else x.seen r

theorem came_no {x : Rk} {r : Rc} {now : Int} {c : Bool} (h : x.took r c = false) : x.came r now c = x.seen r := by unfold Rk.came; rw [h]; rfl
theorem came_yes {x : Rk} {r : Rc} {now : Int} {c : Bool} (h : x.took r c = true) : x.came r now c = { x.seen r with rtt := now - r.sent, order := r.order } := by unfold Rk.came; rw [h]; rfl

set_option maxHeartbeats 4000000 in
theorem came_any (x : Rk) (r : Rc) (now least : Int) (has told : Bool) (val : Int) (hs : 0 ≤ r.sent ∧ r.sent ≤ 4611686018427387904) (hn : 0 ≤ now ∧ now ≤ 4611686018427387904) :
    ∃ c, CountsS r (now - r.sent) least has told c ∧ ∀ px W, Blk W px RkT (rkc x) → Calls Try.prog 19 #[.pointer (at0 px), rcv r, .int .i64 now, .int .i64 least, .bool has, .agg #[.bool told, .int .u32 val]] W fun e W' =>
      e = .returned (.bool (x.took r c)) ∧ Sep (· = px) W W' [Ob.blk px RkT (rkc (x.came r now c))] := by
  obtain ⟨c, hc, hC⟩ := counts_any r (now - r.sent) least has told val default
  refine ⟨c, hc, fun px W hx => ?_⟩
  clear hc
  obtain ⟨rf, rt, rs, ro, rn, ru, rl⟩ := r
  dsimp only at hs hC
  have HC := Lib.hid hC
  clear hC
  have S := ((Sep.one (.blk px RkT (rkc x)) hx).alloc (rcc ⟨rf, rt, rs, ro, rn, ru, rl⟩) RcT).alloc #[.bool told, .int .u32 val] EcT
  simp only [World.size_alloc] at S
  have x3 : W.cell? ⟨px, 3, none⟩ = some (.int .i64 x.fin) := hx.cell 3
  have x4 : W.cell? ⟨px, 4, none⟩ = some (.bool x.mixed) := hx.cell 4
  have z4 : W.frozen? ⟨px, 4, none⟩ = false := hx.frozen 4
  have lpx := hx.lt
  clear hx
  have HS := Lib.hid S; clear S
  by_cases h1 : rn = 1
  · subst h1
    by_cases h2 : rt < x.fin
    · go_enter Try.func19, Try.ntmps19
      go_wp2_with fail
      go_quiet (fail)
      go_wp2_with fail
      have S := (HS.out.drewN nq).set 2 rfl 4 (.bool true)
      refine Sep.gen _ S ?_
      clear S x3 x4 z4
      intro V S
      obtain ⟨x1, hx1, ho1, S⟩ : ∃ x1 : Rk, x.seen ⟨rf, rt, rs, ro, 1, ru, rl⟩ = { x1 with fin := max x1.fin rt } ∧ x1.order = x.order ∧ Sep (· = px) W V [Ob.blk (W.heap.size + 1) EcT #[.bool told, .int .u32 val], Ob.blk W.heap.size RcT (rcc ⟨rf, rt, rs, ro, 1, ru, rl⟩), Ob.blk px RkT (rkc x1)] := ⟨{ x with mixed := true }, by simp [Rk.seen, h2], rfl, S⟩
      have q2 : V.cell? ⟨W.heap.size, 2, none⟩ = some (.int .i64 rs) := (S.at_ 1 rfl).cell 2
      have q1 : V.cell? ⟨W.heap.size, 1, none⟩ = some (.int .i64 rt) := (S.at_ 1 rfl).cell 1
      have x3 : V.cell? ⟨px, 3, none⟩ = some (.int .i64 x1.fin) := (S.at_ 2 rfl).cell 3
      have z3 : V.frozen? ⟨px, 3, none⟩ = false := (S.at_ 2 rfl).frozen 3
      have HS2 := Lib.hid S; clear S HS
      refine wp_region_tail (C := fun w' => ∃ n, w' = V.drewN n) 11 (by kernel_rfl) (by kernel_rfl) ⟨1, rfl⟩ ?_
      simp only [List.take_succ_cons, List.take_zero, List.drop_succ_cons, List.drop_zero]
      repeat (go_big_quiet_step (fail))
      refine wpQuiet_nil ?_
      rintro _ ⟨n1, rfl⟩
      simp only [max_ifR]
      go_wp2_with fail
      have S := (HS2.out.drewN n1).set 2 rfl 3 (.int .i64 (max x1.fin rt))
      refine Sep.gen _ S ?_
      clear S q1 q2 x3 z3
      intro V2 S
      have q0 : V2.cell? ⟨W.heap.size, 0, none⟩ = some (.int .i64 _) := (S.at_ 1 rfl).cell 0
      have q1 : V2.cell? ⟨W.heap.size, 1, none⟩ = some (.int .i64 _) := (S.at_ 1 rfl).cell 1
      have q4 : V2.cell? ⟨W.heap.size, 4, none⟩ = some (.int .i64 _) := (S.at_ 1 rfl).cell 4
      have q5 : V2.cell? ⟨W.heap.size, 5, none⟩ = some (.int .i64 _) := (S.at_ 1 rfl).cell 5
      have q6 : V2.cell? ⟨W.heap.size, 6, none⟩ = some (.bool _) := (S.at_ 1 rfl).cell 6
      have e0 : V2.cell? ⟨W.heap.size + 1, 0, none⟩ = some (.bool _) := (S.at_ 0 rfl).cell 0
      have e1 : V2.cell? ⟨W.heap.size + 1, 1, none⟩ = some (.int .u32 _) := (S.at_ 0 rfl).cell 1
      have q2 : V2.cell? ⟨W.heap.size, 2, none⟩ = some (.int .i64 rs) := (S.at_ 1 rfl).cell 2
      have q3 : V2.cell? ⟨W.heap.size, 3, none⟩ = some (.int .i64 ro) := (S.at_ 1 rfl).cell 3
      have x2 : V2.cell? ⟨px, 2, none⟩ = some (.int .i64 x.order) := by rw [← ho1]; exact (S.at_ 2 rfl).cell 2
      have HS3 := Lib.hid S; clear S
      cases c with
      | false =>
        refine (wpIn_wide (n := 5)).1 ?_
        refine wpIn_region_segs (by kernel_rfl) ?_
        refine seg_still 5 (by kernel_rfl) ?_
        simp only [List.drop_zero, List.take_succ_cons, List.take_zero, Nat.reduceSub]
        repeat (go_big_quiet_step (fail))
        refine wpQuiet_nil ?_
        refine seg_one (by kernel_rfl) fun K hK => ?_
        simp only [List.drop_succ_cons, List.drop_zero, List.take_succ_cons, List.take_zero]
        gi_wp2_with fail
        first | refine ⟨trivial, (callsIn_wide.2 (HC.out _)).mono ?_⟩ | refine ⟨trivial, fun h => (by cases h), (callsIn_wide.2 (HC.out _)).mono ?_⟩
        rintro e w1 ⟨rfl, f1⟩
        have S1 := HS3.out.drew.same f1
        clear f1
        gi_wp2_with fail
        refine seg_still 16 (by kernel_rfl) ?_
        simp only [List.drop_succ_cons, List.drop_zero, List.take_succ_cons, List.take_zero]
        repeat (go_big_quiet_step (fail))
        refine wpQuiet_nil ?_
        refine seg_done (by rfl) (by kernel_rfl) ?_
        go_wp2_with fail
        go_ret
        have hno : ∀ n, x.took ⟨rf, rt, rs, ro, n, ru, rl⟩ false = false := fun _ => rfl
        rw [hno, came_no (hno _), hx1]
        refine ⟨rfl, ?_⟩
        exact S1.drop (.cons _ (.cons _ (.refl _)))
      | true =>
        by_cases g : x.order < ro
        · skip
          refine (wpIn_wide (n := 5)).1 ?_
          refine wpIn_region_segs (by kernel_rfl) ?_
          refine seg_still 5 (by kernel_rfl) ?_
          simp only [List.drop_zero, List.take_succ_cons, List.take_zero, Nat.reduceSub]
          repeat (go_big_quiet_step (fail))
          refine wpQuiet_nil ?_
          refine seg_one (by kernel_rfl) fun K hK => ?_
          simp only [List.drop_succ_cons, List.drop_zero, List.take_succ_cons, List.take_zero]
          gi_wp2_with fail
          first | refine ⟨trivial, (callsIn_wide.2 (HC.out _)).mono ?_⟩ | refine ⟨trivial, fun h => (by cases h), (callsIn_wide.2 (HC.out _)).mono ?_⟩
          rintro e w1 ⟨rfl, f1⟩
          have S1 := HS3.out.drew.same f1
          have q3 : w1.cell? ⟨W.heap.size, 3, none⟩ = some (.int .i64 ro) := (S1.at_ 1 rfl).cell 3
          have x2 : w1.cell? ⟨px, 2, none⟩ = some (.int .i64 x.order) := by rw [← ho1]; exact (S1.at_ 2 rfl).cell 2
          have x1' : w1.cell? ⟨px, 1, none⟩ = some (.int .i64 _) := (S1.at_ 2 rfl).cell 1
          have z1 := (S1.at_ 2 rfl).frozen
          have HS4 := Lib.hid S1
          clear f1 S1 HS3
          gi_wp2_with fail
          refine seg_still 16 (by kernel_rfl) ?_
          simp only [List.drop_succ_cons, List.drop_zero, List.take_succ_cons, List.take_zero]
          repeat (go_big_quiet_step (fail))
          refine wpQuiet_nil ?_
          refine seg_done (by rfl) (by kernel_rfl) ?_
          go_wp2_with fail
          have HF := Lib.hid (((HS4.out).set 2 rfl 1 (.int .i64 (now - rs))).set 2 rfl 2 (.int .i64 ro)).drew
          have hne : W.heap.size ≠ px := by omega
          have z10 := z1 1
          have z20 := z1 2
          clear z1
          go_region_held3 (fun w' => w'.cell? ⟨W.heap.size, 3, none⟩ = some (.int .i64 ro)) (first | assumption | exact (cell_farB hne _).trans q3 | exact (cell_farB hne _).trans ((cell_farB hne _).trans q3) | (go_keep; done)) (fail)
          go_wp2_with fail
          go_ret
          have hy : ∀ n, x.took ⟨rf, rt, rs, ro, n, ru, rl⟩ true = true := fun n => by simp [Rk.took]; omega
          rw [hy, came_yes (hy _), hx1]
          exact ⟨rfl, HF.out.drop (.cons _ (.cons _ (.refl _)))⟩
        · skip
          refine (wpIn_wide (n := 5)).1 ?_
          refine wpIn_region_segs (by kernel_rfl) ?_
          refine seg_still 5 (by kernel_rfl) ?_
          simp only [List.drop_zero, List.take_succ_cons, List.take_zero, Nat.reduceSub]
          repeat (go_big_quiet_step (fail))
          refine wpQuiet_nil ?_
          refine seg_one (by kernel_rfl) fun K hK => ?_
          simp only [List.drop_succ_cons, List.drop_zero, List.take_succ_cons, List.take_zero]
          gi_wp2_with fail
          first | refine ⟨trivial, (callsIn_wide.2 (HC.out _)).mono ?_⟩ | refine ⟨trivial, fun h => (by cases h), (callsIn_wide.2 (HC.out _)).mono ?_⟩
          rintro e w1 ⟨rfl, f1⟩
          have S1 := HS3.out.drew.same f1
          have q3 : w1.cell? ⟨W.heap.size, 3, none⟩ = some (.int .i64 ro) := (S1.at_ 1 rfl).cell 3
          have x2 : w1.cell? ⟨px, 2, none⟩ = some (.int .i64 x.order) := by rw [← ho1]; exact (S1.at_ 2 rfl).cell 2
          clear f1
          gi_wp2_with fail
          refine seg_still 16 (by kernel_rfl) ?_
          simp only [List.drop_succ_cons, List.drop_zero, List.take_succ_cons, List.take_zero]
          repeat (go_big_quiet_step (fail))
          refine wpQuiet_nil ?_
          refine seg_done (by rfl) (by kernel_rfl) ?_
          go_wp2_with fail
          go_ret
          have hno : ∀ n, x.took ⟨rf, rt, rs, ro, n, ru, rl⟩ true = false := fun n => by simp [Rk.took]; omega
          rw [hno, came_no (hno _), hx1]
          refine ⟨rfl, ?_⟩
          exact S1.drop (.cons _ (.cons _ (.refl _)))
    · go_enter Try.func19, Try.ntmps19
      go_wp2_with fail
      go_quiet (fail)
      go_wp2_with fail
      have S := (HS.out.drewN nq)
      refine Sep.gen _ S ?_
      clear S x3 x4 z4
      intro V S
      obtain ⟨x1, hx1, ho1, S⟩ : ∃ x1 : Rk, x.seen ⟨rf, rt, rs, ro, 1, ru, rl⟩ = { x1 with fin := max x1.fin rt } ∧ x1.order = x.order ∧ Sep (· = px) W V [Ob.blk (W.heap.size + 1) EcT #[.bool told, .int .u32 val], Ob.blk W.heap.size RcT (rcc ⟨rf, rt, rs, ro, 1, ru, rl⟩), Ob.blk px RkT (rkc x1)] := ⟨x, by simp [Rk.seen]; intro h; omega, rfl, S⟩
      have q2 : V.cell? ⟨W.heap.size, 2, none⟩ = some (.int .i64 rs) := (S.at_ 1 rfl).cell 2
      have q1 : V.cell? ⟨W.heap.size, 1, none⟩ = some (.int .i64 rt) := (S.at_ 1 rfl).cell 1
      have x3 : V.cell? ⟨px, 3, none⟩ = some (.int .i64 x1.fin) := (S.at_ 2 rfl).cell 3
      have z3 : V.frozen? ⟨px, 3, none⟩ = false := (S.at_ 2 rfl).frozen 3
      have HS2 := Lib.hid S; clear S HS
      refine wp_region_tail (C := fun w' => ∃ n, w' = V.drewN n) 11 (by kernel_rfl) (by kernel_rfl) ⟨1, rfl⟩ ?_
      simp only [List.take_succ_cons, List.take_zero, List.drop_succ_cons, List.drop_zero]
      repeat (go_big_quiet_step (fail))
      refine wpQuiet_nil ?_
      rintro _ ⟨n1, rfl⟩
      simp only [max_ifR]
      go_wp2_with fail
      have S := (HS2.out.drewN n1).set 2 rfl 3 (.int .i64 (max x1.fin rt))
      refine Sep.gen _ S ?_
      clear S q1 q2 x3 z3
      intro V2 S
      have q0 : V2.cell? ⟨W.heap.size, 0, none⟩ = some (.int .i64 _) := (S.at_ 1 rfl).cell 0
      have q1 : V2.cell? ⟨W.heap.size, 1, none⟩ = some (.int .i64 _) := (S.at_ 1 rfl).cell 1
      have q4 : V2.cell? ⟨W.heap.size, 4, none⟩ = some (.int .i64 _) := (S.at_ 1 rfl).cell 4
      have q5 : V2.cell? ⟨W.heap.size, 5, none⟩ = some (.int .i64 _) := (S.at_ 1 rfl).cell 5
      have q6 : V2.cell? ⟨W.heap.size, 6, none⟩ = some (.bool _) := (S.at_ 1 rfl).cell 6
      have e0 : V2.cell? ⟨W.heap.size + 1, 0, none⟩ = some (.bool _) := (S.at_ 0 rfl).cell 0
      have e1 : V2.cell? ⟨W.heap.size + 1, 1, none⟩ = some (.int .u32 _) := (S.at_ 0 rfl).cell 1
      have q2 : V2.cell? ⟨W.heap.size, 2, none⟩ = some (.int .i64 rs) := (S.at_ 1 rfl).cell 2
      have q3 : V2.cell? ⟨W.heap.size, 3, none⟩ = some (.int .i64 ro) := (S.at_ 1 rfl).cell 3
      have x2 : V2.cell? ⟨px, 2, none⟩ = some (.int .i64 x.order) := by rw [← ho1]; exact (S.at_ 2 rfl).cell 2
      have HS3 := Lib.hid S; clear S
      cases c with
      | false =>
        refine (wpIn_wide (n := 5)).1 ?_
        refine wpIn_region_segs (by kernel_rfl) ?_
        refine seg_still 5 (by kernel_rfl) ?_
        simp only [List.drop_zero, List.take_succ_cons, List.take_zero, Nat.reduceSub]
        repeat (go_big_quiet_step (fail))
        refine wpQuiet_nil ?_
        refine seg_one (by kernel_rfl) fun K hK => ?_
        simp only [List.drop_succ_cons, List.drop_zero, List.take_succ_cons, List.take_zero]
        gi_wp2_with fail
        first | refine ⟨trivial, (callsIn_wide.2 (HC.out _)).mono ?_⟩ | refine ⟨trivial, fun h => (by cases h), (callsIn_wide.2 (HC.out _)).mono ?_⟩
        rintro e w1 ⟨rfl, f1⟩
        have S1 := HS3.out.drew.same f1
        clear f1
        gi_wp2_with fail
        refine seg_still 16 (by kernel_rfl) ?_
        simp only [List.drop_succ_cons, List.drop_zero, List.take_succ_cons, List.take_zero]
        repeat (go_big_quiet_step (fail))
        refine wpQuiet_nil ?_
        refine seg_done (by rfl) (by kernel_rfl) ?_
        go_wp2_with fail
        go_ret
        have hno : ∀ n, x.took ⟨rf, rt, rs, ro, n, ru, rl⟩ false = false := fun _ => rfl
        rw [hno, came_no (hno _), hx1]
        refine ⟨rfl, ?_⟩
        exact S1.drop (.cons _ (.cons _ (.refl _)))
      | true =>
        by_cases g : x.order < ro
        · skip
          refine (wpIn_wide (n := 5)).1 ?_
          refine wpIn_region_segs (by kernel_rfl) ?_
          refine seg_still 5 (by kernel_rfl) ?_
          simp only [List.drop_zero, List.take_succ_cons, List.take_zero, Nat.reduceSub]
          repeat (go_big_quiet_step (fail))
          refine wpQuiet_nil ?_
          refine seg_one (by kernel_rfl) fun K hK => ?_
          simp only [List.drop_succ_cons, List.drop_zero, List.take_succ_cons, List.take_zero]
          gi_wp2_with fail
          first | refine ⟨trivial, (callsIn_wide.2 (HC.out _)).mono ?_⟩ | refine ⟨trivial, fun h => (by cases h), (callsIn_wide.2 (HC.out _)).mono ?_⟩
          rintro e w1 ⟨rfl, f1⟩
          have S1 := HS3.out.drew.same f1
          have q3 : w1.cell? ⟨W.heap.size, 3, none⟩ = some (.int .i64 ro) := (S1.at_ 1 rfl).cell 3
          have x2 : w1.cell? ⟨px, 2, none⟩ = some (.int .i64 x.order) := by rw [← ho1]; exact (S1.at_ 2 rfl).cell 2
          have x1' : w1.cell? ⟨px, 1, none⟩ = some (.int .i64 _) := (S1.at_ 2 rfl).cell 1
          have z1 := (S1.at_ 2 rfl).frozen
          have HS4 := Lib.hid S1
          clear f1 S1 HS3
          gi_wp2_with fail
          refine seg_still 16 (by kernel_rfl) ?_
          simp only [List.drop_succ_cons, List.drop_zero, List.take_succ_cons, List.take_zero]
          repeat (go_big_quiet_step (fail))
          refine wpQuiet_nil ?_
          refine seg_done (by rfl) (by kernel_rfl) ?_
          go_wp2_with fail
          have HF := Lib.hid (((HS4.out).set 2 rfl 1 (.int .i64 (now - rs))).set 2 rfl 2 (.int .i64 ro)).drew
          have hne : W.heap.size ≠ px := by omega
          have z10 := z1 1
          have z20 := z1 2
          clear z1
          go_region_held3 (fun w' => w'.cell? ⟨W.heap.size, 3, none⟩ = some (.int .i64 ro)) (first | assumption | exact (cell_farB hne _).trans q3 | exact (cell_farB hne _).trans ((cell_farB hne _).trans q3) | (go_keep; done)) (fail)
          go_wp2_with fail
          go_ret
          have hy : ∀ n, x.took ⟨rf, rt, rs, ro, n, ru, rl⟩ true = true := fun n => by simp [Rk.took]; omega
          rw [hy, came_yes (hy _), hx1]
          exact ⟨rfl, HF.out.drop (.cons _ (.cons _ (.refl _)))⟩
        · skip
          refine (wpIn_wide (n := 5)).1 ?_
          refine wpIn_region_segs (by kernel_rfl) ?_
          refine seg_still 5 (by kernel_rfl) ?_
          simp only [List.drop_zero, List.take_succ_cons, List.take_zero, Nat.reduceSub]
          repeat (go_big_quiet_step (fail))
          refine wpQuiet_nil ?_
          refine seg_one (by kernel_rfl) fun K hK => ?_
          simp only [List.drop_succ_cons, List.drop_zero, List.take_succ_cons, List.take_zero]
          gi_wp2_with fail
          first | refine ⟨trivial, (callsIn_wide.2 (HC.out _)).mono ?_⟩ | refine ⟨trivial, fun h => (by cases h), (callsIn_wide.2 (HC.out _)).mono ?_⟩
          rintro e w1 ⟨rfl, f1⟩
          have S1 := HS3.out.drew.same f1
          have q3 : w1.cell? ⟨W.heap.size, 3, none⟩ = some (.int .i64 ro) := (S1.at_ 1 rfl).cell 3
          have x2 : w1.cell? ⟨px, 2, none⟩ = some (.int .i64 x.order) := by rw [← ho1]; exact (S1.at_ 2 rfl).cell 2
          clear f1
          gi_wp2_with fail
          refine seg_still 16 (by kernel_rfl) ?_
          simp only [List.drop_succ_cons, List.drop_zero, List.take_succ_cons, List.take_zero]
          repeat (go_big_quiet_step (fail))
          refine wpQuiet_nil ?_
          refine seg_done (by rfl) (by kernel_rfl) ?_
          go_wp2_with fail
          go_ret
          have hno : ∀ n, x.took ⟨rf, rt, rs, ro, n, ru, rl⟩ true = false := fun n => by simp [Rk.took]; omega
          rw [hno, came_no (hno _), hx1]
          refine ⟨rfl, ?_⟩
          exact S1.drop (.cons _ (.cons _ (.refl _)))
  · go_enter Try.func19, Try.ntmps19
    go_wp2_with fail
    go_quiet (fail)
    go_wp2_with fail
    have S := (HS.out.drewN nq)
    refine Sep.gen _ S ?_
    clear S x3 x4 z4
    intro V S
    obtain ⟨x1, hx1, ho1, S⟩ : ∃ x1 : Rk, x.seen ⟨rf, rt, rs, ro, rn, ru, rl⟩ = { x1 with fin := max x1.fin rt } ∧ x1.order = x.order ∧ Sep (· = px) W V [Ob.blk (W.heap.size + 1) EcT #[.bool told, .int .u32 val], Ob.blk W.heap.size RcT (rcc ⟨rf, rt, rs, ro, rn, ru, rl⟩), Ob.blk px RkT (rkc x1)] := ⟨x, by simp [Rk.seen, h1], rfl, S⟩
    have q2 : V.cell? ⟨W.heap.size, 2, none⟩ = some (.int .i64 rs) := (S.at_ 1 rfl).cell 2
    have q1 : V.cell? ⟨W.heap.size, 1, none⟩ = some (.int .i64 rt) := (S.at_ 1 rfl).cell 1
    have x3 : V.cell? ⟨px, 3, none⟩ = some (.int .i64 x1.fin) := (S.at_ 2 rfl).cell 3
    have z3 : V.frozen? ⟨px, 3, none⟩ = false := (S.at_ 2 rfl).frozen 3
    have HS2 := Lib.hid S; clear S HS
    refine wp_region_tail (C := fun w' => ∃ n, w' = V.drewN n) 11 (by kernel_rfl) (by kernel_rfl) ⟨1, rfl⟩ ?_
    simp only [List.take_succ_cons, List.take_zero, List.drop_succ_cons, List.drop_zero]
    repeat (go_big_quiet_step (fail))
    refine wpQuiet_nil ?_
    rintro _ ⟨n1, rfl⟩
    simp only [max_ifR]
    go_wp2_with fail
    have S := (HS2.out.drewN n1).set 2 rfl 3 (.int .i64 (max x1.fin rt))
    refine Sep.gen _ S ?_
    clear S q1 q2 x3 z3
    intro V2 S
    have q0 : V2.cell? ⟨W.heap.size, 0, none⟩ = some (.int .i64 _) := (S.at_ 1 rfl).cell 0
    have q1 : V2.cell? ⟨W.heap.size, 1, none⟩ = some (.int .i64 _) := (S.at_ 1 rfl).cell 1
    have q4 : V2.cell? ⟨W.heap.size, 4, none⟩ = some (.int .i64 _) := (S.at_ 1 rfl).cell 4
    have q5 : V2.cell? ⟨W.heap.size, 5, none⟩ = some (.int .i64 _) := (S.at_ 1 rfl).cell 5
    have q6 : V2.cell? ⟨W.heap.size, 6, none⟩ = some (.bool _) := (S.at_ 1 rfl).cell 6
    have e0 : V2.cell? ⟨W.heap.size + 1, 0, none⟩ = some (.bool _) := (S.at_ 0 rfl).cell 0
    have e1 : V2.cell? ⟨W.heap.size + 1, 1, none⟩ = some (.int .u32 _) := (S.at_ 0 rfl).cell 1
    have q2 : V2.cell? ⟨W.heap.size, 2, none⟩ = some (.int .i64 rs) := (S.at_ 1 rfl).cell 2
    have q3 : V2.cell? ⟨W.heap.size, 3, none⟩ = some (.int .i64 ro) := (S.at_ 1 rfl).cell 3
    have x2 : V2.cell? ⟨px, 2, none⟩ = some (.int .i64 x.order) := by rw [← ho1]; exact (S.at_ 2 rfl).cell 2
    have HS3 := Lib.hid S; clear S
    cases c with
    | false =>
      refine (wpIn_wide (n := 5)).1 ?_
      refine wpIn_region_segs (by kernel_rfl) ?_
      refine seg_still 5 (by kernel_rfl) ?_
      simp only [List.drop_zero, List.take_succ_cons, List.take_zero, Nat.reduceSub]
      repeat (go_big_quiet_step (fail))
      refine wpQuiet_nil ?_
      refine seg_one (by kernel_rfl) fun K hK => ?_
      simp only [List.drop_succ_cons, List.drop_zero, List.take_succ_cons, List.take_zero]
      gi_wp2_with fail
      first | refine ⟨trivial, (callsIn_wide.2 (HC.out _)).mono ?_⟩ | refine ⟨trivial, fun h => (by cases h), (callsIn_wide.2 (HC.out _)).mono ?_⟩
      rintro e w1 ⟨rfl, f1⟩
      have S1 := HS3.out.drew.same f1
      clear f1
      gi_wp2_with fail
      refine seg_still 16 (by kernel_rfl) ?_
      simp only [List.drop_succ_cons, List.drop_zero, List.take_succ_cons, List.take_zero]
      repeat (go_big_quiet_step (fail))
      refine wpQuiet_nil ?_
      refine seg_done (by rfl) (by kernel_rfl) ?_
      go_wp2_with fail
      go_ret
      have hno : ∀ n, x.took ⟨rf, rt, rs, ro, n, ru, rl⟩ false = false := fun _ => rfl
      rw [hno, came_no (hno _), hx1]
      refine ⟨rfl, ?_⟩
      exact S1.drop (.cons _ (.cons _ (.refl _)))
    | true =>
      by_cases g : x.order < ro
      · skip
        refine (wpIn_wide (n := 5)).1 ?_
        refine wpIn_region_segs (by kernel_rfl) ?_
        refine seg_still 5 (by kernel_rfl) ?_
        simp only [List.drop_zero, List.take_succ_cons, List.take_zero, Nat.reduceSub]
        repeat (go_big_quiet_step (fail))
        refine wpQuiet_nil ?_
        refine seg_one (by kernel_rfl) fun K hK => ?_
        simp only [List.drop_succ_cons, List.drop_zero, List.take_succ_cons, List.take_zero]
        gi_wp2_with fail
        first | refine ⟨trivial, (callsIn_wide.2 (HC.out _)).mono ?_⟩ | refine ⟨trivial, fun h => (by cases h), (callsIn_wide.2 (HC.out _)).mono ?_⟩
        rintro e w1 ⟨rfl, f1⟩
        have S1 := HS3.out.drew.same f1
        have q3 : w1.cell? ⟨W.heap.size, 3, none⟩ = some (.int .i64 ro) := (S1.at_ 1 rfl).cell 3
        have x2 : w1.cell? ⟨px, 2, none⟩ = some (.int .i64 x.order) := by rw [← ho1]; exact (S1.at_ 2 rfl).cell 2
        have x1' : w1.cell? ⟨px, 1, none⟩ = some (.int .i64 _) := (S1.at_ 2 rfl).cell 1
        have z1 := (S1.at_ 2 rfl).frozen
        have HS4 := Lib.hid S1
        clear f1 S1 HS3
        gi_wp2_with fail
        refine seg_still 16 (by kernel_rfl) ?_
        simp only [List.drop_succ_cons, List.drop_zero, List.take_succ_cons, List.take_zero]
        repeat (go_big_quiet_step (fail))
        refine wpQuiet_nil ?_
        refine seg_done (by rfl) (by kernel_rfl) ?_
        go_wp2_with fail
        have HF := Lib.hid (((HS4.out).set 2 rfl 1 (.int .i64 (now - rs))).set 2 rfl 2 (.int .i64 ro)).drew
        have hne : W.heap.size ≠ px := by omega
        have z10 := z1 1
        have z20 := z1 2
        clear z1
        go_region_held3 (fun w' => w'.cell? ⟨W.heap.size, 3, none⟩ = some (.int .i64 ro)) (first | assumption | exact (cell_farB hne _).trans q3 | exact (cell_farB hne _).trans ((cell_farB hne _).trans q3) | (go_keep; done)) (fail)
        go_wp2_with fail
        go_ret
        have hy : ∀ n, x.took ⟨rf, rt, rs, ro, n, ru, rl⟩ true = true := fun n => by simp [Rk.took]; omega
        rw [hy, came_yes (hy _), hx1]
        exact ⟨rfl, HF.out.drop (.cons _ (.cons _ (.refl _)))⟩
      · skip
        refine (wpIn_wide (n := 5)).1 ?_
        refine wpIn_region_segs (by kernel_rfl) ?_
        refine seg_still 5 (by kernel_rfl) ?_
        simp only [List.drop_zero, List.take_succ_cons, List.take_zero, Nat.reduceSub]
        repeat (go_big_quiet_step (fail))
        refine wpQuiet_nil ?_
        refine seg_one (by kernel_rfl) fun K hK => ?_
        simp only [List.drop_succ_cons, List.drop_zero, List.take_succ_cons, List.take_zero]
        gi_wp2_with fail
        first | refine ⟨trivial, (callsIn_wide.2 (HC.out _)).mono ?_⟩ | refine ⟨trivial, fun h => (by cases h), (callsIn_wide.2 (HC.out _)).mono ?_⟩
        rintro e w1 ⟨rfl, f1⟩
        have S1 := HS3.out.drew.same f1
        have q3 : w1.cell? ⟨W.heap.size, 3, none⟩ = some (.int .i64 ro) := (S1.at_ 1 rfl).cell 3
        have x2 : w1.cell? ⟨px, 2, none⟩ = some (.int .i64 x.order) := by rw [← ho1]; exact (S1.at_ 2 rfl).cell 2
        clear f1
        gi_wp2_with fail
        refine seg_still 16 (by kernel_rfl) ?_
        simp only [List.drop_succ_cons, List.drop_zero, List.take_succ_cons, List.take_zero]
        repeat (go_big_quiet_step (fail))
        refine wpQuiet_nil ?_
        refine seg_done (by rfl) (by kernel_rfl) ?_
        go_wp2_with fail
        go_ret
        have hno : ∀ n, x.took ⟨rf, rt, rs, ro, n, ru, rl⟩ true = false := fun n => by simp [Rk.took]; omega
        rw [hno, came_no (hno _), hx1]
        refine ⟨rfl, ?_⟩
        exact S1.drop (.cons _ (.cons _ (.refl _)))
end Go.Proofs.Ytckbeppofnnfkaa
