/- What the document says of a rack: walked. -/
import Derived.Test.YtckbeppofnnfkaaRk6
import Derived.Deep.CutRange
import Derived.Deep.DeepCutAuto
namespace Go.Proofs.Ytckbeppofnnfkaa
open Go.RowKit Go.Und Go.Shelf
attribute [local go_sem] Oper.semAt_some

abbrev rfv (x : Rk) : Value := .agg #[.int .i64 x.floor, .int .i64 x.rtt, .int .i64 x.order, .int .i64 x.fin, .bool x.mixed, .int .i64 x.mult, .int .i64 x.round, .int .i64 x.rest]
abbrev RfT : TypeId := 29
abbrev BrT : TypeId := 56

/-- What lies in memory once all is boxed. -/
abbrev rfW (w : World) (x : Rk) (r : Rc) : World := ((w.alloc (.cells #[.int .i64 x.floor, .int .i64 x.rtt, .int .i64 x.order, .int .i64 x.fin, .bool x.mixed, .int .i64 x.mult, .int .i64 x.round, .int .i64 x.rest] RfT)).alloc (.cells #[.int .i64 r.fr, .int .i64 r.to, .int .i64 r.sent, .int .i64 r.order, .int .i64 r.times, .int .i64 r.out, .bool r.lost] BrT)).alloc (.cells #[.int .i64 0, .int .i64 0, .int .i64 0, .int .i64 0, .bool false, .int .i64 0, .int .i64 0, .int .i64 0] RfT)
theorem mod_any (n : Int) (hn : -9223372036854775808 ≤ n ∧ n ≤ 9223372036854775807) : ∃ v, (0 ≤ v ∧ v < 4294967296) ∧ ∀ w, Calls Try.prog 68 #[.int .i64 n] w fun e w' => e = .returned (.int .i64 v) ∧ w' = w := by
  have h1 := Int.tmod_lt_of_pos n (show (0 : Int) < 4294967296 by decide)
  have h2 := Int.lt_tmod_of_pos n (show (0 : Int) < 4294967296 by decide)
  generalize hm : n.tmod 4294967296 = m at h1 h2
  refine ⟨if m < 0 then m + 4294967296 else m, by split <;> omega, fun w => ?_⟩
  go_enter Try.func68, Try.ntmps68
  go_wp2_with fail
  all_goals
    go_ret
    exact ⟨ret_int (by omega), rfl⟩
theorem rdist_any (a b : Int) (ha : 0 ≤ a ∧ a < 4294967296) (hb : 0 ≤ b ∧ b < 4294967296) : ∃ v, (-4294967296 < v ∧ v < 4294967296) ∧ ∀ w, Calls Try.prog 67 #[.int .i64 a, .int .i64 b] w fun e w' => e = .returned (.int .i64 v) ∧ w' = w := by
  obtain ⟨m, hm, hM⟩ := mod_any (b - a) (by omega)
  refine ⟨if m ≥ 2147483648 then m - 4294967296 else m, by split <;> omega, fun w => ?_⟩
  go_enter Try.func67, Try.ntmps67
  go_wp2_with fail
  refine (hM w).mono ?_
  rintro e w1 ⟨rfl, rfl⟩
  go_wp2_with fail
  all_goals
    go_ret
    exact ⟨ret_int (by omega), rfl⟩
theorem rfNew_any (f : Int) (w : World) : Calls Try.prog 12 #[.int .i64 f] w fun e w' => e = .returned (rfv ⟨f, 0, 0, 0, false, 1, 0, 16⟩) ∧ Fr None w w' := by
  go_enter Try.func12, Try.ntmps12
  go_wp2_with fail
  exact bodyPost_ret (v := rfv ⟨f, 0, 0, 0, false, 1, 0, 16⟩) (by simp [results, Try.results12, go_sem]) rfl ⟨rfl, (Fr.refl None w).alloc _⟩
theorem rfTime_any (t : Int) (w : World) : Calls Try.prog 15 #[.int .i64 t] w fun e w' => e = .returned (.int .i64 (timeS t)) ∧ w' = w := by
  go_enter Try.func15, Try.ntmps15
  go_wp2_with fail
  all_goals
    go_ret
    exact ⟨ret_int (by unfold timeS; omega), rfl⟩
theorem rec_any (r : Rc) (w : World) : Calls Try.prog 18 #[rcv r] w fun e w' => e = .returned (rcv r) ∧ Fr None w w' := by
  go_enter Try.func18, Try.ntmps18
  go_wp2_with fail
  exact bodyPost_ret (v := rcv r) (by simp [results, Try.results18, go_sem]) rfl ⟨rfl, ((Fr.refl None w).alloc _).alloc _⟩
theorem rfCalm_any (x : Rk) (w : World) (hm : 1 ≤ x.rest ∧ x.rest ≤ 16) : Calls Try.prog 62 #[rfv x] w fun e w' => e = .returned (rfv x.calm) ∧ Fr None w w' := by
  obtain ⟨x0, x1, x2, x3, x4, x5, x6, x7⟩ := x
  dsimp only at hm
  unfold Rk.calm
  by_cases g : x7 - 1 = 0
  · rw [if_pos g]
    go_enter Try.func62, Try.ntmps62
    go_wp2_with fail
    exact bodyPost_ret (v := rfv ⟨x0, x1, x2, x3, x4, 1, x6, 16⟩) (by simp [results, Try.results62, go_sem]) rfl ⟨rfl, ((Fr.refl None w).alloc _).alloc _⟩
  · rw [if_neg g]
    go_enter Try.func62, Try.ntmps62
    go_wp2_with fail
    exact bodyPost_ret (v := rfv ⟨x0, x1, x2, x3, x4, x5, x6, x7 - 1⟩) (by simp [results, Try.results62, go_sem]) rfl ⟨rfl, ((Fr.refl None w).alloc _).alloc _⟩
theorem rfDup_any (x : Rk) (una nxt : Int) (w : World) (hm : 1 ≤ x.mult ∧ x.mult ≤ 16) : Calls Try.prog 61 #[rfv x, .int .i64 una, .int .i64 nxt] w fun e w' => e = .returned (.tuple #[rfv (x.dup una nxt), .bool (decide (x.round ≤ una))]) ∧ Fr None w w' := by
  obtain ⟨x0, x1, x2, x3, x4, x5, x6, x7⟩ := x
  dsimp only at hm ⊢
  unfold Rk.dup
  by_cases g : una < x6
  · rw [if_pos g, decide_eq_false (by omega)]
    go_enter Try.func61, Try.ntmps61
    go_wp2_with fail
    exact bodyPost_ret (v := .tuple #[rfv ⟨x0, x1, x2, x3, x4, x5, x6, x7⟩, .bool false]) (by simp [results, Try.results61, go_sem]) rfl ⟨rfl, ((Fr.refl None w).alloc _).alloc _⟩
  · rw [if_neg g, decide_eq_true (show x6 ≤ una by omega)]
    by_cases g2 : x5 < 16
    · rw [show min (x5 + 1) 16 = x5 + 1 by omega]
      go_enter Try.func61, Try.ntmps61
      go_wp2_with fail
      exact bodyPost_ret (v := .tuple #[rfv ⟨x0, x1, x2, x3, x4, x5 + 1, nxt, 16⟩, .bool true]) (by simp [results, Try.results61, go_sem]) rfl ⟨rfl, ((Fr.refl None w).alloc _).alloc _⟩
    · obtain rfl : x5 = 16 := by omega
      rw [show min ((16 : Int) + 1) 16 = 16 by decide]
      go_enter Try.func61, Try.ntmps61
      go_wp2_with fail
      exact bodyPost_ret (v := .tuple #[rfv ⟨x0, x1, x2, x3, x4, 16, nxt, 16⟩, .bool true]) (by simp [results, Try.results61, go_sem]) rfl ⟨rfl, ((Fr.refl None w).alloc _).alloc _⟩

set_option maxHeartbeats 4000000 in
theorem rfCame_any (x : Rk) (r : Rc) (now least : Int) (has told : Bool) (val : Int) (hs : 0 ≤ r.sent ∧ r.sent ≤ 4611686018427387904) (hn : 0 ≤ now ∧ now ≤ 4611686018427387904) (hv : 0 ≤ val ∧ val < 4294967296) :
    ∃ c, CountsS r (now - r.sent) least has told c ∧ ∀ w, Calls Try.prog 17 #[rfv x, rcv r, .int .i64 now, .int .i64 least, .bool has, .bool told, .int .u32 val] w fun e w' => e = .returned (.tuple #[rfv (x.came r now c), .bool (x.took r c)]) ∧ Fr None w w' := by
  obtain ⟨x0, x1, x2, x3, x4, x5, x6, x7⟩ := x
  obtain ⟨rf, rt, rs, ro, rn, ru, rl⟩ := r
  dsimp only at hs hn ⊢
  obtain ⟨d1, hd1, hD1⟩ := mod_any rs (by omega)
  obtain ⟨d2, hd2, hD2⟩ := rdist_any val d1 hv hd1
  have HD1 := Lib.hid hD1; have HD2 := Lib.hid hD2
  clear hD1 hD2
  obtain ⟨c, hc⟩ : ∃ c : Bool, c = (decide (0 ≤ now - rs) && (decide (rn ≤ 1) || (!(told && decide (0 < d2)) && (has && decide (least ≤ now - rs))))) := ⟨_, rfl⟩
  refine ⟨c, ⟨fun h => ?_, fun h h2 => ?_, fun h h2 h3 => ?_⟩, fun w => ?_⟩
  · rw [hc, decide_eq_false (by omega)]; rfl
  · dsimp only at h2; rw [hc, decide_eq_true h, decide_eq_true h2]; rfl
  · dsimp only at h2; subst h3; rw [hc, decide_eq_true h, decide_eq_false (show ¬ rn ≤ 1 by omega)]; simp
  have HC := Lib.hid hc; clear hc
  cases told <;> cases has
  all_goals
    go_enter Try.func17, Try.ntmps17
    go_upto_region 1 with fail
    go_cut [27] from 17 to 27 (fun v wx => v = .bool (decide (rn = 1) && decide (rt < x3)) ∧ wx = rfW w ⟨x0, x1, x2, x3, x4, x5, x6, x7⟩ ⟨rf, rt, rs, ro, rn, ru, rl⟩)
    case first =>
      by_cases h1 : rn = 1
      · subst h1
        by_cases h2 : rt < x3
        all_goals
          go_wp2_with fail
          go_meet
          exact ⟨by simp [h2], rfl⟩
      · go_wp2_with fail
        go_meet
        exact ⟨by simp [h1], rfl⟩
    case rest =>
      obtain ⟨rfl, rfl⟩ := hcut
      obtain ⟨m, hm⟩ : ∃ m, m = (decide (rn = 1) && decide (rt < x3)) := ⟨_, rfl⟩
      rw [← hm]
      have HM := Lib.hid hm; clear hm
      go_upto_if 27 with fail
      go_cut [] from 28 to 28 (fun wx => wx = rfW w ⟨x0, x1, x2, x3, x4 || m, x5, x6, x7⟩ ⟨rf, rt, rs, ro, rn, ru, rl⟩)
      case first =>
        cases m
        · go_wp2_with fail
          go_meet
          simp
        · go_wp2_with fail
          go_meet
          simp
      case rest =>
        subst hcut
        go_upto_region 4 with fail
        simp only [max_ifR]
        have HS := Lib.hid (show (Rk.mk x0 x1 x2 x3 x4 x5 x6 x7).seen ⟨rf, rt, rs, ro, rn, ru, rl⟩ = ⟨x0, x1, x2, max x3 rt, x4 || m, x5, x6, x7⟩ by unfold Rk.seen; simp only [HM.out])
        generalize max x3 rt = y3 at *
        generalize (x4 || m) = y4 at *
        go_wp2_with (first | (refine (HD1.out _).mono ?_; rintro e w1 ⟨rfl, rfl⟩) | (refine (HD2.out _).mono ?_; rintro e w1 ⟨rfl, rfl⟩))
        all_goals
          first
          | (have hk : (Rk.mk x0 x1 x2 x3 x4 x5 x6 x7).took ⟨rf, rt, rs, ro, rn, ru, rl⟩ c = false := by (simp [Rk.took, HC.out]; omega)
             rw [hk, came_no hk, HS.out]
             exact bodyPost_ret (v := .tuple #[rfv ⟨x0, x1, x2, y3, y4, x5, x6, x7⟩, .bool false]) (by simp [results, Try.results17, go_sem]) rfl ⟨rfl, (((Fr.refl None w).alloc _).alloc _).alloc _⟩)
          | (have hk : (Rk.mk x0 x1 x2 x3 x4 x5 x6 x7).took ⟨rf, rt, rs, ro, rn, ru, rl⟩ c = true := by (simp [Rk.took, HC.out]; omega)
             rw [hk, came_yes hk, HS.out]
             exact bodyPost_ret (v := .tuple #[rfv ⟨x0, now - rs, ro, y3, y4, x5, x6, x7⟩, .bool true]) (by simp [results, Try.results17, go_sem]) rfl ⟨rfl, (((Fr.refl None w).alloc _).alloc _).alloc _⟩)
end Go.Proofs.Ytckbeppofnnfkaa
