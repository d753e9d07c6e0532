/- Options: how many bytes, and whether they may be: both packages, walked. -/
import Derived.Test.YthkhfijfgpccbaaOc2
set_option linter.unusedVariables false
set_option linter.unusedSimpArgs false
namespace Go.Proofs.Ythkhfijfgpccbaa
open Go.RowKit Go.Und
attribute [local go_sem] Oper.semAt_some
attribute [local go_sem ↓] Go.wp_at_zero Go.wp_at_succ

abbrev OpT : TypeId := 25
abbrev BlT : TypeId := 52
abbrev optc (o : Opt) (q : Option Addr) (c : Nat) : Array Value := #[.int .i64 o.mss, .bool o.permit, .bool o.ts, .int .u32 o.val, .int .u32 o.ecr, .bool o.has, .int .i64 o.scale, .slice q o.blocks.length c]
set_option maxHeartbeats 4000000 in
theorem bare_any (o : Opt) (q : Option Addr) (c : Nat) (w : World) (hn : o.blocks.length ≤ 4) :
    Calls Try.prog 38 #[.agg (optc o q c)] w fun e w' => e = .returned (.int .i64 (bareO o)) ∧ Fr None w w' := by
  obtain ⟨mss, permit, ts, val, ecr, has, scale, blocks⟩ := o
  dsimp only at hn
  have eb : bareO ⟨mss, permit, ts, val, ecr, has, scale, blocks⟩ = (if mss ≠ 0 then 4 else 0) + (if permit then 2 else 0) + (if ts then 10 else 0) + (if has then 3 else 0) + (if 0 < blocks.length then 2 + 8 * (blocks.length : Int) else 0) := rfl
  rw [eb]
  clear eb
  dsimp only [optc]
  generalize blocks.length = n at *
  by_cases g1 : mss = 0
  · subst g1
    by_cases g5 : n = 0
    · subst g5
      cases permit <;> cases ts <;> cases has
      all_goals
        go_enter Try.func38, Try.ntmps38
        go_wp2_with fail
        go_ret
        exact ⟨ret_intO (by decide), (Fr.refl None w).alloc _⟩
    · have g6 : 0 < n := by omega
      clear g5
      cases permit <;> cases ts <;> cases has
      all_goals
        go_enter Try.func38, Try.ntmps38
        go_wp2_with fail
        go_ret
        exact ⟨ret_intO (by first | omega | (rw [if_pos g6]; simp; try omega)), (Fr.refl None w).alloc _⟩
  · have g2 : (mss != 0) = true := by simpa using g1
    have g3 : (mss == 0) = false := by simpa using g1
    by_cases g5 : n = 0
    · subst g5
      rw [if_pos g1]
      clear g1
      cases permit <;> cases ts <;> cases has
      all_goals
        go_enter Try.func38, Try.ntmps38
        go_wp2_with fail
        go_ret
        exact ⟨ret_intO (by decide), (Fr.refl None w).alloc _⟩
    · have g6 : 0 < n := by omega
      rw [if_pos g1, if_pos g6]
      clear g5 g1
      cases permit <;> cases ts <;> cases has
      all_goals
        go_enter Try.func38, Try.ntmps38
        go_wp2_with fail
        go_ret
        exact ⟨ret_intO (by first | omega | (simp; try omega)), (Fr.refl None w).alloc _⟩
set_option maxHeartbeats 4000000 in
theorem rfBare_any (o : Opt) (q : Option Addr) (c : Nat) (w : World) (hn : o.blocks.length ≤ 4) :
    Calls Try.prog 16 #[.agg (optc o q c)] w fun e w' => e = .returned (.int .i64 (bareO o)) ∧ Fr None w w' := by
  obtain ⟨mss, permit, ts, val, ecr, has, scale, blocks⟩ := o
  dsimp only at hn
  have eb : bareO ⟨mss, permit, ts, val, ecr, has, scale, blocks⟩ = (if mss ≠ 0 then 4 else 0) + (if permit then 2 else 0) + (if ts then 10 else 0) + (if has then 3 else 0) + (if 0 < blocks.length then 2 + 8 * (blocks.length : Int) else 0) := rfl
  rw [eb]
  clear eb
  dsimp only [optc]
  generalize blocks.length = n at *
  by_cases g1 : mss = 0
  · subst g1
    by_cases g5 : n = 0
    · subst g5
      cases permit <;> cases ts <;> cases has
      all_goals
        go_enter Try.func16, Try.ntmps16
        go_wp2_with fail
        go_ret
        exact ⟨ret_intO (by decide), (Fr.refl None w).alloc _⟩
    · have g6 : 0 < n := by omega
      clear g5
      cases permit <;> cases ts <;> cases has
      all_goals
        go_enter Try.func16, Try.ntmps16
        go_wp2_with fail
        go_ret
        exact ⟨ret_intO (by first | omega | (rw [if_pos g6]; simp; try omega)), (Fr.refl None w).alloc _⟩
  · have g2 : (mss != 0) = true := by simpa using g1
    have g3 : (mss == 0) = false := by simpa using g1
    by_cases g5 : n = 0
    · subst g5
      rw [if_pos g1]
      clear g1
      cases permit <;> cases ts <;> cases has
      all_goals
        go_enter Try.func16, Try.ntmps16
        go_wp2_with fail
        go_ret
        exact ⟨ret_intO (by decide), (Fr.refl None w).alloc _⟩
    · have g6 : 0 < n := by omega
      rw [if_pos g1, if_pos g6]
      clear g5 g1
      cases permit <;> cases ts <;> cases has
      all_goals
        go_enter Try.func16, Try.ntmps16
        go_wp2_with fail
        go_ret
        exact ⟨ret_intO (by first | omega | (simp; try omega)), (Fr.refl None w).alloc _⟩
theorem bareO_pos (o : Opt) (h : o.blocks.length ≤ 4) : 0 ≤ bareO o ∧ bareO o ≤ 53 := by
  unfold bareO
  split <;> split <;> split <;> split <;> split <;> omega
theorem size_any (o : Opt) (q : Option Addr) (c : Nat) (w : World) :
    Calls Try.prog 14 #[.agg (optc o q c)] w fun e w' => e = .returned (.int .i64 (sizeO o)) ∧ Fr None w w' := by
  by_cases hn : o.blocks.length ≤ 4
  · have H := Lib.hid (fun W => bare_any o q c W hn)
    obtain ⟨b0, b1⟩ := bareO_pos o hn
    have es : sizeO o = (bareO o + 3) / 4 * 4 := by unfold sizeO; rw [if_neg (by omega)]
    rw [es]
    clear es
    generalize bareO o = b at *
    have hn' : ¬ 4 < o.blocks.length := by omega
    have S := Lib.hid ((Sep.law w).alloc (optc o q c) OpT)
    go_enter Try.func14, Try.ntmps14
    go_wp2_with fail
    refine (H.out _).mono ?_
    rintro e w1 ⟨rfl, f1⟩
    have F := Lib.hid (S.out.fr.trans f1)
    clear f1 H S
    go_wp2_with fail
    go_ret
    exact ⟨ret_intO (by omega), F.out⟩
  · have hn' : 4 < o.blocks.length := by omega
    have es : sizeO o = 0 := by unfold sizeO; rw [if_pos hn']
    rw [es]
    clear es hn
    go_enter Try.func14, Try.ntmps14
    go_wp2_with fail
    go_ret
    exact ⟨rfl, (Fr.refl None w).alloc _⟩
theorem rfSize_any (o : Opt) (q : Option Addr) (c : Nat) (w : World) :
    Calls Try.prog 32 #[.agg (optc o q c)] w fun e w' => e = .returned (.int .i64 (sizeO o)) ∧ Fr None w w' := by
  by_cases hn : o.blocks.length ≤ 4
  · have H := Lib.hid (fun W => rfBare_any o q c W hn)
    obtain ⟨b0, b1⟩ := bareO_pos o hn
    have es : sizeO o = (bareO o + 3) / 4 * 4 := by unfold sizeO; rw [if_neg (by omega)]
    rw [es]
    clear es
    generalize bareO o = b at *
    have hn' : ¬ 4 < o.blocks.length := by omega
    have S := Lib.hid ((Sep.law w).alloc (optc o q c) OpT)
    go_enter Try.func32, Try.ntmps32
    go_wp2_with fail
    refine (H.out _).mono ?_
    rintro e w1 ⟨rfl, f1⟩
    have F := Lib.hid (S.out.fr.trans f1)
    clear f1 H S
    go_wp2_with fail
    go_loopg [3] 4 (fun g nv wr => ∃ m : Int, nv = .int .i64 m ∧ b ≤ m ∧ m ≤ (b + 3) / 4 * 4 ∧ (b + 3) / 4 * 4 - m ≤ g ∧ wr = w1)
    case atStart => exact ⟨b, rfl, Int.le_refl _, by omega, by omega, rfl⟩
    case round =>
      obtain ⟨m, rfl, m1, m2, m3, rfl⟩ := hrel
      by_cases gm : m % 4 = 0
      · have gt : (m % 4 == 0) = true := by simpa using gm
        have gt2 : (m % 4 != 0) = false := by simpa using gm
        have em : m = (b + 3) / 4 * 4 := by omega
        have EM := Lib.hid em
        clear em gm
        go_wp2_with fail
        go_ret
        exact ⟨ret_intO EM.out, F.out⟩
      · have gt : (m % 4 == 0) = false := by simpa using gm
        have gt2 : (m % 4 != 0) = true := by simpa using gm
        have m4 : m + 1 ≤ (b + 3) / 4 * 4 := by omega
        clear gm
        go_wp2_with fail
        go_roundg (gk - 1)
        case measure => omega
        case rel => exact ⟨m + 1, rfl, by omega, by omega, by omega, rfl⟩
  · have hn' : 4 < o.blocks.length := by omega
    have es : sizeO o = 0 := by unfold sizeO; rw [if_pos hn']
    rw [es]
    clear es hn
    go_enter Try.func32, Try.ntmps32
    go_wp2_with fail
    go_ret
    exact ⟨rfl, (Fr.refl None w).alloc _⟩
end Go.Proofs.Ythkhfijfgpccbaa
