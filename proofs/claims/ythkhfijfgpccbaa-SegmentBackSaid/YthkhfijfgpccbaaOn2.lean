/- Options: whether they may be: both packages, walked. -/
import Derived.Test.YthkhfijfgpccbaaOn1
set_option linter.unusedVariables false
set_option linter.unusedSimpArgs false
namespace Go.Proofs.Ythkhfijfgpccbaa
open Go.RowKit Go.Und
attribute [local go_sem] Oper.semAt_some
attribute [local go_sem ↓] Go.wp_at_zero Go.wp_at_succ

set_option maxHeartbeats 8000000 in
theorem check_any (o : Opt) (q : Option Addr) (c : Nat) (w : World) :
    Calls Try.prog 15 #[.agg (optc o q c)] w fun e w' => e = .returned (.int .i64 (checkO o)) ∧ Fr None w w' := by
  by_cases h1 : o.mss < 0 ∨ 65535 < o.mss ∨ o.scale < 0 ∨ 14 < o.scale
  · have ec : checkO o = 3 := by unfold checkO; rw [if_pos h1]
    rw [ec]
    clear ec
    obtain ⟨mss, permit, ts, val, ecr, has, scale, blocks⟩ := o
    dsimp only at h1
    have g4 : mss < 0 ∨ (0 ≤ mss ∧ 65535 < mss) ∨ ((0 ≤ mss ∧ mss ≤ 65535) ∧ scale < 0) ∨ ((0 ≤ mss ∧ mss ≤ 65535) ∧ 0 ≤ scale ∧ 14 < scale) := by omega
    clear h1
    rcases g4 with u1 | ⟨u1, u2⟩ | ⟨⟨u1, u2⟩, u3⟩ | ⟨⟨u1, u2⟩, u3, u4⟩
    all_goals
      go_enter Try.func15, Try.ntmps15
      go_wp2_with fail
      go_ret
      exact ⟨rfl, (Fr.refl None w).alloc _⟩
  have ec : checkO o = if (o.scale ≠ 0 ∧ o.has = false) ∨ ((o.val ≠ 0 ∨ o.ecr ≠ 0) ∧ o.ts = false) then 6 else if 4 < o.blocks.length ∨ 40 < sizeO o then 9 else 0 := by unfold checkO; rw [if_neg h1]
  rw [ec]
  clear ec
  have S := Lib.hid ((Sep.law w).alloc (optc o q c) OpT)
  have HZ := Lib.hid (fun W => size_any o q c W)
  generalize sizeO o = z at *
  obtain ⟨mss, permit, ts, val, ecr, has, scale, blocks⟩ := o
  dsimp only at h1 ⊢
  obtain ⟨u1, u2, u3, u4⟩ : 0 ≤ mss ∧ mss ≤ 65535 ∧ 0 ≤ scale ∧ scale ≤ 14 := by omega
  clear h1
  by_cases scalen : scale = 0
  · subst scalen
    by_cases valn : val = 0
    · subst valn
      by_cases ecrn : ecr = 0
      · subst ecrn
        simp only [ne_eq, not_true_eq_false, not_true, not_false_eq_true, not_false_iff, false_and, true_and, and_false, and_true, or_false, false_or, or_true, true_or, or_self, if_true, if_false, Bool.true_eq_false, Bool.false_eq_true, reduceCtorEq]
        by_cases c1 : 4 < blocks.length
        · simp only [c1, true_or, if_true]
          go_enter Try.func15, Try.ntmps15
          go_wp2_with fail
          go_ret
          exact ⟨rfl, S.out.fr⟩
        · by_cases c2 : 40 < z
          · simp only [c2, or_true, if_true]
            go_enter Try.func15, Try.ntmps15
            go_wp2_with fail
            refine (HZ.out _).mono ?_
            rintro e w1 ⟨rfl, f1⟩
            have F := Lib.hid (S.out.fr.trans f1)
            clear f1 HZ S
            go_wp2_with fail
            go_ret
            exact ⟨rfl, F.out⟩
          · simp only [c1, c2, or_self, if_false]
            go_enter Try.func15, Try.ntmps15
            go_wp2_with fail
            refine (HZ.out _).mono ?_
            rintro e w1 ⟨rfl, f1⟩
            have F := Lib.hid (S.out.fr.trans f1)
            clear f1 HZ S
            go_wp2_with fail
            go_ret
            exact ⟨rfl, F.out⟩
      · have ecr1 : (ecr == 0) = false := by simpa using ecrn
        have ecr2 : (ecr != 0) = true := by simpa using ecrn
        cases ts with
        | false =>
          simp only [ne_eq, ecrn, not_true_eq_false, not_true, not_false_eq_true, not_false_iff, false_and, true_and, and_false, and_true, or_false, false_or, or_true, true_or, or_self, if_true, if_false, Bool.true_eq_false, Bool.false_eq_true, reduceCtorEq]
          clear ecrn
          go_enter Try.func15, Try.ntmps15
          go_wp2_with fail
          go_ret
          exact ⟨rfl, S.out.fr⟩
        | true =>
          simp only [ne_eq, ecrn, not_true_eq_false, not_true, not_false_eq_true, not_false_iff, false_and, true_and, and_false, and_true, or_false, false_or, or_true, true_or, or_self, if_true, if_false, Bool.true_eq_false, Bool.false_eq_true, reduceCtorEq]
          clear ecrn
          by_cases c1 : 4 < blocks.length
          · simp only [c1, true_or, if_true]
            go_enter Try.func15, Try.ntmps15
            go_wp2_with fail
            go_ret
            exact ⟨rfl, S.out.fr⟩
          · by_cases c2 : 40 < z
            · simp only [c2, or_true, if_true]
              go_enter Try.func15, Try.ntmps15
              go_wp2_with fail
              refine (HZ.out _).mono ?_
              rintro e w1 ⟨rfl, f1⟩
              have F := Lib.hid (S.out.fr.trans f1)
              clear f1 HZ S
              go_wp2_with fail
              go_ret
              exact ⟨rfl, F.out⟩
            · simp only [c1, c2, or_self, if_false]
              go_enter Try.func15, Try.ntmps15
              go_wp2_with fail
              refine (HZ.out _).mono ?_
              rintro e w1 ⟨rfl, f1⟩
              have F := Lib.hid (S.out.fr.trans f1)
              clear f1 HZ S
              go_wp2_with fail
              go_ret
              exact ⟨rfl, F.out⟩
    · have val1 : (val == 0) = false := by simpa using valn
      have val2 : (val != 0) = true := by simpa using valn
      cases ts with
      | false =>
        simp only [ne_eq, valn, not_true_eq_false, not_true, not_false_eq_true, not_false_iff, false_and, true_and, and_false, and_true, or_false, false_or, or_true, true_or, or_self, if_true, if_false, Bool.true_eq_false, Bool.false_eq_true, reduceCtorEq]
        clear valn
        go_enter Try.func15, Try.ntmps15
        go_wp2_with fail
        go_ret
        exact ⟨rfl, S.out.fr⟩
      | true =>
        simp only [ne_eq, valn, not_true_eq_false, not_true, not_false_eq_true, not_false_iff, false_and, true_and, and_false, and_true, or_false, false_or, or_true, true_or, or_self, if_true, if_false, Bool.true_eq_false, Bool.false_eq_true, reduceCtorEq]
        clear valn
        by_cases c1 : 4 < blocks.length
        · simp only [c1, true_or, if_true]
          go_enter Try.func15, Try.ntmps15
          go_wp2_with fail
          go_ret
          exact ⟨rfl, S.out.fr⟩
        · by_cases c2 : 40 < z
          · simp only [c2, or_true, if_true]
            go_enter Try.func15, Try.ntmps15
            go_wp2_with fail
            refine (HZ.out _).mono ?_
            rintro e w1 ⟨rfl, f1⟩
            have F := Lib.hid (S.out.fr.trans f1)
            clear f1 HZ S
            go_wp2_with fail
            go_ret
            exact ⟨rfl, F.out⟩
          · simp only [c1, c2, or_self, if_false]
            go_enter Try.func15, Try.ntmps15
            go_wp2_with fail
            refine (HZ.out _).mono ?_
            rintro e w1 ⟨rfl, f1⟩
            have F := Lib.hid (S.out.fr.trans f1)
            clear f1 HZ S
            go_wp2_with fail
            go_ret
            exact ⟨rfl, F.out⟩
  · have scale1 : (scale == 0) = false := by simpa using scalen
    have scale2 : (scale != 0) = true := by simpa using scalen
    cases has with
    | false =>
      simp only [ne_eq, scalen, not_true_eq_false, not_true, not_false_eq_true, not_false_iff, false_and, true_and, and_false, and_true, or_false, false_or, or_true, true_or, or_self, if_true, if_false, Bool.true_eq_false, Bool.false_eq_true, reduceCtorEq]
      clear scalen
      go_enter Try.func15, Try.ntmps15
      go_wp2_with fail
      go_ret
      exact ⟨rfl, S.out.fr⟩
    | true =>
      by_cases valn : val = 0
      · subst valn
        by_cases ecrn : ecr = 0
        · subst ecrn
          simp only [ne_eq, scalen, not_true_eq_false, not_true, not_false_eq_true, not_false_iff, false_and, true_and, and_false, and_true, or_false, false_or, or_true, true_or, or_self, if_true, if_false, Bool.true_eq_false, Bool.false_eq_true, reduceCtorEq]
          by_cases c1 : 4 < blocks.length
          · simp only [c1, true_or, if_true]
            go_enter Try.func15, Try.ntmps15
            go_wp2_with fail
            go_ret
            exact ⟨rfl, S.out.fr⟩
          · by_cases c2 : 40 < z
            · simp only [c2, or_true, if_true]
              go_enter Try.func15, Try.ntmps15
              go_wp2_with fail
              refine (HZ.out _).mono ?_
              rintro e w1 ⟨rfl, f1⟩
              have F := Lib.hid (S.out.fr.trans f1)
              clear f1 HZ S
              go_wp2_with fail
              go_ret
              exact ⟨rfl, F.out⟩
            · simp only [c1, c2, or_self, if_false]
              go_enter Try.func15, Try.ntmps15
              go_wp2_with fail
              refine (HZ.out _).mono ?_
              rintro e w1 ⟨rfl, f1⟩
              have F := Lib.hid (S.out.fr.trans f1)
              clear f1 HZ S
              go_wp2_with fail
              go_ret
              exact ⟨rfl, F.out⟩
        · have ecr1 : (ecr == 0) = false := by simpa using ecrn
          have ecr2 : (ecr != 0) = true := by simpa using ecrn
          cases ts with
          | false =>
            simp only [ne_eq, ecrn, scalen, not_true_eq_false, not_true, not_false_eq_true, not_false_iff, false_and, true_and, and_false, and_true, or_false, false_or, or_true, true_or, or_self, if_true, if_false, Bool.true_eq_false, Bool.false_eq_true, reduceCtorEq]
            clear ecrn
            go_enter Try.func15, Try.ntmps15
            go_wp2_with fail
            go_ret
            exact ⟨rfl, S.out.fr⟩
          | true =>
            simp only [ne_eq, ecrn, scalen, not_true_eq_false, not_true, not_false_eq_true, not_false_iff, false_and, true_and, and_false, and_true, or_false, false_or, or_true, true_or, or_self, if_true, if_false, Bool.true_eq_false, Bool.false_eq_true, reduceCtorEq]
            clear ecrn
            by_cases c1 : 4 < blocks.length
            · simp only [c1, true_or, if_true]
              go_enter Try.func15, Try.ntmps15
              go_wp2_with fail
              go_ret
              exact ⟨rfl, S.out.fr⟩
            · by_cases c2 : 40 < z
              · simp only [c2, or_true, if_true]
                go_enter Try.func15, Try.ntmps15
                go_wp2_with fail
                refine (HZ.out _).mono ?_
                rintro e w1 ⟨rfl, f1⟩
                have F := Lib.hid (S.out.fr.trans f1)
                clear f1 HZ S
                go_wp2_with fail
                go_ret
                exact ⟨rfl, F.out⟩
              · simp only [c1, c2, or_self, if_false]
                go_enter Try.func15, Try.ntmps15
                go_wp2_with fail
                refine (HZ.out _).mono ?_
                rintro e w1 ⟨rfl, f1⟩
                have F := Lib.hid (S.out.fr.trans f1)
                clear f1 HZ S
                go_wp2_with fail
                go_ret
                exact ⟨rfl, F.out⟩
      · have val1 : (val == 0) = false := by simpa using valn
        have val2 : (val != 0) = true := by simpa using valn
        cases ts with
        | false =>
          simp only [ne_eq, valn, scalen, not_true_eq_false, not_true, not_false_eq_true, not_false_iff, false_and, true_and, and_false, and_true, or_false, false_or, or_true, true_or, or_self, if_true, if_false, Bool.true_eq_false, Bool.false_eq_true, reduceCtorEq]
          clear valn
          go_enter Try.func15, Try.ntmps15
          go_wp2_with fail
          go_ret
          exact ⟨rfl, S.out.fr⟩
        | true =>
          simp only [ne_eq, valn, scalen, not_true_eq_false, not_true, not_false_eq_true, not_false_iff, false_and, true_and, and_false, and_true, or_false, false_or, or_true, true_or, or_self, if_true, if_false, Bool.true_eq_false, Bool.false_eq_true, reduceCtorEq]
          clear valn
          by_cases c1 : 4 < blocks.length
          · simp only [c1, true_or, if_true]
            go_enter Try.func15, Try.ntmps15
            go_wp2_with fail
            go_ret
            exact ⟨rfl, S.out.fr⟩
          · by_cases c2 : 40 < z
            · simp only [c2, or_true, if_true]
              go_enter Try.func15, Try.ntmps15
              go_wp2_with fail
              refine (HZ.out _).mono ?_
              rintro e w1 ⟨rfl, f1⟩
              have F := Lib.hid (S.out.fr.trans f1)
              clear f1 HZ S
              go_wp2_with fail
              go_ret
              exact ⟨rfl, F.out⟩
            · simp only [c1, c2, or_self, if_false]
              go_enter Try.func15, Try.ntmps15
              go_wp2_with fail
              refine (HZ.out _).mono ?_
              rintro e w1 ⟨rfl, f1⟩
              have F := Lib.hid (S.out.fr.trans f1)
              clear f1 HZ S
              go_wp2_with fail
              go_ret
              exact ⟨rfl, F.out⟩
set_option maxHeartbeats 8000000 in
theorem rfCheck_any (o : Opt) (q : Option Addr) (c : Nat) (w : World) :
    Calls Try.prog 11 #[.agg (optc o q c)] w fun e w' => e = .returned (.int .i64 (checkO o)) ∧ Fr None w w' := by
  by_cases h1 : o.mss < 0 ∨ 65535 < o.mss ∨ o.scale < 0 ∨ 14 < o.scale
  · have ec : checkO o = 3 := by unfold checkO; rw [if_pos h1]
    rw [ec]
    clear ec
    obtain ⟨mss, permit, ts, val, ecr, has, scale, blocks⟩ := o
    dsimp only at h1
    have g4 : mss < 0 ∨ (0 ≤ mss ∧ 65535 < mss) ∨ ((0 ≤ mss ∧ mss ≤ 65535) ∧ scale < 0) ∨ ((0 ≤ mss ∧ mss ≤ 65535) ∧ 0 ≤ scale ∧ 14 < scale) := by omega
    clear h1
    rcases g4 with u1 | ⟨u1, u2⟩ | ⟨⟨u1, u2⟩, u3⟩ | ⟨⟨u1, u2⟩, u3, u4⟩
    all_goals
      go_enter Try.func11, Try.ntmps11
      go_wp2_with fail
      go_ret
      exact ⟨rfl, (Fr.refl None w).alloc _⟩
  have ec : checkO o = if (o.scale ≠ 0 ∧ o.has = false) ∨ ((o.val ≠ 0 ∨ o.ecr ≠ 0) ∧ o.ts = false) then 6 else if 4 < o.blocks.length ∨ 40 < sizeO o then 9 else 0 := by unfold checkO; rw [if_neg h1]
  rw [ec]
  clear ec
  have S := Lib.hid ((Sep.law w).alloc (optc o q c) OpT)
  have HZ := Lib.hid (fun W => rfSize_any o q c W)
  generalize sizeO o = z at *
  obtain ⟨mss, permit, ts, val, ecr, has, scale, blocks⟩ := o
  dsimp only at h1 ⊢
  obtain ⟨u1, u2, u3, u4⟩ : 0 ≤ mss ∧ mss ≤ 65535 ∧ 0 ≤ scale ∧ scale ≤ 14 := by omega
  clear h1
  by_cases scalen : scale = 0
  · subst scalen
    by_cases valn : val = 0
    · subst valn
      by_cases ecrn : ecr = 0
      · subst ecrn
        simp only [ne_eq, not_true_eq_false, not_true, not_false_eq_true, not_false_iff, false_and, true_and, and_false, and_true, or_false, false_or, or_true, true_or, or_self, if_true, if_false, Bool.true_eq_false, Bool.false_eq_true, reduceCtorEq]
        by_cases c1 : 4 < blocks.length
        · simp only [c1, true_or, if_true]
          go_enter Try.func11, Try.ntmps11
          go_wp2_with fail
          go_ret
          exact ⟨rfl, S.out.fr⟩
        · by_cases c2 : 40 < z
          · simp only [c2, or_true, if_true]
            go_enter Try.func11, Try.ntmps11
            go_wp2_with fail
            refine (HZ.out _).mono ?_
            rintro e w1 ⟨rfl, f1⟩
            have F := Lib.hid (S.out.fr.trans f1)
            clear f1 HZ S
            go_wp2_with fail
            go_ret
            exact ⟨rfl, F.out⟩
          · simp only [c1, c2, or_self, if_false]
            go_enter Try.func11, Try.ntmps11
            go_wp2_with fail
            refine (HZ.out _).mono ?_
            rintro e w1 ⟨rfl, f1⟩
            have F := Lib.hid (S.out.fr.trans f1)
            clear f1 HZ S
            go_wp2_with fail
            go_ret
            exact ⟨rfl, F.out⟩
      · have ecr1 : (ecr == 0) = false := by simpa using ecrn
        have ecr2 : (ecr != 0) = true := by simpa using ecrn
        cases ts with
        | false =>
          simp only [ne_eq, ecrn, not_true_eq_false, not_true, not_false_eq_true, not_false_iff, false_and, true_and, and_false, and_true, or_false, false_or, or_true, true_or, or_self, if_true, if_false, Bool.true_eq_false, Bool.false_eq_true, reduceCtorEq]
          clear ecrn
          go_enter Try.func11, Try.ntmps11
          go_wp2_with fail
          go_ret
          exact ⟨rfl, S.out.fr⟩
        | true =>
          simp only [ne_eq, ecrn, not_true_eq_false, not_true, not_false_eq_true, not_false_iff, false_and, true_and, and_false, and_true, or_false, false_or, or_true, true_or, or_self, if_true, if_false, Bool.true_eq_false, Bool.false_eq_true, reduceCtorEq]
          clear ecrn
          by_cases c1 : 4 < blocks.length
          · simp only [c1, true_or, if_true]
            go_enter Try.func11, Try.ntmps11
            go_wp2_with fail
            go_ret
            exact ⟨rfl, S.out.fr⟩
          · by_cases c2 : 40 < z
            · simp only [c2, or_true, if_true]
              go_enter Try.func11, Try.ntmps11
              go_wp2_with fail
              refine (HZ.out _).mono ?_
              rintro e w1 ⟨rfl, f1⟩
              have F := Lib.hid (S.out.fr.trans f1)
              clear f1 HZ S
              go_wp2_with fail
              go_ret
              exact ⟨rfl, F.out⟩
            · simp only [c1, c2, or_self, if_false]
              go_enter Try.func11, Try.ntmps11
              go_wp2_with fail
              refine (HZ.out _).mono ?_
              rintro e w1 ⟨rfl, f1⟩
              have F := Lib.hid (S.out.fr.trans f1)
              clear f1 HZ S
              go_wp2_with fail
              go_ret
              exact ⟨rfl, F.out⟩
    · have val1 : (val == 0) = false := by simpa using valn
      have val2 : (val != 0) = true := by simpa using valn
      cases ts with
      | false =>
        simp only [ne_eq, valn, not_true_eq_false, not_true, not_false_eq_true, not_false_iff, false_and, true_and, and_false, and_true, or_false, false_or, or_true, true_or, or_self, if_true, if_false, Bool.true_eq_false, Bool.false_eq_true, reduceCtorEq]
        clear valn
        go_enter Try.func11, Try.ntmps11
        go_wp2_with fail
        go_ret
        exact ⟨rfl, S.out.fr⟩
      | true =>
        simp only [ne_eq, valn, not_true_eq_false, not_true, not_false_eq_true, not_false_iff, false_and, true_and, and_false, and_true, or_false, false_or, or_true, true_or, or_self, if_true, if_false, Bool.true_eq_false, Bool.false_eq_true, reduceCtorEq]
        clear valn
        by_cases c1 : 4 < blocks.length
        · simp only [c1, true_or, if_true]
          go_enter Try.func11, Try.ntmps11
          go_wp2_with fail
          go_ret
          exact ⟨rfl, S.out.fr⟩
        · by_cases c2 : 40 < z
          · simp only [c2, or_true, if_true]
            go_enter Try.func11, Try.ntmps11
            go_wp2_with fail
            refine (HZ.out _).mono ?_
            rintro e w1 ⟨rfl, f1⟩
            have F := Lib.hid (S.out.fr.trans f1)
            clear f1 HZ S
            go_wp2_with fail
            go_ret
            exact ⟨rfl, F.out⟩
          · simp only [c1, c2, or_self, if_false]
            go_enter Try.func11, Try.ntmps11
            go_wp2_with fail
            refine (HZ.out _).mono ?_
            rintro e w1 ⟨rfl, f1⟩
            have F := Lib.hid (S.out.fr.trans f1)
            clear f1 HZ S
            go_wp2_with fail
            go_ret
            exact ⟨rfl, F.out⟩
  · have scale1 : (scale == 0) = false := by simpa using scalen
    have scale2 : (scale != 0) = true := by simpa using scalen
    cases has with
    | false =>
      simp only [ne_eq, scalen, not_true_eq_false, not_true, not_false_eq_true, not_false_iff, false_and, true_and, and_false, and_true, or_false, false_or, or_true, true_or, or_self, if_true, if_false, Bool.true_eq_false, Bool.false_eq_true, reduceCtorEq]
      clear scalen
      go_enter Try.func11, Try.ntmps11
      go_wp2_with fail
      go_ret
      exact ⟨rfl, S.out.fr⟩
    | true =>
      by_cases valn : val = 0
      · subst valn
        by_cases ecrn : ecr = 0
        · subst ecrn
          simp only [ne_eq, scalen, not_true_eq_false, not_true, not_false_eq_true, not_false_iff, false_and, true_and, and_false, and_true, or_false, false_or, or_true, true_or, or_self, if_true, if_false, Bool.true_eq_false, Bool.false_eq_true, reduceCtorEq]
          by_cases c1 : 4 < blocks.length
          · simp only [c1, true_or, if_true]
            go_enter Try.func11, Try.ntmps11
            go_wp2_with fail
            go_ret
            exact ⟨rfl, S.out.fr⟩
          · by_cases c2 : 40 < z
            · simp only [c2, or_true, if_true]
              go_enter Try.func11, Try.ntmps11
              go_wp2_with fail
              refine (HZ.out _).mono ?_
              rintro e w1 ⟨rfl, f1⟩
              have F := Lib.hid (S.out.fr.trans f1)
              clear f1 HZ S
              go_wp2_with fail
              go_ret
              exact ⟨rfl, F.out⟩
            · simp only [c1, c2, or_self, if_false]
              go_enter Try.func11, Try.ntmps11
              go_wp2_with fail
              refine (HZ.out _).mono ?_
              rintro e w1 ⟨rfl, f1⟩
              have F := Lib.hid (S.out.fr.trans f1)
              clear f1 HZ S
              go_wp2_with fail
              go_ret
              exact ⟨rfl, F.out⟩
        · have ecr1 : (ecr == 0) = false := by simpa using ecrn
          have ecr2 : (ecr != 0) = true := by simpa using ecrn
          cases ts with
          | false =>
            simp only [ne_eq, ecrn, scalen, not_true_eq_false, not_true, not_false_eq_true, not_false_iff, false_and, true_and, and_false, and_true, or_false, false_or, or_true, true_or, or_self, if_true, if_false, Bool.true_eq_false, Bool.false_eq_true, reduceCtorEq]
            clear ecrn
            go_enter Try.func11, Try.ntmps11
            go_wp2_with fail
            go_ret
            exact ⟨rfl, S.out.fr⟩
          | true =>
            simp only [ne_eq, ecrn, scalen, not_true_eq_false, not_true, not_false_eq_true, not_false_iff, false_and, true_and, and_false, and_true, or_false, false_or, or_true, true_or, or_self, if_true, if_false, Bool.true_eq_false, Bool.false_eq_true, reduceCtorEq]
            clear ecrn
            by_cases c1 : 4 < blocks.length
            · simp only [c1, true_or, if_true]
              go_enter Try.func11, Try.ntmps11
              go_wp2_with fail
              go_ret
              exact ⟨rfl, S.out.fr⟩
            · by_cases c2 : 40 < z
              · simp only [c2, or_true, if_true]
                go_enter Try.func11, Try.ntmps11
                go_wp2_with fail
                refine (HZ.out _).mono ?_
                rintro e w1 ⟨rfl, f1⟩
                have F := Lib.hid (S.out.fr.trans f1)
                clear f1 HZ S
                go_wp2_with fail
                go_ret
                exact ⟨rfl, F.out⟩
              · simp only [c1, c2, or_self, if_false]
                go_enter Try.func11, Try.ntmps11
                go_wp2_with fail
                refine (HZ.out _).mono ?_
                rintro e w1 ⟨rfl, f1⟩
                have F := Lib.hid (S.out.fr.trans f1)
                clear f1 HZ S
                go_wp2_with fail
                go_ret
                exact ⟨rfl, F.out⟩
      · have val1 : (val == 0) = false := by simpa using valn
        have val2 : (val != 0) = true := by simpa using valn
        cases ts with
        | false =>
          simp only [ne_eq, valn, scalen, not_true_eq_false, not_true, not_false_eq_true, not_false_iff, false_and, true_and, and_false, and_true, or_false, false_or, or_true, true_or, or_self, if_true, if_false, Bool.true_eq_false, Bool.false_eq_true, reduceCtorEq]
          clear valn
          go_enter Try.func11, Try.ntmps11
          go_wp2_with fail
          go_ret
          exact ⟨rfl, S.out.fr⟩
        | true =>
          simp only [ne_eq, valn, scalen, not_true_eq_false, not_true, not_false_eq_true, not_false_iff, false_and, true_and, and_false, and_true, or_false, false_or, or_true, true_or, or_self, if_true, if_false, Bool.true_eq_false, Bool.false_eq_true, reduceCtorEq]
          clear valn
          by_cases c1 : 4 < blocks.length
          · simp only [c1, true_or, if_true]
            go_enter Try.func11, Try.ntmps11
            go_wp2_with fail
            go_ret
            exact ⟨rfl, S.out.fr⟩
          · by_cases c2 : 40 < z
            · simp only [c2, or_true, if_true]
              go_enter Try.func11, Try.ntmps11
              go_wp2_with fail
              refine (HZ.out _).mono ?_
              rintro e w1 ⟨rfl, f1⟩
              have F := Lib.hid (S.out.fr.trans f1)
              clear f1 HZ S
              go_wp2_with fail
              go_ret
              exact ⟨rfl, F.out⟩
            · simp only [c1, c2, or_self, if_false]
              go_enter Try.func11, Try.ntmps11
              go_wp2_with fail
              refine (HZ.out _).mono ?_
              rintro e w1 ⟨rfl, f1⟩
              have F := Lib.hid (S.out.fr.trans f1)
              clear f1 HZ S
              go_wp2_with fail
              go_ret
              exact ⟨rfl, F.out⟩
end Go.Proofs.Ythkhfijfgpccbaa
