/- The document's spans: May, Of, Has; Remove for all: walked. -/
import Derived.Test.YtfobeheplficgaaRwD
set_option linter.unusedVariables false
set_option linter.unusedSimpArgs false
namespace Go.Proofs.Ytfobeheplficgaa
open Go.RowKit Go.Und Go.Shelf
attribute [local go_sem] Oper.semAt_some
attribute [local go_sem ↓] Go.wp_at_zero Go.wp_at_succ

set_option maxHeartbeats 400000 in
theorem rmay_any (a b : Int) (w : World) : Calls Try.prog 68 #[.agg #[.int .i64 a, .int .i64 b]] w fun e w' => e = .returned (.bool (mayS (a, b))) ∧ Fr None w w' := by
  have f := (Fr.refl None w).alloc (.cells #[.int .i64 a, .int .i64 b] SpT)
  have F := Lib.hid f; clear f
  by_cases h1 : 0 ≤ a
  · by_cases h2 : a ≤ b
    · have E := Lib.hid (show decide (b ≤ 4611686018427387904) = mayS (a, b) by simp [mayS, h1, h2])
      go_enter Try.func68, Try.ntmps68
      go_wp2_with fail
      go_ret
      exact ⟨by rw [← E.out]; rfl, F.out⟩
    · have E := Lib.hid (show false = mayS (a, b) by simp [mayS, h2])
      go_enter Try.func68, Try.ntmps68
      go_wp2_with fail
      go_ret
      exact ⟨by rw [← E.out]; rfl, F.out⟩
  · have E := Lib.hid (show false = mayS (a, b) by simp [mayS, h1])
    go_enter Try.func68, Try.ntmps68
    go_wp2_with fail
    go_ret
    exact ⟨by rw [← E.out]; rfl, F.out⟩

set_option maxHeartbeats 1000000 in
theorem rof_any (a b : Int) (w : World) : Calls Try.prog 60 #[.agg #[.int .i64 a, .int .i64 b]] w fun e w' => e = .returned (.agg #[.int .i64 (plainS (a, b)).1, .int .i64 (plainS (a, b)).2]) ∧ Fr None w w' := by
  have HM := Lib.hid (rmay_any a b ((w.alloc (.cells #[.int .i64 a, .int .i64 b] SpT)).alloc (.cells #[.int .i64 0, .int .i64 0] SpT)))
  have S0 := Lib.hid (((Sep.law w).alloc #[.int .i64 a, .int .i64 b] SpT).alloc #[.int .i64 0, .int .i64 0] SpT)
  go_enter Try.func60, Try.ntmps60
  go_wp2_with fail
  refine HM.out.mono ?_
  rintro e w1 ⟨rfl, f1⟩
  have S1 := Lib.hid (S0.out.same f1)
  simp only [World.size_alloc] at S1
  have b0 := S1.out.at_ 0 rfl; have b1 := S1.out.at_ 1 rfl
  have c1 := Blk.cell b0; have z1 := Blk.frozen b0; have l1 := Blk.lt b0
  have c0 := Blk.cell b1
  clear f1 b0 b1 S0 HM
  by_cases hm : mayS (a, b) = true
  · by_cases he : a = b
    · subst he
      have E := Lib.hid (show plainS (a, a) = (0, 0) by simp [plainS])
      have S2 := Lib.hid ((S1.out.set 0 rfl 0 (.int .i64 0)).set 0 rfl 1 (.int .i64 0))
      go_wp2_with fail
      refine bodyPost_ret (v := .agg #[.int .i64 0, .int .i64 0]) (by simp [results, Try.results60, go_sem, c1]) rfl ⟨by rw [E.out], S2.out.fr⟩
    · have E := Lib.hid (show plainS (a, b) = (a, b) by simp [plainS, hm, he])
      have S2 := Lib.hid ((S1.out.set 0 rfl 0 (.int .i64 a)).set 0 rfl 1 (.int .i64 b))
      go_wp2_with fail
      refine bodyPost_ret (v := .agg #[.int .i64 a, .int .i64 b]) (by simp [results, Try.results60, go_sem, c1]) rfl ⟨by rw [E.out], S2.out.fr⟩
  · have hm' : mayS (a, b) = false := by simpa using hm
    have E := Lib.hid (show plainS (a, b) = (0, 0) by simp [plainS, hm'])
    have S2 := Lib.hid ((S1.out.set 0 rfl 0 (.int .i64 0)).set 0 rfl 1 (.int .i64 0))
    go_wp2_with fail
    refine bodyPost_ret (v := .agg #[.int .i64 0, .int .i64 0]) (by simp [results, Try.results60, go_sem, c1]) rfl ⟨by rw [E.out], S2.out.fr⟩


theorem field_sa0 (a b : Int) (w : World) : (Instr.field SpT (.agg #[.int .i64 a, .int .i64 b]) 0).run Try.prog w = .ok (.int .i64 a) w := by simp [Instr.field, go_sem, asAgg]
theorem field_sa1 (a b : Int) (w : World) : (Instr.field SpT (.agg #[.int .i64 a, .int .i64 b]) 1).run Try.prog w = .ok (.int .i64 b) w := by simp [Instr.field, go_sem, asAgg]
attribute [local go_sem] field_sa0 field_sa1
set_option maxRecDepth 100000 in
set_option maxHeartbeats 2000000 in
theorem rhas_any (a b k : Int) (w : World) : Calls Try.prog 25 #[.agg #[.int .i64 a, .int .i64 b], .int .i64 k] w fun e w' => e = .returned (.bool (decide (inS (a, b) k))) ∧ Fr None w w' := by
  have HO := Lib.hid (fun W => rof_any a b W)
  have S0 := (Sep.law w).alloc #[.int .i64 a, .int .i64 b] SpT
  have HS0 := Lib.hid S0
  have hin : decide (inS (a, b) k) = (decide ((plainS (a, b)).1 ≤ k) && decide (k < (plainS (a, b)).2)) := Bool.eq_iff_iff.2 (by simp only [decide_eq_true_eq, Bool.and_eq_true]; exact Iff.rfl)
  rw [hin]
  generalize plainS (a, b) = s at *
  obtain ⟨s1, s2⟩ := s
  by_cases g : s1 ≤ k
  · have g1 : decide (s1 ≤ k) = true := decide_eq_true g
    simp only [g1, Bool.true_and]
    clear hin S0 g
    go_enter Try.func25, Try.ntmps25
    go_wp2_with (first
      | ((with_reducible refine (HO.out (w.alloc _)).mono ?_); rintro e1 w1 ⟨rfl, F1⟩; have S1 := HS0.out.same F1; have d1 : w1.cell? ⟨w.heap.size, 0, none⟩ = some (.int .i64 a) := (S1.at_ 0 rfl).cell 0; have d2 : w1.cell? ⟨w.heap.size, 1, none⟩ = some (.int .i64 b) := (S1.at_ 0 rfl).cell 1; have HS1 := Lib.hid S1; clear S1 F1)
      | ((with_reducible refine (HO.out w1).mono ?_); rintro e2 w2 ⟨rfl, F2⟩; have HF2 := Lib.hid (HS1.out.same F2).fr; clear F2)
      | fail)
    go_ret
    exact ⟨rfl, HF2.out⟩
  · have g1 : decide (s1 ≤ k) = false := decide_eq_false g
    simp only [g1, Bool.false_and]
    clear hin S0 g
    go_enter Try.func25, Try.ntmps25
    go_wp2_with (first
      | ((with_reducible refine (HO.out (w.alloc _)).mono ?_); rintro e1 w1 ⟨rfl, F1⟩; have HF1 := Lib.hid (HS0.out.same F1).fr; clear F1)
      | fail)
    go_ret
    exact ⟨rfl, HF1.out⟩
set_option maxRecDepth 100000 in
set_option maxHeartbeats 4000000 in
/-- What is no span that counts is not taken out. -/
theorem rem_odd (p : Nat) (a b : Int) (w : World) (h : mayS (a, b) = false ∨ a = b) : Calls Try.prog 24 #[.pointer (at0 p), .agg #[.int .i64 a, .int .i64 b]] w fun e w' => e = .returned (.tuple #[.int .i64 0, .int .i64 (if mayS (a, b) = true then 0 else 3)]) ∧ Fr None w w' := by
  have S0 := (Sep.law w).alloc #[.int .i64 a, .int .i64 b] SpT
  have HK := Lib.hid (ask_any p a b (w.alloc (.cells #[.int .i64 a, .int .i64 b] SpT)))
  have HS := Lib.hid S0
  clear S0
  cases hm : mayS (a, b)
  · rw [hm] at HK
    clear h
    go_enter Try.func24, Try.ntmps24
    go_wp2_with ((refine (HK.out).mono ?_); rintro e1 w1 ⟨rfl, F1⟩; have S1 := HS.out.same F1; clear F1; have HS1 := Lib.hid S1; clear S1)
    go_ret2
    exact ⟨rfl, HS1.out.fr⟩
  · rw [hm] at HK
    have hab : (a == b) = true := beq_iff_eq.2 (h.resolve_left (fun e => by rw [hm] at e; cases e))
    clear h
    go_enter Try.func24, Try.ntmps24
    go_wp2_with ((refine (HK.out).mono ?_); rintro e1 w1 ⟨rfl, F1⟩; have S1 := HS.out.same F1; clear F1; have d1 : w1.cell? ⟨w.heap.size, 0, none⟩ = some (.int .i64 a) := (S1.at_ 0 rfl).cell 0; have d2 : w1.cell? ⟨w.heap.size, 1, none⟩ = some (.int .i64 b) := (S1.at_ 0 rfl).cell 1; have HS1 := Lib.hid S1; clear S1)
    go_ret2
    exact ⟨rfl, HS1.out.fr⟩
theorem rem_all (p : Nat) (q : Option Addr) (cap : Nat) (l : List (Int × Int)) (a b : Int) (w : World) (ok : OkL l) (hl : l.length ≤ 10000) (hs : PrS (a, b)) (S : Sep (fpL (rns p q cap l)) w w (rns p q cap l)) :
    Calls Try.prog 24 #[.pointer (at0 p), .agg #[.int .i64 a, .int .i64 b]] w fun e w' =>
      ((remL l (a, b)).length ≤ 4096 ∧ e = .returned (.tuple #[.int .i64 (withinL l (a, b)), .int .i64 0]) ∧ ∃ q' c', Sep (fpL (rns p q cap l)) w w' (rns p q' c' (remL l (a, b)))) ∨
      (4096 < (remL l (a, b)).length ∧ e = .returned (.tuple #[.int .i64 0, .int .i64 4]) ∧ ∃ q' c', Sep (fpL (rns p q cap l)) w w' (rns p q' c' l)) := by
  have hsl : a < b := hs.2.1
  have hP := remP_eq ok (s := (a, b)) hsl
  obtain ⟨lo, elo⟩ : ∃ n, n = fstP (fun x => decide (a < x.2)) l := ⟨_, rfl⟩
  obtain ⟨hi, ehi⟩ : ∃ n, n = fstP (fun x => decide (b ≤ x.1)) l := ⟨_, rfl⟩
  have hlohi : lo ≤ hi := by rw [elo, ehi]; exact lo_hi2 l ok (a, b) (by simp only; omega)
  have hhi : hi ≤ l.length := by rw [ehi]; exact fstP_le _ l
  have hR : remL l (a, b) = l.take lo ++ (((l.take hi).drop lo).flatMap (partsS (a, b)) ++ l.drop hi) := by rw [← hP]; unfold remP; rw [elo, ehi]
  have hpl := parts_len (a, b) ((l.take hi).drop lo)
  have hml : ((l.take hi).drop lo).length = hi - lo := by rw [List.length_drop, List.length_take]; omega
  have hlen : (remL l (a, b)).length = l.length - (hi - lo) + (((l.take hi).drop lo).flatMap (partsS (a, b))).length := by rw [hR]; simp only [List.length_append, List.length_take, List.length_drop]; omega
  by_cases hroom : (remL l (a, b)).length ≤ 4096
  · refine (rem_core p q cap l a b w ok hl hs S lo hi elo ehi _ _ rfl rfl 0 (remL l (a, b)) fun W qv cv SW => ?_).mono fun e w' h => .inl ⟨hroom, h⟩
    rw [hR]
    refine lay_any p q cap l lo hi qv cv _ W hlohi hhi ?_ (by omega) (by omega) SW
    rcases Nat.lt_or_ge lo hi with h | h
    · exact .inl h
    · right
      rw [List.eq_nil_of_length_eq_zero (show ((l.take hi).drop lo).length = 0 by omega)]; rfl
  · refine (rem_core p q cap l a b w ok hl hs S lo hi elo ehi _ _ rfl rfl 4 l fun W qv cv SW => ?_).mono fun e w' h => .inr ⟨by omega, h⟩
    refine (lay_full p q cap l.length lo hi qv _ cv W ((SW.at_ 0 rfl).cell 0) hlohi hhi (by omega) (by omega) (by omega)).mono ?_
    rintro e w' ⟨rfl, rfl⟩
    exact ⟨rfl, q, cap, SW⟩
end Go.Proofs.Ytfobeheplficgaa
