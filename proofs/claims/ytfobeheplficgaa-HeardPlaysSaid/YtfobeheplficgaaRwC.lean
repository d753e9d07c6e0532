/- law 07's fixed calls: walked. -/
import Derived.Test.YtfobeheplficgaaRwB
set_option linter.unusedVariables false
set_option linter.unusedSimpArgs false
namespace Go.Proofs.Ytfobeheplficgaa
open Go.RowKit Go.Und Go.Shelf
attribute [local go_sem] Oper.semAt_some
attribute [local go_sem ↓] Go.wp_at_zero Go.wp_at_succ

theorem add_step (p : Nat) (q : Option Addr) (cap : Nat) (l : List (Int × Int)) (a b : Int) (w : World) (l' : List (Int × Int)) (n : Int) (ok : OkL l) (hl : l.length ≤ 100000) (hs : PrS (a, b)) (S : Sep (fpL (rns p q cap l)) w w (rns p q cap l))
    (e1 : addL l (a, b) = l') (e2 : lenS (a, b) - withinL l (a, b) = n) (hroom : l'.length ≤ 4096) :
    Calls Try.prog 15 #[.pointer (at0 p), .agg #[.int .i64 a, .int .i64 b]] w fun e w' => e = .returned (.tuple #[.int .i64 n, .int .i64 0]) ∧ ∃ q' c', Sep (fpL (rns p q cap l)) w w' (rns p q' c' l') := by
  refine (add_do p q cap l a b w ok hl hs S).mono ?_
  rintro e w' (⟨_, rfl, T⟩ | ⟨h, _⟩)
  · rw [e1] at T; rw [e2]; exact ⟨rfl, T⟩
  · rw [e1] at h; omega
theorem rns_row {D : Nat → Prop} {w w' : World} {p : Nat} {q : Option Addr} {cap : Nat} {l : List (Int × Int)} {R : List Ob} (S : Sep D w w' (rns p q cap l ++ R)) : w'.cell? ⟨p, 0, none⟩ = some (.slice q l.length cap) ∧ Reads w' 2 q l.length cap (fc spc l) :=
  ⟨(S.at_ 0 rfl).cell 0, row_reads (S.at_ 1 rfl)⟩
set_option maxRecDepth 100000 in
set_option maxHeartbeats 4000000 in
theorem known7_any (w : World) : Calls Try.prog 13 #[] w fun e w' => e = .returned (.bool true) ∧ Fr None w w' := by
  have ok0 : OkL [] := trivial
  have ok1 : OkL [(2, 5)] := by simp [OkL, PrS]
  have ok2 : OkL [(2, 5), (7, 9)] := by simp [OkL, PrS]
  have ok3 : OkL [(2, 9)] := by simp [OkL, PrS]
  have HK := Lib.hid (And.intro ok0 (And.intro ok1 (And.intro ok2 ok3)))
  clear ok0 ok1 ok2 ok3
  go_enter Try.func13, Try.ntmps13
  go_wp2_with (first
    | ((with_reducible refine (new_any _).mono ?_); rintro e0 w0 ⟨rfl, T⟩; have HS0 := Lib.hid T; clear T)
    | (have HC := Lib.hid (add_step w.heap.size none 0 [] 2 5 w0 [(2, 5)] 3 HK.out.1 (by decide) (by unfold PrS; decide) HS0.out.self (by decide) (by decide) (by decide)); (with_reducible refine (HC.out).mono ?_); rintro e1 w1 ⟨rfl, q1, c1, T⟩; have HS1 := Lib.hid (HS0.out.did0 T); clear T HC)
    | (have HC := Lib.hid (add_step w.heap.size q1 c1 [(2, 5)] 7 9 w1 [(2, 5), (7, 9)] 2 HK.out.2.1 (by decide) (by unfold PrS; decide) HS1.out.self (by decide) (by decide) (by decide)); (with_reducible refine (HC.out).mono ?_); rintro e2 w2 ⟨rfl, q2, c2, T⟩; have HS2 := Lib.hid (HS1.out.did0 T); clear T HC)
    | (have HC := Lib.hid (add_step w.heap.size q2 c2 [(2, 5), (7, 9)] 5 7 w2 [(2, 9)] 2 HK.out.2.2.1 (by decide) (by unfold PrS; decide) HS2.out.self (by decide) (by decide) (by decide)); (with_reducible refine (HC.out).mono ?_); rintro e3 w3 ⟨rfl, q3, c3, T⟩; have HS3 := Lib.hid (HS2.out.did0 T); clear T HC)
    | (have HC := Lib.hid (rlen_any w.heap.size q3 c3 1 w3 (rns_row (R := []) HS3.out).1); (with_reducible refine (HC.out).mono ?_); rintro e4 w4 ⟨rfl, h4⟩; have HS4 := Lib.hid (h4 ▸ HS3.out : Sep None w w4 (rns w.heap.size q3 c3 [(2, 9)])); clear HC h4)
    | (have HC := Lib.hid (bytes_any w.heap.size q3 c3 [(2, 9)] w4 HK.out.2.2.2 (by decide) (rns_row (R := []) HS4.out).1 (rns_row (R := []) HS4.out).2); rw [show bytesL [(2, 9)] = 7 by decide] at HC; (with_reducible refine (HC.out).mono ?_); rintro e5 w5 ⟨rfl, F⟩; have HS5 := Lib.hid (HS4.out.same F); clear F HC)
    | (have HC := Lib.hid (gap_any w.heap.size q3 c3 [(2, 9)] 4 w5 HK.out.2.2.2 (by decide) (rns_row (R := []) HS5.out).1 (rns_row (R := []) HS5.out).2); rw [show gapL [(2, 9)] 4 = 9 by decide] at HC; (with_reducible refine (HC.out).mono ?_); rintro e6 w6 ⟨rfl, F⟩; have HS6 := Lib.hid (HS5.out.same F); clear F HC)
    | fail)
  go_ret
  exact ⟨rfl, HS6.out.fr⟩
end Go.Proofs.Ytfobeheplficgaa
