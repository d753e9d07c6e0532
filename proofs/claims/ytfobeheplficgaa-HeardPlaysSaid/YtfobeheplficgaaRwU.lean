/- does (an operation with both), Gaps (the function): walked. -/
import Derived.Test.YtfobeheplficgaaRwT
set_option linter.unusedVariables false
set_option linter.unusedSimpArgs false
namespace Go.Proofs.Ytfobeheplficgaa
open Go.RowKit Go.Und Go.Shelf
attribute [local go_sem] Oper.semAt_some
attribute [local go_sem ↓] Go.wp_at_zero Go.wp_at_succ

theorem gapsG_any (rp : Option Addr) (a b : Int) (W : World) : Calls Try.prog 16 #[.pointer rp, .agg #[.int .i64 a, .int .i64 b]] W fun e W' =>
    e = .returned (.func (.func 58) #[] #[.pointer (at0 (W.heap.size + 1)), .pointer (at0 W.heap.size)]) ∧ W' = (W.alloc (.cells #[.pointer rp] RpT)).alloc (.cells #[.int .i64 a, .int .i64 b] SpT) := by
  go_enter Try.func16, Try.ntmps16
  go_wp2_with fail
  go_ret
  exact ⟨rfl, rfl⟩
theorem rwith_pr (p : Option Addr) (c : Nat) (l : List (Int × Int)) (s1 s2 : Int) (w : World) (ok : OkL l) (hs : PrS (s1, s2)) (hr : Reads w 2 p l.length c (fc spc l)) (hl : l.length ≤ 100000) :
    Calls Try.prog 66 #[.slice p l.length c, .agg #[.int .i64 s1, .int .i64 s2]] w fun e w' => ∃ q' c', e = .returned (.slice q' (addL l (s1, s2)).length c') ∧ Sep None w w' [srow q' c' (addL l (s1, s2))] := by
  rw [← with_eq ok hs]
  exact rwith_do p c l s1 s2 w ok hs hr hl
theorem add_room (p : Nat) (q : Option Addr) (cap : Nat) (l : List (Int × Int)) (a b : Int) (w : World) (ok : OkL l) (h2 : (addL l (a, b)).length ≤ l.length + 1) (hl : l.length ≤ 1000) (hs : PrS (a, b)) (S : Sep (fpL (rns p q cap l)) w w (rns p q cap l)) :
    Calls Try.prog 15 #[.pointer (at0 p), .agg #[.int .i64 a, .int .i64 b]] w fun e w' => e = .returned (.tuple #[.int .i64 (lenS (a, b) - withinL l (a, b)), .int .i64 0]) ∧ ∃ q' c', Sep (fpL (rns p q cap l)) w w' (rns p q' c' (addL l (a, b))) := by
  refine (add_do p q cap l a b w ok (by omega) hs S).mono ?_
  rintro e w' (⟨_, h⟩ | ⟨h, _⟩)
  · exact h
  · omega
theorem rem_room (p : Nat) (q : Option Addr) (cap : Nat) (l : List (Int × Int)) (a b : Int) (w : World) (ok : OkL l) (h2 : (remL l (a, b)).length ≤ l.length + 1) (hl : l.length ≤ 1000) (hs : PrS (a, b)) (S : Sep (fpL (rns p q cap l)) w w (rns p q cap l)) :
    Calls Try.prog 24 #[.pointer (at0 p), .agg #[.int .i64 a, .int .i64 b]] w fun e w' => e = .returned (.tuple #[.int .i64 (withinL l (a, b)), .int .i64 0]) ∧ ∃ q' c', Sep (fpL (rns p q cap l)) w w' (rns p q' c' (remL l (a, b))) := by
  refine (rem_all p q cap l a b w ok (by omega) hs S).mono ?_
  rintro e w' (⟨_, h⟩ | ⟨h, _⟩)
  · exact h
  · omega
/-- What both are given, and what comes of it. -/
def DoesPost (p : Nat) (l' : List (Int × Int)) (D : Nat → Prop) (w : World) (e : Ending) (w' : World) : Prop := ∃ q' c' p2' c2', e = .returned (.tuple #[.slice p2' l'.length c2', .bool true]) ∧ Sep D w w' (rns p q' c' l' ++ [srow p2' c2' l'])
/-- The same, and that the list that was handed in can be read still. -/
def DoesKeep (o : Ob) (p : Nat) (l' : List (Int × Int)) (D : Nat → Prop) (w : World) (e : Ending) (w' : World) : Prop := ∃ q' c' p2' c2', e = .returned (.tuple #[.slice p2' l'.length c2', .bool true]) ∧ Sep D w w' (rns p q' c' l' ++ [srow p2' c2' l']) ∧ o.ok w'
set_option maxRecDepth 100000 in
set_option maxHeartbeats 8000000 in
theorem does_pr (p : Nat) (q : Option Addr) (cap : Nat) (p2 : Option Addr) (c2 : Nat) (l : List (Int × Int)) (out : Bool) (a b : Int) (w : World) (ok : OkL l) (hl : l.length ≤ 1000) (hs : PrS (a, b)) (S : Sep (fpL (rns p q cap l ++ [srow p2 c2 l])) w w (rns p q cap l ++ [srow p2 c2 l])) :
    Calls Try.prog 26 #[.pointer (at0 p), .slice p2 l.length c2, .agg #[.bool out, .int .i64 a, .int .i64 b]] w (DoesKeep (srow p2 c2 l) p (if out = true then remL l (a, b) else addL l (a, b)) (fpL (rns p q cap l ++ [srow p2 c2 l])) w) := by
  have S0 := S.alloc #[.bool out, .int .i64 a, .int .i64 b] Op7T
  have hwb := within_bounds ok (a, b)
  have hlb := lenS_bounds (a, b)
  have hba := add_bytes ok hs
  have hbr := rem_bytes ok hs
  have hb0 := bytes_bounds ok
  have hal := hull_len_add ok hs
  have hrl := rem_len (s := (a, b)) hs.2.1 ok
  have hao := (add_ok ok hs).1
  have hro := (rem_ok (s := (a, b)) hs.2.1 ok).1
  have hba0 := bytes_bounds hao
  have hbr0 := bytes_bounds hro
  have HM := Lib.hid (fun W => rmay_any a b W)
  rw [mayS_pr hs] at HM
  have HS0 := Lib.hid S0
  have HO := Lib.hid (And.intro ok (And.intro hs (And.intro hao hro)))
  have HL := Lib.hid (And.intro hal hrl)
  have hw1 : IntKind.i64.wrap (bytesL (addL l (a, b)) - bytesL l) = bytesL (addL l (a, b)) - bytesL l := wrap_small (by omega)
  have hw2 : IntKind.i64.wrap (bytesL l - bytesL (remL l (a, b))) = bytesL l - bytesL (remL l (a, b)) := wrap_small (by omega)
  have e1 : (lenS (a, b) - withinL l (a, b) == bytesL (addL l (a, b)) - bytesL l) = true := beq_iff_eq.2 (by omega)
  have e2 : (withinL l (a, b) == bytesL l - bytesL (remL l (a, b))) = true := beq_iff_eq.2 (by omega)
  clear S S0 hwb hlb hba hbr hb0 hal hrl hao hro hba0 hbr0 ok hs
  unfold DoesKeep
  cases out
  · simp only [Bool.false_eq_true, if_false]
    go_enter Try.func26, Try.ntmps26
    go_wp2_with (first
      | ((with_reducible refine (rwith_pr p2 c2 l a b _ HO.out.1 HO.out.2.1 (row_reads (HS0.out.at_ 3 rfl)) (by omega)).mono ?_); rintro e1' w1 ⟨q1, d1, rfl, T1⟩; have S1 := HS0.out.beside T1; have k1 : w1.cell? ⟨w.heap.size, 0, none⟩ = some (.bool false) := (S1.at_ 1 rfl).cell 0; have k2 : w1.cell? ⟨w.heap.size, 1, none⟩ = some (.int .i64 a) := (S1.at_ 1 rfl).cell 1; have k3 : w1.cell? ⟨w.heap.size, 2, none⟩ = some (.int .i64 b) := (S1.at_ 1 rfl).cell 2; have HS1 := Lib.hid S1; clear S1 T1)
      | ((with_reducible refine (rbytes_any q1 d1 (addL l (a, b)) w1 HO.out.2.2.1 (row_reads (HS1.out.at_ 0 rfl)) (by have := HL.out; omega)).mono ?_); rintro e2' w2 ⟨rfl, F2⟩; have HS2 := Lib.hid (HS1.out.same F2); clear F2)
      | ((with_reducible refine (rbytes_any p2 c2 l w2 HO.out.1 (row_reads (HS2.out.at_ 4 rfl)) (by omega)).mono ?_); rintro e3' w3 ⟨rfl, F3⟩; have S3 := HS2.out.same F3; have m1 : w3.cell? ⟨w.heap.size, 0, none⟩ = some (.bool false) := (S3.at_ 1 rfl).cell 0; have m2 : w3.cell? ⟨w.heap.size, 1, none⟩ = some (.int .i64 a) := (S3.at_ 1 rfl).cell 1; have m3 : w3.cell? ⟨w.heap.size, 2, none⟩ = some (.int .i64 b) := (S3.at_ 1 rfl).cell 2; have HS3 := Lib.hid (show Sep _ w w3 (rns p q cap l ++ [srow q1 d1 (addL l (a, b)), Ob.blk w.heap.size Op7T #[.bool false, .int .i64 a, .int .i64 b], srow p2 c2 l]) from (S3.front 3 rfl).front 3 rfl); clear F3 S3)
      | ((with_reducible refine (add_room p q cap l a b w3 HO.out.1 HL.out.1 hl HO.out.2.1 HS3.out.head).mono ?_); rintro e4' w4 ⟨rfl, q4, d4, T4⟩; have S4 := HS3.out.did T4; have n1 : w4.cell? ⟨w.heap.size, 1, none⟩ = some (.int .i64 a) := (S4.at_ 3 rfl).cell 1; have n2 : w4.cell? ⟨w.heap.size, 2, none⟩ = some (.int .i64 b) := (S4.at_ 3 rfl).cell 2; have HS4 := Lib.hid S4; clear S4 T4)
      | ((with_reducible refine (HM.out _).mono ?_); rintro e5' w5 ⟨rfl, F5⟩; have HS5 := Lib.hid (HS4.out.same F5); clear F5)
      | fail)
    go_ret2
    exact ⟨q4, d4, q1, d1, rfl, HS5.out.drop (.cons_cons _ (.cons_cons _ (.cons_cons _ (.cons _ (.cons _ .slnil))))), HS5.out.at_ 4 rfl⟩
  · simp only [if_true]
    go_enter Try.func26, Try.ntmps26
    go_wp2_with (first
      | ((with_reducible refine (rwith_pr p2 c2 l a b _ HO.out.1 HO.out.2.1 (row_reads (HS0.out.at_ 3 rfl)) (by omega)).mono ?_); rintro e1' w1 ⟨q1, d1, rfl, T1⟩; have S1 := HS0.out.beside T1; have k1 : w1.cell? ⟨w.heap.size, 0, none⟩ = some (.bool true) := (S1.at_ 1 rfl).cell 0; have k2 : w1.cell? ⟨w.heap.size, 1, none⟩ = some (.int .i64 a) := (S1.at_ 1 rfl).cell 1; have k3 : w1.cell? ⟨w.heap.size, 2, none⟩ = some (.int .i64 b) := (S1.at_ 1 rfl).cell 2; have HS1 := Lib.hid S1; clear S1 T1)
      | ((with_reducible refine (rbytes_any q1 d1 (addL l (a, b)) w1 HO.out.2.2.1 (row_reads (HS1.out.at_ 0 rfl)) (by have := HL.out; omega)).mono ?_); rintro e2' w2 ⟨rfl, F2⟩; have HS2 := Lib.hid (HS1.out.same F2); clear F2)
      | ((with_reducible refine (rbytes_any p2 c2 l w2 HO.out.1 (row_reads (HS2.out.at_ 4 rfl)) (by omega)).mono ?_); rintro e3' w3 ⟨rfl, F3⟩; have S3 := HS2.out.same F3; have m1 : w3.cell? ⟨w.heap.size, 0, none⟩ = some (.bool true) := (S3.at_ 1 rfl).cell 0; have m2 : w3.cell? ⟨w.heap.size, 1, none⟩ = some (.int .i64 a) := (S3.at_ 1 rfl).cell 1; have m3 : w3.cell? ⟨w.heap.size, 2, none⟩ = some (.int .i64 b) := (S3.at_ 1 rfl).cell 2; have HS3 := Lib.hid S3; clear F3 S3)
      | ((with_reducible refine (rwithout_do p2 c2 l a b w3 HO.out.2.1 (row_reads (HS3.out.at_ 4 rfl)) (by omega)).mono ?_); rintro e6' w6 ⟨q6, d6, rfl, T6⟩; have HS6 := Lib.hid (HS3.out.beside T6); clear T6)
      | ((with_reducible refine (rbytes_any p2 c2 l w6 HO.out.1 (row_reads (HS6.out.at_ 5 rfl)) (by omega)).mono ?_); rintro e7' w7 ⟨rfl, F7⟩; have HS7 := Lib.hid (HS6.out.same F7); clear F7)
      | ((with_reducible refine (rbytes_any q6 d6 (remL l (a, b)) w7 HO.out.2.2.2 (row_reads (HS7.out.at_ 0 rfl)) (by have := HL.out; omega)).mono ?_); rintro e8' w8 ⟨rfl, F8⟩; have S8 := HS7.out.same F8; have r1 : w8.cell? ⟨w.heap.size, 0, none⟩ = some (.bool true) := (S8.at_ 2 rfl).cell 0; have r2 : w8.cell? ⟨w.heap.size, 1, none⟩ = some (.int .i64 a) := (S8.at_ 2 rfl).cell 1; have r3 : w8.cell? ⟨w.heap.size, 2, none⟩ = some (.int .i64 b) := (S8.at_ 2 rfl).cell 2; have HS8 := Lib.hid (show Sep _ w w8 (rns p q cap l ++ [srow q6 d6 (remL l (a, b)), srow q1 d1 (addL l (a, b)), Ob.blk w.heap.size Op7T #[.bool true, .int .i64 a, .int .i64 b], srow p2 c2 l]) from (S8.front 4 rfl).front 4 rfl); clear F8 S8)
      | ((with_reducible refine (rem_room p q cap l a b w8 HO.out.1 HL.out.2 hl HO.out.2.1 HS8.out.head).mono ?_); rintro e4' w4 ⟨rfl, q4, d4, T4⟩; have S4 := HS8.out.did T4; have n1 : w4.cell? ⟨w.heap.size, 1, none⟩ = some (.int .i64 a) := (S4.at_ 4 rfl).cell 1; have n2 : w4.cell? ⟨w.heap.size, 2, none⟩ = some (.int .i64 b) := (S4.at_ 4 rfl).cell 2; have HS4 := Lib.hid S4; clear S4 T4)
      | ((with_reducible refine (HM.out _).mono ?_); rintro e5' w5 ⟨rfl, F5⟩; have HS5 := Lib.hid (HS4.out.same F5); clear F5)
      | fail)
    go_ret2
    exact ⟨q4, d4, q6, d6, rfl, HS5.out.drop (.cons_cons _ (.cons_cons _ (.cons_cons _ (.cons _ (.cons _ (.cons _ .slnil)))))), HS5.out.at_ 5 rfl⟩
set_option maxRecDepth 100000 in
set_option maxHeartbeats 8000000 in
theorem does_odd (p : Nat) (q : Option Addr) (cap : Nat) (p2 : Option Addr) (c2 : Nat) (l : List (Int × Int)) (out : Bool) (a b : Int) (w : World) (ok : OkL l) (hl : l.length ≤ 1000) (hs : mayS (a, b) = false ∨ a = b) (hz : lenS (a, b) = 0) (S : Sep (fpL (rns p q cap l ++ [srow p2 c2 l])) w w (rns p q cap l ++ [srow p2 c2 l])) :
    Calls Try.prog 26 #[.pointer (at0 p), .slice p2 l.length c2, .agg #[.bool out, .int .i64 a, .int .i64 b]] w (DoesKeep (srow p2 c2 l) p l (fpL (rns p q cap l ++ [srow p2 c2 l])) w) := by
  have S0 := S.alloc #[.bool out, .int .i64 a, .int .i64 b] Op7T
  have hb0 := bytes_bounds ok
  have HM := Lib.hid (fun W => rmay_any a b W)
  have HW := Lib.hid (fun W => rwith_no p2 l.length c2 a b W hz)
  have HWo := Lib.hid (fun W => rwithout_no p2 l.length c2 a b W hz)
  have HAA := Lib.hid (fun W => add_odd p a b W hs)
  have HRR := Lib.hid (fun W => rem_odd p a b W hs)
  have HS0 := Lib.hid S0
  have HO := Lib.hid ok
  have hw1 : IntKind.i64.wrap (bytesL l - bytesL l) = 0 := by rw [Int.sub_self]; rfl
  clear S S0 hb0 ok hs hz
  unfold DoesKeep
  cases out
  · have HA := HAA
    clear HAA HRR
    cases hm : mayS (a, b) <;> rw [hm] at HM HA <;> clear hm
    · have e0 : ((0 : Int) == 0) = true := rfl
      go_enter Try.func26, Try.ntmps26
      go_wp2_with (first
        | ((with_reducible refine (HW.out _).mono ?_); rintro e1' w1 ⟨rfl, F1⟩; have S1 := HS0.out.same F1; have k1 : w1.cell? ⟨w.heap.size, 0, none⟩ = some (.bool false) := (S1.at_ 0 rfl).cell 0; have k2 : w1.cell? ⟨w.heap.size, 1, none⟩ = some (.int .i64 a) := (S1.at_ 0 rfl).cell 1; have k3 : w1.cell? ⟨w.heap.size, 2, none⟩ = some (.int .i64 b) := (S1.at_ 0 rfl).cell 2; have HS1 := Lib.hid S1; clear S1 F1)
        | ((with_reducible refine (rbytes_any p2 c2 l w1 HO.out (row_reads (HS1.out.at_ 3 rfl)) (by omega)).mono ?_); rintro e2' w2 ⟨rfl, F2⟩; have HS2 := Lib.hid (HS1.out.same F2); clear F2)
        | ((with_reducible refine (rbytes_any p2 c2 l w2 HO.out (row_reads (HS2.out.at_ 3 rfl)) (by omega)).mono ?_); rintro e3' w3 ⟨rfl, F3⟩; have S3 := HS2.out.same F3; have m1 : w3.cell? ⟨w.heap.size, 0, none⟩ = some (.bool false) := (S3.at_ 0 rfl).cell 0; have m2 : w3.cell? ⟨w.heap.size, 1, none⟩ = some (.int .i64 a) := (S3.at_ 0 rfl).cell 1; have m3 : w3.cell? ⟨w.heap.size, 2, none⟩ = some (.int .i64 b) := (S3.at_ 0 rfl).cell 2; have HS3 := Lib.hid S3; clear F3 S3)
        | ((with_reducible refine (HWo.out _).mono ?_); rintro e6' w6 ⟨rfl, F6⟩; have HS6 := Lib.hid (HS3.out.same F6); clear F6)
        | ((with_reducible refine (rbytes_any p2 c2 l w6 HO.out (row_reads (HS6.out.at_ 3 rfl)) (by omega)).mono ?_); rintro e7' w7 ⟨rfl, F7⟩; have HS7 := Lib.hid (HS6.out.same F7); clear F7)
        | ((with_reducible refine (rbytes_any p2 c2 l w7 HO.out (row_reads (HS7.out.at_ 3 rfl)) (by omega)).mono ?_); rintro e8' w8 ⟨rfl, F8⟩; have S8 := HS7.out.same F8; have r1 : w8.cell? ⟨w.heap.size, 0, none⟩ = some (.bool false) := (S8.at_ 0 rfl).cell 0; have r2 : w8.cell? ⟨w.heap.size, 1, none⟩ = some (.int .i64 a) := (S8.at_ 0 rfl).cell 1; have r3 : w8.cell? ⟨w.heap.size, 2, none⟩ = some (.int .i64 b) := (S8.at_ 0 rfl).cell 2; have HS8 := Lib.hid S8; clear F8 S8)
        | ((with_reducible refine (HA.out _).mono ?_); rintro e4' w4 ⟨rfl, F4⟩; have S4 := HS3.out.same F4; have n1 : w4.cell? ⟨w.heap.size, 1, none⟩ = some (.int .i64 a) := (S4.at_ 0 rfl).cell 1; have n2 : w4.cell? ⟨w.heap.size, 2, none⟩ = some (.int .i64 b) := (S4.at_ 0 rfl).cell 2; have HS4 := Lib.hid S4; clear S4 F4)
        | ((with_reducible refine (HM.out _).mono ?_); rintro e5' w5 ⟨rfl, F5⟩; have HS5 := Lib.hid (HS4.out.same F5); clear F5)
        | fail)
      go_ret2
      exact ⟨q, cap, p2, c2, rfl, HS5.out.drop (List.sublist_cons_self _ _), HS5.out.at_ 3 rfl⟩
    · have e0 : ((0 : Int) == 0) = true := rfl
      go_enter Try.func26, Try.ntmps26
      go_wp2_with (first
        | ((with_reducible refine (HW.out _).mono ?_); rintro e1' w1 ⟨rfl, F1⟩; have S1 := HS0.out.same F1; have k1 : w1.cell? ⟨w.heap.size, 0, none⟩ = some (.bool false) := (S1.at_ 0 rfl).cell 0; have k2 : w1.cell? ⟨w.heap.size, 1, none⟩ = some (.int .i64 a) := (S1.at_ 0 rfl).cell 1; have k3 : w1.cell? ⟨w.heap.size, 2, none⟩ = some (.int .i64 b) := (S1.at_ 0 rfl).cell 2; have HS1 := Lib.hid S1; clear S1 F1)
        | ((with_reducible refine (rbytes_any p2 c2 l w1 HO.out (row_reads (HS1.out.at_ 3 rfl)) (by omega)).mono ?_); rintro e2' w2 ⟨rfl, F2⟩; have HS2 := Lib.hid (HS1.out.same F2); clear F2)
        | ((with_reducible refine (rbytes_any p2 c2 l w2 HO.out (row_reads (HS2.out.at_ 3 rfl)) (by omega)).mono ?_); rintro e3' w3 ⟨rfl, F3⟩; have S3 := HS2.out.same F3; have m1 : w3.cell? ⟨w.heap.size, 0, none⟩ = some (.bool false) := (S3.at_ 0 rfl).cell 0; have m2 : w3.cell? ⟨w.heap.size, 1, none⟩ = some (.int .i64 a) := (S3.at_ 0 rfl).cell 1; have m3 : w3.cell? ⟨w.heap.size, 2, none⟩ = some (.int .i64 b) := (S3.at_ 0 rfl).cell 2; have HS3 := Lib.hid S3; clear F3 S3)
        | ((with_reducible refine (HWo.out _).mono ?_); rintro e6' w6 ⟨rfl, F6⟩; have HS6 := Lib.hid (HS3.out.same F6); clear F6)
        | ((with_reducible refine (rbytes_any p2 c2 l w6 HO.out (row_reads (HS6.out.at_ 3 rfl)) (by omega)).mono ?_); rintro e7' w7 ⟨rfl, F7⟩; have HS7 := Lib.hid (HS6.out.same F7); clear F7)
        | ((with_reducible refine (rbytes_any p2 c2 l w7 HO.out (row_reads (HS7.out.at_ 3 rfl)) (by omega)).mono ?_); rintro e8' w8 ⟨rfl, F8⟩; have S8 := HS7.out.same F8; have r1 : w8.cell? ⟨w.heap.size, 0, none⟩ = some (.bool false) := (S8.at_ 0 rfl).cell 0; have r2 : w8.cell? ⟨w.heap.size, 1, none⟩ = some (.int .i64 a) := (S8.at_ 0 rfl).cell 1; have r3 : w8.cell? ⟨w.heap.size, 2, none⟩ = some (.int .i64 b) := (S8.at_ 0 rfl).cell 2; have HS8 := Lib.hid S8; clear F8 S8)
        | ((with_reducible refine (HA.out _).mono ?_); rintro e4' w4 ⟨rfl, F4⟩; have S4 := HS3.out.same F4; have n1 : w4.cell? ⟨w.heap.size, 1, none⟩ = some (.int .i64 a) := (S4.at_ 0 rfl).cell 1; have n2 : w4.cell? ⟨w.heap.size, 2, none⟩ = some (.int .i64 b) := (S4.at_ 0 rfl).cell 2; have HS4 := Lib.hid S4; clear S4 F4)
        | ((with_reducible refine (HM.out _).mono ?_); rintro e5' w5 ⟨rfl, F5⟩; have HS5 := Lib.hid (HS4.out.same F5); clear F5)
        | fail)
      go_ret2
      exact ⟨q, cap, p2, c2, rfl, HS5.out.drop (List.sublist_cons_self _ _), HS5.out.at_ 3 rfl⟩
  · have HA := HRR
    clear HAA HRR
    cases hm : mayS (a, b) <;> rw [hm] at HM HA <;> clear hm
    · have e0 : ((0 : Int) == 0) = true := rfl
      go_enter Try.func26, Try.ntmps26
      go_wp2_with (first
        | ((with_reducible refine (HW.out _).mono ?_); rintro e1' w1 ⟨rfl, F1⟩; have S1 := HS0.out.same F1; have k1 : w1.cell? ⟨w.heap.size, 0, none⟩ = some (.bool true) := (S1.at_ 0 rfl).cell 0; have k2 : w1.cell? ⟨w.heap.size, 1, none⟩ = some (.int .i64 a) := (S1.at_ 0 rfl).cell 1; have k3 : w1.cell? ⟨w.heap.size, 2, none⟩ = some (.int .i64 b) := (S1.at_ 0 rfl).cell 2; have HS1 := Lib.hid S1; clear S1 F1)
        | ((with_reducible refine (rbytes_any p2 c2 l w1 HO.out (row_reads (HS1.out.at_ 3 rfl)) (by omega)).mono ?_); rintro e2' w2 ⟨rfl, F2⟩; have HS2 := Lib.hid (HS1.out.same F2); clear F2)
        | ((with_reducible refine (rbytes_any p2 c2 l w2 HO.out (row_reads (HS2.out.at_ 3 rfl)) (by omega)).mono ?_); rintro e3' w3 ⟨rfl, F3⟩; have S3 := HS2.out.same F3; have m1 : w3.cell? ⟨w.heap.size, 0, none⟩ = some (.bool true) := (S3.at_ 0 rfl).cell 0; have m2 : w3.cell? ⟨w.heap.size, 1, none⟩ = some (.int .i64 a) := (S3.at_ 0 rfl).cell 1; have m3 : w3.cell? ⟨w.heap.size, 2, none⟩ = some (.int .i64 b) := (S3.at_ 0 rfl).cell 2; have HS3 := Lib.hid S3; clear F3 S3)
        | ((with_reducible refine (HWo.out _).mono ?_); rintro e6' w6 ⟨rfl, F6⟩; have HS6 := Lib.hid (HS3.out.same F6); clear F6)
        | ((with_reducible refine (rbytes_any p2 c2 l w6 HO.out (row_reads (HS6.out.at_ 3 rfl)) (by omega)).mono ?_); rintro e7' w7 ⟨rfl, F7⟩; have HS7 := Lib.hid (HS6.out.same F7); clear F7)
        | ((with_reducible refine (rbytes_any p2 c2 l w7 HO.out (row_reads (HS7.out.at_ 3 rfl)) (by omega)).mono ?_); rintro e8' w8 ⟨rfl, F8⟩; have S8 := HS7.out.same F8; have r1 : w8.cell? ⟨w.heap.size, 0, none⟩ = some (.bool true) := (S8.at_ 0 rfl).cell 0; have r2 : w8.cell? ⟨w.heap.size, 1, none⟩ = some (.int .i64 a) := (S8.at_ 0 rfl).cell 1; have r3 : w8.cell? ⟨w.heap.size, 2, none⟩ = some (.int .i64 b) := (S8.at_ 0 rfl).cell 2; have HS8 := Lib.hid S8; clear F8 S8)
        | ((with_reducible refine (HA.out _).mono ?_); rintro e4' w4 ⟨rfl, F4⟩; have S4 := HS8.out.same F4; have n1 : w4.cell? ⟨w.heap.size, 1, none⟩ = some (.int .i64 a) := (S4.at_ 0 rfl).cell 1; have n2 : w4.cell? ⟨w.heap.size, 2, none⟩ = some (.int .i64 b) := (S4.at_ 0 rfl).cell 2; have HS4 := Lib.hid S4; clear S4 F4)
        | ((with_reducible refine (HM.out _).mono ?_); rintro e5' w5 ⟨rfl, F5⟩; have HS5 := Lib.hid (HS4.out.same F5); clear F5)
        | fail)
      go_ret2
      exact ⟨q, cap, p2, c2, rfl, HS5.out.drop (List.sublist_cons_self _ _), HS5.out.at_ 3 rfl⟩
    · have e0 : ((0 : Int) == 0) = true := rfl
      go_enter Try.func26, Try.ntmps26
      go_wp2_with (first
        | ((with_reducible refine (HW.out _).mono ?_); rintro e1' w1 ⟨rfl, F1⟩; have S1 := HS0.out.same F1; have k1 : w1.cell? ⟨w.heap.size, 0, none⟩ = some (.bool true) := (S1.at_ 0 rfl).cell 0; have k2 : w1.cell? ⟨w.heap.size, 1, none⟩ = some (.int .i64 a) := (S1.at_ 0 rfl).cell 1; have k3 : w1.cell? ⟨w.heap.size, 2, none⟩ = some (.int .i64 b) := (S1.at_ 0 rfl).cell 2; have HS1 := Lib.hid S1; clear S1 F1)
        | ((with_reducible refine (rbytes_any p2 c2 l w1 HO.out (row_reads (HS1.out.at_ 3 rfl)) (by omega)).mono ?_); rintro e2' w2 ⟨rfl, F2⟩; have HS2 := Lib.hid (HS1.out.same F2); clear F2)
        | ((with_reducible refine (rbytes_any p2 c2 l w2 HO.out (row_reads (HS2.out.at_ 3 rfl)) (by omega)).mono ?_); rintro e3' w3 ⟨rfl, F3⟩; have S3 := HS2.out.same F3; have m1 : w3.cell? ⟨w.heap.size, 0, none⟩ = some (.bool true) := (S3.at_ 0 rfl).cell 0; have m2 : w3.cell? ⟨w.heap.size, 1, none⟩ = some (.int .i64 a) := (S3.at_ 0 rfl).cell 1; have m3 : w3.cell? ⟨w.heap.size, 2, none⟩ = some (.int .i64 b) := (S3.at_ 0 rfl).cell 2; have HS3 := Lib.hid S3; clear F3 S3)
        | ((with_reducible refine (HWo.out _).mono ?_); rintro e6' w6 ⟨rfl, F6⟩; have HS6 := Lib.hid (HS3.out.same F6); clear F6)
        | ((with_reducible refine (rbytes_any p2 c2 l w6 HO.out (row_reads (HS6.out.at_ 3 rfl)) (by omega)).mono ?_); rintro e7' w7 ⟨rfl, F7⟩; have HS7 := Lib.hid (HS6.out.same F7); clear F7)
        | ((with_reducible refine (rbytes_any p2 c2 l w7 HO.out (row_reads (HS7.out.at_ 3 rfl)) (by omega)).mono ?_); rintro e8' w8 ⟨rfl, F8⟩; have S8 := HS7.out.same F8; have r1 : w8.cell? ⟨w.heap.size, 0, none⟩ = some (.bool true) := (S8.at_ 0 rfl).cell 0; have r2 : w8.cell? ⟨w.heap.size, 1, none⟩ = some (.int .i64 a) := (S8.at_ 0 rfl).cell 1; have r3 : w8.cell? ⟨w.heap.size, 2, none⟩ = some (.int .i64 b) := (S8.at_ 0 rfl).cell 2; have HS8 := Lib.hid S8; clear F8 S8)
        | ((with_reducible refine (HA.out _).mono ?_); rintro e4' w4 ⟨rfl, F4⟩; have S4 := HS8.out.same F4; have n1 : w4.cell? ⟨w.heap.size, 1, none⟩ = some (.int .i64 a) := (S4.at_ 0 rfl).cell 1; have n2 : w4.cell? ⟨w.heap.size, 2, none⟩ = some (.int .i64 b) := (S4.at_ 0 rfl).cell 2; have HS4 := Lib.hid S4; clear S4 F4)
        | ((with_reducible refine (HM.out _).mono ?_); rintro e5' w5 ⟨rfl, F5⟩; have HS5 := Lib.hid (HS4.out.same F5); clear F5)
        | fail)
      go_ret2
      exact ⟨q, cap, p2, c2, rfl, HS5.out.drop (List.sublist_cons_self _ _), HS5.out.at_ 3 rfl⟩
theorem does_keep (p : Nat) (q : Option Addr) (cap : Nat) (p2 : Option Addr) (c2 : Nat) (l : List (Int × Int)) (out : Bool) (a b : Int) (w : World) (ok : OkL l) (hl : l.length ≤ 1000) (S : Sep (fpL (rns p q cap l ++ [srow p2 c2 l])) w w (rns p q cap l ++ [srow p2 c2 l])) :
    Calls Try.prog 26 #[.pointer (at0 p), .slice p2 l.length c2, .agg #[.bool out, .int .i64 a, .int .i64 b]] w (DoesKeep (srow p2 c2 l) p (stepL out l (a, b)) (fpL (rns p q cap l ++ [srow p2 c2 l])) w) := by
  by_cases h : PrS (a, b)
  · have e : stepL out l (a, b) = if out = true then remL l (a, b) else addL l (a, b) := by
      unfold stepL; rw [if_neg (by rw [lenS_of h]; have := h.2.1; simp only at this ⊢; omega)]
    rw [e]
    exact does_pr p q cap p2 c2 l out a b w ok hl h S
  · obtain ⟨h1, h2⟩ := not_pr h
    have e : stepL out l (a, b) = l := by unfold stepL; rw [if_pos h2]
    rw [e]
    exact does_odd p q cap p2 c2 l out a b w ok hl h1 h2 S
theorem does_any (p : Nat) (q : Option Addr) (cap : Nat) (p2 : Option Addr) (c2 : Nat) (l : List (Int × Int)) (out : Bool) (a b : Int) (w : World) (ok : OkL l) (hl : l.length ≤ 1000) (S : Sep (fpL (rns p q cap l ++ [srow p2 c2 l])) w w (rns p q cap l ++ [srow p2 c2 l])) :
    Calls Try.prog 26 #[.pointer (at0 p), .slice p2 l.length c2, .agg #[.bool out, .int .i64 a, .int .i64 b]] w (DoesPost p (stepL out l (a, b)) (fpL (rns p q cap l ++ [srow p2 c2 l])) w) :=
  (does_keep p q cap p2 c2 l out a b w ok hl S).mono fun _ _ ⟨x1, x2, x3, x4, x5, x6, _⟩ => ⟨x1, x2, x3, x4, x5, x6⟩
end Go.Proofs.Ytfobeheplficgaa
