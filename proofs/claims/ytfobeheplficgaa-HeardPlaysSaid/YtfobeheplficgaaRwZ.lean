/- RunsOrder: walked. -/
import Derived.Test.YtfobeheplficgaaRwY
import Derived.Test.YtfobeheplficgaaRwVa
set_option linter.unusedVariables false
set_option linter.unusedSimpArgs false
namespace Go.Proofs.Ytfobeheplficgaa
open Go.RowKit Go.Und Go.Shelf
open Go.ChangeShapes Go.WideShapes Go.ChangeAt
attribute [local go_sem] Oper.semAt_some
attribute [local go_sem ↓] Go.wp_at_zero Go.wp_at_succ

theorem clone_any (p : Nat) (q : Option Addr) (cap : Nat) (l : List (Int × Int)) (w : World) (hl : l.length ≤ 100000) (c3 : w.cell? ⟨p, 0, none⟩ = some (.slice q l.length cap)) (hr : Reads w 2 q l.length cap (fc spc l)) :
    Calls Try.prog 39 #[.pointer (at0 p)] w fun e w' => ∃ p' q' c', e = .returned (.pointer (at0 p')) ∧ Sep None w w' (rns p' q' c' l) := by
  have HC := Lib.hid (sclone_any q cap l w hr hl)
  clear hr
  go_enter Try.func39, Try.ntmps39
  go_wp2_with ((with_reducible refine (HC.out).mono ?_); rintro e1 w1 ⟨q1, c1, rfl, T⟩; have HT := Lib.hid (T.alloc #[.slice q1 l.length c1] RnT); clear T)
  go_ret
  exact ⟨w1.heap.size, q1, c1, rfl, HT.out⟩
theorem told_ok {p : Nat} {q : Option Addr} {c : Nat} {l : List (Int × Int)} {w : World} (h2 : (Ob.blk p RnT #[.slice q l.length c]).ok w) (h3 : (srow q c l).ok w) (hl : l.length ≤ 100000) :
    Calls Try.prog 28 #[.pointer (at0 p)] w fun e w' => ∃ q' c', e = .returned (.slice q' l.length c') ∧ Sep None w w' [srow q' c' l] := told_any p q c l w hl (Blk.cell h2 0) (row_reads h3)
theorem clone_ok {p : Nat} {q : Option Addr} {c : Nat} {l : List (Int × Int)} {w : World} (h2 : (Ob.blk p RnT #[.slice q l.length c]).ok w) (h3 : (srow q c l).ok w) (hl : l.length ≤ 100000) :
    Calls Try.prog 39 #[.pointer (at0 p)] w fun e w' => ∃ p' q' c', e = .returned (.pointer (at0 p')) ∧ Sep None w w' (rns p' q' c' l) := clone_any p q c l w hl (Blk.cell h2 0) (row_reads h3)
/-- What is in after spans have been added. -/
theorem in_step {A : List (Int × Int)} (ok : OkL A) (x : Int × Int) {P : Int → Prop} (hA : ∀ o, memL A o ↔ P o) : OkL (stepL false A x) ∧ ∀ o, memL (stepL false A x) o ↔ P o ∨ inS x o := by
  obtain ⟨s1, s2⟩ := step_ok false ok x
  exact ⟨s1, fun o => by rw [s2, if_neg (by decide), hA]⟩
def anyIn (l : List (Int × Int)) (o : Int) : Prop := ∃ x ∈ l, inS x o
theorem anyIn_take {l : List (Int × Int)} {k : Nat} {x : Int × Int} (h : l[k]? = some x) (o : Int) : anyIn (l.take (k + 1)) o ↔ anyIn (l.take k) o ∨ inS x o := by
  unfold anyIn
  rw [← take_next h]
  simp only [List.mem_append, List.mem_singleton]
  constructor
  · rintro ⟨y, hy | rfl, h2⟩
    · exact .inl ⟨y, hy, h2⟩
    · exact .inr h2
  · rintro (⟨y, hy, h2⟩ | h2)
    · exact ⟨y, .inl hy, h2⟩
    · exact ⟨x, .inr rfl, h2⟩
theorem anyIn_drop {l : List (Int × Int)} {j : Nat} {x : Int × Int} (h : l[j]? = some x) (o : Int) : anyIn (l.drop j) o ↔ anyIn (l.drop (j + 1)) o ∨ inS x o := by
  unfold anyIn
  obtain ⟨hj, rfl⟩ := List.getElem?_eq_some_iff.1 h
  rw [List.drop_eq_getElem_cons hj]
  simp only [List.mem_cons]
  constructor
  · rintro ⟨y, rfl | hy, h2⟩
    · exact .inr h2
    · exact .inl ⟨y, hy, h2⟩
  · rintro (⟨y, hy, h2⟩ | h2)
    · exact ⟨y, .inr hy, h2⟩
    · exact ⟨_, .inl rfl, h2⟩
theorem shR_of {w : World} {p : Nat} {q : Option Addr} {c : Nat} {l : List (Int × Int)} {D : Nat → Prop} {w0 : World} {R : List Ob} (S : Sep D w0 w (rns p q c l ++ R)) (hl : l.length ≤ 1000000) : AllK (at0 p) l (ShR p q l) w ∧ ∀ k, ShR p q l k → k < w.heap.size :=
  ⟨allk_set p q c l w hl _ (fun _ h => h) (rns_row S).1 (rns_row S).2, shR_lt (rns_row S).1 (rns_row S).2⟩
theorem two_front {D : Nat → Prop} {w0 w : World} {a1 a2 b1 b2 : Ob} {R : List Ob} (S : Sep D w0 w (a1 :: a2 :: b1 :: b2 :: R)) : Sep D w0 w (b1 :: b2 :: a1 :: a2 :: R) := (S.front 3 rfl).front 3 rfl
set_option maxRecDepth 100000 in
set_option maxHeartbeats 16000000 in
theorem runsOrder_walk (w : World) (vl : Value) (ul : U) (hl : (Sh.slice shSp).holds w ul [vl]) (co : Array Value) (uo : U) (ho : shOp7.holds w uo co.toList) :
    Calls Try.prog 7 #[vl, .agg co] w fun e w' => e = .returned (.bool true) ∧ Below w.heap.size w w' := by
  obtain ⟨pl, capl, l, rfl, hcl, hml, hat⟩ := spans_of hl
  obtain ⟨out, a, b, hco⟩ := op7_of ho
  obtain rfl : co = #[.bool out, .int .i64 a, .int .i64 b] := Array.toList_inj.1 hco
  have HS0 := Lib.hid ((Sep.law w).alloc #[.bool out, .int .i64 a, .int .i64 b] Op7T)
  have HAT := Lib.hid hat
  clear hat hl ho hco
  obtain ⟨N, hN⟩ : ∃ N, N = min l.length 100 := ⟨_, rfl⟩
  have hmn : ((100 < (l.length : Int)) = True ∧ N = 100) ∨ ((100 < (l.length : Int)) = False ∧ N = l.length) := by
    rcases Nat.lt_or_ge 100 l.length with h | h
    · exact .inl ⟨eq_true (by omega), by omega⟩
    · exact .inr ⟨eq_false (by omega), by omega⟩
  have hNl : N ≤ l.length ∧ N ≤ 100 := by omega
  clear hN
  go_enter Try.func7, Try.ntmps7
  go_upto_region 4 with (first
    | ((with_reducible refine (known7_any (w.alloc _)).mono ?_); rintro e0 w0 ⟨rfl, F0⟩; have HS1 := Lib.hid (HS0.out.same F0); clear F0)
    | ((with_reducible refine (new_any w0).mono ?_); rintro e1 w1 ⟨rfl, T⟩; have HS2 := Lib.hid (HS1.out.beside T); clear T)
    | ((with_reducible refine (new_any w1).mono ?_); rintro e2 w2 ⟨rfl, T⟩; have HS3 := Lib.hid (HS2.out.beside T); clear T)
    | fail)
  go_cut [7] from 17 to 19 (fun v wx => v = .int .i64 (N : Int) ∧ wx = w2)
  case first =>
    rcases hmn with ⟨hm, rfl⟩ | ⟨hm, rfl⟩
    all_goals
      go_wp2_with fail
      go_meet
      exact ⟨by simp, rfl⟩
  case rest =>
    clear hmn
    obtain ⟨rfl, rfl⟩ := hcut
    have HN := Lib.hid hNl
    go_wp2_with fail
    go_loopg [8] N (fun r iv wr => ∃ (k : Nat) (qa : Option Addr) (ca : Nat) (A : List (Int × Int)) (qb : Option Addr) (cb : Nat) (B : List (Int × Int)), k + r = N ∧ iv = .int .i64 (k : Int) ∧ OkL A ∧ OkL B ∧ A.length ≤ k ∧ B.length ≤ k ∧ (∀ o, memL A o ↔ anyIn (l.take k) o) ∧ (∀ o, memL B o ↔ anyIn ((l.take N).drop (N - k)) o) ∧
      Sep None w wr (rns w0.heap.size qa ca A ++ (rns w1.heap.size qb cb B ++ [Ob.blk w.heap.size Op7T #[.bool out, .int .i64 a, .int .i64 b]])))
    case atStart => exact ⟨0, none, 0, [], none, 0, [], by omega, rfl, trivial, trivial, Nat.le_refl _, Nat.le_refl _, (fun o => ⟨fun h => absurd h (memL_nil o), fun ⟨x, hx, _⟩ => by simp at hx⟩), (fun o => ⟨fun h => absurd h (memL_nil o), fun ⟨x, hx, _⟩ => by rw [Nat.sub_zero, List.drop_of_length_le (by rw [List.length_take]; omega)] at hx; cases hx⟩), two_front HS3.out⟩
    case round =>
      clear HS0 HS1 HS2 HS3
      obtain ⟨k, qa, ca, A, qb, cb, B, hkn, rfl, okA, okB, hA, hB, mA, mB, S1⟩ := hrel
      by_cases g : k < N
      · have ex := List.getElem?_eq_getElem (show k < l.length by omega)
        obtain ⟨j, hj⟩ : ∃ j, j = N - 1 - k := ⟨_, rfl⟩
        have hjl : j < l.length := by omega
        have ey := List.getElem?_eq_getElem hjl
        have ey2 : (l.take N)[j]? = some l[j] := by rw [List.getElem?_take_of_lt (by omega)]; exact ey
        obtain ⟨bb, oo, rfl, c1', c2'⟩ := HAT.out k _ ex
        obtain ⟨bb', oo', hbo, d1', d2'⟩ := HAT.out j _ ey
        obtain ⟨rfl, rfl⟩ : bb = bb' ∧ oo = oo' := by simpa using hbo
        generalize l[k] = x at *
        generalize l[j] = y at *
        obtain ⟨x1, x2⟩ := x
        obtain ⟨y1, y2⟩ := y
        have d1 : wr.cell? ⟨bb, oo + k * 2, none⟩ = some (.int .i64 x1) := cell_frN S1.fr c1'
        have d2 : wr.cell? ⟨bb, oo + k * 2 + 1, none⟩ = some (.int .i64 x2) := cell_frN S1.fr c2'
        have HC1 := Lib.hid (add_all w0.heap.size qa ca A x1 x2 wr okA (by omega) S1.head)
        have hA2 := in_step okA (x1, x2) mA
        have hB2 := in_step okB (y1, y2) mB
        have hAl := step_len false okA (x1, x2)
        have hBl := step_len false okB (y1, y2)
        have HS := Lib.hid S1
        have hw1 : IntKind.i64.wrap ((N : Int) - 1) = (N : Int) - 1 := wrap_small (by omega)
        have hw2 : IntKind.i64.wrap ((N : Int) - 1 - (k : Int)) = (j : Int) := by rw [wrap_small (by omega)]; omega
        have HX := Lib.hid (fun o => anyIn_take ex o)
        have HY := Lib.hid (fun o => anyIn_drop ey2 o)
        have HYc := Lib.hid (And.intro d1' d2')
        have HJ := Lib.hid hj
        have HOB := Lib.hid (And.intro okB (show B.length < 4096 by omega))
        generalize stepL false A (x1, x2) = A2 at *
        obtain ⟨B2, eB⟩ : ∃ B2, B2 = stepL false B (y1, y2) := ⟨_, rfl⟩
        rw [← eB] at hB2 hBl
        have HEB := Lib.hid eB
        have HA2 := Lib.hid hA2
        have HB2 := Lib.hid hB2
        have g1 : decide ((k : Int) < (N : Int)) = true := decide_eq_true (by omega)
        clear S1 okA okB ex ey ey2 c1' c2' d1' d2' mA mB hA2 hB2 hj hbo eB
        go_wp2_with (first
          | ((with_reducible refine (HC1.out).mono ?_); rintro e3 w3 ⟨n3, r3, q3, c3, rfl, T⟩; have S3 := HS.out.did T; have f1 : w3.cell? ⟨bb, oo + j * 2, none⟩ = some (.int .i64 y1) := cell_frN S3.fr HYc.out.1; have f2 : w3.cell? ⟨bb, oo + j * 2 + 1, none⟩ = some (.int .i64 y2) := cell_frN S3.fr HYc.out.2; have HS3 := Lib.hid (show Sep None w w3 (rns w1.heap.size qb cb B ++ (rns w0.heap.size q3 c3 A2 ++ [Ob.blk w.heap.size Op7T #[.bool out, .int .i64 a, .int .i64 b]])) from two_front S3); clear S3 T)
          | ((with_reducible refine (add_all w1.heap.size qb cb B y1 y2 w3 HOB.out.1 HOB.out.2 HS3.out.head).mono ?_); rintro e4 w4 ⟨n4, r4, q4, c4, rfl, T⟩; rw [← HEB.out] at T; have HS4 := Lib.hid (show Sep None w w4 (rns w0.heap.size q3 c3 A2 ++ (rns w1.heap.size q4 c4 B2 ++ [Ob.blk w.heap.size Op7T #[.bool out, .int .i64 a, .int .i64 b]])) from two_front (HS3.out.did T)); clear T)
          | fail)
        go_roundg (gk - 1)
        case measure => omega
        case rel => exact ⟨k + 1, q3, c3, A2, q4, c4, B2, by omega, by go_num, HA2.out.1, HB2.out.1, by omega, by omega, (fun o => by rw [HA2.out.2, HX.out]), (fun o => by rw [HB2.out.2, show N - (k + 1) = j by have := HJ.out; omega, HY.out, show j + 1 = N - k by have := HJ.out; omega]), HS4.out⟩
      · obtain rfl : k = N := by omega
        have hAB : B = A := ok_ext okB okA fun o => by rw [mA, mB, Nat.sub_self, List.drop_zero]
        subst hAB
        have g1 : decide ((k : Int) < (k : Int)) = false := decide_eq_false (by omega)
        have hl100 : B.length ≤ 100 := by omega
        have hok := (step_ok out okA (a, b)).1
        have hlen := step_len out okA (a, b)
        have HS := Lib.hid S1
        have HOK := Lib.hid okA
        have HL := Lib.hid hl100
        have HK1 := Lib.hid (shR_of S1 (by omega))
        have HK2 := Lib.hid (shR_of (show Sep None w wr (rns w1.heap.size qb cb B ++ (rns w0.heap.size qa ca B ++ [Ob.blk w.heap.size Op7T #[.bool out, .int .i64 a, .int .i64 b]])) from two_front S1) (by omega))
        obtain ⟨L2, eL⟩ : ∃ L2, L2 = stepL out B (a, b) := ⟨_, rfl⟩
        rw [← eL] at hok hlen
        have HDK := Lib.hid (fun (pc : Nat) (qc : Option Addr) (cc : Nat) (q7 : Option Addr) (c7 : Nat) (W : World) (S : Sep (fpL (rns pc qc cc B ++ [srow q7 c7 B])) W W (rns pc qc cc B ++ [srow q7 c7 B])) => does_keep pc qc cc q7 c7 B out a b W okA (by omega) S)
        simp only [← eL] at HDK
        have HEL := Lib.hid eL
        have HOK2 := Lib.hid hok
        have HL2 := Lib.hid (show L2.length ≤ 200 by omega)
        have hsame : (decide (L2 = B) == decide (B = L2)) = true := by
          by_cases h : L2 = B
          · rw [decide_eq_true h, decide_eq_true h.symm]; rfl
          · rw [decide_eq_false h, decide_eq_false (fun e => h e.symm)]; rfl
        clear S1 okA okB hA hB mA mB hok hlen eL g hl100
        go_wp2_with (first
          | ((with_reducible refine (same_refl _ _ B _ _ wr HK1.out.1 HK2.out.1 HK1.out.2 HK2.out.2 (by have := HL.out; omega)).mono ?_); rintro e3 w3 ⟨rfl, F⟩; have HS3 := Lib.hid (HS.out.same F); clear F)
          | ((with_reducible refine (told_ok (w := w3) (HS3.out.at_ 0 rfl) (HS3.out.at_ 1 rfl) (by have := HL.out; omega)).mono ?_); rintro e4 w4 ⟨q4, c4, rfl, T⟩; have HS4 := Lib.hid ((two_front HS3.out).beside T); clear T)
          | ((with_reducible refine (told_ok (w := w4) (HS4.out.at_ 1 rfl) (HS4.out.at_ 2 rfl) (by have := HL.out; omega)).mono ?_); rintro e5 w5 ⟨q5, c5, rfl, T⟩; have HS5 := Lib.hid (HS4.out.beside T); clear T)
          | ((with_reducible refine (spSame_refl q4 q5 c4 c5 B w5 (row_reads (HS5.out.at_ 1 rfl)) (row_reads (HS5.out.at_ 0 rfl)) (by have := HL.out; omega)).mono ?_); rintro e6 w6 ⟨rfl, F⟩; have HS6 := Lib.hid (show Sep None w w6 (rns w0.heap.size qa ca B ++ [Ob.blk w.heap.size Op7T #[.bool out, .int .i64 a, .int .i64 b]]) from ((two_front (HS5.out.drop (.cons _ (.cons _ (.refl _))))).same F).drop (.cons_cons _ (.cons_cons _ (.cons _ (.cons _ (.refl _)))))); clear F)
          | ((with_reducible refine (told_ok (w := w6) (HS6.out.at_ 0 rfl) (HS6.out.at_ 1 rfl) (by have := HL.out; omega)).mono ?_); rintro e7 w7 ⟨q7, c7, rfl, T⟩; have HS7 := Lib.hid (HS6.out.beside T); clear T)
          | ((with_reducible refine (clone_ok (w := w7) (HS7.out.at_ 1 rfl) (HS7.out.at_ 2 rfl) (by have := HL.out; omega)).mono ?_); rintro e8 w8 ⟨pc, qc, cc, rfl, T⟩; have S8 := HS7.out.beside T; have HK3 := Lib.hid (shR_of S8 (by have := HL.out; omega)); have HK4 := Lib.hid (shR_of (show Sep None w w8 (rns w0.heap.size qa ca B ++ ([Ob.blk pc RnT #[.slice qc B.length cc], srow qc cc B, srow q7 c7 B, Ob.blk w.heap.size Op7T #[.bool out, .int .i64 a, .int .i64 b]])) from (S8.front 4 rfl).front 4 rfl) (by have := HL.out; omega)); have HS8 := Lib.hid S8; clear S8 T)
          | ((with_reducible refine (same_refl _ _ B _ _ w8 HK3.out.1 HK4.out.1 HK3.out.2 HK4.out.2 (by have := HL.out; omega)).mono ?_); rintro e9 w9 ⟨rfl, F⟩; have S9 := HS8.out.same F; have o1 : w9.cell? ⟨w.heap.size, 0, none⟩ = some (.bool out) := (S9.at_ 5 rfl).cell 0; have o2 : w9.cell? ⟨w.heap.size, 1, none⟩ = some (.int .i64 a) := (S9.at_ 5 rfl).cell 1; have o3 : w9.cell? ⟨w.heap.size, 2, none⟩ = some (.int .i64 b) := (S9.at_ 5 rfl).cell 2; have HS9 := Lib.hid (show Sep None w w9 ((rns pc qc cc B ++ [srow q7 c7 B]) ++ (rns w0.heap.size qa ca B ++ [Ob.blk w.heap.size Op7T #[.bool out, .int .i64 a, .int .i64 b]])) from S9); clear F S9)
          | ((with_reducible refine (HDK.out pc qc cc q7 c7 w9 HS9.out.head).mono ?_); rintro e10 w10 ⟨q10, c10, q11, c11, rfl, T, KW⟩; have HS10 := Lib.hid (HS9.out.did T); have HKW := Lib.hid KW; clear T KW)
          | ((with_reducible refine (told_ok (w := w10) (HS10.out.at_ 3 rfl) (HS10.out.at_ 4 rfl) (by have := HL.out; omega)).mono ?_); rintro e11 w11 ⟨q12, c12, rfl, T⟩; have HKW2 := Lib.hid (Ob.same _ HKW.out T.fr); have HS11 := Lib.hid (HS10.out.beside T); clear T)
          | ((with_reducible refine (spSame_refl q12 q7 c12 c7 B w11 (row_reads (HS11.out.at_ 0 rfl)) (row_reads HKW2.out) (by have := HL.out; omega)).mono ?_); rintro e12 w12 ⟨rfl, F⟩; have HKW3 := Lib.hid (Ob.same _ HKW2.out F); have HS12 := Lib.hid (HS11.out.same F); clear F)
          | ((with_reducible refine (told_ok (w := w12) (HS12.out.at_ 1 rfl) (HS12.out.at_ 2 rfl) (by have := HL2.out; omega)).mono ?_); rintro e13 w13 ⟨q14, c14, rfl, T⟩; have HKW4 := Lib.hid (Ob.same _ HKW3.out T.fr); have HS13 := Lib.hid (HS12.out.beside T); clear T)
          | ((with_reducible refine (spSame_refl q14 q11 c14 c11 L2 w13 (row_reads (HS13.out.at_ 0 rfl)) (row_reads (HS13.out.at_ 4 rfl)) (by have := HL2.out; omega)).mono ?_); rintro e14 w14 ⟨rfl, F⟩; have HKW5 := Lib.hid (Ob.same _ HKW4.out F); have S14 := (HS13.out.drop (.cons _ (.cons _ (.refl _)))).same F; have HK5 := Lib.hid (shR_of S14 (by have := HL2.out; omega)); have HK6 := Lib.hid (shR_of (show Sep None w w14 (rns w0.heap.size qa ca B ++ ([Ob.blk pc RnT #[.slice q10 L2.length c10], srow q10 c10 L2, srow q11 c11 L2, Ob.blk w.heap.size Op7T #[.bool out, .int .i64 a, .int .i64 b]])) from (S14.front 4 rfl).front 4 rfl) (by have := HL.out; omega)); have HS14 := Lib.hid S14; clear F S14)
          | ((with_reducible refine (same_any _ _ L2 B _ _ w14 HK5.out.1 HK6.out.1 HK5.out.2 HK6.out.2 (by have := HL2.out; omega) (by have := HL.out; omega)).mono ?_); rintro e15 w15 ⟨rfl, F⟩; have HKW6 := Lib.hid (Ob.same _ HKW5.out F); have HS15 := Lib.hid (HS14.out.same F); clear F)
          | ((with_reducible refine (spSame_any q7 q11 c7 c11 B L2 w15 (row_reads HKW6.out) (row_reads (HS15.out.at_ 2 rfl)) (by have := HL.out; omega) (by have := HL2.out; omega)).mono ?_); rintro e16 w16 ⟨rfl, F⟩; have HS16 := Lib.hid (HS15.out.same F); clear F)
          | ((with_reducible refine (known7_any w16).mono ?_); rintro e17 w17 ⟨rfl, F⟩; have HS17 := Lib.hid (HS16.out.same F); clear F)
          | fail)
        go_ret
        exact ⟨rfl, HS17.out.fr.none_below⟩
end Go.Proofs.Ytfobeheplficgaa
