/- RunsPlay: walked. -/
import Derived.Test.YtfobeheplficgaaRwVa
set_option linter.unusedVariables false
set_option linter.unusedSimpArgs false
namespace Go.Proofs.Ytfobeheplficgaa
open Go.RowKit Go.Und Go.Shelf
open Go.ChangeShapes Go.WideShapes Go.ChangeAt
attribute [local go_sem] Oper.semAt_some
attribute [local go_sem ↓] Go.wp_at_zero Go.wp_at_succ

set_option maxRecDepth 100000 in
set_option maxHeartbeats 16000000 in
theorem runsPlay_walk (w : World) (vl : Value) (ul : U) (hl : (Sh.slice shOp7).holds w ul [vl]) (co : Array Value) (uo : U) (ho : shSp.holds w uo co.toList) (vk : Value) (uk : U) (hk : (Sh.int .i64).holds w uk [vk]) :
    Calls Try.prog 6 #[vl, .agg co, vk] w fun e w' => e = .returned (.bool true) ∧ Below w.heap.size w w' := by
  obtain ⟨pl, capl, l, rfl, hcl, hml, hat⟩ := ops7_of hl
  obtain ⟨a, b, hco⟩ := span_of ho
  obtain rfl : co = #[.int .i64 a, .int .i64 b] := Array.toList_inj.1 hco
  obtain ⟨off, _, hk, _⟩ := hk
  simp only [List.cons.injEq, and_true] at hk
  subst hk
  have HS0 := Lib.hid ((Sep.law w).alloc #[.int .i64 a, .int .i64 b] SpT)
  have HAT := Lib.hid hat
  clear hat hl ho hco
  refine (callsIn_wide (n := 5)).1 ?_
  refine callsIn_of_wp_marks Try.func6 rfl trivial ?_ rfl
  refine wpIn_wide.2 ?_
  simp only [Try.ntmps6, List.size_toArray, List.length_cons, List.length_nil, Nat.reduceAdd, Nat.reduceSub, Array.replicate_succ, Array.replicate_zero, List.push_toArray, List.append_toArray, List.nil_append, List.cons_append]
  go_wp2_with (first
    | ((with_reducible refine (known7_any (w.alloc _)).mono ?_); rintro e0 w0 ⟨rfl, F0⟩; have HS1 := Lib.hid (HS0.out.same F0); clear F0)
    | ((with_reducible refine (new_any w0).mono ?_); rintro e1 w1 ⟨rfl, T⟩; have HS2 := Lib.hid (HS1.out.beside T); clear T)
    | fail)
  go_loopg [8, 9] 200 (fun n lv iv wr => ∃ (k : Nat) (q : Option Addr) (c : Nat) (p2 : Option Addr) (c2 : Nat) (L : List (Int × Int)), k + n = 200 ∧ k ≤ l.length ∧ iv = .int .i64 k ∧ lv = .slice p2 L.length c2 ∧ OkL L ∧ L.length ≤ k ∧ Sep None w wr ((rns w0.heap.size q c L ++ [srow p2 c2 L]) ++ [Ob.blk w.heap.size SpT #[.int .i64 a, .int .i64 b]]))
  case atStart => exact ⟨0, none, 0, none, 0, [], by omega, by omega, rfl, rfl, trivial, Nat.le_refl _, ((HS2.out.add (srow none 0 []) (Fr.refl None _) (Owns.nil spc 2 SpT _) (fun k hk => by cases hk)).front 2 rfl).front 2 rfl⟩
  case round =>
    clear HS0 HS1 HS2
    obtain ⟨k, q, c, p2, c2, L, hkn, hkl, rfl, rfl, okL, hLk, S1⟩ := hrel
    by_cases g : k < l.length ∧ k < 200
    · obtain ⟨g1, g2⟩ := g
      have ex := List.getElem?_eq_getElem g1
      obtain ⟨bb, oo, rfl, c1', c2', c3'⟩ := HAT.out k _ ex
      generalize l[k] = x at *
      obtain ⟨x0, x1, x2⟩ := x
      have d0 : wr.cell? ⟨bb, oo + k * 3, none⟩ = some (.bool x0) := cell_frN S1.fr c1'
      have d1 : wr.cell? ⟨bb, oo + k * 3 + 1, none⟩ = some (.int .i64 x1) := cell_frN S1.fr c2'
      have d2 : wr.cell? ⟨bb, oo + k * 3 + 2, none⟩ = some (.int .i64 x2) := cell_frN S1.fr c3'
      have HC := Lib.hid (does_any w0.heap.size q c p2 c2 L x0 x1 x2 wr okL (by omega) S1.head)
      have hok := (step_ok x0 okL (x1, x2)).1
      have hlen := step_len x0 okL (x1, x2)
      have HS := Lib.hid S1
      generalize stepL x0 L (x1, x2) = L2 at *
      have HOK := Lib.hid hok
      have hz1 : ((L2.length : Int) != (L2.length : Int)) = false := by simp
      have hz2 : (bytesL L2 != bytesL L2) = false := by simp
      clear S1 okL hok ex c1' c2' c3'
      go_wp2_with (first
        | ((with_reducible refine (HC.out).mono ?_); rintro e2 w2 ⟨q2, k2, p3, k3, rfl, T⟩; have HS2 := Lib.hid (HS.out.did T); clear T)
        | ((with_reducible refine (told_any w0.heap.size q2 k2 L2 w2 (by omega) (rns_row HS2.out).1 (rns_row HS2.out).2).mono ?_); rintro e3 w3 ⟨q4, k4, rfl, T⟩; have HS3 := Lib.hid (HS2.out.beside T); clear T)
        | ((with_reducible refine (spSame_refl q4 p3 k4 k3 L2 w3 (row_reads (HS3.out.at_ 0 rfl)) (row_reads (HS3.out.at_ 3 rfl)) (by omega)).mono ?_); rintro e4 w4 ⟨rfl, F⟩; have HS4 := Lib.hid ((HS3.out.drop (List.sublist_cons_self _ _)).same F); clear F)
        | ((with_reducible refine (rlen_any w0.heap.size q2 k2 L2.length w4 (rns_row HS4.out).1).mono ?_); rintro e5 w5 ⟨rfl, rfl⟩)
        | ((with_reducible refine (bytes_any w0.heap.size q2 k2 L2 w5 HOK.out (by omega) (rns_row HS4.out).1 (rns_row HS4.out).2).mono ?_); rintro e6 w6 ⟨rfl, F⟩; have HS6 := Lib.hid (HS4.out.same F); clear F)
        | ((with_reducible refine (rbytes_any p3 k3 L2 w6 HOK.out (row_reads (HS6.out.at_ 2 rfl)) (by omega)).mono ?_); rintro e7 w7 ⟨rfl, F⟩; have HS7 := Lib.hid (HS6.out.same F); clear F)
        | fail)
      go_roundg (gk - 1)
      case measure => omega
      case rel => exact ⟨k + 1, q2, k2, p3, k3, L2, by omega, by omega, by go_num, rfl, HOK.out, by omega, HS7.out⟩
    · have HOK := Lib.hid okL
      have hLk2 : L.length ≤ 200 := by omega
      have HLk := Lib.hid hLk2
      have hend : decide (k < l.length) = false ∨ (decide (k < l.length) = true ∧ decide ((k : Int) < 200) = false) := by
        by_cases h1 : k < l.length
        · exact .inr ⟨decide_eq_true h1, decide_eq_false (fun h2 => g ⟨h1, by omega⟩)⟩
        · exact .inl (decide_eq_false h1)
      have HS := Lib.hid S1
      have HR1 := Lib.hid (run_any w0.heap.size q c L off wr okL (by omega) (rns_row S1).1 (rns_row S1).2)
      obtain ⟨r1, r2, hr⟩ : ∃ r1 r2, runL L off = (r1, r2) := ⟨_, _, rfl⟩
      obtain ⟨n1, n2, hn⟩ : ∃ n1 n2, nextL L off = (n1, n2) := ⟨_, _, rfl⟩
      have hrm : decide (0 < lenS (r1, r2)) = memB L off := by
        rw [← hr]
        rcases run_cases okL off with ⟨h1, h2, _⟩ | ⟨h1, h2⟩
        · rw [memB_true h1]; have := lenS_of (okL.pr _ h2); have := (okL.pr _ h2).2.1; exact decide_eq_true (by omega)
        · rw [memB_false h1, h2]; decide
      have hnm : decide (0 < lenS (n1, n2)) = decide (lenS (nextL L off) ≠ 0) := by
        rw [hn]
        have := (lenS_bounds (n1, n2)).1
        by_cases h : lenS (n1, n2) = 0
        · rw [h]; rfl
        · rw [decide_eq_true h, decide_eq_true (show 0 < lenS (n1, n2) by omega)]
      have HRun := Lib.hid (fun W c3 hr' => run_any w0.heap.size q c L off W okL (by omega) c3 hr')
      have HNext := Lib.hid (fun W c3 hr' => next_any w0.heap.size q c L off W okL (by omega) c3 hr')
      have HRr := Lib.hid (fun W hr' => rrun_any p2 c2 L off W hr' (by omega))
      have HRn := Lib.hid (fun W hr' => rnext_any p2 c2 L off W hr' (by omega))
      have HHas := Lib.hid (fun W (h2 : (Ob.blk w0.heap.size RnT #[.slice q L.length c]).ok W) (h3 : (srow q c L).ok W) => has_any w0.heap.size q c L off W okL (by omega) (Blk.cell h2 0) (row_reads h3))
      have HWi := Lib.hid (fun W (h2 : (Ob.blk w0.heap.size RnT #[.slice q L.length c]).ok W) (h3 : (srow q c L).ok W) => within_any w0.heap.size q c L a b W okL (by omega) (Blk.cell h2 0) (row_reads h3))
      have HGa := Lib.hid (fun W (h2 : (Ob.blk w0.heap.size RnT #[.slice q L.length c]).ok W) (h3 : (srow q c L).ok W) => gap_any w0.heap.size q c L off W okL (by omega) (Blk.cell h2 0) (row_reads h3))
      have HL1 := Lib.hid (fun W => rlenS_any r1 r2 W)
      have HL2 := Lib.hid (fun W => rlenS_any n1 n2 W)
      rw [hr] at HRun HRr
      rw [← hnm, hn] at HNext
      rw [hn] at HRn
      rw [← hrm] at HRun HHas
      generalize lenS (r1, r2) = lr at *
      generalize lenS (n1, n2) = ln at *
      have he1 : ∀ W, (binOp .neq SpT (.agg #[.int .i64 r1, .int .i64 r2]) (.agg #[.int .i64 r1, .int .i64 r2])).run Try.prog W = .ok (.bool false) W := fun W => by rw [nqSp]; simp
      have he2 : ∀ W, (binOp .neq SpT (.agg #[.int .i64 n1, .int .i64 n2]) (.agg #[.int .i64 n1, .int .i64 n2])).run Try.prog W = .ok (.bool false) W := fun W => by rw [nqSp]; simp
      have HG := Lib.hid (gaps_eq okL (a, b))
      have hgl := Nat.le_trans (gapsF_len (a, b) (mtL L (a, b))) (Nat.add_le_add_right (mtL_len L (a, b)) 1)
      have HGL := Lib.hid (show (gapsF (a, b) (mtL L (a, b))).length ≤ 300 by omega)
      clear S1 okL hr hn hrm hnm hgl g hkn hkl hLk hLk2
      rcases hend with g1 | ⟨g1, g2⟩
      · go_wp2_with (first
          | ((with_reducible refine (HRun.out _ (rns_row HS.out).1 (rns_row HS.out).2).mono ?_); rintro e2 w2 ⟨rfl, F⟩; have HS2 := Lib.hid ((HS.out.same F).alloc #[.int .i64 r1, .int .i64 r2] SpT); have HS2b := Lib.hid (HS.out.same F); clear F)
          | ((with_reducible refine (HNext.out _ (rns_row (show Sep None w _ (rns w0.heap.size q c L ++ _) from HS2b.out.skip _)).1 (rns_row (show Sep None w _ (rns w0.heap.size q c L ++ _) from HS2b.out.skip _)).2).mono ?_); rintro e3 w3 ⟨rfl, F⟩; have HS3 := Lib.hid (HS2.out.same F); clear F)
          | fail)
        have S3' := HS3.out.alloc #[.int .i64 n1, .int .i64 n2] SpT
        generalize w3.heap.size = B3 at S3' ⊢
        generalize w2.heap.size = B2 at S3' ⊢
        refine Sep.gen _ S3' ?_
        clear S3' HS3 HS2 HS2b HS
        intro U SU
        have i1 : U.cell? ⟨B2, 0, none⟩ = some (.int .i64 r1) := (SU.at_ 1 rfl).cell 0
        have i2 : U.cell? ⟨B2, 1, none⟩ = some (.int .i64 r2) := (SU.at_ 1 rfl).cell 1
        have i3 : U.cell? ⟨B3, 0, none⟩ = some (.int .i64 n1) := (SU.at_ 0 rfl).cell 0
        have i4 : U.cell? ⟨B3, 1, none⟩ = some (.int .i64 n2) := (SU.at_ 0 rfl).cell 1
        have HU := Lib.hid SU.drew
        clear SU
        go_region_held3 (fun w' => w'.cell? ⟨B2, 0, none⟩ = some (.int .i64 r1) ∧ w'.cell? ⟨B2, 1, none⟩ = some (.int .i64 r2) ∧ w'.cell? ⟨B3, 0, none⟩ = some (.int .i64 n1) ∧ w'.cell? ⟨B3, 1, none⟩ = some (.int .i64 n2)) (first | (with_reducible assumption) | (go_keep; done)) (first
          | ((with_reducible refine (HRr.out _ (row_reads (HU.out.at_ 4 rfl))).mono ?_); rintro e5 w5 ⟨rfl, F⟩; have S5 := HU.out.same F; have i1_5 : w5.cell? ⟨B2, 0, none⟩ = some (.int .i64 r1) := (S5.at_ 1 rfl).cell 0; have i2_5 : w5.cell? ⟨B2, 1, none⟩ = some (.int .i64 r2) := (S5.at_ 1 rfl).cell 1; have i3_5 : w5.cell? ⟨B3, 0, none⟩ = some (.int .i64 n1) := (S5.at_ 0 rfl).cell 0; have i4_5 : w5.cell? ⟨B3, 1, none⟩ = some (.int .i64 n2) := (S5.at_ 0 rfl).cell 1; have HS5 := Lib.hid S5; clear S5)
          | ((with_reducible refine (HL1.out _).mono ?_); rintro e6 w6 ⟨rfl, F⟩; have S6 := HS5.out.same F; have i1_6 : w6.cell? ⟨B2, 0, none⟩ = some (.int .i64 r1) := (S6.at_ 1 rfl).cell 0; have i2_6 : w6.cell? ⟨B2, 1, none⟩ = some (.int .i64 r2) := (S6.at_ 1 rfl).cell 1; have i3_6 : w6.cell? ⟨B3, 0, none⟩ = some (.int .i64 n1) := (S6.at_ 0 rfl).cell 0; have i4_6 : w6.cell? ⟨B3, 1, none⟩ = some (.int .i64 n2) := (S6.at_ 0 rfl).cell 1; have HS6 := Lib.hid S6; clear S6)
          | ((with_reducible refine (HHas.out _ (HS6.out.at_ 2 rfl) (HS6.out.at_ 3 rfl)).mono ?_); rintro e7 w7 ⟨rfl, F⟩; have S7 := HS6.out.same F; have i1_7 : w7.cell? ⟨B2, 0, none⟩ = some (.int .i64 r1) := (S7.at_ 1 rfl).cell 0; have i2_7 : w7.cell? ⟨B2, 1, none⟩ = some (.int .i64 r2) := (S7.at_ 1 rfl).cell 1; have i3_7 : w7.cell? ⟨B3, 0, none⟩ = some (.int .i64 n1) := (S7.at_ 0 rfl).cell 0; have i4_7 : w7.cell? ⟨B3, 1, none⟩ = some (.int .i64 n2) := (S7.at_ 0 rfl).cell 1; have HS7 := Lib.hid S7; clear S7)
          | ((with_reducible refine (HRn.out _ (row_reads (HS7.out.at_ 4 rfl))).mono ?_); rintro e8 w8 ⟨rfl, F⟩; have S8 := HS7.out.same F; have i1_8 : w8.cell? ⟨B2, 0, none⟩ = some (.int .i64 r1) := (S8.at_ 1 rfl).cell 0; have i2_8 : w8.cell? ⟨B2, 1, none⟩ = some (.int .i64 r2) := (S8.at_ 1 rfl).cell 1; have i3_8 : w8.cell? ⟨B3, 0, none⟩ = some (.int .i64 n1) := (S8.at_ 0 rfl).cell 0; have i4_8 : w8.cell? ⟨B3, 1, none⟩ = some (.int .i64 n2) := (S8.at_ 0 rfl).cell 1; have HS8 := Lib.hid S8; clear S8)
          | ((with_reducible refine (HL2.out _).mono ?_); rintro e9 w9 ⟨rfl, F⟩; have S9 := HS8.out.same F; have i1_9 : w9.cell? ⟨B2, 0, none⟩ = some (.int .i64 r1) := (S9.at_ 1 rfl).cell 0; have i2_9 : w9.cell? ⟨B2, 1, none⟩ = some (.int .i64 r2) := (S9.at_ 1 rfl).cell 1; have i3_9 : w9.cell? ⟨B3, 0, none⟩ = some (.int .i64 n1) := (S9.at_ 0 rfl).cell 0; have i4_9 : w9.cell? ⟨B3, 1, none⟩ = some (.int .i64 n2) := (S9.at_ 0 rfl).cell 1; have HS9 := Lib.hid S9; clear S9)
          | fail)
        all_goals
          clear HRun HNext HRr HRn HHas HL1 HL2 he1 he2 i1 i2 i3 i4
          have lt9 : w.heap.size < w9.heap.size := Blk.lt (HS9.out.at_ 5 rfl)
          have sa : w9.cell? ⟨w.heap.size, 0, none⟩ = some (.int .i64 a) := (HS9.out.at_ 5 rfl).cell 0
          have sb : w9.cell? ⟨w.heap.size, 1, none⟩ = some (.int .i64 b) := (HS9.out.at_ 5 rfl).cell 1
          have HA := Lib.hid (gapsG_any (at0 w0.heap.size) a b (w9.alloc (.cells #[.slice none 0 0] SlT)))
          have SV := ((HS9.out.drop (.cons _ (.cons _ (.refl _)))).alloc #[.slice none 0 0] SlT).add (srow none 0 []) (Fr.refl None _) (Owns.nil spc 2 SpT _) (fun k hk => by cases hk)
          have c3 : w9.cell? ⟨w0.heap.size, 0, none⟩ = some (.slice q L.length c) := (HS9.out.at_ 2 rfl).cell 0
          have hr := row_reads (HS9.out.at_ 3 rfl)
          have hsl := shR_lt c3 hr
          have f9 : Fr None w9 (w9.alloc (.cells #[.slice none 0 0] SlT)) := (Fr.refl None w9).alloc _
          have HSq := Lib.hid (fun n => gaps_seq w0.heap.size q c L a b HOK.out (by have := HLk.out; omega) (w9.alloc (.cells #[.slice none 0 0] SlT)) (cell_frN f9 c3) (hr.fr f9 (fun _ _ h => h)) _ rfl n)
          have SW := (SV.skip (.cells #[.pointer (at0 w0.heap.size)] RpT)).skip (.cells #[.int .i64 a, .int .i64 b] SpT)
          have hsz : (((w9.alloc (.cells #[.slice none 0 0] SlT)).alloc (.cells #[.pointer (at0 w0.heap.size)] RpT)).alloc (.cells #[.int .i64 a, .int .i64 b] SpT)).heap.size = w9.heap.size + 3 := by simp
          simp only [World.size_alloc] at HA HSq
          generalize eW : ((w9.alloc (.cells #[.slice none 0 0] SlT)).alloc (.cells #[.pointer (at0 w0.heap.size)] RpT)).alloc (.cells #[.int .i64 a, .int .i64 b] SpT) = W0 at SW HSq hsz
          have EW := Lib.hid eW; clear eW
          have HSh := Lib.hid (show ∀ k, (ShR w0.heap.size q L k ∨ k = w9.heap.size + 1 ∨ k = w9.heap.size + 1 + 1) → k < W0.heap.size ∧ ¬ fpL (bxL w9.heap.size (none, 0, [])) k from fun k hk => by
            have h1 : k < W0.heap.size ∧ k ≠ w9.heap.size := by
              rcases hk with hk | rfl | rfl
              · have := hsl k hk; omega
              · omega
              · omega
            exact ⟨h1.1, fun h => h1.2 (fp_bx h)⟩)
          have HSW := Lib.hid (show Sep None w W0 (bxL w9.heap.size (none, 0, []) ++ [Ob.blk w0.heap.size RnT #[.slice q L.length c], srow q c L, srow p2 c2 L, Ob.blk w.heap.size SpT #[.int .i64 a, .int .i64 b]]) from SW)
          have HZ := Lib.hid (And.intro hsz HS9.out.fr.size)
          clear SV SW c3 hr hsl f9 hsz HS9
          go_wp2_with ((with_reducible refine (HA.out).mono ?_); rintro e10 w10 ⟨rfl, e1⟩; simp only [EW.out] at e1; simp only [e1]; clear e1 w10)
          clear sa sb HA
          refine (wpIn_wide (n := 5)).1 ?_
          refine wpIn_rangeL (gf := 58) (lb := #[.pointer (at0 (w9.heap.size + 1 + 1)), .pointer (at0 (w9.heap.size + 1))]) rfl (enters_of Try.func58 (by kernel_rfl) rfl) (HSq.out _) (Below.refl _ _) (fun _ => rfl)
            HSW.out.head HSh.out (fun pre s => s.2.2 = pre) (bxL w9.heap.size) (fun _ _ => False) (none, 0, []) rfl rfl ?fA1 SpT (fun x => #[.int .i64 x.1, .int .i64 x.2]) ?assign1 ?body1 ?done1 ?stop1
          case assign1 =>
            intro l' x V K hK
            gi_wp2
            generalize V.heap.size = k at *
            exact hK
          case body1 =>
            rintro l' pre ⟨x1, x2⟩ k' V ⟨qs, cs, ls⟩ hs hpre S f hk
            simp only at hs
            subst hs
            have c1 : V.cell? ⟨w9.heap.size, 0, none⟩ = some (.slice qs ls.length cs) := (S.at_ 2 rfl).cell 0
            have x1c : V.cell? ⟨k', 0, none⟩ = some (.int .i64 x1) := (S.at_ 0 rfl).cell 0
            have x2c : V.cell? ⟨k', 1, none⟩ = some (.int .i64 x2) := (S.at_ 0 rfl).cell 1
            have hlen : ls.length ≤ 1000000 := by have h5 := hpre.length_le; rw [List.length_append, List.length_singleton] at h5; have := HGL.out; omega
            have HV := Lib.hid S
            clear S f hpre
            gi_wp2_with (with_reducible refine HoldIn.out ?_)
            refine HoldIn.mk ?_
            refine wpListIn_push HV.out 1 rfl x1 x2 rfl _ _ rfl rfl rfl hlen ?_
            intro q5 c5 W5 S5
            simp only [List.set_cons_succ, List.set_cons_zero] at S5
            have z5 : W5.frozen? ⟨w9.heap.size, 0, none⟩ = false := (S5.at_ 2 rfl).frozen 0
            have k5 : W5.cell? ⟨w9.heap.size, 0, none⟩ = some (.slice qs ls.length cs) := (S5.at_ 2 rfl).cell 0
            have HS5 := Lib.hid (S5.set 2 rfl 0 (.slice q5 (ls ++ [(x1, x2)]).length c5))
            have hll : (ls ++ [(x1, x2)]).length = ls.length + 1 := by simp
            rw [hll] at HS5
            have HLL := Lib.hid hll
            clear S5 hll
            gi_wp2_with fail
            exact ⟨q5, c5, by
              show Sep _ _ _ [_, Ob.blk _ _ #[.slice _ (ls ++ [(x1, x2)]).length _]]
              rw [HLL.out]; exact HS5.out.drop (.cons _ (.refl _))⟩
          case done1 =>
            rintro D' V ⟨qs, cs, gs⟩ hD hs S hK
            simp only at hs
            rw [HG.out] at hs HGL
            subst hs
            have SV := HSW.out.did S
            have v1 : V.cell? ⟨w9.heap.size, 0, none⟩ = some (.slice qs (gapsR L (a, b)).length cs) := (SV.at_ 1 rfl).cell 0
            have v2 : V.cell? ⟨w.heap.size, 0, none⟩ = some (.int .i64 a) := (SV.at_ 5 rfl).cell 0
            have v3 : V.cell? ⟨w.heap.size, 1, none⟩ = some (.int .i64 b) := (SV.at_ 5 rfl).cell 1
            have HV := Lib.hid (show Sep None w V.drew (bxL w9.heap.size (qs, cs, gapsR L (a, b)) ++ [Ob.blk w0.heap.size RnT #[.slice q L.length c], srow q c L, srow p2 c2 L, Ob.blk w.heap.size SpT #[.int .i64 a, .int .i64 b]]) from SV.drew)
            have HFV := Lib.hid ((Fr.refl None V).drew)
            have HKV := Lib.hid (show D' < V.heap.size ∧ V.heap[D']? = some (.deferred (some [])) from ⟨heap_lt hK, hK⟩)
            have hw : (withinL L (a, b) == withinL L (a, b)) = true := by simp
            have hg : (gapL L off == gapL L off) = true := by simp
            clear SV S
            go_wp2_with fail
            go_region_held3 (fun w' => w'.cell? ⟨w9.heap.size, 0, none⟩ = some (.slice qs (gapsR L (a, b)).length cs) ∧ w'.cell? ⟨w.heap.size, 0, none⟩ = some (.int .i64 a) ∧ w'.cell? ⟨w.heap.size, 1, none⟩ = some (.int .i64 b)) (first | (with_reducible assumption) | (go_keep; done)) (first
              | ((with_reducible refine (HWi.out _ (HV.out.at_ 2 rfl) (HV.out.at_ 3 rfl)).mono ?_); rintro e11 w11 ⟨rfl, F⟩; have S11 := HV.out.same F; have v1_11 : w11.cell? ⟨w9.heap.size, 0, none⟩ = some (.slice qs (gapsR L (a, b)).length cs) := (S11.at_ 1 rfl).cell 0; have v2_11 : w11.cell? ⟨w.heap.size, 0, none⟩ = some (.int .i64 a) := (S11.at_ 5 rfl).cell 0; have v3_11 : w11.cell? ⟨w.heap.size, 1, none⟩ = some (.int .i64 b) := (S11.at_ 5 rfl).cell 1; have HF11 := Lib.hid (HFV.out.trans F); have HS11 := Lib.hid S11; clear S11)
              | ((with_reducible refine (rwithin_any p2 c2 L a b _ HOK.out (row_reads (HS11.out.at_ 4 rfl)) (by have := HLk.out; omega)).mono ?_); rintro e12 w12 ⟨rfl, F⟩; have S12 := HS11.out.same F; have v1_12 : w12.cell? ⟨w9.heap.size, 0, none⟩ = some (.slice qs (gapsR L (a, b)).length cs) := (S12.at_ 1 rfl).cell 0; have v2_12 : w12.cell? ⟨w.heap.size, 0, none⟩ = some (.int .i64 a) := (S12.at_ 5 rfl).cell 0; have v3_12 : w12.cell? ⟨w.heap.size, 1, none⟩ = some (.int .i64 b) := (S12.at_ 5 rfl).cell 1; have HF12 := Lib.hid (HF11.out.trans F); have HS12 := Lib.hid S12; clear S12)
              | ((with_reducible refine (HGa.out _ (HS12.out.at_ 2 rfl) (HS12.out.at_ 3 rfl)).mono ?_); rintro e13 w13 ⟨rfl, F⟩; have S13 := HS12.out.same F; have v1_13 : w13.cell? ⟨w9.heap.size, 0, none⟩ = some (.slice qs (gapsR L (a, b)).length cs) := (S13.at_ 1 rfl).cell 0; have v2_13 : w13.cell? ⟨w.heap.size, 0, none⟩ = some (.int .i64 a) := (S13.at_ 5 rfl).cell 0; have v3_13 : w13.cell? ⟨w.heap.size, 1, none⟩ = some (.int .i64 b) := (S13.at_ 5 rfl).cell 1; have HF13 := Lib.hid (HF12.out.trans F); have HS13 := Lib.hid S13; clear S13)
              | ((with_reducible refine (rgap_any p2 c2 L off _ (row_reads (HS13.out.at_ 4 rfl)) (by have := HLk.out; omega)).mono ?_); rintro e14 w14 ⟨rfl, F⟩; have S14 := HS13.out.same F; have v1_14 : w14.cell? ⟨w9.heap.size, 0, none⟩ = some (.slice qs (gapsR L (a, b)).length cs) := (S14.at_ 1 rfl).cell 0; have v2_14 : w14.cell? ⟨w.heap.size, 0, none⟩ = some (.int .i64 a) := (S14.at_ 5 rfl).cell 0; have v3_14 : w14.cell? ⟨w.heap.size, 1, none⟩ = some (.int .i64 b) := (S14.at_ 5 rfl).cell 1; have HF14 := Lib.hid (HF13.out.trans F); have HS14 := Lib.hid S14; clear S14)
              | ((with_reducible refine (rgaps_any p2 c2 L a b _ (row_reads (HS14.out.at_ 4 rfl)) (by have := HLk.out; omega)).mono ?_); rintro e15 w15 ⟨q9, d9, rfl, T⟩; have S15 := HS14.out.beside T; have v1_15 : w15.cell? ⟨w9.heap.size, 0, none⟩ = some (.slice qs (gapsR L (a, b)).length cs) := (S15.at_ 2 rfl).cell 0; have v2_15 : w15.cell? ⟨w.heap.size, 0, none⟩ = some (.int .i64 a) := (S15.at_ 6 rfl).cell 0; have v3_15 : w15.cell? ⟨w.heap.size, 1, none⟩ = some (.int .i64 b) := (S15.at_ 6 rfl).cell 1; have HF15 := Lib.hid (HF14.out.trans T.fr); have HS15 := Lib.hid S15; clear S15)
              | ((with_reducible refine (spSame_refl qs q9 cs d9 (gapsR L (a, b)) _ (row_reads (HS15.out.at_ 1 rfl)) (row_reads (HS15.out.at_ 0 rfl)) (by have := HGL.out; omega)).mono ?_); rintro e16 w16 ⟨rfl, F⟩; have S16 := HS15.out.same F; have v1_16 : w16.cell? ⟨w9.heap.size, 0, none⟩ = some (.slice qs (gapsR L (a, b)).length cs) := (S16.at_ 2 rfl).cell 0; have v2_16 : w16.cell? ⟨w.heap.size, 0, none⟩ = some (.int .i64 a) := (S16.at_ 6 rfl).cell 0; have v3_16 : w16.cell? ⟨w.heap.size, 1, none⟩ = some (.int .i64 b) := (S16.at_ 6 rfl).cell 1; have HF16 := Lib.hid (HF15.out.trans F); have HS16 := Lib.hid S16; clear S16)
              | ((with_reducible refine (known7_any _).mono ?_); rintro e17 w17 ⟨rfl, F⟩; have S17 := HS16.out.same F; have v1_17 : w17.cell? ⟨w9.heap.size, 0, none⟩ = some (.slice qs (gapsR L (a, b)).length cs) := (S17.at_ 2 rfl).cell 0; have v2_17 : w17.cell? ⟨w.heap.size, 0, none⟩ = some (.int .i64 a) := (S17.at_ 6 rfl).cell 0; have v3_17 : w17.cell? ⟨w.heap.size, 1, none⟩ = some (.int .i64 b) := (S17.at_ 6 rfl).cell 1; have HF17 := Lib.hid (HF16.out.trans F); have HS17 := Lib.hid S17; clear S17)
              | fail)
            all_goals
              have hK' : w17.heap[D']? = some (.deferred (some [])) := (HF17.out.block _ HKV.out.1 id).trans HKV.out.2
              go_wp2_with fail
              refine ⟨by simp, .inl ⟨_, _, rfl, run_takeDeferred hK', ?_⟩⟩
              refine ⟨_, results_tmp (t := 6) rfl _ _ _, rfl, ?_⟩
              exact (odd_done HS17.out hK' (by have := HZ.out; omega)).fr.none_below
          case stop1 =>
            rintro D' V pre s _ _ h
            exact h.elim
      · go_wp2_with (first
          | ((with_reducible refine (HRun.out _ (rns_row HS.out).1 (rns_row HS.out).2).mono ?_); rintro e2 w2 ⟨rfl, F⟩; have HS2 := Lib.hid ((HS.out.same F).alloc #[.int .i64 r1, .int .i64 r2] SpT); have HS2b := Lib.hid (HS.out.same F); clear F)
          | ((with_reducible refine (HNext.out _ (rns_row (show Sep None w _ (rns w0.heap.size q c L ++ _) from HS2b.out.skip _)).1 (rns_row (show Sep None w _ (rns w0.heap.size q c L ++ _) from HS2b.out.skip _)).2).mono ?_); rintro e3 w3 ⟨rfl, F⟩; have HS3 := Lib.hid (HS2.out.same F); clear F)
          | fail)
        have S3' := HS3.out.alloc #[.int .i64 n1, .int .i64 n2] SpT
        generalize w3.heap.size = B3 at S3' ⊢
        generalize w2.heap.size = B2 at S3' ⊢
        refine Sep.gen _ S3' ?_
        clear S3' HS3 HS2 HS2b HS
        intro U SU
        have i1 : U.cell? ⟨B2, 0, none⟩ = some (.int .i64 r1) := (SU.at_ 1 rfl).cell 0
        have i2 : U.cell? ⟨B2, 1, none⟩ = some (.int .i64 r2) := (SU.at_ 1 rfl).cell 1
        have i3 : U.cell? ⟨B3, 0, none⟩ = some (.int .i64 n1) := (SU.at_ 0 rfl).cell 0
        have i4 : U.cell? ⟨B3, 1, none⟩ = some (.int .i64 n2) := (SU.at_ 0 rfl).cell 1
        have HU := Lib.hid SU.drew
        clear SU
        go_region_held3 (fun w' => w'.cell? ⟨B2, 0, none⟩ = some (.int .i64 r1) ∧ w'.cell? ⟨B2, 1, none⟩ = some (.int .i64 r2) ∧ w'.cell? ⟨B3, 0, none⟩ = some (.int .i64 n1) ∧ w'.cell? ⟨B3, 1, none⟩ = some (.int .i64 n2)) (first | (with_reducible assumption) | (go_keep; done)) (first
          | ((with_reducible refine (HRr.out _ (row_reads (HU.out.at_ 4 rfl))).mono ?_); rintro e5 w5 ⟨rfl, F⟩; have S5 := HU.out.same F; have i1_5 : w5.cell? ⟨B2, 0, none⟩ = some (.int .i64 r1) := (S5.at_ 1 rfl).cell 0; have i2_5 : w5.cell? ⟨B2, 1, none⟩ = some (.int .i64 r2) := (S5.at_ 1 rfl).cell 1; have i3_5 : w5.cell? ⟨B3, 0, none⟩ = some (.int .i64 n1) := (S5.at_ 0 rfl).cell 0; have i4_5 : w5.cell? ⟨B3, 1, none⟩ = some (.int .i64 n2) := (S5.at_ 0 rfl).cell 1; have HS5 := Lib.hid S5; clear S5)
          | ((with_reducible refine (HL1.out _).mono ?_); rintro e6 w6 ⟨rfl, F⟩; have S6 := HS5.out.same F; have i1_6 : w6.cell? ⟨B2, 0, none⟩ = some (.int .i64 r1) := (S6.at_ 1 rfl).cell 0; have i2_6 : w6.cell? ⟨B2, 1, none⟩ = some (.int .i64 r2) := (S6.at_ 1 rfl).cell 1; have i3_6 : w6.cell? ⟨B3, 0, none⟩ = some (.int .i64 n1) := (S6.at_ 0 rfl).cell 0; have i4_6 : w6.cell? ⟨B3, 1, none⟩ = some (.int .i64 n2) := (S6.at_ 0 rfl).cell 1; have HS6 := Lib.hid S6; clear S6)
          | ((with_reducible refine (HHas.out _ (HS6.out.at_ 2 rfl) (HS6.out.at_ 3 rfl)).mono ?_); rintro e7 w7 ⟨rfl, F⟩; have S7 := HS6.out.same F; have i1_7 : w7.cell? ⟨B2, 0, none⟩ = some (.int .i64 r1) := (S7.at_ 1 rfl).cell 0; have i2_7 : w7.cell? ⟨B2, 1, none⟩ = some (.int .i64 r2) := (S7.at_ 1 rfl).cell 1; have i3_7 : w7.cell? ⟨B3, 0, none⟩ = some (.int .i64 n1) := (S7.at_ 0 rfl).cell 0; have i4_7 : w7.cell? ⟨B3, 1, none⟩ = some (.int .i64 n2) := (S7.at_ 0 rfl).cell 1; have HS7 := Lib.hid S7; clear S7)
          | ((with_reducible refine (HRn.out _ (row_reads (HS7.out.at_ 4 rfl))).mono ?_); rintro e8 w8 ⟨rfl, F⟩; have S8 := HS7.out.same F; have i1_8 : w8.cell? ⟨B2, 0, none⟩ = some (.int .i64 r1) := (S8.at_ 1 rfl).cell 0; have i2_8 : w8.cell? ⟨B2, 1, none⟩ = some (.int .i64 r2) := (S8.at_ 1 rfl).cell 1; have i3_8 : w8.cell? ⟨B3, 0, none⟩ = some (.int .i64 n1) := (S8.at_ 0 rfl).cell 0; have i4_8 : w8.cell? ⟨B3, 1, none⟩ = some (.int .i64 n2) := (S8.at_ 0 rfl).cell 1; have HS8 := Lib.hid S8; clear S8)
          | ((with_reducible refine (HL2.out _).mono ?_); rintro e9 w9 ⟨rfl, F⟩; have S9 := HS8.out.same F; have i1_9 : w9.cell? ⟨B2, 0, none⟩ = some (.int .i64 r1) := (S9.at_ 1 rfl).cell 0; have i2_9 : w9.cell? ⟨B2, 1, none⟩ = some (.int .i64 r2) := (S9.at_ 1 rfl).cell 1; have i3_9 : w9.cell? ⟨B3, 0, none⟩ = some (.int .i64 n1) := (S9.at_ 0 rfl).cell 0; have i4_9 : w9.cell? ⟨B3, 1, none⟩ = some (.int .i64 n2) := (S9.at_ 0 rfl).cell 1; have HS9 := Lib.hid S9; clear S9)
          | fail)
        all_goals
          clear HRun HNext HRr HRn HHas HL1 HL2 he1 he2 i1 i2 i3 i4
          have lt9 : w.heap.size < w9.heap.size := Blk.lt (HS9.out.at_ 5 rfl)
          have sa : w9.cell? ⟨w.heap.size, 0, none⟩ = some (.int .i64 a) := (HS9.out.at_ 5 rfl).cell 0
          have sb : w9.cell? ⟨w.heap.size, 1, none⟩ = some (.int .i64 b) := (HS9.out.at_ 5 rfl).cell 1
          have HA := Lib.hid (gapsG_any (at0 w0.heap.size) a b (w9.alloc (.cells #[.slice none 0 0] SlT)))
          have SV := ((HS9.out.drop (.cons _ (.cons _ (.refl _)))).alloc #[.slice none 0 0] SlT).add (srow none 0 []) (Fr.refl None _) (Owns.nil spc 2 SpT _) (fun k hk => by cases hk)
          have c3 : w9.cell? ⟨w0.heap.size, 0, none⟩ = some (.slice q L.length c) := (HS9.out.at_ 2 rfl).cell 0
          have hr := row_reads (HS9.out.at_ 3 rfl)
          have hsl := shR_lt c3 hr
          have f9 : Fr None w9 (w9.alloc (.cells #[.slice none 0 0] SlT)) := (Fr.refl None w9).alloc _
          have HSq := Lib.hid (fun n => gaps_seq w0.heap.size q c L a b HOK.out (by have := HLk.out; omega) (w9.alloc (.cells #[.slice none 0 0] SlT)) (cell_frN f9 c3) (hr.fr f9 (fun _ _ h => h)) _ rfl n)
          have SW := (SV.skip (.cells #[.pointer (at0 w0.heap.size)] RpT)).skip (.cells #[.int .i64 a, .int .i64 b] SpT)
          have hsz : (((w9.alloc (.cells #[.slice none 0 0] SlT)).alloc (.cells #[.pointer (at0 w0.heap.size)] RpT)).alloc (.cells #[.int .i64 a, .int .i64 b] SpT)).heap.size = w9.heap.size + 3 := by simp
          simp only [World.size_alloc] at HA HSq
          generalize eW : ((w9.alloc (.cells #[.slice none 0 0] SlT)).alloc (.cells #[.pointer (at0 w0.heap.size)] RpT)).alloc (.cells #[.int .i64 a, .int .i64 b] SpT) = W0 at SW HSq hsz
          have EW := Lib.hid eW; clear eW
          have HSh := Lib.hid (show ∀ k, (ShR w0.heap.size q L k ∨ k = w9.heap.size + 1 ∨ k = w9.heap.size + 1 + 1) → k < W0.heap.size ∧ ¬ fpL (bxL w9.heap.size (none, 0, [])) k from fun k hk => by
            have h1 : k < W0.heap.size ∧ k ≠ w9.heap.size := by
              rcases hk with hk | rfl | rfl
              · have := hsl k hk; omega
              · omega
              · omega
            exact ⟨h1.1, fun h => h1.2 (fp_bx h)⟩)
          have HSW := Lib.hid (show Sep None w W0 (bxL w9.heap.size (none, 0, []) ++ [Ob.blk w0.heap.size RnT #[.slice q L.length c], srow q c L, srow p2 c2 L, Ob.blk w.heap.size SpT #[.int .i64 a, .int .i64 b]]) from SW)
          have HZ := Lib.hid (And.intro hsz HS9.out.fr.size)
          clear SV SW c3 hr hsl f9 hsz HS9
          go_wp2_with ((with_reducible refine (HA.out).mono ?_); rintro e10 w10 ⟨rfl, e1⟩; simp only [EW.out] at e1; simp only [e1]; clear e1 w10)
          clear sa sb HA
          refine (wpIn_wide (n := 5)).1 ?_
          refine wpIn_rangeL (gf := 58) (lb := #[.pointer (at0 (w9.heap.size + 1 + 1)), .pointer (at0 (w9.heap.size + 1))]) rfl (enters_of Try.func58 (by kernel_rfl) rfl) (HSq.out _) (Below.refl _ _) (fun _ => rfl)
            HSW.out.head HSh.out (fun pre s => s.2.2 = pre) (bxL w9.heap.size) (fun _ _ => False) (none, 0, []) rfl rfl ?fA2 SpT (fun x => #[.int .i64 x.1, .int .i64 x.2]) ?assign2 ?body2 ?done2 ?stop2
          case assign2 =>
            intro l' x V K hK
            gi_wp2
            generalize V.heap.size = k at *
            exact hK
          case body2 =>
            rintro l' pre ⟨x1, x2⟩ k' V ⟨qs, cs, ls⟩ hs hpre S f hk
            simp only at hs
            subst hs
            have c1 : V.cell? ⟨w9.heap.size, 0, none⟩ = some (.slice qs ls.length cs) := (S.at_ 2 rfl).cell 0
            have x1c : V.cell? ⟨k', 0, none⟩ = some (.int .i64 x1) := (S.at_ 0 rfl).cell 0
            have x2c : V.cell? ⟨k', 1, none⟩ = some (.int .i64 x2) := (S.at_ 0 rfl).cell 1
            have hlen : ls.length ≤ 1000000 := by have h5 := hpre.length_le; rw [List.length_append, List.length_singleton] at h5; have := HGL.out; omega
            have HV := Lib.hid S
            clear S f hpre
            gi_wp2_with (with_reducible refine HoldIn.out ?_)
            refine HoldIn.mk ?_
            refine wpListIn_push HV.out 1 rfl x1 x2 rfl _ _ rfl rfl rfl hlen ?_
            intro q5 c5 W5 S5
            simp only [List.set_cons_succ, List.set_cons_zero] at S5
            have z5 : W5.frozen? ⟨w9.heap.size, 0, none⟩ = false := (S5.at_ 2 rfl).frozen 0
            have k5 : W5.cell? ⟨w9.heap.size, 0, none⟩ = some (.slice qs ls.length cs) := (S5.at_ 2 rfl).cell 0
            have HS5 := Lib.hid (S5.set 2 rfl 0 (.slice q5 (ls ++ [(x1, x2)]).length c5))
            have hll : (ls ++ [(x1, x2)]).length = ls.length + 1 := by simp
            rw [hll] at HS5
            have HLL := Lib.hid hll
            clear S5 hll
            gi_wp2_with fail
            exact ⟨q5, c5, by
              show Sep _ _ _ [_, Ob.blk _ _ #[.slice _ (ls ++ [(x1, x2)]).length _]]
              rw [HLL.out]; exact HS5.out.drop (.cons _ (.refl _))⟩
          case done2 =>
            rintro D' V ⟨qs, cs, gs⟩ hD hs S hK
            simp only at hs
            rw [HG.out] at hs HGL
            subst hs
            have SV := HSW.out.did S
            have v1 : V.cell? ⟨w9.heap.size, 0, none⟩ = some (.slice qs (gapsR L (a, b)).length cs) := (SV.at_ 1 rfl).cell 0
            have v2 : V.cell? ⟨w.heap.size, 0, none⟩ = some (.int .i64 a) := (SV.at_ 5 rfl).cell 0
            have v3 : V.cell? ⟨w.heap.size, 1, none⟩ = some (.int .i64 b) := (SV.at_ 5 rfl).cell 1
            have HV := Lib.hid (show Sep None w V.drew (bxL w9.heap.size (qs, cs, gapsR L (a, b)) ++ [Ob.blk w0.heap.size RnT #[.slice q L.length c], srow q c L, srow p2 c2 L, Ob.blk w.heap.size SpT #[.int .i64 a, .int .i64 b]]) from SV.drew)
            have HFV := Lib.hid ((Fr.refl None V).drew)
            have HKV := Lib.hid (show D' < V.heap.size ∧ V.heap[D']? = some (.deferred (some [])) from ⟨heap_lt hK, hK⟩)
            have hw : (withinL L (a, b) == withinL L (a, b)) = true := by simp
            have hg : (gapL L off == gapL L off) = true := by simp
            clear SV S
            go_wp2_with fail
            go_region_held3 (fun w' => w'.cell? ⟨w9.heap.size, 0, none⟩ = some (.slice qs (gapsR L (a, b)).length cs) ∧ w'.cell? ⟨w.heap.size, 0, none⟩ = some (.int .i64 a) ∧ w'.cell? ⟨w.heap.size, 1, none⟩ = some (.int .i64 b)) (first | (with_reducible assumption) | (go_keep; done)) (first
              | ((with_reducible refine (HWi.out _ (HV.out.at_ 2 rfl) (HV.out.at_ 3 rfl)).mono ?_); rintro e11 w11 ⟨rfl, F⟩; have S11 := HV.out.same F; have v1_11 : w11.cell? ⟨w9.heap.size, 0, none⟩ = some (.slice qs (gapsR L (a, b)).length cs) := (S11.at_ 1 rfl).cell 0; have v2_11 : w11.cell? ⟨w.heap.size, 0, none⟩ = some (.int .i64 a) := (S11.at_ 5 rfl).cell 0; have v3_11 : w11.cell? ⟨w.heap.size, 1, none⟩ = some (.int .i64 b) := (S11.at_ 5 rfl).cell 1; have HF11 := Lib.hid (HFV.out.trans F); have HS11 := Lib.hid S11; clear S11)
              | ((with_reducible refine (rwithin_any p2 c2 L a b _ HOK.out (row_reads (HS11.out.at_ 4 rfl)) (by have := HLk.out; omega)).mono ?_); rintro e12 w12 ⟨rfl, F⟩; have S12 := HS11.out.same F; have v1_12 : w12.cell? ⟨w9.heap.size, 0, none⟩ = some (.slice qs (gapsR L (a, b)).length cs) := (S12.at_ 1 rfl).cell 0; have v2_12 : w12.cell? ⟨w.heap.size, 0, none⟩ = some (.int .i64 a) := (S12.at_ 5 rfl).cell 0; have v3_12 : w12.cell? ⟨w.heap.size, 1, none⟩ = some (.int .i64 b) := (S12.at_ 5 rfl).cell 1; have HF12 := Lib.hid (HF11.out.trans F); have HS12 := Lib.hid S12; clear S12)
              | ((with_reducible refine (HGa.out _ (HS12.out.at_ 2 rfl) (HS12.out.at_ 3 rfl)).mono ?_); rintro e13 w13 ⟨rfl, F⟩; have S13 := HS12.out.same F; have v1_13 : w13.cell? ⟨w9.heap.size, 0, none⟩ = some (.slice qs (gapsR L (a, b)).length cs) := (S13.at_ 1 rfl).cell 0; have v2_13 : w13.cell? ⟨w.heap.size, 0, none⟩ = some (.int .i64 a) := (S13.at_ 5 rfl).cell 0; have v3_13 : w13.cell? ⟨w.heap.size, 1, none⟩ = some (.int .i64 b) := (S13.at_ 5 rfl).cell 1; have HF13 := Lib.hid (HF12.out.trans F); have HS13 := Lib.hid S13; clear S13)
              | ((with_reducible refine (rgap_any p2 c2 L off _ (row_reads (HS13.out.at_ 4 rfl)) (by have := HLk.out; omega)).mono ?_); rintro e14 w14 ⟨rfl, F⟩; have S14 := HS13.out.same F; have v1_14 : w14.cell? ⟨w9.heap.size, 0, none⟩ = some (.slice qs (gapsR L (a, b)).length cs) := (S14.at_ 1 rfl).cell 0; have v2_14 : w14.cell? ⟨w.heap.size, 0, none⟩ = some (.int .i64 a) := (S14.at_ 5 rfl).cell 0; have v3_14 : w14.cell? ⟨w.heap.size, 1, none⟩ = some (.int .i64 b) := (S14.at_ 5 rfl).cell 1; have HF14 := Lib.hid (HF13.out.trans F); have HS14 := Lib.hid S14; clear S14)
              | ((with_reducible refine (rgaps_any p2 c2 L a b _ (row_reads (HS14.out.at_ 4 rfl)) (by have := HLk.out; omega)).mono ?_); rintro e15 w15 ⟨q9, d9, rfl, T⟩; have S15 := HS14.out.beside T; have v1_15 : w15.cell? ⟨w9.heap.size, 0, none⟩ = some (.slice qs (gapsR L (a, b)).length cs) := (S15.at_ 2 rfl).cell 0; have v2_15 : w15.cell? ⟨w.heap.size, 0, none⟩ = some (.int .i64 a) := (S15.at_ 6 rfl).cell 0; have v3_15 : w15.cell? ⟨w.heap.size, 1, none⟩ = some (.int .i64 b) := (S15.at_ 6 rfl).cell 1; have HF15 := Lib.hid (HF14.out.trans T.fr); have HS15 := Lib.hid S15; clear S15)
              | ((with_reducible refine (spSame_refl qs q9 cs d9 (gapsR L (a, b)) _ (row_reads (HS15.out.at_ 1 rfl)) (row_reads (HS15.out.at_ 0 rfl)) (by have := HGL.out; omega)).mono ?_); rintro e16 w16 ⟨rfl, F⟩; have S16 := HS15.out.same F; have v1_16 : w16.cell? ⟨w9.heap.size, 0, none⟩ = some (.slice qs (gapsR L (a, b)).length cs) := (S16.at_ 2 rfl).cell 0; have v2_16 : w16.cell? ⟨w.heap.size, 0, none⟩ = some (.int .i64 a) := (S16.at_ 6 rfl).cell 0; have v3_16 : w16.cell? ⟨w.heap.size, 1, none⟩ = some (.int .i64 b) := (S16.at_ 6 rfl).cell 1; have HF16 := Lib.hid (HF15.out.trans F); have HS16 := Lib.hid S16; clear S16)
              | ((with_reducible refine (known7_any _).mono ?_); rintro e17 w17 ⟨rfl, F⟩; have S17 := HS16.out.same F; have v1_17 : w17.cell? ⟨w9.heap.size, 0, none⟩ = some (.slice qs (gapsR L (a, b)).length cs) := (S17.at_ 2 rfl).cell 0; have v2_17 : w17.cell? ⟨w.heap.size, 0, none⟩ = some (.int .i64 a) := (S17.at_ 6 rfl).cell 0; have v3_17 : w17.cell? ⟨w.heap.size, 1, none⟩ = some (.int .i64 b) := (S17.at_ 6 rfl).cell 1; have HF17 := Lib.hid (HF16.out.trans F); have HS17 := Lib.hid S17; clear S17)
              | fail)
            all_goals
              have hK' : w17.heap[D']? = some (.deferred (some [])) := (HF17.out.block _ HKV.out.1 id).trans HKV.out.2
              go_wp2_with fail
              refine ⟨by simp, .inl ⟨_, _, rfl, run_takeDeferred hK', ?_⟩⟩
              refine ⟨_, results_tmp (t := 6) rfl _ _ _, rfl, ?_⟩
              exact (odd_done HS17.out hK' (by have := HZ.out; omega)).fr.none_below
          case stop2 =>
            rintro D' V pre s _ _ h
            exact h.elim
end Go.Proofs.Ytfobeheplficgaa
