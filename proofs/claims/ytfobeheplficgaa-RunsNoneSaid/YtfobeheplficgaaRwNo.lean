/- RunsNone: walked. -/
import Derived.Test.YtfobeheplficgaaRwY
import Derived.Test.YtfobeheplficgaaRwVa
set_option linter.unusedVariables false
set_option linter.unusedSimpArgs false
namespace Go.Proofs.Ytfobeheplficgaa
open Go.RowKit Go.Und Go.Shelf
open Go.ChangeShapes Go.WideShapes Go.ChangeAt
attribute [local go_sem] Oper.semAt_some
attribute [local go_sem ↓] Go.wp_at_zero Go.wp_at_succ

theorem gaps_none (a b : Int) : bytesL (gapsF (a, b) []) = lenS (a, b) ∧ ∀ g ∈ gapsF (a, b) [], g = (a, b) := by
  unfold gapsF
  by_cases h : lenS (a, b) = 0
  · rw [if_pos h, h]; exact ⟨rfl, fun g hg => by cases hg⟩
  · have hs := lenS_ne h
    rw [if_neg h]
    have e : gapsP (a, b).2 [] (a, b).1 = [(a, b)] := by unfold gapsP; rw [if_pos hs.2.1]
    rw [e]
    exact ⟨by simp [bytesL], fun g hg => List.mem_singleton.1 hg⟩
set_option maxRecDepth 100000 in
set_option maxHeartbeats 16000000 in
theorem runsNone_walk (w : World) (co : Array Value) (uo : U) (ho : shSp.holds w uo co.toList) (vk : Value) (uk : U) (hk : (Sh.int .i64).holds w uk [vk]) :
    Calls Try.prog 9 #[.agg co, vk] w fun e w' => e = .returned (.bool true) ∧ Below w.heap.size w w' := by
  obtain ⟨a, b, hco⟩ := span_of ho
  obtain rfl : co = #[.int .i64 a, .int .i64 b] := Array.toList_inj.1 hco
  obtain ⟨off, _, hk, _⟩ := hk
  simp only [List.cons.injEq, and_true] at hk
  subst hk
  have HS0 := Lib.hid ((Sep.law w).alloc #[.int .i64 a, .int .i64 b] SpT)
  have HF1 := Lib.hid (fun W => run_nil off W)
  have HF2 := Lib.hid (fun W => next_nil off W)
  clear ho hco
  refine (callsIn_wide (n := 5)).1 ?_
  refine callsIn_of_wp_marks Try.func9 rfl trivial ?_ rfl
  refine wpIn_wide.2 ?_
  simp only [Try.ntmps9, List.size_toArray, List.length_cons, List.length_nil, Nat.reduceAdd, Nat.reduceSub, Array.replicate_succ, Array.replicate_zero, List.push_toArray, List.append_toArray, List.nil_append, List.cons_append]
  go_wp2_with (first
    | ((with_reducible refine (known7_any (w.alloc _)).mono ?_); rintro e0 w0 ⟨rfl, F0⟩; have S1 := HS0.out.same F0; have s1 : w0.cell? ⟨w.heap.size, 0, none⟩ = some (.int .i64 a) := (S1.at_ 0 rfl).cell 0; have s2 : w0.cell? ⟨w.heap.size, 1, none⟩ = some (.int .i64 b) := (S1.at_ 0 rfl).cell 1; have HS1 := Lib.hid S1; clear F0 S1)
    | ((with_reducible refine (add_nil a b w0).mono ?_); rintro e1 w1 ⟨rfl, F⟩; have S2 := HS1.out.same F; have t1 : w1.cell? ⟨w.heap.size, 0, none⟩ = some (.int .i64 a) := (S2.at_ 0 rfl).cell 0; have t2 : w1.cell? ⟨w.heap.size, 1, none⟩ = some (.int .i64 b) := (S2.at_ 0 rfl).cell 1; have HS2 := Lib.hid S2; clear F S2)
    | ((with_reducible refine (rem_nil a b w1).mono ?_); rintro e2 w2 ⟨rfl, F⟩; have HS3 := Lib.hid (HS2.out.same F); clear F)
    | ((with_reducible refine (HF1.out w2).mono ?_); rintro e3 w3 ⟨rfl, F⟩; have HS4 := Lib.hid ((HS3.out.same F).skip (.cells #[.int .i64 0, .int .i64 0] SpT)); clear F)
    | ((with_reducible refine (HF2.out _).mono ?_); rintro e4 w4 ⟨rfl, F⟩; have S5 := HS4.out.same F; have HS5 := Lib.hid (S5.skip (.cells #[.int .i64 0, .int .i64 0] SpT)); have u1 : w4.cell? ⟨w.heap.size, 0, none⟩ = some (.int .i64 a) := (S5.at_ 0 rfl).cell 0; have u2 : w4.cell? ⟨w.heap.size, 1, none⟩ = some (.int .i64 b) := (S5.at_ 0 rfl).cell 1; have lt4 : w.heap.size < w4.heap.size := (S5.at_ 0 rfl).lt; have lt5 : w.heap.size < (w4.alloc (.cells #[.int .i64 0, .int .i64 0] SpT)).heap.size := (by simp; omega); clear F S5)
    | fail)
  have S5 := HS5.out
  have hsz5 : (w4.alloc (.cells #[.int .i64 0, .int .i64 0] SpT)).heap.size = w4.heap.size + 1 := by simp
  clear HS5 HS4 HS3 HS2 HS1 HS0 HF1 HF2 u1 u2 lt4 lt5
  generalize w4.alloc (.cells #[.int .i64 0, .int .i64 0] SpT) = w5 at S5 hsz5 ⊢
  generalize w4.heap.size + 1 = B5 at hsz5 ⊢
  subst hsz5
  have HA := Lib.hid (gapsG_any none a b (w5.alloc (.cells #[.int .i64 0] IntT)))
  have S6 := ((S5.alloc #[.int .i64 0] IntT).skip (.cells #[.pointer none] RpT)).skip (.cells #[.int .i64 a, .int .i64 b] SpT)
  have hb0 := Blk.new (w5.alloc (.cells #[.int .i64 0] IntT)) RpT #[.pointer none]
  have hb1 := hb0.alloc (.cells #[.int .i64 a, .int .i64 b] SpT)
  have hb2 := Blk.new ((w5.alloc (.cells #[.int .i64 0] IntT)).alloc (.cells #[.pointer none] RpT)) SpT #[.int .i64 a, .int .i64 b]
  have hsz : (((w5.alloc (.cells #[.int .i64 0] IntT)).alloc (.cells #[.pointer none] RpT)).alloc (.cells #[.int .i64 a, .int .i64 b] SpT)).heap.size = w5.heap.size + 3 := by simp
  have lts : w.heap.size < w5.heap.size := (S5.at_ 0 rfl).lt
  simp only [World.size_alloc] at HA hb1 hb2
  generalize eW : ((w5.alloc (.cells #[.int .i64 0] IntT)).alloc (.cells #[.pointer none] RpT)).alloc (.cells #[.int .i64 a, .int .i64 b] SpT) = W0 at S6 hb1 hb2 hsz
  have EW := Lib.hid eW; clear eW
  have HSq := Lib.hid (fun n => gaps1_y n (w5.heap.size + 1) (w5.heap.size + 1 + 1) none [] a b (fun k => k = w5.heap.size + 1 ∨ k = w5.heap.size + 1 + 1) W0 (mtk_nil (a, b) _ W0) hb1 hb2 (.inl rfl) (.inr rfl) (by rintro k (rfl | rfl) <;> omega))
  have HSh := Lib.hid (show ∀ k, (k = w5.heap.size + 1 ∨ k = w5.heap.size + 1 + 1) → k < W0.heap.size ∧ ¬ fpL [Ob.blk w5.heap.size IntT #[.int .i64 0]] k from fun k hk => ⟨by omega, fun ⟨o, ho, h⟩ => by rw [List.mem_singleton.1 ho] at h; have h' : k = w5.heap.size := h; omega⟩)
  have HSW := Lib.hid (show Sep None w W0 ([Ob.blk w5.heap.size IntT #[.int .i64 0]] ++ [Ob.blk w.heap.size SpT #[.int .i64 a, .int .i64 b]]) from S6)
  have HZ := Lib.hid (And.intro hsz lts)
  clear S5 S6 hb0 hb1 hb2 hsz lts
  go_wp2_with ((with_reducible refine (HA.out).mono ?_); rintro e10 w10 ⟨rfl, e1⟩; simp only [EW.out] at e1; simp only [e1]; clear e1 w10)
  clear HA
  refine (wpIn_wide (n := 5)).1 ?_
  refine wpIn_rangeR (gf := 58) (lb := #[.pointer (at0 (w5.heap.size + 1 + 1)), .pointer (at0 (w5.heap.size + 1))]) rfl (enters_of Try.func58 (by kernel_rfl) rfl) (HSq.out _) (Below.refl _ _) (fun _ => rfl)
    HSW.out HSh.out (fun pre s => s = pre) (fun s => [Ob.blk w5.heap.size IntT #[.int .i64 (sumI s)]]) (fun _ _ => False) [] rfl (by rw [sumI_nil]) ?fA SpT (fun x => #[.int .i64 x.1, .int .i64 x.2]) ?assign ?body ?done ?stop
  case assign =>
    intro l' x V K hK
    gi_wp2
    generalize V.heap.size = k at *
    exact hK
  case body =>
    rintro l' pre ⟨x1, x2⟩ k V ls hs hpre S hk
    subst hs
    have c1 : V.cell? ⟨w5.heap.size, 0, none⟩ = some (.int .i64 (sumI ls)) := (S.at_ 0 rfl).cell 0
    have x1c : V.cell? ⟨k, 0, none⟩ = some (.int .i64 x1) := (S.at_ 1 rfl).cell 0
    have x2c : V.cell? ⟨k, 1, none⟩ = some (.int .i64 x2) := (S.at_ 1 rfl).cell 1
    have HI := Lib.hid S
    have HN := Lib.hid (rlenS_any x1 x2 V.drew)
    have HSn := Lib.hid (sumI_snoc ls (x1, x2))
    clear S hpre
    generalize w5.heap.size = B at *
    gi_wp2_with fail
    refine wpIn_region_round (by kernel_rfl) (by kernel_rfl) ?_
    refine atOp_any (n := 0 + 1 + 1 + 1 + 1 + 1) (L := #[false, false, false, false, false]) (by simp) (by kernel_rfl) ?_
    refine wpAnyIn_ready (rs := [0, 1]) (by kernel_rfl) (by simp) ?_
    refine AllReadyIn.cons rfl (fun K hK => ?_) (AllReadyIn.cons rfl (fun K hK => ?_) AllReadyIn.nil)
    all_goals (go_simp; refine hK _ _ ?_; clear hK K)
    · skip
      refine atOp_back (s := 1) (by simp) (by kernel_rfl) ?_
      go_simp
      refine segF_still 2 (by kernel_rfl) ?_
      simp only [List.drop_succ_cons, List.drop_zero, List.take_succ_cons, List.take_zero]
      repeat (go_big_quiet_step (fail))
      refine wpQuiet_nil ?_
      refine seg_one (by kernel_rfl) fun K hK => ?_
      simp only [List.drop_succ_cons, List.drop_zero, List.take_succ_cons, List.take_zero]
      gi_wp2_with fail
      first | refine ⟨trivial, (callsIn_wide.2 (HN.out)).mono ?_⟩ | refine ⟨trivial, fun h => (by cases h), (callsIn_wide.2 (HN.out)).mono ?_⟩
      rintro e w2 ⟨rfl, f2⟩
      have S2 := HI.out.drew.same f2
      have T2 := (show Sep (fpL ([Ob.blk B IntT #[.int .i64 (sumI ls)]] ++ [Ob.blk k SpT #[.int .i64 x1, .int .i64 x2]])) V w2 [Ob.blk B IntT #[.int .i64 (sumI ls)], Ob.blk k SpT #[.int .i64 x1, .int .i64 x2]] from HI.out.head.drew.same f2)
      have c2 : w2.cell? ⟨B, 0, none⟩ = some (.int .i64 (sumI ls)) := (S2.at_ 0 rfl).cell 0
      have z2 : w2.frozen? ⟨B, 0, none⟩ = false := (S2.at_ 0 rfl).frozen 0
      have HX := Lib.hid (show Sep (fpL ([Ob.blk B IntT #[.int .i64 (sumI ls)]] ++ [Ob.blk k SpT #[.int .i64 x1, .int .i64 x2]])) V (w2.setCell ⟨B, 0, none⟩ (.int .i64 (sumI (ls ++ [(x1, x2)])))) [Ob.blk B IntT #[.int .i64 (sumI (ls ++ [(x1, x2)]))]] from (T2.set 0 rfl 0 (.int .i64 (sumI (ls ++ [(x1, x2)])))).drop (.cons_cons _ (.cons _ .slnil)))
      rw [HSn.out] at HX
      clear S2 T2 f2
      dsimp only
      gi_wp2_with fail
      refine seg_still 4 (by kernel_rfl) ?_
      simp only [List.drop_succ_cons, List.drop_zero, List.take_succ_cons, List.take_zero]
      repeat (go_big_quiet_step (fail))
      refine wpQuiet_nil ?_
      refine seg_one (by kernel_rfl) fun K hK => ?_
      simp only [List.drop_succ_cons, List.drop_zero, List.take_succ_cons, List.take_zero]
      gi_wp2_with fail
      refine seg_done (by rfl) (by kernel_rfl) ?_
      gi_wp2_with fail
      rw [HSn.out]; exact HX.out
    · skip
      refine wpAnyIn_ready (rs := [0, 2]) (by kernel_rfl) (by simp) ?_
      refine AllReadyIn.cons rfl (fun K hK => ?_) (AllReadyIn.cons rfl (fun K hK => ?_) AllReadyIn.nil)
      · go_simp
        refine hK _ _ ?_
        clear hK K
        refine atOp_back (s := 2) (by simp) (by kernel_rfl) ?_
        go_simp
        refine seg_one (by kernel_rfl) fun K hK => ?_
        simp only [List.drop_succ_cons, List.drop_zero, List.take_succ_cons, List.take_zero]
        gi_wp2_with fail
        first | refine ⟨trivial, (callsIn_wide.2 (HN.out)).mono ?_⟩ | refine ⟨trivial, fun h => (by cases h), (callsIn_wide.2 (HN.out)).mono ?_⟩
        rintro e w2 ⟨rfl, f2⟩
        have S2 := HI.out.drew.same f2
        have T2 := (show Sep (fpL ([Ob.blk B IntT #[.int .i64 (sumI ls)]] ++ [Ob.blk k SpT #[.int .i64 x1, .int .i64 x2]])) V w2 [Ob.blk B IntT #[.int .i64 (sumI ls)], Ob.blk k SpT #[.int .i64 x1, .int .i64 x2]] from HI.out.head.drew.same f2)
        have c2 : w2.cell? ⟨B, 0, none⟩ = some (.int .i64 (sumI ls)) := (S2.at_ 0 rfl).cell 0
        have z2 : w2.frozen? ⟨B, 0, none⟩ = false := (S2.at_ 0 rfl).frozen 0
        have HX := Lib.hid (show Sep (fpL ([Ob.blk B IntT #[.int .i64 (sumI ls)]] ++ [Ob.blk k SpT #[.int .i64 x1, .int .i64 x2]])) V (w2.setCell ⟨B, 0, none⟩ (.int .i64 (sumI (ls ++ [(x1, x2)])))) [Ob.blk B IntT #[.int .i64 (sumI (ls ++ [(x1, x2)]))]] from (T2.set 0 rfl 0 (.int .i64 (sumI (ls ++ [(x1, x2)])))).drop (.cons_cons _ (.cons _ .slnil)))
        rw [HSn.out] at HX
        clear S2 T2 f2
        dsimp only
        gi_wp2_with fail
        refine seg_still 4 (by kernel_rfl) ?_
        simp only [List.drop_succ_cons, List.drop_zero, List.take_succ_cons, List.take_zero]
        repeat (go_big_quiet_step (fail))
        refine wpQuiet_nil ?_
        refine seg_one (by kernel_rfl) fun K hK => ?_
        simp only [List.drop_succ_cons, List.drop_zero, List.take_succ_cons, List.take_zero]
        gi_wp2_with fail
        refine seg_done (by rfl) (by kernel_rfl) ?_
        gi_wp2_with fail
        rw [HSn.out]; exact HX.out
      · go_simp
        refine ⟨trivial, (callsIn_wide.2 HN.out).mono ?_⟩
        rintro e w2 ⟨rfl, f2⟩
        have S2 := HI.out.drew.same f2
        have T2 := (show Sep (fpL ([Ob.blk B IntT #[.int .i64 (sumI ls)]] ++ [Ob.blk k SpT #[.int .i64 x1, .int .i64 x2]])) V w2 [Ob.blk B IntT #[.int .i64 (sumI ls)], Ob.blk k SpT #[.int .i64 x1, .int .i64 x2]] from HI.out.head.drew.same f2)
        have c2 : w2.cell? ⟨B, 0, none⟩ = some (.int .i64 (sumI ls)) := (S2.at_ 0 rfl).cell 0
        have z2 : w2.frozen? ⟨B, 0, none⟩ = false := (S2.at_ 0 rfl).frozen 0
        have HX := Lib.hid (show Sep (fpL ([Ob.blk B IntT #[.int .i64 (sumI ls)]] ++ [Ob.blk k SpT #[.int .i64 x1, .int .i64 x2]])) V (w2.setCell ⟨B, 0, none⟩ (.int .i64 (sumI (ls ++ [(x1, x2)])))) [Ob.blk B IntT #[.int .i64 (sumI (ls ++ [(x1, x2)]))]] from (T2.set 0 rfl 0 (.int .i64 (sumI (ls ++ [(x1, x2)])))).drop (.cons_cons _ (.cons _ .slnil)))
        rw [HSn.out] at HX
        clear S2 T2 f2
        dsimp only
        gi_wp2_with fail
        refine wpAnyIn_ready (rs := [0]) (by kernel_rfl) (by simp) ?_
        refine AllReadyIn.cons rfl (fun K hK => ?_) AllReadyIn.nil
        go_simp
        refine hK _ _ ?_
        clear hK K
        refine atOp_back (s := 3) (by simp) (by kernel_rfl) ?_
        go_simp
        refine seg_still 4 (by kernel_rfl) ?_
        simp only [List.drop_succ_cons, List.drop_zero, List.take_succ_cons, List.take_zero]
        repeat (go_big_quiet_step (fail))
        refine wpQuiet_nil ?_
        refine seg_one (by kernel_rfl) fun K hK => ?_
        simp only [List.drop_succ_cons, List.drop_zero, List.take_succ_cons, List.take_zero]
        gi_wp2_with fail
        refine seg_done (by rfl) (by kernel_rfl) ?_
        gi_wp2_with fail
        rw [HSn.out]; exact HX.out
  case done =>
    rintro D' V ls hD rfl S fV hK
    have e0 : sumI (gapsF (a, b) []) = lenS (a, b) := by rw [sumI_is (by rw [(gaps_none a b).1]; exact lenS_bounds _)]; exact (gaps_none a b).1
    rw [e0] at S
    have v1 : V.cell? ⟨w5.heap.size, 0, none⟩ = some (.int .i64 (lenS (a, b))) := (S.at_ 0 rfl).cell 0
    have v2 : V.cell? ⟨w.heap.size, 0, none⟩ = some (.int .i64 a) := (S.at_ 1 rfl).cell 0
    have v3 : V.cell? ⟨w.heap.size, 1, none⟩ = some (.int .i64 b) := (S.at_ 1 rfl).cell 1
    have HSV := Lib.hid (show Sep None w V.drew [Ob.blk w5.heap.size IntT #[.int .i64 (lenS (a, b))], Ob.blk w.heap.size SpT #[.int .i64 a, .int .i64 b]] from S.drew)
    have HFV := Lib.hid ((Fr.refl None V).drew)
    have HKV := Lib.hid (And.intro (heap_lt hK) hK)
    have hw : (lenS (a, b) == lenS (a, b)) = true := by simp
    have hg : (gapL [] off == gapL [] off) = true := by simp
    have HHas := Lib.hid (fun W => has_nil off W)
    have HGr := Lib.hid (fun W => (show Calls Try.prog 36 #[.slice none 0 0, .int .i64 off] W fun e w' => e = .returned (.int .i64 (gapL [] off)) ∧ Fr None W w' from rgap_any none 0 [] off W ⟨rfl, Nat.le_refl _, fun _ => ⟨rfl, rfl⟩, fun _ h => (by cases h), fun ad h => (by cases h)⟩ (by simp)))
    have HSm := Lib.hid (fun (p : Nat) (W : World) (h2 : (Ob.blk p RnT #[.slice none ([] : List (Int × Int)).length 0]).ok W) (h3 : (srow none 0 []).ok W) => same_refl none (at0 p) [] (fun _ => False) (ShR p none []) W (allk_nil _ W) (allk_set p none 0 [] W (by simp) _ (fun _ h => h) (Blk.cell h2 0) (row_reads h3)) (fun _ h => h.elim) (shR_lt (Blk.cell h2 0) (row_reads h3)) (by simp))
    clear S fV e0
    go_wp2_with fail
    simp only [List.append_eq, List.cons_append, List.nil_append]
    go_region_held3 (fun w' => w'.cell? ⟨w5.heap.size, 0, none⟩ = some (.int .i64 (lenS (a, b))) ∧ w'.cell? ⟨w.heap.size, 0, none⟩ = some (.int .i64 a) ∧ w'.cell? ⟨w.heap.size, 1, none⟩ = some (.int .i64 b)) (first | (with_reducible assumption) | (go_keep; done)) (first
      | ((with_reducible refine (HHas.out _).mono ?_); rintro e10 w10 ⟨rfl, F⟩; have S10 := HSV.out.same F; have v1_10 : w10.cell? ⟨w5.heap.size, 0, none⟩ = some (.int .i64 (lenS (a, b))) := (S10.at_ 0 rfl).cell 0; have v2_10 : w10.cell? ⟨w.heap.size, 0, none⟩ = some (.int .i64 a) := (S10.at_ 1 rfl).cell 0; have v3_10 : w10.cell? ⟨w.heap.size, 1, none⟩ = some (.int .i64 b) := (S10.at_ 1 rfl).cell 1; have HF10 := Lib.hid (HFV.out.trans F); have HS10 := Lib.hid S10; clear S10)
      | ((with_reducible refine (rlen_nil w10).mono ?_); rintro e11 w11 ⟨rfl, rfl⟩; have HS11 := HS10; have HF11 := HF10)
      | ((with_reducible refine (bytes_nil _).mono ?_); rintro e12 w12 ⟨rfl, F⟩; have S12 := HS11.out.same F; have v1_12 : w12.cell? ⟨w5.heap.size, 0, none⟩ = some (.int .i64 (lenS (a, b))) := (S12.at_ 0 rfl).cell 0; have v2_12 : w12.cell? ⟨w.heap.size, 0, none⟩ = some (.int .i64 a) := (S12.at_ 1 rfl).cell 0; have v3_12 : w12.cell? ⟨w.heap.size, 1, none⟩ = some (.int .i64 b) := (S12.at_ 1 rfl).cell 1; have HF12 := Lib.hid (HF11.out.trans F); have HS12 := Lib.hid S12; clear S12)
      | ((with_reducible refine (within_nil a b _).mono ?_); rintro e13 w13 ⟨rfl, F⟩; have S13 := HS12.out.same F; have v1_13 : w13.cell? ⟨w5.heap.size, 0, none⟩ = some (.int .i64 (lenS (a, b))) := (S13.at_ 0 rfl).cell 0; have v2_13 : w13.cell? ⟨w.heap.size, 0, none⟩ = some (.int .i64 a) := (S13.at_ 1 rfl).cell 0; have v3_13 : w13.cell? ⟨w.heap.size, 1, none⟩ = some (.int .i64 b) := (S13.at_ 1 rfl).cell 1; have HF13 := Lib.hid (HF12.out.trans F); have HS13 := Lib.hid S13; clear S13)
      | ((with_reducible refine (gap_nil off _).mono ?_); rintro e14 w14 ⟨rfl, F⟩; have S14 := HS13.out.same F; have v1_14 : w14.cell? ⟨w5.heap.size, 0, none⟩ = some (.int .i64 (lenS (a, b))) := (S14.at_ 0 rfl).cell 0; have v2_14 : w14.cell? ⟨w.heap.size, 0, none⟩ = some (.int .i64 a) := (S14.at_ 1 rfl).cell 0; have v3_14 : w14.cell? ⟨w.heap.size, 1, none⟩ = some (.int .i64 b) := (S14.at_ 1 rfl).cell 1; have HF14 := Lib.hid (HF13.out.trans F); have HS14 := Lib.hid S14; clear S14)
      | ((with_reducible refine (HGr.out _).mono ?_); rintro e15 w15 ⟨rfl, F⟩; have S15 := HS14.out.same F; have v1_15 : w15.cell? ⟨w5.heap.size, 0, none⟩ = some (.int .i64 (lenS (a, b))) := (S15.at_ 0 rfl).cell 0; have v2_15 : w15.cell? ⟨w.heap.size, 0, none⟩ = some (.int .i64 a) := (S15.at_ 1 rfl).cell 0; have v3_15 : w15.cell? ⟨w.heap.size, 1, none⟩ = some (.int .i64 b) := (S15.at_ 1 rfl).cell 1; have HF15 := Lib.hid (HF14.out.trans F); have HS15 := Lib.hid S15; clear S15)
      | ((with_reducible refine (rlenS_any a b _).mono ?_); rintro e16 w16 ⟨rfl, F⟩; have S16 := HS15.out.same F; have v1_16 : w16.cell? ⟨w5.heap.size, 0, none⟩ = some (.int .i64 (lenS (a, b))) := (S16.at_ 0 rfl).cell 0; have v2_16 : w16.cell? ⟨w.heap.size, 0, none⟩ = some (.int .i64 a) := (S16.at_ 1 rfl).cell 0; have v3_16 : w16.cell? ⟨w.heap.size, 1, none⟩ = some (.int .i64 b) := (S16.at_ 1 rfl).cell 1; have HF16 := Lib.hid (HF15.out.trans F); have HS16 := Lib.hid S16; clear S16)
      | ((with_reducible refine (clone_nil w16).mono ?_); rintro e17 w17 ⟨rfl, rfl⟩; have HS17 := HS16; have HF17 := HF16)
      | ((with_reducible refine (new_any w17).mono ?_); rintro e18 w18 ⟨rfl, T⟩; have S18 := (HS17.out.drop (.refl _)).beside T |>.drop (.refl _); have v1_18 : w18.cell? ⟨w5.heap.size, 0, none⟩ = some (.int .i64 (lenS (a, b))) := (S18.at_ 2 rfl).cell 0; have v2_18 : w18.cell? ⟨w.heap.size, 0, none⟩ = some (.int .i64 a) := (S18.at_ 3 rfl).cell 0; have v3_18 : w18.cell? ⟨w.heap.size, 1, none⟩ = some (.int .i64 b) := (S18.at_ 3 rfl).cell 1; have HF18 := Lib.hid (HF17.out.trans T.fr); have HS18 := Lib.hid S18; clear S18)
      | ((with_reducible refine (HSm.out _ _ (HS18.out.at_ 0 rfl) (HS18.out.at_ 1 rfl)).mono ?_); rintro e19 w19 ⟨rfl, F⟩; have S19 := HS18.out.same F; have v1_19 : w19.cell? ⟨w5.heap.size, 0, none⟩ = some (.int .i64 (lenS (a, b))) := (S19.at_ 2 rfl).cell 0; have v2_19 : w19.cell? ⟨w.heap.size, 0, none⟩ = some (.int .i64 a) := (S19.at_ 3 rfl).cell 0; have v3_19 : w19.cell? ⟨w.heap.size, 1, none⟩ = some (.int .i64 b) := (S19.at_ 3 rfl).cell 1; have HF19 := Lib.hid (HF18.out.trans F); have HS19 := Lib.hid S19; clear S19)
      | ((with_reducible refine (known7_any _).mono ?_); rintro e20 w20 ⟨rfl, F⟩; have S20 := HS19.out.same F; have v1_20 : w20.cell? ⟨w5.heap.size, 0, none⟩ = some (.int .i64 (lenS (a, b))) := (S20.at_ 2 rfl).cell 0; have v2_20 : w20.cell? ⟨w.heap.size, 0, none⟩ = some (.int .i64 a) := (S20.at_ 3 rfl).cell 0; have v3_20 : w20.cell? ⟨w.heap.size, 1, none⟩ = some (.int .i64 b) := (S20.at_ 3 rfl).cell 1; have HF20 := Lib.hid (HF19.out.trans F); have HS20 := Lib.hid S20; clear S20)
      | fail)
    all_goals
      have hK' : w20.heap[D']? = some (.deferred (some [])) := (HF20.out.block _ HKV.out.1 id).trans HKV.out.2
      go_wp2_with fail
      refine ⟨by simp, .inl ⟨_, _, rfl, run_takeDeferred hK', ?_⟩⟩
      refine ⟨_, results_tmp (t := 4) rfl _ _ _, rfl, ?_⟩
      exact (odd_done HS20.out hK' (by have := HZ.out; omega)).fr.none_below
  case stop =>
    rintro D' V pre s _ _ h
    exact h.elim
end Go.Proofs.Ytfobeheplficgaa
