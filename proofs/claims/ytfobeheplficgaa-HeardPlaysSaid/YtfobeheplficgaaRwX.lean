/- Sets that are none; Collect, Equal, Same: walked. -/
import Derived.Test.YtfobeheplficgaaRwU
import Derived.Test.YtfobeheplficgaaRangeR
set_option linter.unusedVariables false
set_option linter.unusedSimpArgs false
namespace Go.Proofs.Ytfobeheplficgaa
open Go.RowKit Go.Und Go.Shelf
attribute [local go_sem] Oper.semAt_some
attribute [local go_sem ↓] Go.wp_at_zero Go.wp_at_succ

theorem first_nil (g : Fn) (xs ys : Array Value) (w : World) : Calls Try.prog 52 #[.pointer none, .func g xs ys] w fun e w' => e = .returned (.int .i64 0) ∧ Fr None w w' := by
  have F := Lib.hid (((Fr.refl None w).alloc (.cells #[.pointer none] RpT)).alloc (.cells #[.func g xs ys] PfT))
  go_enter Try.func52, Try.ntmps52
  go_wp2_with fail
  go_ret
  exact ⟨rfl, F.out⟩
theorem add_nil (a b : Int) (w : World) : Calls Try.prog 15 #[.pointer none, .agg #[.int .i64 a, .int .i64 b]] w fun e w' => e = .returned (.tuple #[.int .i64 0, .int .i64 1]) ∧ Fr None w w' := by
  have HS0 := Lib.hid ((Sep.law w).alloc #[.int .i64 a, .int .i64 b] SpT)
  have HK := Lib.hid (ask_nil a b (w.alloc (.cells #[.int .i64 a, .int .i64 b] SpT)))
  go_enter Try.func15, Try.ntmps15
  go_wp2_with ((refine (HK.out).mono ?_); rintro e1 w1 ⟨rfl, F1⟩; have HS1 := Lib.hid (HS0.out.same F1); clear F1)
  go_ret2
  exact ⟨rfl, HS1.out.fr⟩
theorem rem_nil (a b : Int) (w : World) : Calls Try.prog 24 #[.pointer none, .agg #[.int .i64 a, .int .i64 b]] w fun e w' => e = .returned (.tuple #[.int .i64 0, .int .i64 1]) ∧ Fr None w w' := by
  have HS0 := Lib.hid ((Sep.law w).alloc #[.int .i64 a, .int .i64 b] SpT)
  have HK := Lib.hid (ask_nil a b (w.alloc (.cells #[.int .i64 a, .int .i64 b] SpT)))
  go_enter Try.func24, Try.ntmps24
  go_wp2_with ((refine (HK.out).mono ?_); rintro e1 w1 ⟨rfl, F1⟩; have HS1 := Lib.hid (HS0.out.same F1); clear F1)
  go_ret2
  exact ⟨rfl, HS1.out.fr⟩
theorem run_nil (off : Int) (w : World) : Calls Try.prog 30 #[.pointer none, .int .i64 off] w fun e w' => e = .returned (.tuple #[spV (0, 0), .bool false]) ∧ Fr None w w' := by
  have S0 := ((Sep.law w).alloc #[.int .i64 off] IntT).alloc #[.int .i64 0, .int .i64 0] SpT
  rw [World.size_alloc] at S0
  have HS0 := Lib.hid S0
  have HF := Lib.hid (fun g xs ys W => first_nil g xs ys W)
  clear S0
  go_enter Try.func30, Try.ntmps30
  go_wp2_with ((with_reducible refine (HF.out _ _ _ _).mono ?_); rintro e1 w1 ⟨rfl, F1⟩; have S1 := HS0.out.same F1; clear F1; have d2 : w1.cell? ⟨w.heap.size + 1, 0, none⟩ = some (.int .i64 0) := (S1.at_ 0 rfl).cell 0; have d3 : w1.cell? ⟨w.heap.size + 1, 1, none⟩ = some (.int .i64 0) := (S1.at_ 0 rfl).cell 1; have d4 : w1.frozen? ⟨w.heap.size + 1, 0, none⟩ = false := (S1.at_ 0 rfl).frozen 0; have d5 : w1.frozen? ⟨w.heap.size + 1, 1, none⟩ = false := (S1.at_ 0 rfl).frozen 1; have HS1 := Lib.hid S1; clear S1)
  go_quiet (fail)
  go_wp2_with fail
  exact bodyPost_ret (v := .tuple #[spV (0, 0), .bool false]) (by simp [results, Try.results30, go_sem, d2, d3]) rfl ⟨rfl, (((HS1.out.drewN _).set 0 rfl 0 (.int .i64 0)).set 0 rfl 1 (.int .i64 0)).fr⟩
theorem next_nil (off : Int) (w : World) : Calls Try.prog 31 #[.pointer none, .int .i64 off] w fun e w' => e = .returned (.tuple #[spV (0, 0), .bool false]) ∧ Fr None w w' := by
  have S0 := ((Sep.law w).alloc #[.int .i64 off] IntT).alloc #[.int .i64 0, .int .i64 0] SpT
  rw [World.size_alloc] at S0
  have HS0 := Lib.hid S0
  have HF := Lib.hid (fun g xs ys W => first_nil g xs ys W)
  clear S0
  go_enter Try.func31, Try.ntmps31
  go_wp2_with ((with_reducible refine (HF.out _ _ _ _).mono ?_); rintro e1 w1 ⟨rfl, F1⟩; have S1 := HS0.out.same F1; clear F1; have d2 : w1.cell? ⟨w.heap.size + 1, 0, none⟩ = some (.int .i64 0) := (S1.at_ 0 rfl).cell 0; have d3 : w1.cell? ⟨w.heap.size + 1, 1, none⟩ = some (.int .i64 0) := (S1.at_ 0 rfl).cell 1; have d4 : w1.frozen? ⟨w.heap.size + 1, 0, none⟩ = false := (S1.at_ 0 rfl).frozen 0; have d5 : w1.frozen? ⟨w.heap.size + 1, 1, none⟩ = false := (S1.at_ 0 rfl).frozen 1; have HS1 := Lib.hid S1; clear S1)
  exact bodyPost_ret (v := .tuple #[spV (0, 0), .bool false]) (by simp [results, Try.results31, go_sem, d2, d3]) rfl ⟨rfl, ((HS1.out.set 0 rfl 0 (.int .i64 0)).set 0 rfl 1 (.int .i64 0)).fr⟩
theorem has_nil (off : Int) (w : World) : Calls Try.prog 23 #[.pointer none, .int .i64 off] w fun e w' => e = .returned (.bool false) ∧ Fr None w w' := by
  have HR := Lib.hid (run_nil off w)
  go_enter Try.func23, Try.ntmps23
  go_wp2_with ((with_reducible refine (HR.out).mono ?_); rintro e1 w1 ⟨rfl, F1⟩; have HF1 := Lib.hid F1; clear F1)
  go_ret
  exact ⟨rfl, HF1.out.alloc _⟩
theorem rlen_nil (w : World) : Calls Try.prog 22 #[.pointer none] w fun e w' => e = .returned (.int .i64 0) ∧ w' = w := by
  go_enter Try.func22, Try.ntmps22
  go_wp2_with fail
  go_ret
  exact ⟨rfl, rfl⟩
theorem clone_nil (w : World) : Calls Try.prog 39 #[.pointer none] w fun e w' => e = .returned (.pointer none) ∧ w' = w := by
  go_enter Try.func39, Try.ntmps39
  go_wp2_with fail
  go_ret
  exact ⟨rfl, rfl⟩
theorem gap_nil (k : Int) (w : World) : Calls Try.prog 35 #[.pointer none, .int .i64 k] w fun e w' => e = .returned (.int .i64 (gapL [] k)) ∧ Fr None w w' := by
  have HR := Lib.hid (fun a W => run_nil a W)
  rw [show gapL [] k = min (max k 0) 4611686018427387904 from rfl]
  rcases Int.lt_or_le k 0 with g | g
  · have g1 : (k < 0) = True := eq_true g
    rw [show min (max k 0) 4611686018427387904 = 0 by omega]
    clear g
    go_enter Try.func35, Try.ntmps35
    go_wp2_with ((with_reducible refine (HR.out _ _).mono ?_); rintro e1 w1 ⟨rfl, F1⟩; have HF1 := Lib.hid (F1.alloc (.cells #[.int .i64 0, .int .i64 0] SpT)); clear F1)
    go_ret
    exact ⟨rfl, HF1.out⟩
  · have g1 : (k < 0) = False := eq_false (by omega)
    rcases Int.lt_or_le 4611686018427387904 k with h | h
    · have g2 : ((4611686018427387904 : Int) < k) = True := eq_true h
      rw [show min (max k 0) 4611686018427387904 = 4611686018427387904 by omega]
      clear g h
      go_enter Try.func35, Try.ntmps35
      go_wp2_with ((with_reducible refine (HR.out _ _).mono ?_); rintro e1 w1 ⟨rfl, F1⟩; have HF1 := Lib.hid (F1.alloc (.cells #[.int .i64 0, .int .i64 0] SpT)); clear F1)
      go_ret
      exact ⟨rfl, HF1.out⟩
    · have g2 : ((4611686018427387904 : Int) < k) = False := eq_false (by omega)
      rw [show min (max k 0) 4611686018427387904 = k by omega]
      clear g h
      go_enter Try.func35, Try.ntmps35
      go_wp2_with ((with_reducible refine (HR.out _ _).mono ?_); rintro e1 w1 ⟨rfl, F1⟩; have HF1 := Lib.hid (F1.alloc (.cells #[.int .i64 0, .int .i64 0] SpT)); clear F1)
      go_ret
      exact ⟨rfl, HF1.out⟩

theorem allP_any (rp : Option Addr) (W : World) : Calls Try.prog 19 #[.pointer rp] W fun e W' =>
    e = .returned (.func (.func 61) #[] #[.pointer (at0 W.heap.size)]) ∧ W' = W.alloc (.cells #[.pointer rp] RpT) := by
  go_enter Try.func19, Try.ntmps19
  go_wp2_with fail
  go_ret
  exact ⟨rfl, rfl⟩
/-- The runs behind a pointer, as an iterator. -/
def AllK (pv : Option Addr) (m : List (Int × Int)) (Sh : Nat → Prop) (w : World) : Prop :=
  ∀ (n bb : Nat) (V : World), FrC (fun k _ => ¬ Sh k) w V → Blk V bb RpT #[.pointer pv] → ∀ Sh' : Nat → Prop, (∀ k, Sh k → Sh' k) → Sh' bb → SeqY n Try.prog 61 #[.pointer (at0 bb)] encS Sh' m V
theorem allk_set (rp : Nat) (q : Option Addr) (cap : Nat) (l : List (Int × Int)) (w : World) (hl : l.length ≤ 1000000) (Sh : Nat → Prop) (h2 : ∀ k, ShR rp q l k → Sh k)
    (c3 : w.cell? ⟨rp, 0, none⟩ = some (.slice q l.length cap)) (hr : Reads w 2 q l.length cap (fc spc l)) : AllK (at0 rp) l Sh w := by
  intro n bb V f hb Sh' hS h1
  exact all_y n bb rp q cap l V hl Sh' ⟨hb.cell 0, cell_frC f (fun t hn => hn (h2 _ (.inl rfl))) c3, reads_frC f (fun e ad had t hn => hn (h2 _ (.inr ⟨fc_ne e, ad, had, rfl⟩))) hr⟩ h1 fun k hk => hS k (h2 k hk)
theorem allk_nil (Sh : Nat → Prop) (w : World) : AllK none [] Sh w := by
  intro n bb V f hb Sh' hS h1 l J Jx W hW hJ hJx hY h0
  have c0 : W.cell? ⟨bb, 0, none⟩ = some (.pointer none) := (hb.fr (Fr.of_below (D := None) hW) id).cell 0
  have H0 := Lib.hid h0
  clear hY h0 hJ hJx hb f
  refine callsIn_of_wp Try.func61 rfl trivial ?_ rfl
  simp only [Try.ntmps61, List.size_toArray, List.length_cons, List.length_nil, Nat.reduceAdd, Nat.reduceSub, Array.replicate_succ, Array.replicate_zero, List.push_toArray, List.append_toArray, List.nil_append, List.cons_append]
  gi_wp2_with fail
  refine bodyPost_ret (results_none rfl _ _ _) rfl ?_
  exact ⟨⟨_, rfl⟩, .inl ⟨_, H0.out⟩⟩
theorem mtk_nil (s : Int × Int) (Sh : Nat → Prop) (w : World) : MtK none [] s Sh w := by
  intro n bb sb V f hb hs Sh' hS h1 h3 l J Jx W hW hJ hJx hY h0
  have c0 : W.cell? ⟨bb, 0, none⟩ = some (.pointer none) := (hb.fr (Fr.of_below (D := None) hW) id).cell 0
  have H0 := Lib.hid h0
  have HJ := Lib.hid hJ
  have HF := Lib.hid (fun g xs ys W => first_nil g xs ys W)
  clear hY h0 hJ hJx f
  refine callsIn_of_wp Try.func90 rfl trivial ?_ rfl
  simp only [Try.ntmps90, List.size_toArray, List.length_cons, List.length_nil, Nat.reduceAdd, Nat.reduceSub, Array.replicate_succ, Array.replicate_zero, List.push_toArray, List.append_toArray, List.nil_append, List.cons_append]
  gi_wp2_with fail
  first | refine ⟨trivial, (callsIn_wide.2 (HF.out _ _ _ _)).mono ?_⟩ | refine ⟨trivial, fun h => (by cases h), (callsIn_wide.2 (HF.out _ _ _ _)).mono ?_⟩
  rintro e w1 ⟨rfl, f1⟩
  have c1 : w1.cell? ⟨bb, 0, none⟩ = some (.pointer none) := cell_frN f1 c0
  have H1 := Lib.hid (HJ.out _ (fun _ => False) None _ _ _ H0.out f1 (fun _ h => h.elim) (fun _ h => h.elim))
  clear f1 H0 c0
  gi_wp2_with fail
  gi_loopg [4] 1 (fun r x wr => x = .int .i64 0 ∧ wr = w1)
  case atStart => exact ⟨rfl, rfl⟩
  case round =>
    obtain ⟨rfl, rfl⟩ := hrel
    gi_wp2_with fail
    refine wpIn_region_segs (by kernel_rfl) ?_
    refine seg_still 24 (by kernel_rfl) ?_
    simp only [List.drop_zero, List.take_succ_cons, List.take_zero, Nat.reduceSub]
    repeat (go_big_quiet_step (fail))
    refine wpQuiet_nil ?_
    refine seg_done (by rfl) (by kernel_rfl) ?_
    gi_wp2_with fail
    go_end0
    exact ⟨⟨_, rfl⟩, .inl ⟨_, HJ.out _ (fun _ => False) None _ _ _ H1.out (Fr.refl None _).drew (fun _ h => h.elim) (fun _ h => h.elim)⟩⟩
set_option maxRecDepth 100000 in
set_option maxHeartbeats 4000000 in
theorem bytes_nil (w : World) : Calls Try.prog 21 #[.pointer none] w fun e w' => e = .returned (.int .i64 0) ∧ Fr None w w' := by
  have HA := Lib.hid (allP_any none (w.alloc (.cells #[.int .i64 0] IntT)))
  rw [World.size_alloc] at HA
  have S0 := ((Sep.law w).alloc #[.int .i64 0] IntT).skip (.cells #[.pointer none] RpT)
  have hsz : ((w.alloc (.cells #[.int .i64 0] IntT)).alloc (.cells #[.pointer none] RpT)).heap.size = w.heap.size + 2 := by simp
  have hbx := Blk.new (w.alloc (.cells #[.int .i64 0] IntT)) RpT #[.pointer none]
  rw [World.size_alloc] at hbx
  generalize eW : (w.alloc (.cells #[.int .i64 0] IntT)).alloc (.cells #[.pointer none] RpT) = W0 at S0 hsz hbx
  have EW := Lib.hid eW; clear eW
  have HS := Lib.hid (fun n => allk_nil (fun _ => False) W0 n (w.heap.size + 1) W0 (FrC.refl _ _) hbx (fun k => k = w.heap.size + 1) (fun _ h => h.elim) rfl)
  have HSh := Lib.hid (show ∀ k, k = w.heap.size + 1 → k < W0.heap.size ∧ ¬ fpL [Ob.blk w.heap.size IntT #[.int .i64 0]] k from fun k hk => ⟨by omega, fun ⟨o, ho, h⟩ => by rw [List.mem_singleton.1 ho] at h; have h' : k = w.heap.size := h; omega⟩)
  have HS0 := Lib.hid S0
  have HZ := Lib.hid hsz
  clear S0 hsz hbx
  refine (callsIn_wide (n := 5)).1 ?_
  refine callsIn_of_wp_marks Try.func21 rfl trivial ?_ rfl
  simp only [Try.ntmps21, List.size_toArray, List.length_cons, List.length_nil, Nat.reduceAdd, Nat.reduceSub, Array.replicate_succ, Array.replicate_zero, List.push_toArray, List.append_toArray, List.nil_append, List.cons_append]
  gi_wp2_with fail
  refine ⟨trivial, (callsIn_wide.2 HA.out).mono ?_⟩
  rintro e w1 ⟨rfl, e1⟩
  simp only [EW.out] at e1
  simp only [e1]
  clear e1 w1
  gi_wp2_with fail
  refine wpIn_rangeL (gf := 61) (lb := #[.pointer (at0 (w.heap.size + 1))]) rfl (enters_of Try.func61 (by kernel_rfl) rfl) (HS.out _) (Below.refl _ _) (fun _ => rfl)
    HS0.out.self HSh.out (fun _ _ => True) (fun (_ : Unit) => [Ob.blk w.heap.size IntT #[.int .i64 0]]) (fun _ _ => False) () trivial rfl ?fA SpT (fun x => #[.int .i64 x.1, .int .i64 x.2]) ?assign ?body ?done ?stop
  case assign =>
    intro l' x V K hK
    gi_wp2
    generalize V.heap.size = k at *
    exact hK
  case body =>
    intro l' pre x k V s _ hpre
    simp at hpre
  case done =>
    rintro D' V _ hD _ S hK
    have c1 : V.cell? ⟨w.heap.size, 0, none⟩ = some (.int .i64 0) := (S.at_ 0 rfl).cell 0
    have HI := Lib.hid (HS0.out.did0 S); clear S
    gi_wp2_with fail
    refine ⟨by simp, .inl ⟨_, _, rfl, run_takeDeferred hK, ?_⟩⟩
    refine ⟨_, results_tmp (t := 2) rfl _ _ _, rfl, ?_⟩
    exact (odd_done HI.out hK (by rw [HZ.out] at hD; omega)).fr
  case stop =>
    rintro D' V pre s _ _ h
    exact h.elim
set_option maxRecDepth 100000 in
set_option maxHeartbeats 4000000 in
theorem within_nil (a b : Int) (w : World) : Calls Try.prog 18 #[.pointer none, .agg #[.int .i64 a, .int .i64 b]] w fun e w' => e = .returned (.int .i64 0) ∧ Fr None w w' := by
  have S0 := ((Sep.law w).alloc #[.int .i64 a, .int .i64 b] SpT).alloc #[.int .i64 0] IntT
  have HLn := Lib.hid (len_any a b ((w.alloc (.cells #[.int .i64 a, .int .i64 b] SpT)).alloc (.cells #[.int .i64 0] IntT)))
  simp only [World.size_alloc] at S0
  have HS0 := Lib.hid S0
  clear S0
  refine (callsIn_wide (n := 5)).1 ?_
  refine callsIn_of_wp_marks Try.func18 rfl trivial ?_ rfl
  simp only [Try.ntmps18, List.size_toArray, List.length_cons, List.length_nil, Nat.reduceAdd, Nat.reduceSub, Array.replicate_succ, Array.replicate_zero, List.push_toArray, List.append_toArray, List.nil_append, List.cons_append]
  gi_wp2_with fail
  refine ⟨trivial, (callsIn_wide.2 HLn.out).mono ?_⟩
  rintro e w1 ⟨rfl, f1⟩
  have S1 := HS0.out.same f1
  have n0 : w1.cell? ⟨w.heap.size + 1, 0, none⟩ = some (.int .i64 0) := (S1.at_ 0 rfl).cell 0
  have s0 : w1.cell? ⟨w.heap.size, 0, none⟩ = some (.int .i64 a) := (S1.at_ 1 rfl).cell 0
  have s1 : w1.cell? ⟨w.heap.size, 1, none⟩ = some (.int .i64 b) := (S1.at_ 1 rfl).cell 1
  have hw1 : w.heap.size + 1 < w1.heap.size := (S1.at_ 0 rfl).lt
  have HS1 := Lib.hid S1
  clear S1 f1 HS0 HLn
  by_cases hz : lenS (a, b) = 0
  · have hz2 : (lenS (a, b) == 0) = true := by simpa using hz
    clear hz
    gi_wp2_with fail
    exact ⟨_, results_tmp (t := 4) rfl _ _ _, rfl, HS1.out.fr⟩
  have hz2 : (lenS (a, b) == 0) = false := by simpa using hz
  have HA := Lib.hid (meetsP_any none a b w1)
  have hbx := Blk.new w1 RpT #[.pointer none]
  have hsx := Blk.new (w1.alloc (.cells #[.pointer none] RpT)) SpT #[.int .i64 a, .int .i64 b]
  have S2 := (HS1.out.skip (.cells #[.pointer none] RpT)).skip (.cells #[.int .i64 a, .int .i64 b] SpT)
  have hbx2 := hbx.alloc (.cells #[.int .i64 a, .int .i64 b] SpT)
  have hsz : ((w1.alloc (.cells #[.pointer none] RpT)).alloc (.cells #[.int .i64 a, .int .i64 b] SpT)).heap.size = w1.heap.size + 2 := by simp
  rw [World.size_alloc] at hsx
  generalize eW : (w1.alloc (.cells #[.pointer none] RpT)).alloc (.cells #[.int .i64 a, .int .i64 b] SpT) = W0 at S2 hbx2 hsx hsz
  have EW := Lib.hid eW; clear eW
  have HS := Lib.hid (fun n => mtk_nil (a, b) (fun _ => False) W0 n w1.heap.size (w1.heap.size + 1) W0 (FrC.refl _ _) hbx2 hsx (fun k => k = w1.heap.size ∨ k = w1.heap.size + 1) (fun _ h => h.elim) (.inl rfl) (.inr rfl))
  have HSh := Lib.hid (show ∀ k, (k = w1.heap.size ∨ k = w1.heap.size + 1) → k < W0.heap.size ∧ ¬ fpL [Ob.blk (w.heap.size + 1) IntT #[.int .i64 0]] k from fun k hk => ⟨by omega, fun ⟨o, ho, h⟩ => by rw [List.mem_singleton.1 ho] at h; have h' : k = w.heap.size + 1 := h; omega⟩)
  have HS2 := Lib.hid (show Sep None w W0 [Ob.blk (w.heap.size + 1) IntT #[.int .i64 0]] from S2.drop (.cons_cons _ (.cons _ .slnil)))
  have HZ := Lib.hid hsz
  clear hbx hsx S2 hbx2 hsz hz
  gi_wp2_with fail
  refine ⟨trivial, (callsIn_wide.2 HA.out).mono ?_⟩
  rintro e w2 ⟨rfl, e1⟩
  simp only [EW.out] at e1
  simp only [e1]
  clear e1 w2 n0 s0 s1
  gi_wp2_with fail
  refine wpIn_rangeL (gf := 90) (lb := #[.pointer (at0 w1.heap.size), .pointer (at0 (w1.heap.size + 1))]) rfl (enters_of Try.func90 (by kernel_rfl) rfl) (HS.out _) (Below.refl _ _) (fun _ => rfl)
    HS2.out.self HSh.out (fun _ _ => True) (fun (_ : Unit) => [Ob.blk (w.heap.size + 1) IntT #[.int .i64 0]]) (fun _ _ => False) () trivial rfl ?fA SpT (fun x => #[.int .i64 x.1, .int .i64 x.2]) ?assign ?body ?done ?stop
  case assign =>
    intro l' x V K hK
    gi_wp2
    generalize V.heap.size = k at *
    exact hK
  case body =>
    intro l' pre x k V s _ hpre
    simp at hpre
  case done =>
    rintro D' V _ hD _ S hK
    have c1 : V.cell? ⟨w.heap.size + 1, 0, none⟩ = some (.int .i64 0) := (S.at_ 0 rfl).cell 0
    have HI := Lib.hid (HS2.out.did0 S); clear S
    gi_wp2_with fail
    refine ⟨by simp, .inl ⟨_, _, rfl, run_takeDeferred hK, ?_⟩⟩
    refine ⟨_, results_tmp (t := 4) rfl _ _ _, rfl, ?_⟩
    exact (odd_done HI.out hK (by rw [HZ.out] at hD; omega)).fr
  case stop =>
    rintro D' V pre s _ _ h
    exact h.elim
end Go.Proofs.Ytfobeheplficgaa
