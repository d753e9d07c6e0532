/- Next, told, Gaps (the function): walked. -/
import Derived.Test.YtfobeheplficgaaRwS
import Derived.Test.YtfobeheplficgaaRangeL
set_option linter.unusedVariables false
set_option linter.unusedSimpArgs false
namespace Go.Proofs.Ytfobeheplficgaa
open Go.RowKit Go.Und Go.Shelf
attribute [local go_sem] Oper.semAt_some
attribute [local go_sem ↓] Go.wp_at_zero Go.wp_at_succ

theorem wpListIn_push {F : Fence} {dd : Nat} {D : Nat → Prop} {w0 W : World} {L : List Ob} (S : Sep D w0 W L) (i : Nat) {qi : Option Addr} {ci : Nat} {l : List (Int × Int)} (h : L[i]? = some (srow qi ci l)) (e1 e2 : Int) {ops : Array Oper} {o : Oper} {rest : List Oper} {a : Act} {Q : Exit → Act → World → Prop}
    (hgd : o.guard = none) (s x : Operand) (ho : o.op = .call { callee := .builtin .append, args := #[s, x], argTypes := #[SlT, SlT] }) (hs : a.eval s = .slice qi l.length ci) (hx : a.eval x = .slice (some ⟨W.heap.size, 0, none⟩) 1 1) (hl : l.length ≤ 1000000)
    (K : ∀ q' c' W', Sep D w0 W' (L.set i (srow q' c' (l ++ [(e1, e2)]))) → wpListIn F dd Try.prog ops Q rest (a.put o.dst (.slice q' (l ++ [(e1, e2)]).length c')) W') : wpListIn F dd Try.prog ops Q (o :: rest) a (W.alloc (.cells #[.int .i64 e1, .int .i64 e2] SpT)) := by
  obtain ⟨inf, hi1, hz0, hz1, hz2⟩ := info_parts spInfo
  refine wpListIn_append_row _ hgd s x SlT ho 0 SpT inf _ 2 16 Try.underlying22 hi1 hz0 hz1 hz2 rfl (by decide) _ l.length (fc spc l) hs ((S.skip (.cells #[.int .i64 e1, .int .i64 e2] SpT)).at_ i h) (some ⟨W.heap.size, 0, none⟩) 1 1 (fc spc [(e1, e2)]) hx (reads_oneR W SpT (e1, e2) spc_len) (fc_one spc_one _) (by simp [maxLen]; omega) (by omega) (Nat.zero_le _) ?_
  intro q2 c2' w8 ho2 hf2 hb2
  have hob : ∀ k, (Ob.row 0 SpT 2 (.slice q2 (l.length + 1) c2') (l.length + 1) (fc spc l ++ fc spc [(e1, e2)])).fp k → (srow qi ci l).fp k ∨ (W.alloc (.cells #[.int .i64 e1, .int .i64 e2] SpT)).heap.size ≤ k := fun k hk => by
    have hk' : (Value.slice q2 (l.length + 1) c2').ownBlock = some k := hk
    rcases hb2 with e | e
    · exact .inl (Eq.trans (show (Value.slice qi l.length ci).ownBlock = (Value.slice q2 (l.length + 1) c2').ownBlock from e.symm) hk')
    · rw [e] at hk'; cases hk'; exact .inr (Nat.le_refl _)
  have S8 := (S.skip (.cells #[.int .i64 e1, .int .i64 e2] SpT)).turn i h (Ob.row 0 SpT 2 (.slice q2 (l.length + 1) c2') (l.length + 1) (fc spc l ++ fc spc [(e1, e2)])) hf2 (fun _ _ h => h) ho2 hob
  rw [← fc_append] at S8
  have hlen : (l ++ [(e1, e2)]).length = l.length + 1 := by simp
  have := K q2 c2' w8 (by
    show Sep _ _ _ (L.set i (Ob.row 0 SpT 2 (.slice q2 (l ++ [(e1, e2)]).length c2') (l ++ [(e1, e2)]).length _))
    rw [hlen]; exact S8)
  rwa [hlen] at this
/-- A list that grows in a box. -/
abbrev bxL (B : Nat) (s : Option Addr × Nat × List (Int × Int)) : List Ob := [srow s.1 s.2.1 s.2.2, Ob.blk B SlT #[.slice s.1 s.2.2.length s.2.1]]
theorem shR_lt {w : World} {rp : Nat} {q : Option Addr} {cap : Nat} {l : List (Int × Int)} (c3 : w.cell? ⟨rp, 0, none⟩ = some (.slice q l.length cap)) (hr : Reads w 2 q l.length cap (fc spc l)) : ∀ k, ShR rp q l k → k < w.heap.size := by
  rintro k (rfl | ⟨g, ad, had, rfl⟩)
  · exact World.block_lt_of_cell? w _ c3
  · exact hr.lt (by rw [fc_length spc_len]; have := List.length_pos_iff.2 g; omega) ad had
theorem fp_bx {B k : Nat} (h : fpL (bxL B (none, 0, [])) k) : k = B := by
  obtain ⟨o, ho, hk⟩ := h
  rcases List.mem_cons.1 ho with rfl | ho
  · cases hk
  · rw [List.mem_singleton.1 ho] at hk; exact hk
set_option maxRecDepth 100000 in
set_option maxHeartbeats 4000000 in
theorem told_any (rp : Nat) (q : Option Addr) (cap : Nat) (l : List (Int × Int)) (w : World) (hl : l.length ≤ 100000) (c3 : w.cell? ⟨rp, 0, none⟩ = some (.slice q l.length cap)) (hr : Reads w 2 q l.length cap (fc spc l)) :
    Calls Try.prog 28 #[.pointer (at0 rp)] w fun e w' => ∃ q' c', e = .returned (.slice q' l.length c') ∧ Sep None w w' [srow q' c' l] := by
  have S0 := ((((Sep.law w).alloc #[.slice none 0 0] SlT).add (srow none 0 []) (Fr.refl None _) (Owns.nil spc 2 SpT _) (fun k hk => by cases hk)).skip (.cells #[.pointer (at0 rp)] RpT))
  have HA := Lib.hid (allF_any rp (w.alloc (.cells #[.slice none 0 0] SlT)))
  have hbx := (Blk.new (w.alloc (.cells #[.slice none 0 0] SlT)) RpT #[.pointer (at0 rp)]).cell 0
  have hsl := shR_lt c3 hr
  have hsz : ((w.alloc (.cells #[.slice none 0 0] SlT)).alloc (.cells #[.pointer (at0 rp)] RpT)).heap.size = w.heap.size + 2 := by simp
  simp only [World.size_alloc] at HA hbx
  generalize eW : (w.alloc (.cells #[.slice none 0 0] SlT)).alloc (.cells #[.pointer (at0 rp)] RpT) = W0 at S0 hbx hsz
  have EW := Lib.hid eW; clear eW
  have hWA : RnAt (w.heap.size + 1) rp q cap l W0 := ⟨hbx, cell_frN S0.fr c3, hr.fr S0.fr (fun _ _ h => h)⟩
  have HS := Lib.hid (fun n => all_y n (w.heap.size + 1) rp q cap l W0 (by omega) (fun k => k = w.heap.size + 1 ∨ ShR rp q l k) hWA (.inl rfl) (fun _ h => .inr h))
  have HSh := Lib.hid (show ∀ k, (k = w.heap.size + 1 ∨ ShR rp q l k) → k < W0.heap.size ∧ ¬ fpL (bxL w.heap.size (none, 0, [])) k from fun k hk => by
    have h1 : k < W0.heap.size ∧ k ≠ w.heap.size := by
      rcases hk with rfl | hk
      · omega
      · have := hsl k hk; omega
    exact ⟨h1.1, fun h => h1.2 (fp_bx h)⟩)
  have HS0 := Lib.hid (show Sep None w W0 (bxL w.heap.size (none, 0, [])) from S0)
  have HZ := Lib.hid hsz
  clear S0 hbx hsl hsz hWA c3 hr
  refine (callsIn_wide (n := 5)).1 ?_
  refine callsIn_of_wp_marks Try.func28 rfl trivial ?_ rfl
  simp only [Try.ntmps28, List.size_toArray, List.length_cons, List.length_nil, Nat.reduceAdd, Nat.reduceSub, Array.replicate_succ, Array.replicate_zero, List.push_toArray, List.append_toArray, List.nil_append, List.cons_append]
  gi_wp2_with fail
  refine ⟨trivial, (callsIn_wide.2 HA.out).mono ?_⟩
  rintro e w1 ⟨rfl, e1⟩
  simp only [EW.out] at e1
  simp only [e1]
  clear e1 w1
  gi_wp2_with fail
  refine wpIn_rangeL (gf := 61) (lb := #[.pointer (at0 (w.heap.size + 1))]) rfl (enters_of Try.func61 (by kernel_rfl) rfl) (HS.out _) (Below.refl _ _) (fun _ => rfl)
    HS0.out.self HSh.out (fun pre s => s.2.2 = pre) (bxL w.heap.size) (fun _ _ => False) (none, 0, []) rfl rfl ?fA SpT (fun x => #[.int .i64 x.1, .int .i64 x.2]) ?assign ?body ?done ?stop
  case assign =>
    intro l' x V K hK
    gi_wp2
    generalize V.heap.size = k at *
    exact hK
  case body =>
    rintro l' pre ⟨x1, x2⟩ k V ⟨qs, cs, ls⟩ hs hpre S f hk
    simp only at hs
    subst hs
    have c1 : V.cell? ⟨w.heap.size, 0, none⟩ = some (.slice qs ls.length cs) := (S.at_ 2 rfl).cell 0
    have x1c : V.cell? ⟨k, 0, none⟩ = some (.int .i64 x1) := (S.at_ 0 rfl).cell 0
    have x2c : V.cell? ⟨k, 1, none⟩ = some (.int .i64 x2) := (S.at_ 0 rfl).cell 1
    have hlen : ls.length ≤ 1000000 := by have := hpre.length_le; simp at this; omega
    have HV := Lib.hid S
    clear S f hpre
    gi_wp2_with (with_reducible refine HoldIn.out ?_)
    refine HoldIn.mk ?_
    refine wpListIn_push HV.out 1 rfl x1 x2 rfl _ _ rfl rfl rfl hlen ?_
    intro q5 c5 W5 S5
    simp only [List.set_cons_succ, List.set_cons_zero] at S5
    have z5 : W5.frozen? ⟨w.heap.size, 0, none⟩ = false := (S5.at_ 2 rfl).frozen 0
    have k5 : W5.cell? ⟨w.heap.size, 0, none⟩ = some (.slice qs ls.length cs) := (S5.at_ 2 rfl).cell 0
    have HS5 := Lib.hid (S5.set 2 rfl 0 (.slice q5 (ls ++ [(x1, x2)]).length c5))
    have hll : (ls ++ [(x1, x2)]).length = ls.length + 1 := by simp
    rw [hll] at HS5
    have HLL := Lib.hid hll
    clear S5 hll
    gi_wp2_with fail
    exact ⟨q5, c5, by
      show Sep _ _ _ [_, Ob.blk _ _ #[.slice _ (ls ++ [(x1, x2)]).length _]]
      rw [HLL.out]; exact HS5.out.drop (.cons _ (.refl _))⟩
  case done =>
    rintro D' V ⟨qs, cs, ls⟩ hD hs S hK
    simp only at hs
    subst hs
    have c1 : V.cell? ⟨w.heap.size, 0, none⟩ = some (.slice qs ls.length cs) := (S.at_ 1 rfl).cell 0
    have HI := Lib.hid (HS0.out.did0 S); clear S
    gi_wp2_with fail
    refine ⟨by simp, .inl ⟨_, _, rfl, run_takeDeferred hK, ?_⟩⟩
    refine ⟨_, results_tmp (t := 2) rfl _ _ _, qs, cs, rfl, ?_⟩
    exact (odd_done HI.out hK (by rw [HZ.out] at hD; omega)).drop (.cons_cons _ (.cons _ .slnil))
  case stop =>
    rintro D' V pre s _ _ h
    exact h.elim

set_option maxRecDepth 100000 in
set_option maxHeartbeats 4000000 in
theorem next_any (p : Nat) (q : Option Addr) (cap : Nat) (l : List (Int × Int)) (off : Int) (w : World) (ok : OkL l) (hl : l.length ≤ 1000000) (c3 : w.cell? ⟨p, 0, none⟩ = some (.slice q l.length cap)) (hr : Reads w 2 q l.length cap (fc spc l)) :
    Calls Try.prog 31 #[.pointer (at0 p), .int .i64 off] w fun e w' => e = .returned (.tuple #[spV (nextL l off), .bool (decide (lenS (nextL l off) ≠ 0))]) ∧ Fr None w w' := by
  have S0 := ((Sep.law w).alloc #[.int .i64 off] IntT).alloc #[.int .i64 0, .int .i64 0] SpT
  rw [World.size_alloc] at S0
  have hp : p < w.heap.size := World.block_lt_of_cell? w _ c3
  have HS0 := Lib.hid S0
  obtain ⟨V, hV⟩ : ∃ V, V = (w.alloc (.cells #[.int .i64 off] IntT)).alloc (.cells #[.int .i64 0, .int .i64 0] SpT) := ⟨_, rfl⟩
  have m3 : V.cell? ⟨p, 0, none⟩ = some (.slice q l.length cap) := by rw [hV]; exact cell_frN S0.fr c3
  have hr1 : Reads V 2 q l.length cap (fc spc l) := by rw [hV]; exact hr.fr S0.fr (fun _ _ h => h)
  have m1 : V.cell? ⟨w.heap.size, 0, none⟩ = some (.int .i64 off) := by rw [hV]; exact (S0.at_ 1 rfl).cell 0
  have HF := Lib.hid (first_any p q cap l 70 #[.pointer (at0 w.heap.size)] (fun x => decide (off < x.2)) V (enters_of Try.func70 (by kernel_rfl) rfl) m3 hr1 (next1_pred _ _ _ m1) hl (mono_to2 ok off))
  rw [show fstP (fun x => decide (off < x.2)) l = atL l off from rfl, hV] at HF
  have hat : atL l off ≤ l.length := fstP_le _ l
  clear hV m3 m1 hr1 S0
  by_cases hi : atL l off = l.length
  · have hout := next_out ok off hi
    have HO := Lib.hid hout
    have G := Lib.hid (fun (V : World) (f : Fr None w V) => cell_frN f c3)
    rw [hi] at HF
    have g1 : ((l.length : Int) == l.length) = true := beq_self_eq_true _
    clear hr ok hat hi hout
    go_enter Try.func31, Try.ntmps31
    go_wp2_with ((with_reducible refine (HF.out).mono ?_); rintro e1 w1 ⟨rfl, F1⟩; have S1 := HS0.out.same F1; clear F1; have d1 : w1.cell? ⟨w.heap.size, 0, none⟩ = some (.int .i64 off) := (S1.at_ 1 rfl).cell 0; have d2 : w1.cell? ⟨w.heap.size + 1, 0, none⟩ = some (.int .i64 0) := (S1.at_ 0 rfl).cell 0; have d3 : w1.cell? ⟨w.heap.size + 1, 1, none⟩ = some (.int .i64 0) := (S1.at_ 0 rfl).cell 1; have d4 : w1.frozen? ⟨w.heap.size + 1, 0, none⟩ = false := (S1.at_ 0 rfl).frozen 0; have d5 : w1.frozen? ⟨w.heap.size + 1, 1, none⟩ = false := (S1.at_ 0 rfl).frozen 1; have d6 : w1.cell? ⟨p, 0, none⟩ = some (.slice q l.length cap) := G.out w1 S1.fr; have HS1 := Lib.hid S1; clear S1)
    exact bodyPost_ret (v := .tuple #[spV (nextL l off), .bool (decide (lenS (nextL l off) ≠ 0))]) (by rw [HO.out]; simp [results, Try.results31, go_sem, d2, d3]; decide) rfl ⟨rfl, ((HS1.out.set 0 rfl 0 (.int .i64 0)).set 0 rfl 1 (.int .i64 0)).fr⟩
  · obtain ⟨x, hx⟩ : ∃ x, l[atL l off]? = some x := ⟨_, List.getElem?_eq_getElem (by omega)⟩
    obtain ⟨b, o2, rfl, hc⟩ := hr.elem spc_len (by decide) hx
    have k1 : w.cell? ⟨b, o2 + atL l off * 2, none⟩ = some (.int .i64 x.1) := hc 0 _ rfl
    have k2 : w.cell? ⟨b, o2 + atL l off * 2 + 1, none⟩ = some (.int .i64 x.2) := hc 1 _ rfl
    have g1 : ((atL l off : Int) == l.length) = false := beq_eq_false_iff_ne.2 (by omega)
    have hlt : atL l off < l.length := by omega
    obtain ⟨hn1, hn2⟩ := next_at ok off hx
    obtain ⟨i, ei⟩ : ∃ i, i = atL l off := ⟨_, rfl⟩
    obtain ⟨x1, x2⟩ := x
    simp only at k1 k2
    rw [← ei] at HF k1 k2 g1 hlt
    have G := Lib.hid (fun (V : World) (f : Fr None w V) => And.intro (cell_frN f c3) (And.intro (cell_frN f k1) (cell_frN f k2)))
    have HFr := Lib.hid (fun W => from_any x1 x2 off W)
    have E := Lib.hid (show nextL l off = fromS (x1, x2) off ∧ decide (lenS (fromS (x1, x2) off) ≠ 0) = true from ⟨hn1, decide_eq_true hn2⟩)
    rw [hn1] at *
    generalize hy : fromS (x1, x2) off = y at *
    obtain ⟨y1, y2⟩ := y
    have HD := Lib.hid E.out.2
    clear hc hr ok hat hi hx ei hn1 hn2 hy E
    go_enter Try.func31, Try.ntmps31
    go_wp2_with ((with_reducible refine (HF.out).mono ?_); rintro e1 w1 ⟨rfl, F1⟩; have S1 := HS0.out.same F1; clear F1; have d1 : w1.cell? ⟨w.heap.size, 0, none⟩ = some (.int .i64 off) := (S1.at_ 1 rfl).cell 0; have d2 : w1.cell? ⟨w.heap.size + 1, 0, none⟩ = some (.int .i64 0) := (S1.at_ 0 rfl).cell 0; have d3 : w1.cell? ⟨w.heap.size + 1, 1, none⟩ = some (.int .i64 0) := (S1.at_ 0 rfl).cell 1; have d4 : w1.frozen? ⟨w.heap.size + 1, 0, none⟩ = false := (S1.at_ 0 rfl).frozen 0; have d5 : w1.frozen? ⟨w.heap.size + 1, 1, none⟩ = false := (S1.at_ 0 rfl).frozen 1; obtain ⟨d6, d7, d8⟩ := G.out w1 S1.fr; have HS1 := Lib.hid S1; clear S1)
    refine (wpIn_wide (n := 5)).1 ?_
    refine wpIn_region_segs (by kernel_rfl) ?_
    refine seg_still 8 (by kernel_rfl) ?_
    simp only [List.drop_zero, List.take_succ_cons, List.take_zero, Nat.reduceSub]
    repeat (go_big_quiet_step (fail))
    refine wpQuiet_nil ?_
    refine seg_one (by kernel_rfl) fun K hK => ?_
    simp only [List.drop_succ_cons, List.drop_zero, List.take_succ_cons, List.take_zero]
    gi_wp2_with fail
    first | refine ⟨trivial, (callsIn_wide.2 (HFr.out _)).mono ?_⟩ | refine ⟨trivial, fun h => (by cases h), (callsIn_wide.2 (HFr.out _)).mono ?_⟩
    rintro e w2 ⟨rfl, f2⟩
    have S2 := HS1.out.drew.same f2
    have m2 : w2.cell? ⟨w.heap.size + 1, 0, none⟩ = some (.int .i64 0) := (S2.at_ 0 rfl).cell 0
    have m3 : w2.cell? ⟨w.heap.size + 1, 1, none⟩ = some (.int .i64 0) := (S2.at_ 0 rfl).cell 1
    have m4 : w2.frozen? ⟨w.heap.size + 1, 0, none⟩ = false := (S2.at_ 0 rfl).frozen 0
    have m5 : w2.frozen? ⟨w.heap.size + 1, 1, none⟩ = false := (S2.at_ 0 rfl).frozen 1
    have HS2 := Lib.hid S2
    clear f2 S2 HS1 d1 d2 d3 d4 d5 d6 d7 d8
    gi_wp2_with fail
    refine seg_one (by kernel_rfl) fun K hK => ?_
    simp only [List.drop_succ_cons, List.drop_zero, List.take_succ_cons, List.take_zero]
    gi_wp2_with fail
    refine seg_one (by kernel_rfl) fun K hK => ?_
    simp only [List.drop_succ_cons, List.drop_zero, List.take_succ_cons, List.take_zero]
    gi_wp2_with fail
    refine seg_done (by rfl) (by kernel_rfl) ?_
    go_wp2_with fail
    exact bodyPost_ret (v := .tuple #[spV (y1, y2), .bool (decide (lenS (y1, y2) ≠ 0))]) (by rw [HD.out]; simp [results, Try.results31, go_sem, m2, m3]) rfl ⟨rfl, ((HS2.out.set 0 rfl 0 (.int .i64 y1)).set 0 rfl 1 (.int .i64 y2)).fr⟩
end Go.Proofs.Ytfobeheplficgaa
