/- Add: walked. -/
import Derived.Test.YtfobeheplficgaaRwl
set_option linter.unusedVariables false
set_option linter.unusedSimpArgs false
namespace Go.Proofs.Ytfobeheplficgaa
open Go.RowKit Go.Und Go.Shelf
attribute [local go_sem] Oper.semAt_some
attribute [local go_sem ↓] Go.wp_at_zero Go.wp_at_succ

theorem _root_.Go.Und.Reads.recap {w : World} {size n cap : Nat} {p : Option Addr} {xs : List Value} (h : Reads w size p n cap xs) : Reads w size p n n xs :=
  ⟨h.len, Nat.le_refl _, fun e => ⟨(h.nil e).1, (h.nil e).1⟩, h.spot, h.cell⟩
theorem run_cut3 {P : Program} (w : World) (t e : TypeId) (i : TypeInfo) (size : Nat) (ht : P.underlying t = some (.slice e)) (hi : P.info? e = some i) (hsize : i.size = size) (p : Option Addr) (n cap : Nat) (k m : Nat) (hk : k ≤ m) (hm : m ≤ cap) :
    (Instr.sliceAt t (.slice p n cap) (some (.int .i64 (k : Int))) (some (.int .i64 (m : Int))) (some (.int .i64 (m : Int)))).run P w = .ok (.slice (if m = k then p else p.map (·.add (k * size))) (m - k) (m - k)) w := by
  have he := elem_of ht
  have ht' : P.underlying t = some (.slice (P.elem t)) := by rw [he]; exact ht
  rw [run_sliceAt_slice w t _ _ _ _ ht', run_slice_any w t p n cap ht']
  have h0 : (0 : Int) ≤ m := by omega
  have h1 : (0 : Int) ≤ k := by omega
  have hm' : (m : Int) ≤ cap := by omega
  have hk' : (k : Int) ≤ m := by omega
  simp [Instr.sliceBounds, run_sliceBound, h0, h1, hm', hk', he, sizeOf, typeInfo, hi, sliced, Result.andThen, hsize]
theorem cut3 (W : World) (q : Option Addr) (n cap lo hi : Nat) (hlh : lo ≤ hi) (hc : hi ≤ cap) : (Instr.sliceAt SlT (.slice q n cap) (some (.int .i64 (lo : Int))) (some (.int .i64 (hi : Int))) (some (.int .i64 (hi : Int)))).run Try.prog W = .ok (.slice (if hi = lo then q else q.map (·.add (lo * 2))) (hi - lo) (hi - lo)) W := by
  obtain ⟨inf, hi1, _, hz1, _⟩ := info_parts spInfo
  exact run_cut3 (P := Try.prog) W SlT SpT inf 2 Try.underlying22 hi1 hz1 q n cap lo hi hlh hc
/-- One more behind a cut that has no room: all goes over. -/
theorem append_cut (W : World) (q qn : Option Addr) (m : Nat) (xs news : List Value) (cn : Nat) (hr : Reads W 2 q m m xs) (hn : Reads W 2 qn 1 cn news) (h1 : ∀ u ∈ news, u.oneCell' = true) (hm : m ≤ 100000) (ty : TypeId) :
    ∃ q' c' W', (Builtin.append_ #[SlT, SlT] ty #[.slice q m m, .slice qn 1 cn]).run Try.prog W = .ok (.slice q' (m + 1) c') W' ∧ Reads W' 2 q' (m + 1) c' (xs ++ news) ∧ Fr None W W' := by
  obtain ⟨inf, hi1, hz, hz1, hz2⟩ := info_parts spInfo
  cases q with
  | none =>
    obtain ⟨rfl, _⟩ := hr.nil rfl
    have hx : xs = [] := List.eq_nil_of_length_eq_zero (by simpa using hr.len)
    subst hx
    obtain ⟨q', c', W', e, ho, hf, _⟩ := run_append_row (P := Try.prog) W SlT ty 0 SpT inf _ 2 16 Try.underlying22 hi1 hz hz1 hz2 rfl (by decide) (.slice none 0 0) 0 [] (World.ownsRow_nil _ 0 SpT 2) qn 1 cn news hn h1 (by simp [maxLen]) (by simp) (Nat.zero_le _)
    obtain ⟨p2, c2, e2, hr2, _⟩ := ownsRow_reads ho
    obtain ⟨rfl, rfl⟩ : q' = p2 ∧ c' = c2 := by simpa using e2
    exact ⟨q', c', W', e, hr2, hf.mono fun _ _ h => by cases h⟩
  | some ad =>
    cases qn with
    | none => exact absurd (hn.nil rfl).1 (by decide)
    | some an =>
      have hnc : Builtin.nextslicecap (m + 1) m ≤ 2 * (m + 1) := nextslicecap_le (by omega)
      have hge := grownCap_ge W (m + 1) m SpT
      have e := run_append_grow (P := Try.prog) W SlT ty SpT inf (.agg #[.int .i64 0, .int .i64 0]) Try.underlying22 hi1 hz ad m m xs (by rw [hz1]; exact hr.len) (hr.news rfl) an 1 cn news (by rw [hz1]; exact hn.len) (hn.news rfl) (by omega) (by omega) (by rw [hz2]; omega)
      refine ⟨_, _, _, e, ⟨by rw [List.length_append, hr.len, hn.len]; omega, hge, fun h => (by cases h), fun a h => (by cases h; rfl), fun a h j u hu => ?_⟩, (Fr.refl None W).drew.alloc _⟩
      cases h
      have hb := Blk.new W.drew SpT (xs.toArray ++ news.toArray ++ Builtin.zeroCells (Value.agg #[.int .i64 0, .int .i64 0]).cells (grownCap W (m + 1) m SpT - (m + 1)))
      have hc := Blk.cell hb (0 + j)
      refine hc.trans ?_
      have hlt := (List.getElem?_eq_some_iff.1 hu).1
      rw [← hu, Nat.zero_add]
      rw [← Array.getElem?_toList, Array.toList_append, Array.toList_append, List.getElem?_append_left (by simpa using hlt)]
theorem _root_.Go.Und.step_append_cut {w : World} {ops : Array Oper} {o : Oper} {a : Act} {Q : Exit → Act → World → Prop} {K : Act → World → Prop} {E : Prop} (hgd : o.guard = none) (s x : Operand)
    (ho : o.op = .call { callee := .builtin .append, args := #[s, x], argTypes := #[SlT, SlT] }) (q qn : Option Addr) (m : Nat) (xs news : List Value) (cn : Nat) (hs : a.eval s = .slice q m m) (hx : a.eval x = .slice qn 1 cn) (hr : Reads w 2 q m m xs) (hn : Reads w 2 qn 1 cn news) (h1 : ∀ u ∈ news, u.oneCell' = true) (hm : m ≤ 100000)
    (h : ∀ q' c' w', Reads w' 2 q' (m + 1) c' (xs ++ news) → Fr None w w' → K (a.put o.dst (.slice q' (m + 1) c')) w') :
    if Region.wanted o (yielded ops a.tmps) = true then Oper.wp Try.prog o a w K Q else E := by
  have hw : Region.wanted o (yielded ops a.tmps) = true := by simp [Region.wanted, hgd]
  rw [if_pos hw]
  obtain ⟨q', c', w', hrun, h2, h3⟩ := append_cut w q qn m xs news cn hr hn h1 hm o.type
  unfold Oper.wp execOp
  simp only [ho, resolve, invoke, builtin, Sem.run_bind, Sem.run_pure, Result.andThen_ok, List.map_toArray, List.map_cons, List.map_nil, hs, hx, hrun]
  exact h q' c' w' h2 h3
theorem blk_up {w w' : World} {b : Nat} {t : TypeId} {cs : Array Value} (h : Blk w b t cs) (f : Fr None w w') : Blk w' b t cs := Blk.fr h f (fun h => h)
theorem zero_cells {W : World} {b : Nat} (h : Blk W b SpT #[.int .i64 0, .int .i64 0]) : W.cell? ⟨b, 0, none⟩ = some (.int .i64 0) ∧ W.cell? ⟨b, 1, none⟩ = some (.int .i64 0) ∧ W.frozen? ⟨b, 0, none⟩ = false ∧ W.frozen? ⟨b, 1, none⟩ = false ∧ b < W.heap.size ∧ W.drew.frozen? ⟨b, 0, none⟩ = false ∧ W.drew.frozen? ⟨b, 1, none⟩ = false :=
  ⟨h.cell 0, h.cell 1, h.frozen 0, h.frozen 1, h.lt, h.frozen 0, h.frozen 1⟩
theorem keep13 {W : World} {sb zb p : Nat} {a b v x y : Value} (h : W.cell? ⟨sb, 0, none⟩ = some a ∧ W.cell? ⟨sb, 1, none⟩ = some b ∧ W.cell? ⟨p, 0, none⟩ = some v) (n1 : sb ≠ zb) (n2 : p ≠ zb) :
    ((W.setCell ⟨zb, 0, none⟩ x).setCell ⟨zb, 1, none⟩ y).cell? ⟨sb, 0, none⟩ = some a ∧ ((W.setCell ⟨zb, 0, none⟩ x).setCell ⟨zb, 1, none⟩ y).cell? ⟨sb, 1, none⟩ = some b ∧ ((W.setCell ⟨zb, 0, none⟩ x).setCell ⟨zb, 1, none⟩ y).cell? ⟨p, 0, none⟩ = some v := by
  have f : ∀ (k j : Nat), k ≠ zb → ((W.setCell ⟨zb, 0, none⟩ x).setCell ⟨zb, 1, none⟩ y).cell? ⟨k, j, none⟩ = W.cell? ⟨k, j, none⟩ := fun k j hk => by
    apply World.cell?_of_block
    exact (Below.heap_setCell _ _ _ k hk).trans (Below.heap_setCell _ _ _ k hk)
  exact ⟨(f _ _ n1).trans h.1, (f _ _ n1).trans h.2.1, (f _ _ n2).trans h.2.2⟩
theorem store2 {V W : World} {zb : Nat} {x y : Int} (h : Blk W zb SpT #[.int .i64 0, .int .i64 0]) (f : Fr None V W) (hz : V.heap.size ≤ zb) :
    RowKit.Hid (Fr None V ((W.setCell ⟨zb, 0, none⟩ (.int .i64 x)).setCell ⟨zb, 1, none⟩ (.int .i64 y)) ∧ Blk ((W.setCell ⟨zb, 0, none⟩ (.int .i64 x)).setCell ⟨zb, 1, none⟩ (.int .i64 y)) zb SpT #[.int .i64 x, .int .i64 y]) :=
  Lib.hid ⟨(f.setCell (p := ⟨zb, 0, none⟩) (fun hlt => absurd hlt (by show ¬ zb < _; omega)) _).setCell (p := ⟨zb, 1, none⟩) (fun hlt => absurd hlt (by show ¬ zb < _; omega)) _, (h.set 0 _).set 1 _⟩
theorem mono_to {l : List (Int × Int)} (ok : OkL l) (k : Int) : l.Pairwise fun a b => decide (k ≤ a.2) = true → decide (k ≤ b.2) = true := ok.rises.imp fun h => by simp only [decide_eq_true_eq]; omega
theorem mono_fr {l : List (Int × Int)} (ok : OkL l) (k : Int) : l.Pairwise fun a b => decide (k < a.1) = true → decide (k < b.1) = true := ok.rises.imp fun h => by simp only [decide_eq_true_eq]; omega
set_option maxRecDepth 100000 in
set_option maxHeartbeats 4000000 in
theorem add_do (p : Nat) (q : Option Addr) (cap : Nat) (l : List (Int × Int)) (a b : Int) (w : World) (ok : OkL l) (hl : l.length ≤ 100000) (hs : PrS (a, b)) (S : Sep (fpL (rns p q cap l)) w w (rns p q cap l)) :
    Calls Try.prog 15 #[.pointer (at0 p), .agg #[.int .i64 a, .int .i64 b]] w fun e w' =>
      ((addL l (a, b)).length ≤ 4096 ∧ e = .returned (.tuple #[.int .i64 (lenS (a, b) - withinL l (a, b)), .int .i64 0]) ∧ ∃ q' c', Sep (fpL (rns p q cap l)) w w' (rns p q' c' (addL l (a, b)))) ∨
      (4096 < (addL l (a, b)).length ∧ e = .returned (.tuple #[.int .i64 0, .int .i64 4]) ∧ Sep (fpL (rns p q cap l)) w w' (rns p q cap l)) := by
  have hab : (a == b) = false := beq_eq_false_iff_ne.2 (by have := hs.2.1; simp only at this; omega)
  have S0 := S.alloc #[.int .i64 a, .int .i64 b] SpT
  have HK := Lib.hid (ask_any p a b (w.alloc (.cells #[.int .i64 a, .int .i64 b] SpT)))
  rw [mayS_pr hs] at HK
  obtain ⟨lo, elo⟩ : ∃ n, n = fstP (fun x => decide (a ≤ x.2)) l := ⟨_, rfl⟩
  obtain ⟨hi, ehi⟩ : ∃ n, n = fstP (fun x => decide (b < x.1)) l := ⟨_, rfl⟩
  have hlohi : lo ≤ hi := by rw [elo, ehi]; exact lo_hi l ok (a, b) (by have := hs.2.1; simp only at this ⊢; omega)
  have hhi : hi ≤ l.length := by rw [ehi]; exact fstP_le _ l
  have hadd : addL l (a, b) = l.take lo ++ hullS ((l.take hi).drop lo ++ [(a, b)]) :: l.drop hi := by unfold addL; rw [elo, ehi]
  have HS0 := Lib.hid S0
  have HO := Lib.hid ok
  have HP := Lib.hid hs
  have HA := Lib.hid hadd
  have H1 := Lib.hid elo
  have H2 := Lib.hid ehi
  clear S S0 ok hs hadd elo ehi
  go_enter Try.func15, Try.ntmps15
  go_wp2_with (first
    | ((refine (HK.out).mono ?_); rintro e1 w1 ⟨rfl, F1⟩; have S1 := HS0.out.same F1; clear F1; have d1 : w1.cell? ⟨w.heap.size, 0, none⟩ = some (.int .i64 a) := (S1.at_ 0 rfl).cell 0; have d2 : w1.cell? ⟨w.heap.size, 1, none⟩ = some (.int .i64 b) := (S1.at_ 0 rfl).cell 1; have d3 : w1.cell? ⟨p, 0, none⟩ = some (.slice q l.length cap) := (S1.at_ 1 rfl).cell 0; have HS1 := Lib.hid S1; clear S1 HS0 HK)
    | (have HC := Lib.hid (first_any p q cap l 53 #[.pointer (at0 w.heap.size)] (fun x => decide (a ≤ x.2)) w1 (enters_of Try.func53 (by kernel_rfl) rfl) d3 (row_reads (HS1.out.at_ 2 rfl)) (add1_pred _ _ _ d1) (by omega) (mono_to HO.out a)); (with_reducible refine (HC.out).mono ?_); clear HC; rintro e2 w2 ⟨rfl, F2⟩; rw [← H1.out]; have S2 := HS1.out.same F2; clear F2; have f1 : w2.cell? ⟨w.heap.size, 0, none⟩ = some (.int .i64 a) := (S2.at_ 0 rfl).cell 0; have f2 : w2.cell? ⟨w.heap.size, 1, none⟩ = some (.int .i64 b) := (S2.at_ 0 rfl).cell 1; have f3 : w2.cell? ⟨p, 0, none⟩ = some (.slice q l.length cap) := (S2.at_ 1 rfl).cell 0; have HS2 := Lib.hid S2; clear S2 HS1)
    | (have HC := Lib.hid (first_any p q cap l 54 #[.pointer (at0 w.heap.size)] (fun x => decide (b < x.1)) w2 (enters_of Try.func54 (by kernel_rfl) rfl) f3 (row_reads (HS2.out.at_ 2 rfl)) (add2_pred _ _ _ f2) (by omega) (mono_fr HO.out b)); (with_reducible refine (HC.out).mono ?_); clear HC; rintro e3 w3 ⟨rfl, F3⟩; rw [← H2.out]; have S3 := HS2.out.same F3; clear F3; have g1 : w3.cell? ⟨w.heap.size, 0, none⟩ = some (.int .i64 a) := (S3.at_ 0 rfl).cell 0; have g2 : w3.cell? ⟨w.heap.size, 1, none⟩ = some (.int .i64 b) := (S3.at_ 0 rfl).cell 1; have g3 : w3.cell? ⟨p, 0, none⟩ = some (.slice q l.length cap) := (S3.at_ 1 rfl).cell 0; have HS3 := Lib.hid S3; clear S3 HS2)
    | (have HC := Lib.hid (within_any p q cap l a b w3 HO.out (by omega) g3 (row_reads (HS3.out.at_ 2 rfl))); (with_reducible refine (HC.out).mono ?_); clear HC; rintro e4 w4 ⟨rfl, F4⟩; have S4 := HS3.out.same F4; clear F4; have k1 : w4.cell? ⟨w.heap.size, 0, none⟩ = some (.int .i64 a) := (S4.at_ 0 rfl).cell 0; have k2 : w4.cell? ⟨w.heap.size, 1, none⟩ = some (.int .i64 b) := (S4.at_ 0 rfl).cell 1; have k3 : w4.cell? ⟨p, 0, none⟩ = some (.slice q l.length cap) := (S4.at_ 1 rfl).cell 0; have HS4 := Lib.hid S4; clear S4 HS3)
    | fail)
  obtain ⟨M, hM⟩ : ∃ M, M = (l.take hi).drop lo := ⟨_, rfl⟩
  have hml : M.length = hi - lo := by rw [hM, List.length_drop, List.length_take]; omega
  obtain ⟨h, hh⟩ : ∃ h, h = hullS (M ++ [(a, b)]) := ⟨_, rfl⟩
  obtain ⟨h1, h2⟩ := h
  obtain ⟨q3, hq3⟩ : ∃ q3, q3 = (if hi = lo then q else q.map (·.add (lo * 2))) := ⟨_, rfl⟩
  have hcap : l.length ≤ cap := (row_reads (HS4.out.at_ 2 rfl)).room
  have hcut : ∀ W, (Instr.sliceAt SlT (.slice q l.length cap) (some (.int .i64 (lo : Int))) (some (.int .i64 (hi : Int))) (some (.int .i64 (hi : Int)))).run Try.prog W = .ok (.slice q3 M.length M.length) W := fun W => by
    rw [hml, hq3]; exact cut3 W q l.length cap lo hi hlohi (by omega)
  have hrd : Reads w4 2 q3 M.length M.length (fc spc M) := by
    have r := ((row_reads (HS4.out.at_ 2 rfl)).take hhi).recap.drop hlohi
    rw [← hq3, ← hml, fc_take spc_len, fc_drop spc_len, ← hM] at r
    exact r
  have HRD := Lib.hid hrd
  have hlt : M.length ≤ 100000 := by omega
  have HH := Lib.hid (fun (W : World) (q' : Option Addr) (c' : Nat) (hr : Reads W 2 q' (M.length + 1) c' (fc spc M ++ [.int .i64 a, .int .i64 b])) => (show Calls Try.prog 55 #[.slice q' (M.length + 1) c'] W fun e w' => e = .returned (.agg #[.int .i64 h1, .int .i64 h2]) ∧ Fr None W w' from by
    have hc := hull_any q' c' (M ++ [(a, b)]) W (by rw [List.length_append, fc_append]; exact hr) (by rw [List.length_append]; simp; omega)
    rw [List.length_append, ← hh] at hc
    exact hc))
  have HX := Lib.hid (show hullS ((l.take hi).drop lo ++ [(a, b)]) = (h1, h2) by rw [← hM, ← hh])
  have HML := Lib.hid hml
  have HB1 := Lib.hid (show Blk (w4.alloc (.cells #[.int .i64 a, .int .i64 b] SpT)).drew w4.heap.size SpT #[.int .i64 a, .int .i64 b] from Blk.new w4 _ _)
  have HB2 := Lib.hid (show Blk ((w4.alloc (.cells #[.int .i64 0, .int .i64 0] SpT)).alloc (.cells #[.int .i64 a, .int .i64 b] SpT)).drew (w4.heap.size + 1) SpT #[.int .i64 a, .int .i64 b] by
    have := Blk.new (w4.alloc (.cells #[.int .i64 0, .int .i64 0] SpT)) SpT #[.int .i64 a, .int .i64 b]
    rw [World.size_alloc] at this; exact this)
  have HB3 := Lib.hid (show Blk ((w4.alloc (.cells #[.int .i64 a, .int .i64 b] SpT)).alloc (.cells #[.int .i64 0, .int .i64 0] SpT)).drew w4.heap.size SpT #[.int .i64 a, .int .i64 b] from blk_up (Blk.new w4 _ _) (((Fr.refl None _).alloc _).drew))
  have HZ2 := Lib.hid (show Blk ((w4.alloc (.cells #[.int .i64 0, .int .i64 0] SpT)).alloc (.cells #[.int .i64 a, .int .i64 b] SpT)).drew w4.heap.size SpT #[.int .i64 0, .int .i64 0] from blk_up (Blk.new w4 _ _) (((Fr.refl None _).alloc _).drew))
  have HZ3 := Lib.hid (show Blk ((w4.alloc (.cells #[.int .i64 a, .int .i64 b] SpT)).alloc (.cells #[.int .i64 0, .int .i64 0] SpT)).drew (w4.heap.size + 1) SpT #[.int .i64 0, .int .i64 0] by
    have := Blk.new (w4.alloc (.cells #[.int .i64 a, .int .i64 b] SpT)) SpT #[.int .i64 0, .int .i64 0]
    rw [World.size_alloc] at this; exact this)
  have t1 : w.heap.size < w4.heap.size := World.block_lt_of_cell? w4 _ k1
  have t2 : p < w4.heap.size := World.block_lt_of_cell? w4 _ k3
  clear hq3 hrd hM hh hml
  go_region_held3 (fun w' => w'.cell? ⟨w.heap.size, 0, none⟩ = some (.int .i64 a) ∧ w'.cell? ⟨w.heap.size, 1, none⟩ = some (.int .i64 b) ∧ w'.cell? ⟨p, 0, none⟩ = some (.slice q l.length cap)) (first | (with_reducible assumption) | (with_reducible exact keep13 ⟨z1w6, z2w6, z3w6⟩ (by omega) (by omega)) | (go_keep; done)) (first
    | (refine step_append_cut rfl _ _ rfl q3 _ M.length (fc spc M) [.int .i64 a, .int .i64 b] 1 rfl rfl (HRD.out.fr (D := None) (by repeat (first | exact Fr.refl _ _ | refine Fr.drew ?_ | refine Fr.alloc ?_ _)) (fun _ _ h => h)) (reads_blk (x := (a, b)) (by first | exact HB1.out | exact HB2.out | exact HB3.out)) (fc_one spc_one [(a, b)]) hlt ?_; intro q4 c4 w5 R5 F5; have HR5 := Lib.hid R5; have HF5 := Lib.hid (show Fr None w4 w5 from Fr.trans (by repeat (first | exact Fr.refl _ _ | refine Fr.drew ?_ | refine Fr.alloc ?_ _)) F5); have t3 : w4.heap.size ≤ w5.heap.size := HF5.out.size; have z1w5 : w5.cell? ⟨w.heap.size, 0, none⟩ = some (.int .i64 a) := cell_frN HF5.out ((HS4.out.at_ 0 rfl).cell 0); have z2w5 : w5.cell? ⟨w.heap.size, 1, none⟩ = some (.int .i64 b) := cell_frN HF5.out ((HS4.out.at_ 0 rfl).cell 1); have z3w5 : w5.cell? ⟨p, 0, none⟩ = some (.slice q l.length cap) := cell_frN HF5.out ((HS4.out.at_ 1 rfl).cell 0); (first | (have HZ : RowKit.Hid (Blk w5 w4.heap.size SpT #[.int .i64 0, .int .i64 0]) := Lib.hid (blk_up HZ2.out F5)) | (have HZ : RowKit.Hid (Blk w5 (w4.heap.size + 1) SpT #[.int .i64 0, .int .i64 0]) := Lib.hid (blk_up HZ3.out F5)) | skip); clear R5 F5)
    | ((with_reducible refine (HH.out _ _ _ (by exact HR5.out.fr (D := None) (by repeat (first | exact Fr.refl _ _ | refine Fr.drew ?_ | refine Fr.alloc ?_ _)) (fun _ _ h => h))).mono ?_); rintro e6 w6 ⟨rfl, F6⟩; have HF6 := Lib.hid (show Fr None w4 w6 from HF5.out.trans (Fr.trans (by repeat (first | exact Fr.refl _ _ | refine Fr.drew ?_ | refine Fr.alloc ?_ _)) F6)); have z1w6 : w6.cell? ⟨w.heap.size, 0, none⟩ = some (.int .i64 a) := cell_frN HF6.out ((HS4.out.at_ 0 rfl).cell 0); have z2w6 : w6.cell? ⟨w.heap.size, 1, none⟩ = some (.int .i64 b) := cell_frN HF6.out ((HS4.out.at_ 0 rfl).cell 1); have z3w6 : w6.cell? ⟨p, 0, none⟩ = some (.slice q l.length cap) := cell_frN HF6.out ((HS4.out.at_ 1 rfl).cell 0); (first | (have HZ6 : RowKit.Hid (Blk w6 w4.heap.size SpT #[.int .i64 0, .int .i64 0]) := Lib.hid (blk_up HZ.out F6); obtain ⟨y1, y2, y3, y4, y5, y6, y7⟩ := zero_cells HZ6.out) | (have HZ6 : RowKit.Hid (Blk w6 (w4.heap.size + 1) SpT #[.int .i64 0, .int .i64 0]) := Lib.hid (blk_up HZ.out F6); obtain ⟨y1, y2, y3, y4, y5, y6, y7⟩ := zero_cells HZ6.out) | (have HZ6 : RowKit.Hid (Blk w6 w5.heap.size SpT #[.int .i64 0, .int .i64 0]) := Lib.hid (blk_up (Blk.new w5 SpT #[.int .i64 0, .int .i64 0]) F6); obtain ⟨y1, y2, y3, y4, y5, y6, y7⟩ := zero_cells HZ6.out) | skip); clear F6)
    | fail)
  all_goals clear HB1 HB2 HB3 HZ2 HZ3 HH HRD hcut
  · obtain ⟨Z, hZ⟩ : ∃ Z, Z = w6.alloc (.cells #[.int .i64 h1, .int .i64 h2] SpT) := ⟨_, rfl⟩
    have HFZ := Lib.hid (show Fr None w4 Z from hZ ▸ HF6.out.alloc _)
    have HBZ := Lib.hid (show Blk Z w6.heap.size SpT #[.int .i64 h1, .int .i64 h2] by rw [hZ]; exact Blk.new w6 _ _)
    rw [← hZ]
    clear hZ
    have SZ := HS4.out.same HFZ.out
    have e0 : Z.cell? ⟨_, 0, none⟩ = some (.int .i64 h1) := HBZ.out.cell 0
    have e1 : Z.cell? ⟨_, 1, none⟩ = some (.int .i64 h2) := HBZ.out.cell 1
    have SV := SZ.alloc #[.int .i64 h1, .int .i64 h2] SpT
    have SL : Sep (fpL (rns p q cap l)) w (Z.alloc (.cells #[.int .i64 h1, .int .i64 h2] SpT)) ((rns p q cap l ++ [sblk Z.heap.size (h1, h2)]) ++ [sblk w.heap.size (a, b)]) := SV.perm (by
      show List.Perm [_, _, _, _] [_, _, _, _]
      exact List.perm_append_comm (l₁ := [_, _]) (l₂ := [_, _]))
    have m1 : (Z.alloc (.cells #[.int .i64 h1, .int .i64 h2] SpT)).cell? ⟨p, 0, none⟩ = some (.slice q l.length cap) := (SL.at_ 0 rfl).cell 0
    have hb := within_bounds HO.out (a, b)
    have hb2 := lenS_bounds (a, b)
    have ew : IntKind.i64.wrap (lenS (a, b) - withinL l (a, b)) = lenS (a, b) - withinL l (a, b) := by simp [IntKind.wrap, IntKind.bits, IntKind.signed]; omega
    have eA : addL l (a, b) = l.take lo ++ ([(h1, h2)] ++ l.drop hi) := by rw [HA.out, HX.out]; rfl
    have eN : (addL l (a, b)).length = l.length - (hi - lo) + 1 := by rw [eA]; simp; omega
    have HSL := Lib.hid SL
    clear SV SZ SL hb hb2
    by_cases hroom : l.length - (hi - lo) + 1 ≤ 4096
    · have HLA := Lib.hid (lay1_all p q cap l lo hi Z.heap.size (h1, h2) _ hlohi hhi hl hroom HSL.out.head)
      rw [← eA] at HLA
      have HEN := Lib.hid (show (addL l (a, b)).length ≤ 4096 by omega)
      clear hroom eA eN
      go_wp2_with (first
        | ((with_reducible refine (HLA.out).mono ?_); rintro e7 w7 ⟨rfl, q7, c7, T7⟩; have S7 := HSL.out.did T7; have j1 : w7.cell? ⟨w.heap.size, 0, none⟩ = some (.int .i64 a) := (S7.at_ 3 rfl).cell 0; have j2 : w7.cell? ⟨w.heap.size, 1, none⟩ = some (.int .i64 b) := (S7.at_ 3 rfl).cell 1; have HS7 := Lib.hid S7; clear S7 T7)
        | ((with_reducible refine (len_any a b w7).mono ?_); rintro e8 w8 ⟨rfl, F8⟩; have HS8 := Lib.hid (HS7.out.same F8); clear F8)
        | fail)
      go_ret2
      exact .inl ⟨HEN.out, by simp, q7, c7, HS8.out.drop (List.sublist_append_of_sublist_left (List.sublist_append_left (rns p q7 c7 (addL l (a, b))) _))⟩
    · have HLA := Lib.hid (lay_full p q cap l.length lo hi (some ⟨Z.heap.size, 0, none⟩) 1 1 _ m1 hlohi hhi (by omega) (by decide) (by omega))
      have HEN := Lib.hid (show 4096 < (addL l (a, b)).length by omega)
      clear hroom eA eN
      go_wp2_with (first
        | ((with_reducible refine (HLA.out).mono ?_); rintro e7 w7 ⟨rfl, rfl⟩)
        | fail)
      go_ret2
      exact .inr ⟨HEN.out, rfl, HSL.out.drop (List.sublist_append_of_sublist_left (List.sublist_append_left (rns p q cap l) _))⟩
  · have HZZ := store2 (x := h1) (y := h2) HZ6.out HF6.out (by omega)
    generalize (w6.setCell ⟨w5.heap.size, 0, none⟩ (.int .i64 h1)).setCell ⟨w5.heap.size, 1, none⟩ (.int .i64 h2) = Z at *
    have HFZ := Lib.hid HZZ.out.1
    have HBZ := Lib.hid HZZ.out.2
    have SZ := HS4.out.same HFZ.out
    have e0 : Z.cell? ⟨_, 0, none⟩ = some (.int .i64 h1) := HBZ.out.cell 0
    have e1 : Z.cell? ⟨_, 1, none⟩ = some (.int .i64 h2) := HBZ.out.cell 1
    have SV := SZ.alloc #[.int .i64 h1, .int .i64 h2] SpT
    have SL : Sep (fpL (rns p q cap l)) w (Z.alloc (.cells #[.int .i64 h1, .int .i64 h2] SpT)) ((rns p q cap l ++ [sblk Z.heap.size (h1, h2)]) ++ [sblk w.heap.size (a, b)]) := SV.perm (by
      show List.Perm [_, _, _, _] [_, _, _, _]
      exact List.perm_append_comm (l₁ := [_, _]) (l₂ := [_, _]))
    have m1 : (Z.alloc (.cells #[.int .i64 h1, .int .i64 h2] SpT)).cell? ⟨p, 0, none⟩ = some (.slice q l.length cap) := (SL.at_ 0 rfl).cell 0
    have hb := within_bounds HO.out (a, b)
    have hb2 := lenS_bounds (a, b)
    have ew : IntKind.i64.wrap (lenS (a, b) - withinL l (a, b)) = lenS (a, b) - withinL l (a, b) := by simp [IntKind.wrap, IntKind.bits, IntKind.signed]; omega
    have eA : addL l (a, b) = l.take lo ++ ([(h1, h2)] ++ l.drop hi) := by rw [HA.out, HX.out]; rfl
    have eN : (addL l (a, b)).length = l.length - (hi - lo) + 1 := by rw [eA]; simp; omega
    have HSL := Lib.hid SL
    clear SV SZ SL hb hb2
    by_cases hroom : l.length - (hi - lo) + 1 ≤ 4096
    · have HLA := Lib.hid (lay1_all p q cap l lo hi Z.heap.size (h1, h2) _ hlohi hhi hl hroom HSL.out.head)
      rw [← eA] at HLA
      have HEN := Lib.hid (show (addL l (a, b)).length ≤ 4096 by omega)
      clear hroom eA eN
      go_wp2_with (first
        | ((with_reducible refine (HLA.out).mono ?_); rintro e7 w7 ⟨rfl, q7, c7, T7⟩; have S7 := HSL.out.did T7; have j1 : w7.cell? ⟨w.heap.size, 0, none⟩ = some (.int .i64 a) := (S7.at_ 3 rfl).cell 0; have j2 : w7.cell? ⟨w.heap.size, 1, none⟩ = some (.int .i64 b) := (S7.at_ 3 rfl).cell 1; have HS7 := Lib.hid S7; clear S7 T7)
        | ((with_reducible refine (len_any a b w7).mono ?_); rintro e8 w8 ⟨rfl, F8⟩; have HS8 := Lib.hid (HS7.out.same F8); clear F8)
        | fail)
      go_ret2
      exact .inl ⟨HEN.out, by simp, q7, c7, HS8.out.drop (List.sublist_append_of_sublist_left (List.sublist_append_left (rns p q7 c7 (addL l (a, b))) _))⟩
    · have HLA := Lib.hid (lay_full p q cap l.length lo hi (some ⟨Z.heap.size, 0, none⟩) 1 1 _ m1 hlohi hhi (by omega) (by decide) (by omega))
      have HEN := Lib.hid (show 4096 < (addL l (a, b)).length by omega)
      clear hroom eA eN
      go_wp2_with (first
        | ((with_reducible refine (HLA.out).mono ?_); rintro e7 w7 ⟨rfl, rfl⟩)
        | fail)
      go_ret2
      exact .inr ⟨HEN.out, rfl, HSL.out.drop (List.sublist_append_of_sublist_left (List.sublist_append_left (rns p q cap l) _))⟩
  · have HZZ := store2 (x := h1) (y := h2) HZ6.out HF6.out (by omega)
    generalize (w6.setCell ⟨w4.heap.size + 1, 0, none⟩ (.int .i64 h1)).setCell ⟨w4.heap.size + 1, 1, none⟩ (.int .i64 h2) = Z at *
    have HFZ := Lib.hid HZZ.out.1
    have HBZ := Lib.hid HZZ.out.2
    have SZ := HS4.out.same HFZ.out
    have e0 : Z.cell? ⟨_, 0, none⟩ = some (.int .i64 h1) := HBZ.out.cell 0
    have e1 : Z.cell? ⟨_, 1, none⟩ = some (.int .i64 h2) := HBZ.out.cell 1
    have SV := SZ.alloc #[.int .i64 h1, .int .i64 h2] SpT
    have SL : Sep (fpL (rns p q cap l)) w (Z.alloc (.cells #[.int .i64 h1, .int .i64 h2] SpT)) ((rns p q cap l ++ [sblk Z.heap.size (h1, h2)]) ++ [sblk w.heap.size (a, b)]) := SV.perm (by
      show List.Perm [_, _, _, _] [_, _, _, _]
      exact List.perm_append_comm (l₁ := [_, _]) (l₂ := [_, _]))
    have m1 : (Z.alloc (.cells #[.int .i64 h1, .int .i64 h2] SpT)).cell? ⟨p, 0, none⟩ = some (.slice q l.length cap) := (SL.at_ 0 rfl).cell 0
    have hb := within_bounds HO.out (a, b)
    have hb2 := lenS_bounds (a, b)
    have ew : IntKind.i64.wrap (lenS (a, b) - withinL l (a, b)) = lenS (a, b) - withinL l (a, b) := by simp [IntKind.wrap, IntKind.bits, IntKind.signed]; omega
    have eA : addL l (a, b) = l.take lo ++ ([(h1, h2)] ++ l.drop hi) := by rw [HA.out, HX.out]; rfl
    have eN : (addL l (a, b)).length = l.length - (hi - lo) + 1 := by rw [eA]; simp; omega
    have HSL := Lib.hid SL
    clear SV SZ SL hb hb2
    by_cases hroom : l.length - (hi - lo) + 1 ≤ 4096
    · have HLA := Lib.hid (lay1_all p q cap l lo hi Z.heap.size (h1, h2) _ hlohi hhi hl hroom HSL.out.head)
      rw [← eA] at HLA
      have HEN := Lib.hid (show (addL l (a, b)).length ≤ 4096 by omega)
      clear hroom eA eN
      go_wp2_with (first
        | ((with_reducible refine (HLA.out).mono ?_); rintro e7 w7 ⟨rfl, q7, c7, T7⟩; have S7 := HSL.out.did T7; have j1 : w7.cell? ⟨w.heap.size, 0, none⟩ = some (.int .i64 a) := (S7.at_ 3 rfl).cell 0; have j2 : w7.cell? ⟨w.heap.size, 1, none⟩ = some (.int .i64 b) := (S7.at_ 3 rfl).cell 1; have HS7 := Lib.hid S7; clear S7 T7)
        | ((with_reducible refine (len_any a b w7).mono ?_); rintro e8 w8 ⟨rfl, F8⟩; have HS8 := Lib.hid (HS7.out.same F8); clear F8)
        | fail)
      go_ret2
      exact .inl ⟨HEN.out, by simp, q7, c7, HS8.out.drop (List.sublist_append_of_sublist_left (List.sublist_append_left (rns p q7 c7 (addL l (a, b))) _))⟩
    · have HLA := Lib.hid (lay_full p q cap l.length lo hi (some ⟨Z.heap.size, 0, none⟩) 1 1 _ m1 hlohi hhi (by omega) (by decide) (by omega))
      have HEN := Lib.hid (show 4096 < (addL l (a, b)).length by omega)
      clear hroom eA eN
      go_wp2_with (first
        | ((with_reducible refine (HLA.out).mono ?_); rintro e7 w7 ⟨rfl, rfl⟩)
        | fail)
      go_ret2
      exact .inr ⟨HEN.out, rfl, HSL.out.drop (List.sublist_append_of_sublist_left (List.sublist_append_left (rns p q cap l) _))⟩
  · have HZZ := store2 (x := h1) (y := h2) HZ6.out HF6.out (by omega)
    generalize (w6.setCell ⟨w4.heap.size, 0, none⟩ (.int .i64 h1)).setCell ⟨w4.heap.size, 1, none⟩ (.int .i64 h2) = Z at *
    have HFZ := Lib.hid HZZ.out.1
    have HBZ := Lib.hid HZZ.out.2
    have SZ := HS4.out.same HFZ.out
    have e0 : Z.cell? ⟨_, 0, none⟩ = some (.int .i64 h1) := HBZ.out.cell 0
    have e1 : Z.cell? ⟨_, 1, none⟩ = some (.int .i64 h2) := HBZ.out.cell 1
    have SV := SZ.alloc #[.int .i64 h1, .int .i64 h2] SpT
    have SL : Sep (fpL (rns p q cap l)) w (Z.alloc (.cells #[.int .i64 h1, .int .i64 h2] SpT)) ((rns p q cap l ++ [sblk Z.heap.size (h1, h2)]) ++ [sblk w.heap.size (a, b)]) := SV.perm (by
      show List.Perm [_, _, _, _] [_, _, _, _]
      exact List.perm_append_comm (l₁ := [_, _]) (l₂ := [_, _]))
    have m1 : (Z.alloc (.cells #[.int .i64 h1, .int .i64 h2] SpT)).cell? ⟨p, 0, none⟩ = some (.slice q l.length cap) := (SL.at_ 0 rfl).cell 0
    have hb := within_bounds HO.out (a, b)
    have hb2 := lenS_bounds (a, b)
    have ew : IntKind.i64.wrap (lenS (a, b) - withinL l (a, b)) = lenS (a, b) - withinL l (a, b) := by simp [IntKind.wrap, IntKind.bits, IntKind.signed]; omega
    have eA : addL l (a, b) = l.take lo ++ ([(h1, h2)] ++ l.drop hi) := by rw [HA.out, HX.out]; rfl
    have eN : (addL l (a, b)).length = l.length - (hi - lo) + 1 := by rw [eA]; simp; omega
    have HSL := Lib.hid SL
    clear SV SZ SL hb hb2
    by_cases hroom : l.length - (hi - lo) + 1 ≤ 4096
    · have HLA := Lib.hid (lay1_all p q cap l lo hi Z.heap.size (h1, h2) _ hlohi hhi hl hroom HSL.out.head)
      rw [← eA] at HLA
      have HEN := Lib.hid (show (addL l (a, b)).length ≤ 4096 by omega)
      clear hroom eA eN
      go_wp2_with (first
        | ((with_reducible refine (HLA.out).mono ?_); rintro e7 w7 ⟨rfl, q7, c7, T7⟩; have S7 := HSL.out.did T7; have j1 : w7.cell? ⟨w.heap.size, 0, none⟩ = some (.int .i64 a) := (S7.at_ 3 rfl).cell 0; have j2 : w7.cell? ⟨w.heap.size, 1, none⟩ = some (.int .i64 b) := (S7.at_ 3 rfl).cell 1; have HS7 := Lib.hid S7; clear S7 T7)
        | ((with_reducible refine (len_any a b w7).mono ?_); rintro e8 w8 ⟨rfl, F8⟩; have HS8 := Lib.hid (HS7.out.same F8); clear F8)
        | fail)
      go_ret2
      exact .inl ⟨HEN.out, by simp, q7, c7, HS8.out.drop (List.sublist_append_of_sublist_left (List.sublist_append_left (rns p q7 c7 (addL l (a, b))) _))⟩
    · have HLA := Lib.hid (lay_full p q cap l.length lo hi (some ⟨Z.heap.size, 0, none⟩) 1 1 _ m1 hlohi hhi (by omega) (by decide) (by omega))
      have HEN := Lib.hid (show 4096 < (addL l (a, b)).length by omega)
      clear hroom eA eN
      go_wp2_with (first
        | ((with_reducible refine (HLA.out).mono ?_); rintro e7 w7 ⟨rfl, rfl⟩)
        | fail)
      go_ret2
      exact .inr ⟨HEN.out, rfl, HSL.out.drop (List.sublist_append_of_sublist_left (List.sublist_append_left (rns p q cap l) _))⟩
end Go.Proofs.Ytfobeheplficgaa
