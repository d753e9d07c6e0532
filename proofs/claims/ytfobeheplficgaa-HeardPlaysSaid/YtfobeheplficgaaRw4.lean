/- Sets of offsets: Bytes, Within: walked. -/
import Derived.Test.YtfobeheplficgaaRw3
set_option linter.unusedVariables false
set_option linter.unusedSimpArgs false
namespace Go.Proofs.Ytfobeheplficgaa
open Go.RowKit Go.Und Go.Shelf
attribute [local go_sem] Oper.semAt_some

abbrev IntT : TypeId := 3
def OfD (B : Nat) (b : Nat) (_ : TypeId) : Prop := b = B
theorem wpIn_rangeXB {α : Type} {n : Nat} {P : Program} {g : Operand} {ps : Array Tmp} {assign body : Code} {Q : Exit → Act → World → Prop} {a : Act} {w : World}
    {gf : Nat} {lb : Array Value} (hg : a.eval g = .func (.func gf) #[] lb) (eg : ∀ args w, (callFunc gf args).run P w = .ok (.enter gf args) w)
    {encs : α → Array Value} {Kp : World → World → Prop} {S Sp : List α → Prop} {N : Nat} {w0 : World} (hseq : SeqX (n - 1) P gf lb encs Kp S Sp N w0)
    (hKt : ∀ {A B C : World}, Kp A B → Kp B C → Kp A C) (hKb : ∀ (W : World) (l : Nat) (o o' : Obj), w.heap.size ≤ l → W.heap[l]? = some o → o.isCells = false → o.isWalk = false → Kp W (W.putObj l o')) (hb0 : Below w0.heap.size w0 w) (hps : ∀ x, (encs x).size = ps.size)
    (I : List α → World → Prop) (Ix : Code → List α → World → Prop) (hI : OwnFrom w.heap.size I) (hIx : ∀ c, OwnFrom w.heap.size (Ix c)) (h0 : I [] w) (fA : α → Nat → Act) (Ax : α → Nat → World → Prop) (hAx : ∀ x k, OwnFrom w.heap.size (fun (_ : Unit) W => Ax x k W))
    (hassign : ∀ (l : Nat) (pre : List α) (x : α) (W : World) (K : Act → World → Prop), I pre W → (∀ k W', KeepsFrom w.heap.size W W' → Kp W W' → I pre W' → Ax x k W' → K (fA x k) W') →
      assign.wpIn (Fence.wide.inRound l) (n - 1 - 1) P (Exit.then K (fun _ _ _ => False)) { tmps := (ps.zip (encs x)).foldl (fun t (p, v) => t.setIfInBounds p v) a.tmps, defers := [] } W)
    (hbody : ∀ (l : Nat) (pre : List α) (x : α) (k : Nat) (W : World), I pre W → Ax x k W → pre.length < N → body.wpIn (Fence.wide.inRound l) (n - 1 - 1) P (ownPostG w.heap.size Kp I Ix (pre ++ [x]) W) (fA x k) W)
    (hdone : ∀ (D : Nat) (xs : List α) (W : World), w.heap.size ≤ D → S xs → I xs W → W.heap[D]? = some (.deferred (some [])) → Q .normal { a with defers := { target := .collected D, args := #[] } :: a.defers } W)
    (hstop : ∀ (D : Nat) (c : Code) (pre : List α) (W : World), w.heap.size ≤ D → Sp pre → Ix c pre W → W.heap[D]? = some (.deferred (some [])) → c.wpIn Fence.wide n P Q { a with defers := { target := .collected D, args := #[] } :: a.defers } W) :
    (Code.rangeFunc g ps assign body).wpIn Fence.wide n P Q a w :=
  wpIn_rangeXA hg eg hseq (fun h k => hKt h k) hKb hb0 hps I Ix hI hIx h0 (fun x a' W => ∃ k, a' = fA x k ∧ Ax x k W)
    (fun x a' s A C row hs hg hr => hs.imp fun k h => ⟨h.1, hAx x k s A C row h.2 hg hr⟩)
    (fun l pre x W K hi hK => hassign l pre x W K hi fun k W' h1 h2 h3 h4 => hK _ _ h1 h2 h3 ⟨k, rfl, h4⟩)
    (fun l pre x a' W hi ⟨k, e, hx⟩ hl => by subst e; exact hbody l pre x k W hi hx hl) hdone hstop
theorem frC_b {D : Nat → TypeId → Prop} {S : Nat} (W : World) (l : Nat) (o o' : Obj) (_ : S ≤ l) (h : W.heap[l]? = some o) (hc : o.isCells = false) (_ : o.isWalk = false) : FrC D W (W.putObj l o') := FrC.putObj W l o o' h hc
/-- A sum as a word of 64 bits. -/
def sumI (l : List (Int × Int)) : Int := wrap64 (bytesL l)
theorem wrap_add (a b : Int) : wrap64 (wrap64 a + b) = wrap64 (a + b) := by
  simp only [wrap64]
  repeat' split
  all_goals omega
theorem sumI_snoc (l : List (Int × Int)) (x : Int × Int) : sumI (l ++ [x]) = wrap64 (sumI l + lenS x) := by
  unfold sumI
  rw [bytes_snoc, wrap_add]
theorem sumI_is {l : List (Int × Int)} (h : 0 ≤ bytesL l ∧ bytesL l ≤ 4611686018427387904) : sumI l = bytesL l := by
  unfold sumI
  simp only [wrap64]
  omega
theorem sumI_nil : sumI [] = 0 := by simp [sumI, bytesL, wrap64]
theorem odd_done {D : Nat → Prop} {w V : World} {L : List Ob} {D' : Nat} {x : Option (List Deferred)} (S : Sep D w V L) (hK : V.heap[D']? = some (.deferred x)) (hB : w.heap.size ≤ D') : Sep D w (V.putObj D' (.deferred none)) L :=
  Sep.odd S (B := D') ⟨rfl, rfl, rfl, by simp, fun k hk hn => World.putObj_heap_other (fun e => hn (by subst e; exact ⟨Nat.le_refl _, _, hK, rfl⟩))⟩ hB
def SumAt (w : World) (B : Nat) (L : List Ob) (pre : List (Int × Int)) (V : World) : Prop := Sep None w V (Ob.blk B IntT #[.int .i64 (sumI pre)] :: L)
set_option maxRecDepth 100000 in
set_option maxHeartbeats 4000000 in
theorem bytes_any (rp : Nat) (q : Option Addr) (cap : Nat) (l : List (Int × Int)) (w : World) (ok : OkL l) (hl : l.length ≤ 1000000) (c3 : w.cell? ⟨rp, 0, none⟩ = some (.slice q l.length cap)) (hr : Reads w 2 q l.length cap (fc spc l)) :
    Calls Try.prog 21 #[.pointer (at0 rp)] w fun e w' => e = .returned (.int .i64 (bytesL l)) ∧ Fr None w w' := by
  have S0 := ((Sep.law w).alloc #[.int .i64 0] IntT).skip (.cells #[.pointer (at0 rp)] RpT)
  have HA := Lib.hid (allF_any rp (w.alloc (.cells #[.int .i64 0] IntT)))
  have hbx := (Blk.new (w.alloc (.cells #[.int .i64 0] IntT)) RpT #[.pointer (at0 rp)]).cell 0
  have hsb : rp < w.heap.size := World.block_lt_of_cell? w _ c3
  have hsz : ((w.alloc (.cells #[.int .i64 0] IntT)).alloc (.cells #[.pointer (at0 rp)] RpT)).heap.size = w.heap.size + 2 := by simp
  simp only [World.size_alloc] at HA hbx
  generalize eW : (w.alloc (.cells #[.int .i64 0] IntT)).alloc (.cells #[.pointer (at0 rp)] RpT) = W0 at S0 hbx hsz
  have EW := Lib.hid eW; clear eW
  have hWA : RnAt (w.heap.size + 1) rp q cap l W0 := ⟨hbx, cell_frN S0.fr c3, hr.fr S0.fr (fun _ _ h => h)⟩
  have hoff : Off (OfD w.heap.size) (w.heap.size + 1) rp q l := ⟨fun t => by unfold OfD; omega, fun t => by unfold OfD; omega, fun g ad had t => by
    have := hr.lt (by rw [fc_length spc_len]; have := List.length_pos_iff.2 g; omega) ad had; unfold OfD; omega⟩
  have HS := Lib.hid (fun n => SeqX.of_k (all_stops n (w.heap.size + 1) rp q cap l W0 hl (OfD w.heap.size) hWA hoff))
  have H0 := Lib.hid (show SumAt w w.heap.size [] [] W0 from by unfold SumAt; rw [sumI_nil]; exact S0)
  have HZ := Lib.hid hsz
  have HB0 := Lib.hid (show w.heap.size < W0.heap.size by omega)
  have hbb := bytes_bounds ok
  have HSU := Lib.hid (sumI_is hbb)
  clear S0 hbx hsz hWA c3 hr hoff ok
  refine (callsIn_wide (n := 5)).1 ?_
  refine callsIn_of_wp_marks Try.func21 rfl trivial ?_ rfl
  simp only [Try.ntmps21, List.size_toArray, List.length_cons, List.length_nil, Nat.reduceAdd, Nat.reduceSub, Array.replicate_succ, Array.replicate_zero, List.push_toArray, List.append_toArray, List.nil_append, List.cons_append]
  gi_wp2_with fail
  refine ⟨trivial, (callsIn_wide.2 HA.out).mono ?_⟩
  rintro e w1 ⟨rfl, e1⟩
  simp only [EW.out] at e1
  simp only [e1]
  clear e1 w1
  gi_wp2_with fail
  refine wpIn_rangeXB (gf := 61) (lb := #[.pointer (at0 (w.heap.size + 1))]) rfl (enters_of Try.func61 (by kernel_rfl) rfl) (HS.out _) (fun h k => h.trans k) frC_b (Below.refl _ _) (fun _ => rfl)
    (SumAt w w.heap.size []) (fun _ _ _ => False) (ownFrom_of fun s A C h f => Sep.odd h f (by rw [HZ.out]; omega)) (fun _ _ _ _ _ h _ _ => h) H0.out ?fA (fun x k V => Blk V k SpT #[.int .i64 x.1, .int .i64 x.2] ∧ k ≠ w.heap.size) (fun x k => ownFrom_of fun s A C h f => ⟨h.1.fr f h.1.odd, h.2⟩) ?assign ?body ?done ?stop
  case assign =>
    intro l pre x V K hI hK
    gi_wp2
    have hlt : w.heap.size < V.heap.size := (hI.at_ 0 rfl).lt
    have f : Fr None V (V.alloc (.cells #[.int .i64 x.1, .int .i64 x.2] SpT)) := (Fr.refl None V).alloc _
    have hK' := hK V.heap.size (V.alloc (.cells #[.int .i64 x.1, .int .i64 x.2] SpT)) (KeepsFrom.of_fr f (fun _ _ h => h.elim)) (FrC.none f) (hI.same f) ⟨Blk.new V SpT _, by omega⟩
    clear hI hK f hlt
    generalize V.heap.size = k at *
    exact hK'
  case body =>
    rintro l pre ⟨x1, x2⟩ k V hI ⟨hk, hne⟩ hlen
    have c1 : V.cell? ⟨w.heap.size, 0, none⟩ = some (.int .i64 (sumI pre)) := (hI.at_ 0 rfl).cell 0
    have x1c : V.cell? ⟨k, 0, none⟩ = some (.int .i64 x1) := hk.cell 0
    have x2c : V.cell? ⟨k, 1, none⟩ = some (.int .i64 x2) := hk.cell 1
    have HI := Lib.hid hI
    have HN := Lib.hid (len_any x1 x2 V.drew)
    have HSn := Lib.hid (sumI_snoc pre (x1, x2))
    clear hI hk
    gi_wp2_with fail
    refine wpIn_region_round (by kernel_rfl) (by kernel_rfl) ?_
    refine atOp_any (n := 0 + 1 + 1 + 1 + 1 + 1) (L := #[false, false, false, false, false]) (by simp) (by kernel_rfl) ?_
    refine wpAnyIn_ready (rs := [0, 1]) (by kernel_rfl) (by simp) ?_
    refine AllReadyIn.cons rfl (fun K hK => ?_) (AllReadyIn.cons rfl (fun K hK => ?_) AllReadyIn.nil)
    all_goals (go_simp; refine hK _ _ ?_; clear hK K)
    · skip
      refine atOp_back (s := 1) (by simp) (by kernel_rfl) ?_
      go_simp
      refine segF_still 2 (by kernel_rfl) ?_
      simp only [List.drop_succ_cons, List.drop_zero, List.take_succ_cons, List.take_zero]
      repeat (go_big_quiet_step (fail))
      refine wpQuiet_nil ?_
      refine seg_one (by kernel_rfl) fun K hK => ?_
      simp only [List.drop_succ_cons, List.drop_zero, List.take_succ_cons, List.take_zero]
      gi_wp2_with fail
      first | refine ⟨trivial, (callsIn_wide.2 (HN.out)).mono ?_⟩ | refine ⟨trivial, fun h => (by cases h), (callsIn_wide.2 (HN.out)).mono ?_⟩
      rintro e w2 ⟨rfl, f2⟩
      have S2 := HI.out.drew.same f2
      have F2 := (Fr.refl None V).drew.trans f2
      have c2 : w2.cell? ⟨w.heap.size, 0, none⟩ = some (.int .i64 (sumI pre)) := (S2.at_ 0 rfl).cell 0
      have z2 : w2.frozen? ⟨w.heap.size, 0, none⟩ = false := (S2.at_ 0 rfl).frozen 0
      have S3 := S2.set 0 rfl 0 (.int .i64 (sumI (pre ++ [(x1, x2)])))
      have hB := S2.at_ 0 rfl
      have f3 : Fr (· = w.heap.size) V (w2.setCell ⟨w.heap.size, 0, none⟩ (.int .i64 (sumI (pre ++ [(x1, x2)])))) := Fr.setCell (D := (· = w.heap.size)) (F2.mono fun _ _ h => h.elim) (p := ⟨w.heap.size, 0, none⟩) (fun _ => rfl) _
      have HX := Lib.hid (And.intro (KeepsFrom.of_fr (B := W0.heap.size) f3 (fun k o hk hle => by have := HB0.out; omega)) (And.intro (FrC.of_fr (D := OfD (w.heap.size)) f3 (fun i cs t z _ h => h)) (show SumAt w w.heap.size [] (pre ++ [(x1, x2)]) _ from S3)))
      rw [HSn.out] at HX
      clear S2 S3 F2 f2 f3 hB
      dsimp only
      gi_wp2_with fail
      refine seg_still 4 (by kernel_rfl) ?_
      simp only [List.drop_succ_cons, List.drop_zero, List.take_succ_cons, List.take_zero]
      repeat (go_big_quiet_step (fail))
      refine wpQuiet_nil ?_
      refine seg_one (by kernel_rfl) fun K hK => ?_
      simp only [List.drop_succ_cons, List.drop_zero, List.take_succ_cons, List.take_zero]
      gi_wp2_with fail
      refine seg_done (by rfl) (by kernel_rfl) ?_
      gi_wp2_with fail
      exact HX.out
    · skip
      refine wpAnyIn_ready (rs := [0, 2]) (by kernel_rfl) (by simp) ?_
      refine AllReadyIn.cons rfl (fun K hK => ?_) (AllReadyIn.cons rfl (fun K hK => ?_) AllReadyIn.nil)
      · go_simp
        refine hK _ _ ?_
        clear hK K
        refine atOp_back (s := 2) (by simp) (by kernel_rfl) ?_
        go_simp
        refine seg_one (by kernel_rfl) fun K hK => ?_
        simp only [List.drop_succ_cons, List.drop_zero, List.take_succ_cons, List.take_zero]
        gi_wp2_with fail
        first | refine ⟨trivial, (callsIn_wide.2 (HN.out)).mono ?_⟩ | refine ⟨trivial, fun h => (by cases h), (callsIn_wide.2 (HN.out)).mono ?_⟩
        rintro e w2 ⟨rfl, f2⟩
        have S2 := HI.out.drew.same f2
        have F2 := (Fr.refl None V).drew.trans f2
        have c2 : w2.cell? ⟨w.heap.size, 0, none⟩ = some (.int .i64 (sumI pre)) := (S2.at_ 0 rfl).cell 0
        have z2 : w2.frozen? ⟨w.heap.size, 0, none⟩ = false := (S2.at_ 0 rfl).frozen 0
        have S3 := S2.set 0 rfl 0 (.int .i64 (sumI (pre ++ [(x1, x2)])))
        have hB := S2.at_ 0 rfl
        have f3 : Fr (· = w.heap.size) V (w2.setCell ⟨w.heap.size, 0, none⟩ (.int .i64 (sumI (pre ++ [(x1, x2)])))) := Fr.setCell (D := (· = w.heap.size)) (F2.mono fun _ _ h => h.elim) (p := ⟨w.heap.size, 0, none⟩) (fun _ => rfl) _
        have HX := Lib.hid (And.intro (KeepsFrom.of_fr (B := W0.heap.size) f3 (fun k o hk hle => by have := HB0.out; omega)) (And.intro (FrC.of_fr (D := OfD (w.heap.size)) f3 (fun i cs t z _ h => h)) (show SumAt w w.heap.size [] (pre ++ [(x1, x2)]) _ from S3)))
        rw [HSn.out] at HX
        clear S2 S3 F2 f2 f3 hB
        dsimp only
        gi_wp2_with fail
        refine seg_still 4 (by kernel_rfl) ?_
        simp only [List.drop_succ_cons, List.drop_zero, List.take_succ_cons, List.take_zero]
        repeat (go_big_quiet_step (fail))
        refine wpQuiet_nil ?_
        refine seg_one (by kernel_rfl) fun K hK => ?_
        simp only [List.drop_succ_cons, List.drop_zero, List.take_succ_cons, List.take_zero]
        gi_wp2_with fail
        refine seg_done (by rfl) (by kernel_rfl) ?_
        gi_wp2_with fail
        exact HX.out
      · go_simp
        refine ⟨trivial, (callsIn_wide.2 HN.out).mono ?_⟩
        rintro e w2 ⟨rfl, f2⟩
        have S2 := HI.out.drew.same f2
        have F2 := (Fr.refl None V).drew.trans f2
        have c2 : w2.cell? ⟨w.heap.size, 0, none⟩ = some (.int .i64 (sumI pre)) := (S2.at_ 0 rfl).cell 0
        have z2 : w2.frozen? ⟨w.heap.size, 0, none⟩ = false := (S2.at_ 0 rfl).frozen 0
        have S3 := S2.set 0 rfl 0 (.int .i64 (sumI (pre ++ [(x1, x2)])))
        have hB := S2.at_ 0 rfl
        have f3 : Fr (· = w.heap.size) V (w2.setCell ⟨w.heap.size, 0, none⟩ (.int .i64 (sumI (pre ++ [(x1, x2)])))) := Fr.setCell (D := (· = w.heap.size)) (F2.mono fun _ _ h => h.elim) (p := ⟨w.heap.size, 0, none⟩) (fun _ => rfl) _
        have HX := Lib.hid (And.intro (KeepsFrom.of_fr (B := W0.heap.size) f3 (fun k o hk hle => by have := HB0.out; omega)) (And.intro (FrC.of_fr (D := OfD (w.heap.size)) f3 (fun i cs t z _ h => h)) (show SumAt w w.heap.size [] (pre ++ [(x1, x2)]) _ from S3)))
        rw [HSn.out] at HX
        clear S2 S3 F2 f2 f3 hB
        dsimp only
        gi_wp2_with fail
        refine wpAnyIn_ready (rs := [0]) (by kernel_rfl) (by simp) ?_
        refine AllReadyIn.cons rfl (fun K hK => ?_) AllReadyIn.nil
        go_simp
        refine hK _ _ ?_
        clear hK K
        refine atOp_back (s := 3) (by simp) (by kernel_rfl) ?_
        go_simp
        refine seg_still 4 (by kernel_rfl) ?_
        simp only [List.drop_succ_cons, List.drop_zero, List.take_succ_cons, List.take_zero]
        repeat (go_big_quiet_step (fail))
        refine wpQuiet_nil ?_
        refine seg_one (by kernel_rfl) fun K hK => ?_
        simp only [List.drop_succ_cons, List.drop_zero, List.take_succ_cons, List.take_zero]
        gi_wp2_with fail
        refine seg_done (by rfl) (by kernel_rfl) ?_
        gi_wp2_with fail
        exact HX.out
  case done =>
    rintro D' ys V hD rfl hI hK
    have c1 : V.cell? ⟨w.heap.size, 0, none⟩ = some (.int .i64 (bytesL ys)) := by rw [← HSU.out]; exact (hI.at_ 0 rfl).cell 0
    have HI := Lib.hid hI; clear hI
    gi_wp2_with fail
    refine ⟨by simp, .inl ⟨_, _, rfl, run_takeDeferred hK, ?_⟩⟩
    refine ⟨_, results_tmp (t := 2) rfl _ _ _, rfl, ?_⟩
    exact (odd_done HI.out hK (by rw [HZ.out] at hD; omega)).fr
  case stop =>
    rintro D' c pre V _ _ h _
    exact h.elim

/-- What is within a span lies in the runs that are gone through. -/
theorem meet_none {x s : Int × Int} (hx : PrS x) (h : x.2 ≤ s.1 ∨ s.2 ≤ x.1) (hs : PrS s) : lenS (meetS x s) = 0 := by
  rcases Int.lt_trichotomy 0 (lenS (meetS x s)) with g | g | g
  · have p := lenS_ne (s := meetS x s) (by omega)
    have := (in_meet x s (meetS x s).1).1 ((inS_pr p _).2 ⟨Int.le_refl _, p.2.1⟩)
    rw [inS_pr hx, inS_pr hs] at this
    omega
  · exact g.symm
  · have := (lenS_bounds (meetS x s)).1; omega
theorem within_zero {l : List (Int × Int)} {s : Int × Int} (h : ∀ x ∈ l, lenS (meetS x s) = 0) : withinL l s = 0 := by
  unfold withinL
  induction l with
  | nil => rfl
  | cons x l ih => rw [List.map_cons, List.sum_cons, h x List.mem_cons_self, ih fun y hy => h y (List.mem_cons_of_mem _ hy)]; rfl
theorem within_append (a b : List (Int × Int)) (s : Int × Int) : withinL (a ++ b) s = withinL a s + withinL b s := by simp [withinL]
theorem mt_bytes {l : List (Int × Int)} (ok : OkL l) {s : Int × Int} (hs : PrS s) : bytesL (mtL l s) = withinL l s := by
  have e : bytesL (mtL l s) = withinL ((l.drop (fstP (fun x => decide (s.1 < x.2)) l)).takeWhile fun x => decide (x.1 < s.2)) s := by
    unfold bytesL mtL withinL
    rw [List.map_map]
    rfl
  have h1 := within_append (l.take (fstP (fun x => decide (s.1 < x.2)) l)) (l.drop (fstP (fun x => decide (s.1 < x.2)) l)) s
  rw [List.take_append_drop] at h1
  have h2 := within_zero (l := l.take (fstP (fun x => decide (s.1 < x.2)) l)) (s := s) fun x hx => by
    have := below_fst _ l x hx
    exact meet_none (ok.pr x (List.mem_of_mem_take hx)) (.inl (by simpa using this)) hs
  rw [e]
  have hd : OkL (l.drop (fstP (fun x => decide (s.1 < x.2)) l)) := by
    have := ok
    rw [← List.take_append_drop (fstP (fun x => decide (s.1 < x.2)) l) l] at this
    exact (okL_append.1 this).2.1
  generalize l.drop (fstP (fun x => decide (s.1 < x.2)) l) = m at *
  have h3 := within_append (m.takeWhile fun x => decide (x.1 < s.2)) (m.dropWhile fun x => decide (x.1 < s.2)) s
  rw [List.takeWhile_append_dropWhile] at h3
  have h4 := within_zero (l := m.dropWhile fun x => decide (x.1 < s.2)) (s := s) fun x hx => by
    have hx2 : s.2 ≤ x.1 := by
      clear h1 h2 h3 e ok
      induction m with
      | nil => cases hx
      | cons y m ih =>
        rw [List.dropWhile_cons] at hx
        split at hx
        · exact ih hd.2.2 hx
        · rename_i hy
          have hy' : s.2 ≤ y.1 := by simpa using hy
          rcases List.mem_cons.1 hx with rfl | hx
          · exact hy'
          · have := hd.2.1 x hx; have := hd.1.2.1; omega
    exact meet_none (hd.pr x ((List.dropWhile_sublist _).subset hx)) (.inr hx2) hs
  omega
theorem within_none {s : Int × Int} (hs : lenS s = 0) (l : List (Int × Int)) : withinL l s = 0 := within_zero fun x _ => by
  rcases Int.lt_trichotomy 0 (lenS (meetS x s)) with g | g | g
  · have p := lenS_ne (s := meetS x s) (by omega)
    have := (in_meet x s (meetS x s).1).1 ((inS_pr p _).2 ⟨Int.le_refl _, p.2.1⟩)
    exact absurd this.2 (inS_zero hs _)
  · exact g.symm
  · have := (lenS_bounds (meetS x s)).1; omega
theorem meets_stops (n bb sb rp : Nat) (q : Option Addr) (cap : Nat) (l : List (Int × Int)) (s : Int × Int) (ok : OkL l) (w : World) (hl : l.length ≤ 1000000) (D : Nat → TypeId → Prop) (hL : MtAt bb sb rp q cap l s w) (hd : Off D bb rp q l) (hs : ∀ t, ¬ D sb t) :
    SeqStopsK Fence.wide n Try.prog 90 #[.pointer (at0 bb), .pointer (at0 sb)] encS (FrC D) (fun ys => ys = mtL l s) (fun pre => pre <+: mtL l s) (mtL l s).length w := by
  intro l' J Jx W hW hJ _ hY h0
  exact meets1_in n l' bb sb rp q cap l s ok hl J Jx W hJ (fun pre x W1 hj hlen => (hY pre x W1 hj hlen).mono fun e W' h => h.imp (fun ⟨p, q, r⟩ => ⟨p, q, fun hw => hw.frC r hd hs⟩) id) (hL.fr (Fr.of_below (D := None) hW)) h0
set_option maxRecDepth 100000 in
set_option maxHeartbeats 4000000 in
theorem within_any (rp : Nat) (q : Option Addr) (cap : Nat) (l : List (Int × Int)) (a b : Int) (w : World) (ok : OkL l) (hl : l.length ≤ 1000000) (c3 : w.cell? ⟨rp, 0, none⟩ = some (.slice q l.length cap)) (hr : Reads w 2 q l.length cap (fc spc l)) :
    Calls Try.prog 18 #[.pointer (at0 rp), .agg #[.int .i64 a, .int .i64 b]] w fun e w' => e = .returned (.int .i64 (withinL l (a, b))) ∧ Fr None w w' := by
  obtain ⟨s, es⟩ : ∃ s : Int × Int, s = (a, b) := ⟨_, rfl⟩
  have S0 := ((Sep.law w).alloc #[.int .i64 a, .int .i64 b] SpT).alloc #[.int .i64 0] IntT
  have HLn := Lib.hid (len_any a b ((w.alloc (.cells #[.int .i64 a, .int .i64 b] SpT)).alloc (.cells #[.int .i64 0] IntT)))
  simp only [World.size_alloc] at S0
  have HS0 := Lib.hid S0
  have HR := Lib.hid hr
  have hsb : rp < w.heap.size := World.block_lt_of_cell? w _ c3
  have HC := Lib.hid c3
  clear S0 hr c3
  refine (callsIn_wide (n := 5)).1 ?_
  refine callsIn_of_wp_marks Try.func18 rfl trivial ?_ rfl
  simp only [Try.ntmps18, List.size_toArray, List.length_cons, List.length_nil, Nat.reduceAdd, Nat.reduceSub, Array.replicate_succ, Array.replicate_zero, List.push_toArray, List.append_toArray, List.nil_append, List.cons_append]
  gi_wp2_with fail
  refine ⟨trivial, (callsIn_wide.2 HLn.out).mono ?_⟩
  rintro e w1 ⟨rfl, f1⟩
  have S1 := HS0.out.same f1
  have n0 : w1.cell? ⟨w.heap.size + 1, 0, none⟩ = some (.int .i64 0) := (S1.at_ 0 rfl).cell 0
  have s0 : w1.cell? ⟨w.heap.size, 0, none⟩ = some (.int .i64 a) := (S1.at_ 1 rfl).cell 0
  have s1 : w1.cell? ⟨w.heap.size, 1, none⟩ = some (.int .i64 b) := (S1.at_ 1 rfl).cell 1
  have hw1 : w.heap.size + 1 < w1.heap.size := (S1.at_ 0 rfl).lt
  have HS1 := Lib.hid S1
  clear S1 f1 HS0 HLn
  by_cases hz : lenS (a, b) = 0
  · have HW := Lib.hid (within_none hz l)
    have hz2 : (lenS (a, b) == 0) = true := by simpa using hz
    clear hz
    gi_wp2_with fail
    exact ⟨_, results_tmp (t := 4) rfl _ _ _, by rw [HW.out]; rfl, HS1.out.fr⟩
  have hz2 : (lenS (a, b) == 0) = false := by simpa using hz
  have hpr : PrS (a, b) := lenS_ne hz
  have hwb := within_bounds ok (a, b)
  have hlb := lenS_bounds (a, b)
  have HSU := Lib.hid (sumI_is (l := mtL l (a, b)) (by rw [mt_bytes ok hpr]; omega))
  have HMB := Lib.hid (mt_bytes ok hpr)
  have HA := Lib.hid (meetsF_any rp a b w1)
  have hbx := (Blk.new w1 RpT #[.pointer (at0 rp)]).cell 0
  have hsx := Blk.new (w1.alloc (.cells #[.pointer (at0 rp)] RpT)) SpT #[.int .i64 a, .int .i64 b]
  have S2 := (HS1.out.skip (.cells #[.pointer (at0 rp)] RpT)).skip (.cells #[.int .i64 a, .int .i64 b] SpT)
  have hbx2 := cell_frN ((Fr.refl None (w1.alloc (.cells #[.pointer (at0 rp)] RpT))).alloc (.cells #[.int .i64 a, .int .i64 b] SpT)) hbx
  have hsz : ((w1.alloc (.cells #[.pointer (at0 rp)] RpT)).alloc (.cells #[.int .i64 a, .int .i64 b] SpT)).heap.size = w1.heap.size + 2 := by simp
  rw [World.size_alloc] at hsx
  generalize eW : (w1.alloc (.cells #[.pointer (at0 rp)] RpT)).alloc (.cells #[.int .i64 a, .int .i64 b] SpT) = W0 at S2 hbx2 hsx hsz
  have EW := Lib.hid eW; clear eW
  have hWA : MtAt w1.heap.size (w1.heap.size + 1) rp q cap l (a, b) W0 := ⟨⟨hbx2, cell_frN S2.fr HC.out, HR.out.fr S2.fr (fun _ _ h => h)⟩, hsx.cell 0, hsx.cell 1⟩
  have hoff : Off (OfD (w.heap.size + 1)) w1.heap.size rp q l := ⟨fun t => by unfold OfD; omega, fun t => by unfold OfD; omega, fun g ad had t => by
    have := HR.out.lt (by rw [fc_length spc_len]; have := List.length_pos_iff.2 g; omega) ad had; unfold OfD; omega⟩
  have HS := Lib.hid (fun n => SeqX.of_k (meets_stops n w1.heap.size (w1.heap.size + 1) rp q cap l (a, b) ok W0 hl (OfD (w.heap.size + 1)) hWA hoff (fun t => by unfold OfD; omega)))
  have H0 := Lib.hid (show SumAt w (w.heap.size + 1) [Ob.blk w.heap.size SpT #[.int .i64 a, .int .i64 b]] [] W0 from by unfold SumAt; rw [sumI_nil]; exact S2)
  have HZ := Lib.hid hsz
  have HB0 := Lib.hid (show w.heap.size + 1 < W0.heap.size by omega)
  clear hbx hsx S2 hbx2 hsz hWA hoff ok hz hpr hwb hlb es
  gi_wp2_with fail
  refine ⟨trivial, (callsIn_wide.2 HA.out).mono ?_⟩
  rintro e w2 ⟨rfl, e1⟩
  simp only [EW.out] at e1
  simp only [e1]
  clear e1 w2 n0 s0 s1
  gi_wp2_with fail
  refine wpIn_rangeXB (gf := 90) (lb := #[.pointer (at0 w1.heap.size), .pointer (at0 (w1.heap.size + 1))]) rfl (enters_of Try.func90 (by kernel_rfl) rfl) (HS.out _) (fun h k => h.trans k) frC_b (Below.refl _ _) (fun _ => rfl)
    (SumAt w (w.heap.size + 1) [Ob.blk w.heap.size SpT #[.int .i64 a, .int .i64 b]]) (fun _ _ _ => False) (ownFrom_of fun s A C h f => Sep.odd h f (by have := HB0.out; omega)) (fun _ _ _ _ _ h _ _ => h) H0.out ?fA (fun x k V => Blk V k SpT #[.int .i64 x.1, .int .i64 x.2] ∧ k ≠ w.heap.size + 1) (fun x k => ownFrom_of fun s A C h f => ⟨h.1.fr f h.1.odd, h.2⟩) ?assign ?body ?done ?stop
  case assign =>
    intro l pre x V K hI hK
    gi_wp2
    have hlt : w.heap.size + 1 < V.heap.size := (hI.at_ 0 rfl).lt
    have f : Fr None V (V.alloc (.cells #[.int .i64 x.1, .int .i64 x.2] SpT)) := (Fr.refl None V).alloc _
    have hK' := hK V.heap.size (V.alloc (.cells #[.int .i64 x.1, .int .i64 x.2] SpT)) (KeepsFrom.of_fr f (fun _ _ h => h.elim)) (FrC.none f) (hI.same f) ⟨Blk.new V SpT _, by omega⟩
    clear hI hK f hlt
    generalize V.heap.size = k at *
    exact hK'
  case body =>
    rintro l pre ⟨x1, x2⟩ k V hI ⟨hk, hne⟩ hlen
    have c1 : V.cell? ⟨w.heap.size + 1, 0, none⟩ = some (.int .i64 (sumI pre)) := (hI.at_ 0 rfl).cell 0
    have x1c : V.cell? ⟨k, 0, none⟩ = some (.int .i64 x1) := hk.cell 0
    have x2c : V.cell? ⟨k, 1, none⟩ = some (.int .i64 x2) := hk.cell 1
    have HI := Lib.hid hI
    have HN := Lib.hid (len_any x1 x2 V.drew)
    have HSn := Lib.hid (sumI_snoc pre (x1, x2))
    clear hI hk
    gi_wp2_with fail
    refine wpIn_region_round (by kernel_rfl) (by kernel_rfl) ?_
    refine atOp_any (n := 0 + 1 + 1 + 1 + 1 + 1) (L := #[false, false, false, false, false]) (by simp) (by kernel_rfl) ?_
    refine wpAnyIn_ready (rs := [0, 1]) (by kernel_rfl) (by simp) ?_
    refine AllReadyIn.cons rfl (fun K hK => ?_) (AllReadyIn.cons rfl (fun K hK => ?_) AllReadyIn.nil)
    all_goals (go_simp; refine hK _ _ ?_; clear hK K)
    · skip
      refine atOp_back (s := 1) (by simp) (by kernel_rfl) ?_
      go_simp
      refine segF_still 2 (by kernel_rfl) ?_
      simp only [List.drop_succ_cons, List.drop_zero, List.take_succ_cons, List.take_zero]
      repeat (go_big_quiet_step (fail))
      refine wpQuiet_nil ?_
      refine seg_one (by kernel_rfl) fun K hK => ?_
      simp only [List.drop_succ_cons, List.drop_zero, List.take_succ_cons, List.take_zero]
      gi_wp2_with fail
      first | refine ⟨trivial, (callsIn_wide.2 (HN.out)).mono ?_⟩ | refine ⟨trivial, fun h => (by cases h), (callsIn_wide.2 (HN.out)).mono ?_⟩
      rintro e w2 ⟨rfl, f2⟩
      have S2 := HI.out.drew.same f2
      have F2 := (Fr.refl None V).drew.trans f2
      have c2 : w2.cell? ⟨w.heap.size + 1, 0, none⟩ = some (.int .i64 (sumI pre)) := (S2.at_ 0 rfl).cell 0
      have z2 : w2.frozen? ⟨w.heap.size + 1, 0, none⟩ = false := (S2.at_ 0 rfl).frozen 0
      have S3 := S2.set 0 rfl 0 (.int .i64 (sumI (pre ++ [(x1, x2)])))
      have hB := S2.at_ 0 rfl
      have f3 : Fr (· = w.heap.size + 1) V (w2.setCell ⟨w.heap.size + 1, 0, none⟩ (.int .i64 (sumI (pre ++ [(x1, x2)])))) := Fr.setCell (D := (· = w.heap.size + 1)) (F2.mono fun _ _ h => h.elim) (p := ⟨w.heap.size + 1, 0, none⟩) (fun _ => rfl) _
      have HX := Lib.hid (And.intro (KeepsFrom.of_fr (B := W0.heap.size) f3 (fun k o hk hle => by have := HB0.out; omega)) (And.intro (FrC.of_fr (D := OfD (w.heap.size + 1)) f3 (fun i cs t z _ h => h)) (show SumAt w (w.heap.size + 1) [Ob.blk w.heap.size SpT #[.int .i64 a, .int .i64 b]] (pre ++ [(x1, x2)]) _ from S3)))
      rw [HSn.out] at HX
      clear S2 S3 F2 f2 f3 hB
      dsimp only
      gi_wp2_with fail
      refine seg_still 4 (by kernel_rfl) ?_
      simp only [List.drop_succ_cons, List.drop_zero, List.take_succ_cons, List.take_zero]
      repeat (go_big_quiet_step (fail))
      refine wpQuiet_nil ?_
      refine seg_one (by kernel_rfl) fun K hK => ?_
      simp only [List.drop_succ_cons, List.drop_zero, List.take_succ_cons, List.take_zero]
      gi_wp2_with fail
      refine seg_done (by rfl) (by kernel_rfl) ?_
      gi_wp2_with fail
      exact HX.out
    · skip
      refine wpAnyIn_ready (rs := [0, 2]) (by kernel_rfl) (by simp) ?_
      refine AllReadyIn.cons rfl (fun K hK => ?_) (AllReadyIn.cons rfl (fun K hK => ?_) AllReadyIn.nil)
      · go_simp
        refine hK _ _ ?_
        clear hK K
        refine atOp_back (s := 2) (by simp) (by kernel_rfl) ?_
        go_simp
        refine seg_one (by kernel_rfl) fun K hK => ?_
        simp only [List.drop_succ_cons, List.drop_zero, List.take_succ_cons, List.take_zero]
        gi_wp2_with fail
        first | refine ⟨trivial, (callsIn_wide.2 (HN.out)).mono ?_⟩ | refine ⟨trivial, fun h => (by cases h), (callsIn_wide.2 (HN.out)).mono ?_⟩
        rintro e w2 ⟨rfl, f2⟩
        have S2 := HI.out.drew.same f2
        have F2 := (Fr.refl None V).drew.trans f2
        have c2 : w2.cell? ⟨w.heap.size + 1, 0, none⟩ = some (.int .i64 (sumI pre)) := (S2.at_ 0 rfl).cell 0
        have z2 : w2.frozen? ⟨w.heap.size + 1, 0, none⟩ = false := (S2.at_ 0 rfl).frozen 0
        have S3 := S2.set 0 rfl 0 (.int .i64 (sumI (pre ++ [(x1, x2)])))
        have hB := S2.at_ 0 rfl
        have f3 : Fr (· = w.heap.size + 1) V (w2.setCell ⟨w.heap.size + 1, 0, none⟩ (.int .i64 (sumI (pre ++ [(x1, x2)])))) := Fr.setCell (D := (· = w.heap.size + 1)) (F2.mono fun _ _ h => h.elim) (p := ⟨w.heap.size + 1, 0, none⟩) (fun _ => rfl) _
        have HX := Lib.hid (And.intro (KeepsFrom.of_fr (B := W0.heap.size) f3 (fun k o hk hle => by have := HB0.out; omega)) (And.intro (FrC.of_fr (D := OfD (w.heap.size + 1)) f3 (fun i cs t z _ h => h)) (show SumAt w (w.heap.size + 1) [Ob.blk w.heap.size SpT #[.int .i64 a, .int .i64 b]] (pre ++ [(x1, x2)]) _ from S3)))
        rw [HSn.out] at HX
        clear S2 S3 F2 f2 f3 hB
        dsimp only
        gi_wp2_with fail
        refine seg_still 4 (by kernel_rfl) ?_
        simp only [List.drop_succ_cons, List.drop_zero, List.take_succ_cons, List.take_zero]
        repeat (go_big_quiet_step (fail))
        refine wpQuiet_nil ?_
        refine seg_one (by kernel_rfl) fun K hK => ?_
        simp only [List.drop_succ_cons, List.drop_zero, List.take_succ_cons, List.take_zero]
        gi_wp2_with fail
        refine seg_done (by rfl) (by kernel_rfl) ?_
        gi_wp2_with fail
        exact HX.out
      · go_simp
        refine ⟨trivial, (callsIn_wide.2 HN.out).mono ?_⟩
        rintro e w2 ⟨rfl, f2⟩
        have S2 := HI.out.drew.same f2
        have F2 := (Fr.refl None V).drew.trans f2
        have c2 : w2.cell? ⟨w.heap.size + 1, 0, none⟩ = some (.int .i64 (sumI pre)) := (S2.at_ 0 rfl).cell 0
        have z2 : w2.frozen? ⟨w.heap.size + 1, 0, none⟩ = false := (S2.at_ 0 rfl).frozen 0
        have S3 := S2.set 0 rfl 0 (.int .i64 (sumI (pre ++ [(x1, x2)])))
        have hB := S2.at_ 0 rfl
        have f3 : Fr (· = w.heap.size + 1) V (w2.setCell ⟨w.heap.size + 1, 0, none⟩ (.int .i64 (sumI (pre ++ [(x1, x2)])))) := Fr.setCell (D := (· = w.heap.size + 1)) (F2.mono fun _ _ h => h.elim) (p := ⟨w.heap.size + 1, 0, none⟩) (fun _ => rfl) _
        have HX := Lib.hid (And.intro (KeepsFrom.of_fr (B := W0.heap.size) f3 (fun k o hk hle => by have := HB0.out; omega)) (And.intro (FrC.of_fr (D := OfD (w.heap.size + 1)) f3 (fun i cs t z _ h => h)) (show SumAt w (w.heap.size + 1) [Ob.blk w.heap.size SpT #[.int .i64 a, .int .i64 b]] (pre ++ [(x1, x2)]) _ from S3)))
        rw [HSn.out] at HX
        clear S2 S3 F2 f2 f3 hB
        dsimp only
        gi_wp2_with fail
        refine wpAnyIn_ready (rs := [0]) (by kernel_rfl) (by simp) ?_
        refine AllReadyIn.cons rfl (fun K hK => ?_) AllReadyIn.nil
        go_simp
        refine hK _ _ ?_
        clear hK K
        refine atOp_back (s := 3) (by simp) (by kernel_rfl) ?_
        go_simp
        refine seg_still 4 (by kernel_rfl) ?_
        simp only [List.drop_succ_cons, List.drop_zero, List.take_succ_cons, List.take_zero]
        repeat (go_big_quiet_step (fail))
        refine wpQuiet_nil ?_
        refine seg_one (by kernel_rfl) fun K hK => ?_
        simp only [List.drop_succ_cons, List.drop_zero, List.take_succ_cons, List.take_zero]
        gi_wp2_with fail
        refine seg_done (by rfl) (by kernel_rfl) ?_
        gi_wp2_with fail
        exact HX.out
  case done =>
    rintro D' ys V hD rfl hI hK
    have c1 : V.cell? ⟨w.heap.size + 1, 0, none⟩ = some (.int .i64 (withinL l (a, b))) := by rw [← HMB.out, ← HSU.out]; exact (hI.at_ 0 rfl).cell 0
    have HI := Lib.hid hI; clear hI
    gi_wp2_with fail
    refine ⟨by simp, .inl ⟨_, _, rfl, run_takeDeferred hK, ?_⟩⟩
    refine ⟨_, results_tmp (t := 4) rfl _ _ _, rfl, ?_⟩
    exact (odd_done HI.out hK (by have := HB0.out; omega)).fr
  case stop =>
    rintro D' c pre V _ _ h _
    exact h.elim
end Go.Proofs.Ytfobeheplficgaa
