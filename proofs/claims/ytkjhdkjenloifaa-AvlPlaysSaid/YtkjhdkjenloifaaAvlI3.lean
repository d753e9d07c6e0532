/- The tree's falling iterator, and what hands the iterators out. -/
import Derived.Test.YtkjhdkjenloifaaAvlI2
namespace Go.Proofs.Ytkjhdkjenloifaa
open Go.RowKit Go.Und Go.Shelf
attribute [local go_sem] Oper.semAt_some run_store_func run_store_nilFunc

/-- The falling walk's own boxes: itself, yield. -/
structure BoxesB (W : World) (wb yb l : Nat) : Prop where
  w : Blk W wb 66 #[.func (.func 43) #[] #[.pointer (some ⟨wb, 0, none⟩), .pointer (some ⟨yb, 0, none⟩)]]
  y : Blk W yb 26 #[.func (.yield l) #[] #[]]
theorem BoxesB.frC {D : Nat → TypeId → Prop} {W W' : World} {wb yb l : Nat} (h : BoxesB W wb yb l) (f : FrC D W W') (h2 : ¬ D wb 66) (h3 : ¬ D yb 26) : BoxesB W' wb yb l := ⟨h.w.frC f h2, h.y.frC f h3⟩

set_option maxRecDepth 100000 in
set_option maxHeartbeats 1000000 in
theorem walkBack_in (l N wb yb : Nat) (D : Nat → TypeId → Prop) (J Jx : List (Int × VT) → World → Prop) (B : Nat) (hJa : AbidesFrom B J) (hwb : ¬ D wb 66) (hyb : ¬ D yb 26)
    (hY : ∀ m pre x W, J pre W → pre.length < N → YieldAt Fence.wide m Try.prog l (enc2 x) W (Said J Jx D pre x W)) (t : TrV) :
    ∀ (n : Nat) (pre : List (Int × VT)) (W : World), inW W t → (∀ b ∈ t.blocks, ¬ D b NT) → BoxesB W wb yb l → J pre W → pre.length + t.items.length ≤ N →
      CallsIn Fence.wide n Try.prog 43 #[.pointer t.ptr, .pointer (some ⟨wb, 0, none⟩), .pointer (some ⟨yb, 0, none⟩)] W
        (Walked J Jx D pre t.items.reverse W) := by
  induction t with
  | nil =>
    intro n pre W _ _ _ hJ _
    have hJ2 := Lib.hid (abides_drewN hJa 1 hJ); clear hJ
    refine callsIn_of_wp Try.func43 rfl trivial ?_ rfl
    simp only [Try.ntmps43, List.size_toArray, List.length_cons, List.length_nil, Nat.reduceAdd, Nat.reduceSub, Array.replicate_succ, Array.replicate_zero, List.push_toArray, List.append_toArray, List.nil_append, List.cons_append]
    simp only [Tr.ptr_nil]
    gi_wp2_with fail
    refine wpIn_region_segs (by kernel_rfl) ?_
    refine seg_still 31 (by kernel_rfl) ?_
    simp only [List.drop_zero, List.take_succ_cons, List.take_zero, Nat.reduceSub]
    repeat (go_big_quiet_step (fail))
    refine wpQuiet_nil ?_
    refine seg_done (by rfl) (by kernel_rfl) ?_
    gi_wp2_with fail
    go_ret
    exact .inl ⟨rfl, by simpa using (show J pre W.drew from hJ2.out), FrC.drew _ _⟩
  | node b k v lt rt h m ihl ihr =>
    intro n pre W hin hD hB hJ hN
    have hDl : ∀ x ∈ lt.blocks, ¬ D x NT := fun x hx => hD x (by simp [hx])
    have hDr : ∀ x ∈ rt.blocks, ¬ D x NT := fun x hx => hD x (by simp [hx])
    have hDb : ¬ D b NT := hD b (by simp)
    have c0 := hin.1.cell
    have cw := hB.w.cell; have cy := hB.y.cell
    have eL : (Tr.node b k v lt rt h m).items.reverse = rt.items.reverse ++ (k, v) :: lt.items.reverse := by simp
    rw [eL]
    have hN2 : pre.length + (rt.items.length + (1 + lt.items.length)) ≤ N := by simp at hN; omega
    have H := Lib.hid (fun n => (ihr n pre (W.drewN 1) (inW.frC hin.2.2 (FrC.drewN D W 1) hDr) hDr (hB.frC (FrC.drewN D W 1) hwb hyb) (abides_drewN hJa 1 hJ) (by omega)).mono
      (R' := Walked J Jx D pre rt.items.reverse W) (fun e W' h => h.elim (fun ⟨h1, h2, h3⟩ => .inl ⟨h1, h2, (FrC.drewN D W 1).trans h3⟩) .inr))
    have HY := Lib.hid (fun m W1 (hj : J (pre ++ rt.items.reverse) W1) => hY m (pre ++ rt.items.reverse) (k, v) W1 hj (by simp; omega))
    have HR := Lib.hid (fun n W1 (hf : FrC D W W1) (hj : J (pre ++ rt.items.reverse ++ [(k, v)]) W1) => (ihl n _ W1 (inW.frC hin.2.1 hf hDl) hDl (hB.frC hf hwb hyb) hj (by simp; omega)))
    have HB := Lib.hid (And.intro hin.1 hB)
    clear hin hB hJ hN hN2 ihl ihr eL hY hD hDl hDr
    refine callsIn_of_wp Try.func43 rfl trivial ?_ rfl
    simp only [Try.ntmps43, List.size_toArray, List.length_cons, List.length_nil, Nat.reduceAdd, Nat.reduceSub, Array.replicate_succ, Array.replicate_zero, List.push_toArray, List.append_toArray, List.nil_append, List.cons_append]
    simp only [Tr.ptr_node]
    gi_wp2_with fail
    refine wpIn_region_segs (by kernel_rfl) ?_
    refine seg_still 8 (by kernel_rfl) ?_
    simp only [List.drop_zero, List.take_succ_cons, List.take_zero, Nat.reduceSub]
    repeat (go_big_quiet_step (fail))
    refine wpQuiet_nil ?_
    refine seg_one (by kernel_rfl) fun K hK => ?_
    simp only [List.drop_succ_cons, List.drop_zero, List.take_succ_cons, List.take_zero]
    gi_wp2_with fail
    refine ⟨trivial, fun h => (by cases h), (H.out _).mono ?_⟩
    rintro e W1 (⟨rfl, h1, h2⟩ | ⟨rfl, q, hq, hx⟩)
    · have d0 := (HB.out.1.frC h2 hDb).cell
      have dw := (HB.out.2.w.frC h2 hwb).cell; have dy := (HB.out.2.y.frC h2 hyb).cell
      obtain ⟨fn, tmps, assign, body, hy, hRd⟩ := HY.out 0 W1 h1
      have HRd := Lib.hid hRd
      have H2 := Lib.hid (And.intro h1 h2); clear h1 h2 c0 cw cy hRd H HY
      dsimp only
      gi_wp2_with fail
      refine seg_still 19 (by kernel_rfl) ?_
      simp only [List.drop_succ_cons, List.drop_zero, List.take_succ_cons, List.take_zero]
      repeat (go_big_quiet_step (fail))
      refine wpQuiet_nil ?_
      refine seg_one (by kernel_rfl) fun K hK => ?_
      simp only [List.drop_succ_cons, List.drop_zero, List.take_succ_cons, List.take_zero]
      gi_wp2_with fail
      refine ⟨fun h => (by cases h), (roundIn_any rfl HRd.out).mono ?_⟩
      rintro e W2 (⟨rfl, h3, h4⟩ | ⟨rfl, h3⟩)
      · have h5 := H2.out.2.trans h4
        have e0 := (HB.out.1.frC h5 hDb).cell
        have ew := (HB.out.2.w.frC h5 hwb).cell; have ey := (HB.out.2.y.frC h5 hyb).cell
        have H3 := Lib.hid (And.intro h3 h5); clear h3 h4 h5 d0 dw dy hy HRd
        dsimp only
        gi_wp2_with fail
        refine seg_still 27 (by kernel_rfl) ?_
        simp only [List.drop_succ_cons, List.drop_zero, List.take_succ_cons, List.take_zero]
        repeat (go_big_quiet_step (fail))
        refine wpQuiet_nil ?_
        refine seg_one (by kernel_rfl) fun K hK => ?_
        simp only [List.drop_succ_cons, List.drop_zero, List.take_succ_cons, List.take_zero]
        gi_wp2_with fail
        refine ⟨trivial, fun h => (by cases h), (HR.out _ _ H3.out.2 H3.out.1).mono ?_⟩
        rintro e W3 (⟨rfl, h6, h7⟩ | ⟨rfl, q, hq, hx⟩)
        · have H4 := Lib.hid (And.intro h6 h7); clear h6 h7
          dsimp only
          gi_wp2_with fail
          refine seg_still 31 (by kernel_rfl) ?_
          simp only [List.drop_succ_cons, List.drop_zero, List.take_succ_cons, List.take_zero]
          repeat (go_big_quiet_step (fail))
          refine wpQuiet_nil ?_
          refine seg_done (by rfl) (by kernel_rfl) ?_
          gi_wp2_with fail
          go_ret
          exact .inl ⟨rfl, by simpa [List.append_assoc] using H4.out.1, H3.out.2.trans H4.out.2⟩
        · have H4 := Lib.hid hx; clear hx
          dsimp only
          gi_wp2_with fail
          refine seg_still 31 (by kernel_rfl) ?_
          simp only [List.drop_succ_cons, List.drop_zero, List.take_succ_cons, List.take_zero]
          repeat (go_big_quiet_step (fail))
          refine wpQuiet_nil ?_
          refine seg_done (by rfl) (by kernel_rfl) ?_
          gi_wp2_with fail
          go_ret
          obtain ⟨r, hr⟩ := hq
          exact .inr ⟨rfl, rt.items.reverse ++ (k, v) :: q, ⟨r, by simp [← hr]⟩, by simpa [List.append_assoc] using H4.out⟩
      · have H4 := Lib.hid h3; clear h3 hy HRd
        dsimp only
        gi_wp2_with fail
        refine seg_still 31 (by kernel_rfl) ?_
        simp only [List.drop_succ_cons, List.drop_zero, List.take_succ_cons, List.take_zero]
        repeat (go_big_quiet_step (fail))
        refine wpQuiet_nil ?_
        refine seg_done (by rfl) (by kernel_rfl) ?_
        gi_wp2_with fail
        go_ret
        exact .inr ⟨rfl, rt.items.reverse ++ [(k, v)], ⟨lt.items.reverse, by simp⟩, by simpa [List.append_assoc] using H4.out⟩
    · have H4 := Lib.hid hx; clear hx
      dsimp only
      gi_wp2_with fail
      refine seg_still 31 (by kernel_rfl) ?_
      simp only [List.drop_succ_cons, List.drop_zero, List.take_succ_cons, List.take_zero]
      repeat (go_big_quiet_step (fail))
      refine wpQuiet_nil ?_
      refine seg_done (by rfl) (by kernel_rfl) ?_
      gi_wp2_with fail
      go_ret
      exact .inr ⟨rfl, q, hq.trans (List.prefix_append _ _), H4.out⟩

set_option maxHeartbeats 1000000 in
theorem back1_in (l tb p : Nat) (t : TrV) (D : Nat → TypeId → Prop) (J Jx : List (Int × VT) → World → Prop) (W : World) (hJa : AbidesFrom W.heap.size J)
    (hD : ∀ b, W.heap.size ≤ b → ¬ D b 66 ∧ ¬ D b 26) (hDt : ∀ b ∈ t.blocks, ¬ D b NT) (ht : Blk W tb 24 #[.pointer (some ⟨p, 0, none⟩)]) (hp : Blk W p TT #[.pointer t.ptr]) (hin : inW W t)
    (hY : ∀ m pre x W, J pre W → pre.length < t.items.length → YieldAt Fence.wide m Try.prog l (enc2 x) W (Said J Jx D pre x W)) (h0 : J [] W) (n : Nat) :
    CallsIn Fence.wide n Try.prog 42 #[.func (.yield l) #[] #[], .pointer (some ⟨tb, 0, none⟩)] W (Went J Jx t.items.reverse) := by
  have hD1 := (hD W.heap.size (Nat.le_refl _)).2
  have hD2 := (hD (W.heap.size + 1) (Nat.le_succ _)).1
  have f1 : Fr None W ((W.alloc (.cells #[.func (.yield l) #[] #[]] 26)).alloc (.cells #[.func (.func 43) #[] #[.pointer (some ⟨W.heap.size + 1, 0, none⟩), .pointer (some ⟨W.heap.size, 0, none⟩)]] 66)) :=
    ((Fr.refl None W).alloc _).alloc _
  have by1 : Blk ((W.alloc (.cells #[.func (.yield l) #[] #[]] 26)).alloc (.cells #[.func (.func 43) #[] #[.pointer (some ⟨W.heap.size + 1, 0, none⟩), .pointer (some ⟨W.heap.size, 0, none⟩)]] 66)) W.heap.size 26 #[.func (.yield l) #[] #[]] :=
    (Blk.new W _ _).alloc _
  have bw1 : Blk ((W.alloc (.cells #[.func (.yield l) #[] #[]] 26)).alloc (.cells #[.func (.func 43) #[] #[.pointer (some ⟨W.heap.size + 1, 0, none⟩), .pointer (some ⟨W.heap.size, 0, none⟩)]] 66)) (W.heap.size + 1) 66 #[.func (.func 43) #[] #[.pointer (some ⟨W.heap.size + 1, 0, none⟩), .pointer (some ⟨W.heap.size, 0, none⟩)]] := by
    have := Blk.new (W.alloc (.cells #[.func (.yield l) #[] #[]] 26)) 66 #[.func (.func 43) #[] #[.pointer (some ⟨W.heap.size + 1, 0, none⟩), .pointer (some ⟨W.heap.size, 0, none⟩)]]
    rwa [World.size_alloc] at this
  generalize eW1 : ((W.alloc (.cells #[.func (.yield l) #[] #[]] 26)).alloc (.cells #[.func (.func 43) #[] #[.pointer (some ⟨W.heap.size + 1, 0, none⟩), .pointer (some ⟨W.heap.size, 0, none⟩)]] 66)) = W1 at f1 by1 bw1
  have HW := Lib.hid (fun n => walkBack_in l _ (W.heap.size + 1) W.heap.size D J Jx W.heap.size hJa hD2 hD1 hY t n [] W1.drew (inW.frC hin (FrC.none f1.drew) hDt) hDt
    ⟨bw1.drew, by1.drew⟩ (abides_fr hJa h0 f1.drew) (by simp))
  have HR := Lib.hid (root_any p t W1.drew ((hp.fr f1 id).drew))
  have ct := (ht.fr f1 id).drew.cell
  have cw := bw1.drew.cell
  have c1 := (Blk.new (W.alloc (.cells #[.func (.yield l) #[] #[]] 26)) 66 #[.nilFunc]).cell 0
  have z1 := (Blk.new (W.alloc (.cells #[.func (.yield l) #[] #[]] 26)) 66 #[.nilFunc]).frozen 0
  simp only [World.size_alloc, List.getElem?_toArray, List.getElem?_cons_zero] at c1 z1
  have EW := Lib.hid eW1
  clear eW1 f1 by1 bw1 ht hp hin hY h0 hJa hD hD1 hD2 hDt
  refine callsIn_of_wp Try.func42 rfl trivial ?_ rfl
  simp only [Try.ntmps42, List.size_toArray, List.length_cons, List.length_nil, Nat.reduceAdd, Nat.reduceSub, Array.replicate_succ, Array.replicate_zero, List.push_toArray, List.append_toArray, List.nil_append, List.cons_append]
  gi_wp2_with fail
  simp only [EW.out]
  clear c1 z1
  refine wpIn_region_segs (by kernel_rfl) ?_
  refine seg_still 3 (by kernel_rfl) ?_
  simp only [List.drop_zero, List.take_succ_cons, List.take_zero, Nat.reduceSub]
  repeat (first | go_big_quiet_skip | (go_big_quiet_want; go_big_quiet_op; first | go_big_quiet_on | (refine ⟨_, HR.out, ?_⟩; go_big_quiet_on)))
  refine wpQuiet_nil ?_
  refine seg_one (by kernel_rfl) fun K hK => ?_
  simp only [List.drop_succ_cons, List.drop_zero, List.take_succ_cons, List.take_zero]
  gi_wp2_with fail
  refine ⟨trivial, fun h => (by cases h), (HW.out _).mono ?_⟩
  rintro e W2 (⟨rfl, h1, h2⟩ | ⟨rfl, q, hq, h1⟩)
  · have H := Lib.hid h1; clear h1 h2
    dsimp only
    gi_wp2_with fail
    refine seg_done (by rfl) (by kernel_rfl) ?_
    gi_wp2_with fail
    go_end0
    exact ⟨⟨_, rfl⟩, .inl ⟨_, rfl, H.out⟩⟩
  · have H := Lib.hid h1; clear h1
    dsimp only
    gi_wp2_with fail
    refine seg_done (by rfl) (by kernel_rfl) ?_
    gi_wp2_with fail
    go_end0
    exact ⟨⟨_, rfl⟩, .inr ⟨_, hq, H.out⟩⟩

theorem from_any (p : Nat) (key : Int) (w : World) : Calls Try.prog 22 #[.pointer (some ⟨p, 0, none⟩), .int .i64 key] w fun e w' =>
    e = .returned (.func (.func 34) #[] #[.pointer (some ⟨w.heap.size + 1, 0, none⟩), .pointer (some ⟨w.heap.size, 0, none⟩)]) ∧
      w' = (w.alloc (.cells #[.pointer (some ⟨p, 0, none⟩)] 24)).alloc (.cells #[.int .i64 key] 3) := by
  go_enter Try.func22, Try.ntmps22
  go_wp2_with fail
  go_ret
  exact ⟨rfl, rfl⟩
theorem all_any (p : Nat) (w : World) : Calls Try.prog 37 #[.pointer (some ⟨p, 0, none⟩)] w fun e w' =>
    e = .returned (.func (.func 34) #[] #[.pointer (some ⟨w.heap.size + 1, 0, none⟩), .pointer (some ⟨w.heap.size, 0, none⟩)]) ∧
      w' = (w.alloc (.cells #[.pointer (some ⟨p, 0, none⟩)] 24)).alloc (.cells #[.int .i64 (-9223372036854775808)] 3) := by
  go_enter Try.func37, Try.ntmps37
  go_wp2_with fail
  refine (from_any p _ w).mono ?_
  rintro e w1 ⟨rfl, rfl⟩
  go_wp2_with fail
  go_ret
  exact ⟨rfl, rfl⟩
theorem backT_any (p : Nat) (w : World) : Calls Try.prog 38 #[.pointer (some ⟨p, 0, none⟩)] w fun e w' =>
    e = .returned (.func (.func 42) #[] #[.pointer (some ⟨w.heap.size, 0, none⟩)]) ∧ w' = w.alloc (.cells #[.pointer (some ⟨p, 0, none⟩)] 24) := by
  go_enter Try.func38, Try.ntmps38
  go_wp2_with fail
  go_ret
  exact ⟨rfl, rfl⟩

/-- Keys from one on: what a caller's loop takes. -/
theorem from_stops (n N kb tb p : Nat) (t : TrV) (key : Int) (D : Nat → TypeId → Prop) (w : World) (hD : ∀ b, w.heap.size ≤ b → ¬ D b 66 ∧ ¬ D b 26) (hkb : ¬ D kb 3) (hDt : ∀ b ∈ t.blocks, ¬ D b NT) (hk : Blk w kb 3 #[.int .i64 key]) (ht : Blk w tb 24 #[.pointer (some ⟨p, 0, none⟩)]) (hp : Blk w p TT #[.pointer t.ptr]) (hin : inW w t) (hR : Tr.Rise t.items)
    (hN : (fromL key t.items).length = N) :
    SeqStopsK Fence.wide n Try.prog 34 #[.pointer (some ⟨kb, 0, none⟩), .pointer (some ⟨tb, 0, none⟩)] enc2 (FrC D) (fun ys => ys = fromL key t.items) (fun pre => pre <+: fromL key t.items) N w := by
  intro l J Jx W hW hJa _ hY h0
  have f : Fr None w W := Fr.of_below hW
  subst hN
  exact from1_in l kb tb p t key D J Jx W hJa (fun b h => hD b (Nat.le_trans hW.size h)) hkb hDt (hk.fr f id) (ht.fr f id) (hp.fr f id) (hin.fr f (fun _ _ h => h)) hR
    (fun m pre x W hj hl => yieldAt_any rfl m (hY pre x W hj hl)) h0 n
theorem back_stops (n N tb p : Nat) (t : TrV) (D : Nat → TypeId → Prop) (w : World) (hD : ∀ b, w.heap.size ≤ b → ¬ D b 66 ∧ ¬ D b 26) (hDt : ∀ b ∈ t.blocks, ¬ D b NT) (ht : Blk w tb 24 #[.pointer (some ⟨p, 0, none⟩)]) (hp : Blk w p TT #[.pointer t.ptr]) (hin : inW w t)
    (hN : t.items.length = N) :
    SeqStopsK Fence.wide n Try.prog 42 #[.pointer (some ⟨tb, 0, none⟩)] enc2 (FrC D) (fun ys => ys = t.items.reverse) (fun pre => pre <+: t.items.reverse) N w := by
  intro l J Jx W hW hJa _ hY h0
  have f : Fr None w W := Fr.of_below hW
  subst hN
  exact back1_in l tb p t D J Jx W hJa (fun b h => hD b (Nat.le_trans hW.size h)) hDt (ht.fr f id) (hp.fr f id) (hin.fr f (fun _ _ h => h))
    (fun m pre x W hj hl => yieldAt_any rfl m (hY pre x W hj hl)) h0 n
end Go.Proofs.Ytkjhdkjenloifaa
