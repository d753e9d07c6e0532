/- The tree's iterators, walked. -/
import Derived.Test.YtkjhdkjenloifaaAvlW7
import Derived.Test.YtkjhdkjenloifaaRange
import Derived.Test.YtkjhdkjenloifaaRegionIn
namespace Go.Proofs.Ytkjhdkjenloifaa
open Go.RowKit Go.Und Go.Shelf
attribute [local go_sem] Oper.semAt_some

/-- Pairs from a key on. -/
def fromL (key : Int) (l : List (Int × VT)) : List (Int × VT) := l.filter fun x => decide (key ≤ x.1)
/-- What yield is handed. -/
abbrev enc2 (x : Int × VT) : Array Value := #[.int .i64 x.1, E x.2]
/-- What a round says. -/
def Said (J Jx : List (Int × VT) → World → Prop) (D : Nat → TypeId → Prop) (pre : List (Int × VT)) (x : Int × VT) (W : World) (e : Ending) (W' : World) : Prop :=
  (e = .returned (.bool true) ∧ J (pre ++ [x]) W' ∧ FrC D W W') ∨ (e = .returned (.bool false) ∧ Jx (pre ++ [x]) W')
/-- What a walk says. -/
def Walked (J Jx : List (Int × VT) → World → Prop) (D : Nat → TypeId → Prop) (pre xs : List (Int × VT)) (W : World) (e : Ending) (W' : World) : Prop :=
  (e = .returned (.bool true) ∧ J (pre ++ xs) W' ∧ FrC D W W') ∨ (e = .returned (.bool false) ∧ ∃ q, q <+: xs ∧ Jx (pre ++ q) W')

theorem inW.frC {D : Nat → TypeId → Prop} {w w' : World} {t : TrV} (h : inW w t) (f : FrC D w w') (hd : ∀ b ∈ t.blocks, ¬ D b NT) : inW w' t := by
  induction t with
  | nil => trivial
  | node b k v l r hh n ihl ihr =>
    obtain ⟨h1, h2, h3⟩ := h
    simp only [Tr.blocks_node, List.mem_cons, List.mem_append] at hd
    exact ⟨h1.frC f (hd b (.inl rfl)), ihl h2 fun x hx => hd x (.inr (.inl hx)), ihr h3 fun x hx => hd x (.inr (.inr hx))⟩

/-- The walk's own boxes: the key, itself, yield. -/
structure Boxes (W : World) (kb wb yb l : Nat) (key : Int) : Prop where
  k : Blk W kb 3 #[.int .i64 key]
  w : Blk W wb 66 #[.func (.func 35) #[] #[.pointer (some ⟨kb, 0, none⟩), .pointer (some ⟨wb, 0, none⟩), .pointer (some ⟨yb, 0, none⟩)]]
  y : Blk W yb 26 #[.func (.yield l) #[] #[]]

theorem Boxes.frC {D : Nat → TypeId → Prop} {W W' : World} {kb wb yb l : Nat} {key : Int} (h : Boxes W kb wb yb l key) (f : FrC D W W') (h1 : ¬ D kb 3) (h2 : ¬ D wb 66) (h3 : ¬ D yb 26) : Boxes W' kb wb yb l key :=
  ⟨h.k.frC f h1, h.w.frC f h2, h.y.frC f h3⟩
theorem fromL_cut {key k : Int} {v : VT} {l r : List (Int × VT)} (hR : Tr.Rise (l ++ (k, v) :: r)) (g : k < key) : fromL key (l ++ (k, v) :: r) = fromL key r := by
  have h := Tr.rise_mid hR
  have h1 : l.filter (fun x => decide (key ≤ x.1)) = [] := List.filter_eq_nil_iff.2 fun y hy => by have := h.2.2.1 y hy; simp at this ⊢; omega
  unfold fromL
  rw [List.filter_append, h1, List.filter_cons_of_neg (by simp; omega), List.nil_append]
theorem fromL_mid {key k : Int} {v : VT} {l r : List (Int × VT)} (g : ¬ k < key) : fromL key (l ++ (k, v) :: r) = fromL key l ++ (k, v) :: fromL key r := by
  unfold fromL
  rw [List.filter_append, List.filter_cons_of_pos (by simp; omega)]

set_option maxRecDepth 100000 in
set_option maxHeartbeats 1000000 in
theorem walkFrom_in (l N kb wb yb : Nat) (key : Int) (D : Nat → TypeId → Prop) (J Jx : List (Int × VT) → World → Prop) (B : Nat) (hJa : AbidesFrom B J) (hkb : ¬ D kb 3) (hwb : ¬ D wb 66) (hyb : ¬ D yb 26)
    (hY : ∀ m pre x W, J pre W → pre.length < N → YieldAt Fence.wide m Try.prog l (enc2 x) W (Said J Jx D pre x W)) (t : TrV) :
    ∀ (n : Nat) (pre : List (Int × VT)) (W : World), inW W t → (∀ b ∈ t.blocks, ¬ D b NT) → Tr.Rise t.items → Boxes W kb wb yb l key → J pre W → pre.length + (fromL key t.items).length ≤ N →
      CallsIn Fence.wide n Try.prog 35 #[.pointer t.ptr, .pointer (some ⟨kb, 0, none⟩), .pointer (some ⟨wb, 0, none⟩), .pointer (some ⟨yb, 0, none⟩)] W
        (Walked J Jx D pre (fromL key t.items) W) := by
  induction t with
  | nil =>
    intro n pre W _ _ _ _ hJ _
    refine callsIn_of_wp Try.func35 rfl trivial ?_ rfl
    simp only [Try.ntmps35, List.size_toArray, List.length_cons, List.length_nil, Nat.reduceAdd, Nat.reduceSub, Array.replicate_succ, Array.replicate_zero, List.push_toArray, List.append_toArray, List.nil_append, List.cons_append]
    simp only [Tr.ptr_nil]
    gi_wp2_with fail
    go_ret
    exact .inl ⟨rfl, by simpa [fromL] using hJ, FrC.refl _ _⟩
  | node b k v lt rt h m ihl ihr =>
    intro n pre W hin hD hR hB hJ hN
    have hDl : ∀ x ∈ lt.blocks, ¬ D x NT := fun x hx => hD x (by simp [hx])
    have hDr : ∀ x ∈ rt.blocks, ¬ D x NT := fun x hx => hD x (by simp [hx])
    have hDb : ¬ D b NT := hD b (by simp)
    have hRR := Tr.rise_mid hR
    have c0 := hin.1.cell
    have ck := hB.k.cell; have cw := hB.w.cell; have cy := hB.y.cell
    by_cases g : k < key
    · have eL : fromL key (Tr.node b k v lt rt h m).items = fromL key rt.items := fromL_cut hR g
      rw [eL] at hN ⊢
      have H := Lib.hid (fun n => (ihr n pre (W.drewN 2) (inW.frC hin.2.2 (FrC.drewN D W 2) hDr) hDr hRR.2.1 (hB.frC (FrC.drewN D W 2) hkb hwb hyb) (abides_drewN hJa 2 hJ) hN).mono
        (R' := Walked J Jx D pre (fromL key rt.items) W) (fun e W' h => h.elim (fun ⟨h1, h2, h3⟩ => .inl ⟨h1, h2, (FrC.drewN D W 2).trans h3⟩) .inr))
      clear hin hB hJ hN hR ihl ihr eL hY hRR hD hDl hDr
      refine callsIn_of_wp Try.func35 rfl trivial ?_ rfl
      simp only [Try.ntmps35, List.size_toArray, List.length_cons, List.length_nil, Nat.reduceAdd, Nat.reduceSub, Array.replicate_succ, Array.replicate_zero, List.push_toArray, List.append_toArray, List.nil_append, List.cons_append]
      simp only [Tr.ptr_node]
      gi_wp2_with fail
      refine wpIn_region_segs (by kernel_rfl) ?_
      refine seg_still 7 (by kernel_rfl) ?_
      simp only [List.drop_zero, List.take_succ_cons, List.take_zero, Nat.reduceSub]
      repeat (go_big_quiet_step (fail))
      refine wpQuiet_nil ?_
      refine seg_done (by rfl) (by kernel_rfl) ?_
      gi_wp2_with fail
      refine wpIn_region_segs (by kernel_rfl) ?_
      refine seg_still 5 (by kernel_rfl) ?_
      simp only [List.drop_zero, List.take_succ_cons, List.take_zero, Nat.reduceSub]
      repeat (go_big_quiet_step (fail))
      refine wpQuiet_nil ?_
      refine seg_one (by kernel_rfl) fun K hK => ?_
      simp only [List.drop_succ_cons, List.drop_zero, List.take_succ_cons, List.take_zero]
      gi_wp2_with fail
      refine ⟨trivial, fun h => (by cases h), (H.out _).mono ?_⟩
      rintro e W1 (⟨rfl, h1, h2⟩ | ⟨rfl, h1⟩)
      · have H2 := Lib.hid (And.intro h1 h2); clear h1 h2
        dsimp only
        gi_wp2_with fail
        refine seg_still 7 (by kernel_rfl) ?_
        simp only [List.drop_succ_cons, List.drop_zero, List.take_succ_cons, List.take_zero]
        repeat (go_big_quiet_step (fail))
        refine wpQuiet_nil ?_
        refine seg_done (by rfl) (by kernel_rfl) ?_
        gi_wp2_with fail
        go_ret
        exact .inl ⟨rfl, H2.out⟩
      · have H2 := Lib.hid h1; clear h1
        dsimp only
        gi_wp2_with fail
        refine seg_still 7 (by kernel_rfl) ?_
        simp only [List.drop_succ_cons, List.drop_zero, List.take_succ_cons, List.take_zero]
        repeat (go_big_quiet_step (fail))
        refine wpQuiet_nil ?_
        refine seg_done (by rfl) (by kernel_rfl) ?_
        gi_wp2_with fail
        go_ret
        exact .inr ⟨rfl, H2.out⟩
    · have eL : fromL key (Tr.node b k v lt rt h m).items = fromL key lt.items ++ (k, v) :: fromL key rt.items := fromL_mid g
      rw [eL] at hN ⊢
      simp only [List.length_append, List.length_cons] at hN
      have H := Lib.hid (fun n => (ihl n pre (W.drewN 2) (inW.frC hin.2.1 (FrC.drewN D W 2) hDl) hDl hRR.1 (hB.frC (FrC.drewN D W 2) hkb hwb hyb) (abides_drewN hJa 2 hJ) (by omega)).mono
        (R' := Walked J Jx D pre (fromL key lt.items) W) (fun e W' h => h.elim (fun ⟨h1, h2, h3⟩ => .inl ⟨h1, h2, (FrC.drewN D W 2).trans h3⟩) .inr))
      have HY := Lib.hid (fun m W1 (hj : J (pre ++ fromL key lt.items) W1) => hY m (pre ++ fromL key lt.items) (k, v) W1 hj (by simp; omega))
      have HR := Lib.hid (fun n W1 (hf : FrC D W W1) (hj : J (pre ++ fromL key lt.items ++ [(k, v)]) W1) => (ihr n _ W1 (inW.frC hin.2.2 hf hDr) hDr hRR.2.1 (hB.frC hf hkb hwb hyb) hj (by simp; omega)))
      have HB := Lib.hid (And.intro hin.1 hB)
      clear hin hB hJ hN hR ihl ihr eL hY hRR hD hDl hDr
      refine callsIn_of_wp Try.func35 rfl trivial ?_ rfl
      simp only [Try.ntmps35, List.size_toArray, List.length_cons, List.length_nil, Nat.reduceAdd, Nat.reduceSub, Array.replicate_succ, Array.replicate_zero, List.push_toArray, List.append_toArray, List.nil_append, List.cons_append]
      simp only [Tr.ptr_node]
      gi_wp2_with fail
      refine wpIn_region_segs (by kernel_rfl) ?_
      refine seg_still 7 (by kernel_rfl) ?_
      simp only [List.drop_zero, List.take_succ_cons, List.take_zero, Nat.reduceSub]
      repeat (go_big_quiet_step (fail))
      refine wpQuiet_nil ?_
      refine seg_done (by rfl) (by kernel_rfl) ?_
      gi_wp2_with fail
      refine wpIn_region_segs (by kernel_rfl) ?_
      refine seg_still 5 (by kernel_rfl) ?_
      simp only [List.drop_zero, List.take_succ_cons, List.take_zero, Nat.reduceSub]
      repeat (go_big_quiet_step (fail))
      refine wpQuiet_nil ?_
      refine seg_one (by kernel_rfl) fun K hK => ?_
      simp only [List.drop_succ_cons, List.drop_zero, List.take_succ_cons, List.take_zero]
      gi_wp2_with fail
      refine ⟨trivial, fun h => (by cases h), (H.out _).mono ?_⟩
      rintro e W1 (⟨rfl, h1, h2⟩ | ⟨rfl, q, hq, hx⟩)
      · have d0 := (HB.out.1.frC h2 hDb).cell
        have dk := (HB.out.2.k.frC h2 hkb).cell; have dw := (HB.out.2.w.frC h2 hwb).cell; have dy := (HB.out.2.y.frC h2 hyb).cell
        obtain ⟨fn, tmps, assign, body, hy, hRd⟩ := HY.out 0 W1 h1
        have HRd := Lib.hid hRd
        have H2 := Lib.hid (And.intro h1 h2); clear h1 h2 c0 ck cw cy hRd H HY
        dsimp only
        gi_wp2_with fail
        refine seg_still 16 (by kernel_rfl) ?_
        simp only [List.drop_succ_cons, List.drop_zero, List.take_succ_cons, List.take_zero]
        repeat (go_big_quiet_step (fail))
        refine wpQuiet_nil ?_
        refine seg_one (by kernel_rfl) fun K hK => ?_
        simp only [List.drop_succ_cons, List.drop_zero, List.take_succ_cons, List.take_zero]
        gi_wp2_with fail
        refine ⟨fun h => (by cases h), (roundIn_any rfl HRd.out).mono ?_⟩
        rintro e W2 (⟨rfl, h3, h4⟩ | ⟨rfl, h3⟩)
        · have h5 := H2.out.2.trans h4
          have e0 := (HB.out.1.frC h5 hDb).cell
          have ek := (HB.out.2.k.frC h5 hkb).cell; have ew := (HB.out.2.w.frC h5 hwb).cell; have ey := (HB.out.2.y.frC h5 hyb).cell
          have H3 := Lib.hid (And.intro h3 h5); clear h3 h4 h5 d0 dk dw dy hy HRd
          dsimp only
          gi_wp2_with fail
          refine seg_still 24 (by kernel_rfl) ?_
          simp only [List.drop_succ_cons, List.drop_zero, List.take_succ_cons, List.take_zero]
          repeat (go_big_quiet_step (fail))
          refine wpQuiet_nil ?_
          refine seg_one (by kernel_rfl) fun K hK => ?_
          simp only [List.drop_succ_cons, List.drop_zero, List.take_succ_cons, List.take_zero]
          gi_wp2_with fail
          refine ⟨trivial, fun h => (by cases h), (HR.out _ _ H3.out.2 H3.out.1).mono ?_⟩
          rintro e W3 (⟨rfl, h6, h7⟩ | ⟨rfl, q, hq, hx⟩)
          · have H4 := Lib.hid (And.intro h6 h7); clear h6 h7
            dsimp only
            gi_wp2_with fail
            refine seg_still 27 (by kernel_rfl) ?_
            simp only [List.drop_succ_cons, List.drop_zero, List.take_succ_cons, List.take_zero]
            repeat (go_big_quiet_step (fail))
            refine wpQuiet_nil ?_
            refine seg_done (by rfl) (by kernel_rfl) ?_
            gi_wp2_with fail
            go_ret
            exact .inl ⟨rfl, by simpa [List.append_assoc] using H4.out.1, H3.out.2.trans H4.out.2⟩
          · have H4 := Lib.hid hx; clear hx
            dsimp only
            gi_wp2_with fail
            refine seg_still 27 (by kernel_rfl) ?_
            simp only [List.drop_succ_cons, List.drop_zero, List.take_succ_cons, List.take_zero]
            repeat (go_big_quiet_step (fail))
            refine wpQuiet_nil ?_
            refine seg_done (by rfl) (by kernel_rfl) ?_
            gi_wp2_with fail
            go_ret
            obtain ⟨r, hr⟩ := hq
            exact .inr ⟨rfl, fromL key lt.items ++ (k, v) :: q, ⟨r, by simp [← hr]⟩, by simpa [List.append_assoc] using H4.out⟩
        · have H4 := Lib.hid h3; clear h3 hy HRd
          dsimp only
          gi_wp2_with fail
          refine seg_still 24 (by kernel_rfl) ?_
          simp only [List.drop_succ_cons, List.drop_zero, List.take_succ_cons, List.take_zero]
          repeat (go_big_quiet_step (fail))
          refine wpQuiet_nil ?_
          refine seg_one (by kernel_rfl) fun K hK => ?_
          simp only [List.drop_succ_cons, List.drop_zero, List.take_succ_cons, List.take_zero]
          gi_wp2_with fail
          refine ⟨fun _ _ => trivial, ?_⟩
          gi_wp2_with fail
          refine seg_still 27 (by kernel_rfl) ?_
          simp only [List.drop_succ_cons, List.drop_zero, List.take_succ_cons, List.take_zero]
          repeat (go_big_quiet_step (fail))
          refine wpQuiet_nil ?_
          refine seg_done (by rfl) (by kernel_rfl) ?_
          gi_wp2_with fail
          go_ret
          exact .inr ⟨rfl, fromL key lt.items ++ [(k, v)], ⟨fromL key rt.items, by simp⟩, by simpa [List.append_assoc] using H4.out⟩
      · have H4 := Lib.hid hx; clear hx
        dsimp only
        gi_wp2_with fail
        refine seg_still 16 (by kernel_rfl) ?_
        simp only [List.drop_succ_cons, List.drop_zero, List.take_succ_cons, List.take_zero]
        repeat (go_big_quiet_step (fail))
        refine wpQuiet_nil ?_
        refine seg_one (by kernel_rfl) fun K hK => ?_
        simp only [List.drop_succ_cons, List.drop_zero, List.take_succ_cons, List.take_zero]
        gi_wp2_with fail
        refine ⟨fun _ _ => trivial, ?_⟩
        gi_wp2_with fail
        refine seg_still 24 (by kernel_rfl) ?_
        simp only [List.drop_succ_cons, List.drop_zero, List.take_succ_cons, List.take_zero]
        repeat (go_big_quiet_step (fail))
        refine wpQuiet_nil ?_
        refine seg_one (by kernel_rfl) fun K hK => ?_
        simp only [List.drop_succ_cons, List.drop_zero, List.take_succ_cons, List.take_zero]
        gi_wp2_with fail
        refine ⟨fun _ _ => trivial, ?_⟩
        gi_wp2_with fail
        refine seg_still 27 (by kernel_rfl) ?_
        simp only [List.drop_succ_cons, List.drop_zero, List.take_succ_cons, List.take_zero]
        repeat (go_big_quiet_step (fail))
        refine wpQuiet_nil ?_
        refine seg_done (by rfl) (by kernel_rfl) ?_
        gi_wp2_with fail
        go_ret
        exact .inr ⟨rfl, q, hq.trans (List.prefix_append _ _), H4.out⟩
end Go.Proofs.Ytkjhdkjenloifaa
