/- All keys of a tree, as a list. -/
import Derived.Test.YtkjhdkjenloifaaAvlI3
import Derived.Test.YtkjhdkjenloifaaAvlL2
namespace Go.Proofs.Ytkjhdkjenloifaa
open Go.RowKit Go.Und Go.Shelf
attribute [local go_sem] Oper.semAt_some run_store_func run_store_nilFunc

/-- What the loop's body may turn: the list's own variable, and its rows. -/
def OwnD (B : Nat) (b : Nat) (t : TypeId) : Prop := b = B ∨ t = PairT

theorem ownD_no {B b : Nat} {t : TypeId} (h1 : b ≠ B) (h2 : t ≠ PairT) : ¬ OwnD B b t := fun h => h.elim h1 h2

/-- So much has been told. -/
def ToldI (w : World) (B : Nat) (pre : List (Int × Int)) (W : World) : Prop :=
  ∃ q cap, Blk W B PairsT #[.slice q pre.length cap] ∧ Pairs W (.slice q pre.length cap) pre ∧ (∀ ad, q = some ad → w.heap.size ≤ ad.block) ∧ Fr None w W ∧ w.heap.size ≤ B

theorem row_block {W : World} {base : Nat} {e : TypeId} {size n : Nat} {v : Value} {xs : List Value} (h : W.ownsRow base e size v n xs) {b : Nat} (hb : v.ownBlock = some b) : ∃ cs, Blk W b e cs := by
  rcases h.2 with ⟨rfl, _⟩ | ⟨g, cap, cur, rfl, _, hg, _⟩
  · cases hb
  · cases hb; exact ⟨cur, hg⟩
theorem Pairs.block {W : World} {v : Value} {l : List (Int × Int)} (h : Pairs W v l) {b : Nat} (hb : v.ownBlock = some b) : ∃ cs, Blk W b PairT cs := row_block h hb

theorem ToldI.odd {w A C : World} {B S : Nat} {pre : List (Int × Int)} (h : ToldI w B pre A) (f : Fr (Odd S A) A C) (hS : w.heap.size ≤ S) : ToldI w B pre C := by
  obtain ⟨q, cap, h1, h2, h3, h4, h5⟩ := h
  refine ⟨q, cap, h1.fr f h1.odd, h2.fr f (fun b hb => ?_), h3, h4.trans' f (fun i hi hd => absurd hd.1 (by omega)), h5⟩
  obtain ⟨cs, hc⟩ := h2.block hb
  exact hc.odd

theorem Pairs.reads {W : World} {p : Option Addr} {n cap : Nat} {l : List (Int × Int)} (h : Pairs W (.slice p n cap) l) : Reads W 2 p n cap (pc l) ∧ n = l.length := by
  obtain ⟨p', c', e, hr, _⟩ := ownsRow_reads h
  cases e
  exact ⟨hr, rfl⟩

/-- The step of the list under way. -/
theorem ToldI.step {w W w1 : World} {B : Nat} {pre : List (Int × Int)} {x : Int × Int} {q q' : Option Addr} {cap cap' : Nat} (h1 : Blk W B PairsT #[.slice q pre.length cap]) (h2 : Pairs W (.slice q pre.length cap) pre) (h3 : ∀ ad, q = some ad → w.heap.size ≤ ad.block) (h4 : Fr None w W) (h5 : w.heap.size ≤ B)
    (ho : w1.ownsRow 0 PairT 2 (.slice q' (pre.length + 1) cap') (pre.length + 1) (pc pre ++ pc [x])) (hf : Fr (fun b => (Value.slice q pre.length cap).ownBlock = some b) (W.alloc (.cells #[.int .i64 x.1, .int .i64 x.2] PairT)) w1)
    (hb : (Value.slice q' (pre.length + 1) cap').ownBlock = (Value.slice q pre.length cap).ownBlock ∨ (Value.slice q' (pre.length + 1) cap').ownBlock = some (W.heap.size + 1)) :
    Blk w1 B PairsT #[.slice q pre.length cap] ∧ KeepsOthers W (w1.setCell ⟨B, 0, none⟩ (.slice q' (pre.length + 1) cap')) ∧ FrC (OwnD B) W (w1.setCell ⟨B, 0, none⟩ (.slice q' (pre.length + 1) cap')) ∧
      ToldI w B (pre ++ [x]) (w1.setCell ⟨B, 0, none⟩ (.slice q' (pre.length + 1) cap')) := by
  have hne : ∀ b, (Value.slice q pre.length cap).ownBlock = some b → b ≠ B ∧ (∃ cs, Blk W b PairT cs) ∧ w.heap.size ≤ b := fun b hb => by
    obtain ⟨cs, hc⟩ := h2.block hb
    refine ⟨fun e => ?_, ⟨cs, hc⟩, ?_⟩
    · subst e; unfold Blk at hc h1; rw [h1] at hc; cases hc
    · cases q with
      | none => cases hb
      | some ad => cases hb; exact h3 ad rfl
  have f0 : Fr (fun b => (Value.slice q pre.length cap).ownBlock = some b) W w1 := ((Fr.refl _ W).alloc _).trans' hf (fun _ _ h => h)
  have b1 : Blk w1 B PairsT #[.slice q pre.length cap] := h1.fr f0 (fun e => (hne B e).1 rfl)
  have f1 : Fr (fun b => b = B ∨ (Value.slice q pre.length cap).ownBlock = some b) W (w1.setCell ⟨B, 0, none⟩ (.slice q' (pre.length + 1) cap')) :=
    (f0.mono (fun _ _ h => .inr h)).setCell (p := ⟨B, 0, none⟩) (fun _ => .inl rfl) _
  have hq' : ∀ b, (Value.slice q' (pre.length + 1) cap').ownBlock = some b → w.heap.size ≤ b ∧ b ≠ B := fun b hb' => by
    obtain ⟨cs, hc⟩ := row_block ho hb'
    refine ⟨?_, fun e => ?_⟩
    · rcases hb with e | e
      · exact (hne b (by rw [← e]; exact hb')).2.2
      · rw [e] at hb'; cases hb'; have := h4.size; omega
    · subst e; unfold Blk at hc b1; rw [b1] at hc; cases hc
  refine ⟨b1, keepsOthers_of_fr f1 ?_, FrC.of_fr f1 ?_, q', cap', ?_, ?_, ?_, ?_, h5⟩
  · rintro k o (rfl | e) hk
    · unfold Blk at h1; rw [h1] at hk; cases hk; rfl
    · obtain ⟨cs, hc⟩ := (hne k e).2.1; unfold Blk at hc; rw [hc] at hk; cases hk; rfl
  · rintro k cs t z hk (rfl | e)
    · exact .inl rfl
    · obtain ⟨cs', hc⟩ := (hne k e).2.1; unfold Blk at hc; rw [hc] at hk; cases hk; exact .inr rfl
  · have := b1.set 0 (.slice q' (pre.length + 1) cap')
    simpa using this
  · have h6 : Pairs w1 (.slice q' (pre ++ [x]).length cap') (pre ++ [x]) := by unfold Pairs; rw [pc_append]; simpa using ho
    have f2 : Fr (· = B) w1 (w1.setCell ⟨B, 0, none⟩ (.slice q' (pre.length + 1) cap')) := Fr.setCell (D := (· = B)) (Fr.refl _ w1) (p := ⟨B, 0, none⟩) (fun _ => rfl) _
    exact h6.fr f2 fun b hb e => (hq' b (by simpa using hb)).2 e
  · intro ad had; subst had; exact (hq' _ rfl).1
  · exact h4.trans' f1 fun i hi hd => by
      rcases hd with rfl | e
      · omega
      · have := (hne i e).2.2; omega

theorem Pairs.done {w W : World} {D : Nat} {q : Option Addr} {cap : Nat} {l : List (Int × Int)} {o' : Obj} {S : Nat} (h2 : Pairs W (.slice q l.length cap) l) (h3 : ∀ ad, q = some ad → w.heap.size ≤ ad.block) (h4 : Fr None w W)
    (hK : W.heap[D]? = some (.deferred (some []))) (hD : S ≤ D) (hS : w.heap.size ≤ S) : Fresh w (W.putObj D o') l (.returned (.slice q l.length cap)) := by
  have f : Fr (· = D) W (W.putObj D o') := ⟨rfl, rfl, rfl, by simp, fun k _ hn => World.putObj_heap_other hn⟩
  refine ⟨q, cap, rfl, h2.fr f (fun b hb e => ?_), h3, h4.trans' f (fun i hi e => by omega)⟩
  obtain ⟨cs, hc⟩ := h2.block hb
  unfold Blk at hc; rw [e, hK] at hc; cases hc
theorem frC_b {D : Nat → TypeId → Prop} {S : Nat} (W : World) (l : Nat) (o o' : Obj) (_ : S ≤ l) (h : W.heap[l]? = some o) (hc : o.isCells = false) (_ : o.isWalk = false) : FrC D W (W.putObj l o') := FrC.putObj W l o o' h hc

set_option maxRecDepth 100000 in
set_option maxHeartbeats 2000000 in
theorem told_all (p : Nat) (t : TrV) (w : World) (hp : Blk w p TT #[.pointer t.ptr]) (hin : inW w t) (hR : Tr.Rise t.items) (hs : t.items.length ≤ 100000) (hk : ∀ x ∈ t.items, -9223372036854775808 ≤ x.1) :
    Calls Try.prog 26 #[.pointer (some ⟨p, 0, none⟩), .bool false] w fun e w' => Fresh w w' t.items e := by
  obtain ⟨i, hi, hz0, hz1, hz2⟩ := info_parts pairInfo
  have HI := Lib.hid (And.intro hi (And.intro hz0 (And.intro hz1 hz2))); clear hi hz0 hz1 hz2
  have HA := Lib.hid (all_any p (w.alloc (.cells #[.slice none 0 0] PairsT)))
  simp only [World.size_alloc] at HA
  have bB : Blk (((w.alloc (.cells #[.slice none 0 0] PairsT)).alloc (.cells #[.pointer (some ⟨p, 0, none⟩)] 24)).alloc (.cells #[.int .i64 (-9223372036854775808)] 3)) w.heap.size PairsT #[.slice none 0 0] := ((Blk.new w _ _).alloc _).alloc _
  have bT : Blk (((w.alloc (.cells #[.slice none 0 0] PairsT)).alloc (.cells #[.pointer (some ⟨p, 0, none⟩)] 24)).alloc (.cells #[.int .i64 (-9223372036854775808)] 3)) (w.heap.size + 1) 24 #[.pointer (some ⟨p, 0, none⟩)] := by
    have := (Blk.new (w.alloc (.cells #[.slice none 0 0] PairsT)) 24 #[.pointer (some ⟨p, 0, none⟩)]).alloc (.cells #[.int .i64 (-9223372036854775808)] 3)
    rwa [World.size_alloc] at this
  have bK : Blk (((w.alloc (.cells #[.slice none 0 0] PairsT)).alloc (.cells #[.pointer (some ⟨p, 0, none⟩)] 24)).alloc (.cells #[.int .i64 (-9223372036854775808)] 3)) (w.heap.size + 1 + 1) 3 #[.int .i64 (-9223372036854775808)] := by
    have := Blk.new ((w.alloc (.cells #[.slice none 0 0] PairsT)).alloc (.cells #[.pointer (some ⟨p, 0, none⟩)] 24)) 3 #[.int .i64 (-9223372036854775808)]
    rwa [World.size_alloc, World.size_alloc] at this
  have f0 : Fr None w (((w.alloc (.cells #[.slice none 0 0] PairsT)).alloc (.cells #[.pointer (some ⟨p, 0, none⟩)] 24)).alloc (.cells #[.int .i64 (-9223372036854775808)] 3)) := (((Fr.refl _ w).alloc _).alloc _).alloc _
  generalize eW : (((w.alloc (.cells #[.slice none 0 0] PairsT)).alloc (.cells #[.pointer (some ⟨p, 0, none⟩)] 24)).alloc (.cells #[.int .i64 (-9223372036854775808)] 3)) = W0 at *
  have EW := Lib.hid eW; clear eW
  have eL : fromL (-9223372036854775808) t.items = t.items := List.filter_eq_self.2 fun x hx => by simpa using hk x hx
  have HS := Lib.hid (fun n => from_stops n t.items.length (w.heap.size + 1 + 1) (w.heap.size + 1) p t (-9223372036854775808) (OwnD w.heap.size) W0
    (fun b hb => ⟨ownD_no (fun e => by subst e; exact absurd hb (Nat.not_le_of_lt bB.lt)) (by decide), ownD_no (fun e => by subst e; exact absurd hb (Nat.not_le_of_lt bB.lt)) (by decide)⟩)
    (ownD_no (by omega) (by decide)) (fun b hb => ownD_no (fun e => by subst e; exact absurd (hin.lt _ hb) (Nat.lt_irrefl _)) (by decide)) bK bT (hp.fr f0 id) (hin.fr f0 (fun _ _ h => h)) hR (by rw [eL]))
  rw [eL] at HS
  have HF := Lib.hid (show ToldI w w.heap.size [] W0 ∧ w.heap.size ≤ W0.heap.size from ⟨⟨none, 0, bB, Pairs.nil _, fun _ h => (by cases h), f0, Nat.le_refl _⟩, f0.size⟩)
  clear bB bT bK f0 eL hp hin hR hk
  refine (callsIn_wide (n := 5)).1 ?_
  refine callsIn_of_wp_marks Try.func26 rfl trivial ?_ rfl
  simp only [Try.ntmps26, List.size_toArray, List.length_cons, List.length_nil, Nat.reduceAdd, Nat.reduceSub, Array.replicate_succ, Array.replicate_zero, List.push_toArray, List.append_toArray, List.nil_append, List.cons_append]
  gi_wp2_with fail
  refine ⟨trivial, (callsIn_wide.2 HA.out).mono ?_⟩
  rintro e w1 ⟨rfl, e1⟩
  simp only [e1]
  clear e1 w1
  gi_wp2_with fail
  refine wpIn_rangeFunc_ownF rfl (by omega) (gf := 34) (lb := #[.pointer (some ⟨w.heap.size + 1 + 1, 0, none⟩), .pointer (some ⟨w.heap.size + 1, 0, none⟩)]) rfl trivial (enters_of Try.func34 (by kernel_rfl) rfl) (HS.out _) (fun h k => h.trans k) frC_b (Below.refl _ _) (fun _ => rfl)
    (ToldI w w.heap.size) (fun _ _ _ => False) (ownFrom_of fun s A C h f => h.odd f HF.out.2) (fun _ _ _ _ _ h _ _ => h) HF.out.1 ?a1 ?assign ?body ?done ?stop
  case assign =>
    intro l x W K hK
    gi_wp2
    exact hK
  case body =>
    rintro l pre x W ⟨q, cap, h1, h2, h3, h4, h5⟩ hlen
    have c1 := h1.cell 0
    have HB := Lib.hid (And.intro h1 (And.intro h2 (And.intro h3 (And.intro h4 h5)))); clear h1 h2 h3 h4 h5
    gi_wp2_with (with_reducible refine HoldIn.out ?_)
    refine HoldIn.mk ?_
    refine wpListIn_append_row _ rfl _ _ _ rfl 0 PairT i _ 2 16 Try.underlying36 HI.out.1 HI.out.2.1 HI.out.2.2.1 HI.out.2.2.2 rfl (by omega) (.slice q pre.length cap) pre.length (pc pre) rfl
      (HB.out.2.1.fr (D := None) ((Fr.refl _ W).alloc _) (fun _ _ h => h)) (some ⟨W.heap.size, 0, none⟩) 1 1 (pc [x]) rfl (reads_pair W x) (pc_one _) (by simp [maxLen]; omega) (by omega) (Nat.zero_le _) ?_
    intro q' cap' w1 ho hf hb
    rw [World.size_alloc] at hb
    obtain ⟨b1, kO, kF, kI⟩ := ToldI.step HB.out.1 HB.out.2.1 HB.out.2.2.1 HB.out.2.2.2.1 HB.out.2.2.2.2 ho hf hb
    have HX := Lib.hid (And.intro kO (And.intro kF kI)); clear kO kF kI ho hf hb
    have c2 := b1.cell 0; have z2 := b1.frozen 0; clear b1 c1
    gi_wp2_with fail
    exact HX.out
  case done =>
    rintro D' ys W hD rfl hI hK
    obtain ⟨q, cap, h1, h2, h3, h4, h5⟩ := hI
    have c1 := h1.cell 0
    have HB := Lib.hid (h2.done (o' := .deferred none) h3 h4 hK hD HF.out.2); clear h1 h2 h3 h4 h5
    gi_wp2_with fail
    refine ⟨by simp, .inl ⟨_, _, rfl, run_takeDeferred hK, ?_⟩⟩
    exact ⟨_, results_tmp (t := 4) rfl _ _ _, HB.out⟩
  case stop =>
    rintro D' c pre W _ _ h _
    exact h.elim
set_option maxRecDepth 100000 in
set_option maxHeartbeats 2000000 in
theorem told_back (p : Nat) (t : TrV) (w : World) (hp : Blk w p TT #[.pointer t.ptr]) (hin : inW w t) (hs : t.items.length ≤ 100000) :
    Calls Try.prog 26 #[.pointer (some ⟨p, 0, none⟩), .bool true] w fun e w' => Fresh w w' t.items.reverse e := by
  obtain ⟨i, hi, hz0, hz1, hz2⟩ := info_parts pairInfo
  have HI := Lib.hid (And.intro hi (And.intro hz0 (And.intro hz1 hz2))); clear hi hz0 hz1 hz2
  have HA := Lib.hid (all_any p (w.alloc (.cells #[.slice none 0 0] PairsT)))
  simp only [World.size_alloc] at HA
  have bB : Blk (((w.alloc (.cells #[.slice none 0 0] PairsT)).alloc (.cells #[.pointer (some ⟨p, 0, none⟩)] 24)).alloc (.cells #[.int .i64 (-9223372036854775808)] 3)) w.heap.size PairsT #[.slice none 0 0] := ((Blk.new w _ _).alloc _).alloc _
  have bT : Blk (((w.alloc (.cells #[.slice none 0 0] PairsT)).alloc (.cells #[.pointer (some ⟨p, 0, none⟩)] 24)).alloc (.cells #[.int .i64 (-9223372036854775808)] 3)) (w.heap.size + 1) 24 #[.pointer (some ⟨p, 0, none⟩)] := by
    have := (Blk.new (w.alloc (.cells #[.slice none 0 0] PairsT)) 24 #[.pointer (some ⟨p, 0, none⟩)]).alloc (.cells #[.int .i64 (-9223372036854775808)] 3)
    rwa [World.size_alloc] at this
  have bK : Blk (((w.alloc (.cells #[.slice none 0 0] PairsT)).alloc (.cells #[.pointer (some ⟨p, 0, none⟩)] 24)).alloc (.cells #[.int .i64 (-9223372036854775808)] 3)) (w.heap.size + 1 + 1) 3 #[.int .i64 (-9223372036854775808)] := by
    have := Blk.new ((w.alloc (.cells #[.slice none 0 0] PairsT)).alloc (.cells #[.pointer (some ⟨p, 0, none⟩)] 24)) 3 #[.int .i64 (-9223372036854775808)]
    rwa [World.size_alloc, World.size_alloc] at this
  have f0 : Fr None w (((w.alloc (.cells #[.slice none 0 0] PairsT)).alloc (.cells #[.pointer (some ⟨p, 0, none⟩)] 24)).alloc (.cells #[.int .i64 (-9223372036854775808)] 3)) := (((Fr.refl _ w).alloc _).alloc _).alloc _
  generalize eW : (((w.alloc (.cells #[.slice none 0 0] PairsT)).alloc (.cells #[.pointer (some ⟨p, 0, none⟩)] 24)).alloc (.cells #[.int .i64 (-9223372036854775808)] 3)) = W0 at *
  have EW := Lib.hid eW; clear eW
  have HB0 := Lib.hid (backT_any p W0)
  have bB2 := bB.alloc (.cells #[.pointer (some ⟨p, 0, none⟩)] 24)
  have bT2 := Blk.new W0 24 #[.pointer (some ⟨p, 0, none⟩)]
  have f2 := f0.alloc (.cells #[.pointer (some ⟨p, 0, none⟩)] 24)
  have hS0 : w.heap.size ≤ W0.heap.size := f0.size
  generalize eW2 : W0.alloc (.cells #[.pointer (some ⟨p, 0, none⟩)] 24) = W2 at *
  have EW2 := Lib.hid eW2; clear eW2
  have HS := Lib.hid (fun n => back_stops n t.items.length W0.heap.size p t (OwnD w.heap.size) W2
    (fun b hb => ⟨ownD_no (fun e => by subst e; exact absurd hb (Nat.not_le_of_lt bB2.lt)) (by decide), ownD_no (fun e => by subst e; exact absurd hb (Nat.not_le_of_lt bB2.lt)) (by decide)⟩)
    (fun b hb => ownD_no (fun e => by subst e; exact absurd (hin.lt _ hb) (Nat.lt_irrefl _)) (by decide)) bT2 (hp.fr f2 id) (hin.fr f2 (fun _ _ h => h)) rfl)
  have HF := Lib.hid (show ToldI w w.heap.size [] W2 ∧ w.heap.size ≤ W2.heap.size from ⟨⟨none, 0, bB2, Pairs.nil _, fun _ h => (by cases h), f2, Nat.le_refl _⟩, f2.size⟩)
  clear bB bT bK f0 hp hin bB2 bT2 f2 hS0
  refine (callsIn_wide (n := 5)).1 ?_
  refine callsIn_of_wp_marks Try.func26 rfl trivial ?_ rfl
  simp only [Try.ntmps26, List.size_toArray, List.length_cons, List.length_nil, Nat.reduceAdd, Nat.reduceSub, Array.replicate_succ, Array.replicate_zero, List.push_toArray, List.append_toArray, List.nil_append, List.cons_append]
  gi_wp2_with fail
  refine ⟨trivial, (callsIn_wide.2 HA.out).mono ?_⟩
  rintro e w1 ⟨rfl, e1⟩
  simp only [e1]
  clear e1 w1
  gi_wp2_with fail
  refine ⟨trivial, (callsIn_wide.2 HB0.out).mono ?_⟩
  rintro e w1 ⟨rfl, e1⟩
  simp only [e1, EW2.out]
  clear e1 w1
  gi_wp2_with fail
  refine wpIn_rangeFunc_ownF rfl (by omega) (gf := 42) (lb := #[.pointer (some ⟨W0.heap.size, 0, none⟩)]) rfl trivial (enters_of Try.func42 (by kernel_rfl) rfl) (HS.out _) (fun h k => h.trans k) frC_b (Below.refl _ _) (fun _ => rfl)
    (ToldI w w.heap.size) (fun _ _ _ => False) (ownFrom_of fun s A C h f => h.odd f HF.out.2) (fun _ _ _ _ _ h _ _ => h) HF.out.1 ?a1 ?assign ?body ?done ?stop
  case assign =>
    intro l x W K hK
    gi_wp2
    exact hK
  case body =>
    rintro l pre x W ⟨q, cap, h1, h2, h3, h4, h5⟩ hlen
    have c1 := h1.cell 0
    have HB := Lib.hid (And.intro h1 (And.intro h2 (And.intro h3 (And.intro h4 h5)))); clear h1 h2 h3 h4 h5
    gi_wp2_with (with_reducible refine HoldIn.out ?_)
    refine HoldIn.mk ?_
    refine wpListIn_append_row _ rfl _ _ _ rfl 0 PairT i _ 2 16 Try.underlying36 HI.out.1 HI.out.2.1 HI.out.2.2.1 HI.out.2.2.2 rfl (by omega) (.slice q pre.length cap) pre.length (pc pre) rfl
      (HB.out.2.1.fr (D := None) ((Fr.refl _ W).alloc _) (fun _ _ h => h)) (some ⟨W.heap.size, 0, none⟩) 1 1 (pc [x]) rfl (reads_pair W x) (pc_one _) (by simp [maxLen]; omega) (by omega) (Nat.zero_le _) ?_
    intro q' cap' w1 ho hf hb
    rw [World.size_alloc] at hb
    obtain ⟨b1, kO, kF, kI⟩ := ToldI.step HB.out.1 HB.out.2.1 HB.out.2.2.1 HB.out.2.2.2.1 HB.out.2.2.2.2 ho hf hb
    have HX := Lib.hid (And.intro kO (And.intro kF kI)); clear kO kF kI ho hf hb
    have c2 := b1.cell 0; have z2 := b1.frozen 0; clear b1 c1
    gi_wp2_with fail
    exact HX.out
  case done =>
    rintro D' ys W hD rfl hI hK
    obtain ⟨q, cap, h1, h2, h3, h4, h5⟩ := hI
    have c1 := h1.cell 0
    have HB := Lib.hid (h2.done (o' := .deferred none) h3 h4 hK hD HF.out.2); clear h1 h2 h3 h4 h5
    gi_wp2_with fail
    refine ⟨by simp, .inl ⟨_, _, rfl, run_takeDeferred hK, ?_⟩⟩
    have hz := HB.out
    simp only [List.length_reverse] at hz
    exact ⟨_, results_tmp (t := 4) rfl _ _ _, hz⟩
  case stop =>
    rintro D' c pre W _ _ h _
    exact h.elim
end Go.Proofs.Ytkjhdkjenloifaa
