/- What of a span is not in, as an iterator: walked. -/
import Derived.Test.YtfobeheplficgaaRwM
set_option linter.unusedVariables false
set_option linter.unusedSimpArgs false
namespace Go.Proofs.Ytfobeheplficgaa
open Go.RowKit Go.Und Go.Shelf
attribute [local go_sem] Oper.semAt_some

/-- Gaps that are told in front of the runs that have been gone through, and the place behind these. -/
def gpre : Int → List (Int × Int) → List (Int × Int)
  | _, [] => []
  | a, x :: r => (if a < x.1 then [(a, x.1)] else []) ++ gpre x.2 r
def gat : Int → List (Int × Int) → Int
  | a, [] => a
  | _, x :: r => gat x.2 r
theorem gaps_parts (b : Int) : ∀ (m : List (Int × Int)) (a : Int), gapsP b m a = gpre a m ++ if gat a m < b then [(gat a m, b)] else []
  | [], a => rfl
  | x :: r, a => by
    show _ ++ gapsP b r x.2 = (_ ++ gpre x.2 r) ++ _
    rw [gaps_parts b r x.2, List.append_assoc]
    rfl
theorem gpre_snoc (x : Int × Int) : ∀ (m : List (Int × Int)) (a : Int), gpre a (m ++ [x]) = gpre a m ++ if gat a m < x.1 then [(gat a m, x.1)] else []
  | [], a => List.append_nil _
  | y :: r, a => by
    show _ ++ gpre y.2 (r ++ [x]) = (_ ++ gpre y.2 r) ++ _
    rw [gpre_snoc x r y.2, List.append_assoc]
    rfl
theorem gat_snoc (x : Int × Int) : ∀ (m : List (Int × Int)) (a : Int), gat a (m ++ [x]) = x.2
  | [], a => rfl
  | y :: r, a => gat_snoc x r y.2
theorem gpre_pre : ∀ {m' m : List (Int × Int)} (a : Int), m' <+: m → gpre a m' <+: gpre a m
  | [], _, _, _ => List.nil_prefix
  | x :: r, [], _, h => by simp at h
  | x :: r, y :: t, a, h => by
    obtain ⟨rfl, h2⟩ := List.cons_prefix_cons.1 h
    exact (List.prefix_append_right_inj _).2 (gpre_pre _ h2)
/-- What the iterator tells. -/
def gapsF (s : Int × Int) (m : List (Int × Int)) : List (Int × Int) := if lenS s = 0 then [] else gapsP s.2 m s.1
theorem gapsF_pre {s : Int × Int} {m m' : List (Int × Int)} (hs : lenS s ≠ 0) (h : m' <+: m) : gpre s.1 m' <+: gapsF s m := by
  unfold gapsF
  rw [if_neg hs, gaps_parts]
  exact (gpre_pre _ h).trans (List.prefix_append _ _)

abbrev YspT : TypeId := 95
/-- The runs within a span, as an iterator that stands behind a pointer. -/
def MtK (pv : Option Addr) (m : List (Int × Int)) (s : Int × Int) (Sh : Nat → Prop) (w : World) : Prop :=
  ∀ (n bb sb : Nat) (V : World), FrC (fun k _ => ¬ Sh k) w V → Blk V bb RpT #[.pointer pv] → Blk V sb SpT #[.int .i64 s.1, .int .i64 s.2] →
    ∀ Sh' : Nat → Prop, (∀ k, Sh k → Sh' k) → Sh' bb → Sh' sb → SeqY n Try.prog 90 #[.pointer (at0 bb), .pointer (at0 sb)] encS Sh' m V
theorem mtk_set (rp : Nat) (q : Option Addr) (cap : Nat) (l : List (Int × Int)) (s : Int × Int) (ok : OkL l) (w : World) (hl : l.length ≤ 1000000) (Sh : Nat → Prop) (h2 : ∀ k, ShR rp q l k → Sh k)
    (c3 : w.cell? ⟨rp, 0, none⟩ = some (.slice q l.length cap)) (hr : Reads w 2 q l.length cap (fc spc l)) : MtK (at0 rp) (mtL l s) s Sh w := by
  intro n bb sb V f hb hs Sh' hS h1 h3
  have f' : FrC (fun k _ => ¬ Sh k) w V := f
  exact meets_y n bb sb rp q cap l s ok V hl Sh' ⟨⟨hb.cell 0, cell_frC f' (fun t hn => hn (h2 _ (.inl rfl))) c3, reads_frC f' (fun e ad had t hn => hn (h2 _ (.inr ⟨fc_ne e, ad, had, rfl⟩))) hr⟩, hs.cell 0, hs.cell 1⟩ h1 h3 fun k hk => hS k (h2 k hk)
theorem meetsP_any (rp : Option Addr) (a b : Int) (W : World) : Calls Try.prog 59 #[.pointer rp, .agg #[.int .i64 a, .int .i64 b]] W fun e W' =>
    e = .returned (.func (.func 90) #[] #[.pointer (at0 W.heap.size), .pointer (at0 (W.heap.size + 1))]) ∧ W' = (W.alloc (.cells #[.pointer rp] RpT)).alloc (.cells #[.int .i64 a, .int .i64 b] SpT) := by
  go_enter Try.func59, Try.ntmps59
  go_wp2_with fail
  go_ret
  exact ⟨rfl, rfl⟩

/-- Where the adapter stands. -/
structure GpI (J : (Nat → Prop) → List (Int × Int) → World → Prop) (l yb ab b1 s1 sb : Nat) (a b : Int) (Pri : Nat → Prop) (pre : List (Int × Int)) (Pro : Nat → Prop) (V : World) : Prop where
  j : J Pro (gpre a pre) V
  own : ∀ k, k = yb ∨ k = ab ∨ k = b1 ∨ k = s1 → Pro k
  pri : ∀ k, Pri k → Pro k
  off : ¬ Pri yb ∧ ¬ Pri ab ∧ ¬ Pri sb
  y : Blk V yb YspT #[.func (.yield l) #[] #[]]
  at_ : Blk V ab IntT #[.int .i64 (gat a pre)]
  s : Blk V sb SpT #[.int .i64 a, .int .i64 b]
  old : ∀ k, Pri k → k < V.heap.size
theorem own_frY {B : Nat} {A C : World} {row : Option Nat} (hg : A.grownBy C row) (hr : ∀ r, row = some r → B ≤ r ∧ ∃ o : Obj, A.heap[r]? = some o ∧ o.isCells = false) : Fr (Odd B A) A C :=
  ⟨hg.os, hg.tape, hg.output, hg.size, fun k hk hn => hg.block k hk (fun e => hn (hr k e.symm))⟩
theorem blk_turn {V V' : World} {X : Nat → Prop} {k : Nat} {t : TypeId} {cs : Array Value} (h : Blk V k t cs) (f : Fr X V V') (hx : ¬ X k) : Blk V' k t cs := h.fr f hx
theorem GpI.turn {J : (Nat → Prop) → List (Int × Int) → World → Prop} {l yb ab b1 s1 sb : Nat} {a b : Int} {Pri Pri' Pro X : Nat → Prop} {pre : List (Int × Int)} {A C : World} {B B' : Nat} (hJ : OwnP B J) (hB : B ≤ B')
    (h : GpI J l yb ab b1 s1 sb a b Pri pre Pro A) (f : Fr X A C) (hX : ∀ k, X k → B' ≤ k ∧ (Pri k ∨ ∃ o : Obj, A.heap[k]? = some o ∧ o.isCells = false)) (hP : ∀ k, Pri' k → Pri k ∨ (A.heap.size ≤ k ∧ k < C.heap.size)) :
    GpI J l yb ab b1 s1 sb a b Pri' pre (fun k => Pro k ∨ (A.heap.size ≤ k ∧ k < C.heap.size)) C := by
  have hn : ∀ {k t cs}, Blk A k t cs → ¬ Pri k → ¬ X k := fun {k t cs} hb hk hx => by
    rcases (hX k hx).2 with h1 | ⟨o, h1, h2⟩
    · exact hk h1
    · unfold Blk at hb; rw [hb] at h1; cases h1; cases h2
  have hp : ∀ {k}, k < A.heap.size → ¬ Pri k → ¬ Pri' k := fun {k} hk hn hp' => by
    rcases hP k hp' with h1 | h1
    · exact hn h1
    · omega
  refine ⟨hJ Pro _ X _ A C h.j f (fun k hk => ⟨Nat.le_trans hB (hX k hk).1, (hX k hk).2.imp (h.pri k) id⟩) (fun _ hk => hk), fun k hk => .inl (h.own k hk), fun k hk => (hP k hk).imp (h.pri k) id,
    ⟨hp h.y.lt h.off.1, hp h.at_.lt h.off.2.1, hp h.s.lt h.off.2.2⟩, h.y.fr f (hn h.y h.off.1), h.at_.fr f (hn h.at_ h.off.2.1), h.s.fr f (hn h.s h.off.2.2), fun k hk => (hP k hk).elim (fun g => Nat.lt_of_lt_of_le (h.old k g) f.size) (fun g => g.2)⟩
theorem gaps_step {J : (Nat → Prop) → List (Int × Int) → World → Prop} {l sb k : Nat} {a b x1 x2 : Int} {W w2 W4 V V3 : World} {Sh Pri Pro : Nat → Prop} {pre : List (Int × Int)} (hJ : OwnP W.heap.size J) (n1 : W.heap.size + 1 ≤ w2.heap.size) (n2 : W4.heap.size = w2.heap.size + 3) (l3 : sb < w2.heap.size)
    (hs : Sh sb) (hS : ∀ k, Sh k → k < W.heap.size) (h : GpI J l W.heap.size w2.heap.size (w2.heap.size + 1) (w2.heap.size + 1 + 1) sb a b Pri pre Pro V) (hPk : Pro k) (hk3 : KeepsFrom W.heap.size V V3) (f : FrC (Pd Pro Sh) V V3) (hj : J Pro (gpre a (pre ++ [(x1, x2)])) V3) :
    KeepsFrom W4.heap.size V (V3.setCell ⟨w2.heap.size, 0, none⟩ (.int .i64 x2)) ∧ FrC (Pd Pri fun k => Sh k ∨ k = w2.heap.size + 1 ∨ k = w2.heap.size + 1 + 1) V (V3.setCell ⟨w2.heap.size, 0, none⟩ (.int .i64 x2)) ∧
          ∃ Pro, GpI J l W.heap.size w2.heap.size (w2.heap.size + 1) (w2.heap.size + 1 + 1) sb a b Pri (pre ++ [(x1, x2)]) Pro (V3.setCell ⟨w2.heap.size, 0, none⟩ (.int .i64 x2)) := by
  have own := h.own
  have y3 := h.y.frC f (fun hn => hn (.inl (own _ (.inl rfl))))
  have a3 := h.at_.frC f (fun hn => hn (.inl (own _ (.inr (.inl rfl)))))
  have s3 := h.s.frC f (fun hn => hn (.inr hs))
  have f4 : Fr (fun k => k = w2.heap.size) V3 (V3.setCell ⟨w2.heap.size, 0, none⟩ (.int .i64 x2)) := Fr.setCell (D := fun k => k = w2.heap.size) (Fr.refl _ V3) (p := ⟨w2.heap.size, 0, none⟩) (fun _ => rfl) _
  refine ⟨(KeepsFrom.up hk3 (by omega)).trans ((KeepsOthers.setCell V3 _ _).from _), ⟨Nat.le_trans f.size f4.size, fun j cs t z hj hd => ?_⟩, Pro,
    hJ Pro Pro (fun k => k = w2.heap.size) _ V3 _ hj f4 (fun k e => ⟨by omega, .inl (by subst e; exact own _ (.inr (.inl rfl)))⟩) (fun _ h => .inl h), own, h.pri, h.off, y3.far (by show W.heap.size ≠ w2.heap.size; omega) _, ?_, s3.far (by show sb ≠ w2.heap.size; omega) _, fun k hk => Nat.lt_of_lt_of_le (h.old k hk) (Nat.le_trans f.size f4.size)⟩
  · have hd' : Pri j ∨ Sh j ∨ j = w2.heap.size + 1 ∨ j = w2.heap.size + 1 + 1 := Classical.byContradiction hd
    have hjV3 := f.block j cs t z hj (fun hn => hn (by
      rcases hd' with g | g | g | g
      · exact .inl (h.pri j g)
      · exact .inr g
      · exact .inl (own j (.inr (.inr (.inl g))))
      · exact .inl (own j (.inr (.inr (.inr g))))))
    refine (f4.block j (heap_lt hjV3) (fun e => ?_)).trans hjV3
    subst e
    rcases hd' with g | g | g | g
    · exact h.off.2.1 g
    · have := hS _ g; omega
    · omega
    · omega
  · rw [gat_snoc]
    exact a3.set 0 (.int .i64 x2)
set_option maxRecDepth 100000 in
set_option maxHeartbeats 4000000 in
theorem gaps1_y (n bb sb : Nat) (pv : Option Addr) (m : List (Int × Int)) (a b : Int) (Sh : Nat → Prop) (w : World) (hM : MtK pv m (a, b) Sh w) (hb : Blk w bb RpT #[.pointer pv]) (hs : Blk w sb SpT #[.int .i64 a, .int .i64 b]) (h1 : Sh bb) (h2 : Sh sb) (hS0 : ∀ k, Sh k → k < w.heap.size) :
    SeqY n Try.prog 58 #[.pointer (at0 sb), .pointer (at0 bb)] encS Sh (gapsF (a, b) m) w := by
  intro l J Jx W hW hJ hJx hY h0
  have f0 : Fr None w W := Fr.of_below hW
  have hb1 := hb.fr f0 id
  have hs1 := hs.fr f0 id
  have c0 : W.cell? ⟨bb, 0, none⟩ = some (.pointer pv) := hb1.cell 0
  have c1 : W.cell? ⟨sb, 0, none⟩ = some (.int .i64 a) := hs1.cell 0
  have c2 : W.cell? ⟨sb, 1, none⟩ = some (.int .i64 b) := hs1.cell 1
  have l0 := hb1.lt
  have l1 := hs1.lt
  have J1 : J (fun k => k = W.heap.size) [] (W.alloc (.cells #[.func (.yield l) #[] #[]] YspT)) :=
    hJ _ _ (fun _ => False) _ _ _ h0 ((Fr.refl _ W).alloc _) (fun _ h => h.elim) fun k e => .inr ⟨by subst e; exact Nat.le_refl _, by subst e; simp⟩
  have HB := Lib.hid (And.intro (Blk.new W YspT #[.func (.yield l) #[] #[]]) (And.intro (hb1.alloc (.cells #[.func (.yield l) #[] #[]] YspT)) (hs1.alloc (.cells #[.func (.yield l) #[] #[]] YspT))))
  have HLn := Lib.hid (len_any a b (W.alloc (.cells #[.func (.yield l) #[] #[]] YspT)))
  have HJ1 := Lib.hid J1
  have HY := Lib.hid hY
  have HM := Lib.hid hM
  have HF0 := Lib.hid f0
  have HJ := Lib.hid (And.intro hJ hJx)
  have HSh := Lib.hid (And.intro h1 (And.intro h2 (fun k (h : Sh k) => Nat.lt_of_lt_of_le (hS0 k h) hW.size)))
  clear hb1 hs1 hb hs f0 J1 hY h0 hJ hJx hM h1 h2 hW hS0
  simp only [List.push_toArray, List.append_toArray, List.cons_append, List.nil_append]
  refine callsIn_of_wp_marks Try.func58 rfl trivial ?_ rfl
  simp only [Try.ntmps58, List.size_toArray, List.length_cons, List.length_nil, Nat.reduceAdd, Nat.reduceSub, Array.replicate_succ, Array.replicate_zero, List.push_toArray, List.append_toArray, List.nil_append, List.cons_append]
  gi_wp2_with fail
  first | refine ⟨trivial, (callsIn_wide.2 (HLn.out)).mono ?_⟩ | refine ⟨trivial, fun h => (by cases h), (callsIn_wide.2 (HLn.out)).mono ?_⟩
  rintro e w2 ⟨rfl, f2⟩
  have HF2 := Lib.hid f2
  have J2 : J (fun k => k = W.heap.size) [] w2 := HJ.out.1 _ _ None _ _ _ HJ1.out f2 (fun _ h => h.elim) fun k e => .inl e
  have y2 := HB.out.1.fr f2 id
  have b2 := HB.out.2.1.fr f2 id
  have s2 := HB.out.2.2.fr f2 id
  have d0 : w2.cell? ⟨bb, 0, none⟩ = some (.pointer pv) := b2.cell 0
  have d1 : w2.cell? ⟨sb, 0, none⟩ = some (.int .i64 a) := s2.cell 0
  have d2 : w2.cell? ⟨sb, 1, none⟩ = some (.int .i64 b) := s2.cell 1
  have HJ2 := Lib.hid J2
  have HB2 := Lib.hid (And.intro y2 (And.intro b2 s2))
  have l2 := b2.lt
  have l3 := s2.lt
  clear J2 y2 b2 s2 f2 HLn HJ1 HB c0 c1 c2 l0 l1
  by_cases hz : lenS (a, b) = 0
  · have hz2 : (lenS (a, b) == 0) = true := by simpa using hz
    have HG := Lib.hid (show gapsF (a, b) m = [] by unfold gapsF; rw [if_pos hz])
    clear hz
    gi_wp2_with fail
    exact ⟨_, results_none rfl _ _ _, ⟨⟨_, rfl⟩, .inl ⟨_, by rw [HG.out]; exact HJ2.out⟩⟩⟩
  have hz2 : (lenS (a, b) == 0) = false := by simpa using hz
  have HZ := Lib.hid hz
  clear hz
  have J3 : J (fun k => k = W.heap.size ∨ k = w2.heap.size) [] (w2.alloc (.cells #[.int .i64 a] IntT)) := HJ.out.1 _ _ None _ _ _ HJ2.out ((Fr.refl _ w2).alloc _) (fun _ h => h.elim) fun k e => by
    rcases e with e | e
    · exact .inl e
    · exact .inr (by subst e; simp)
  have HA := Lib.hid (meetsP_any pv a b (w2.alloc (.cells #[.int .i64 a] IntT)))
  rw [World.size_alloc] at HA
  have S4 := ((((Sep.law w2).alloc #[.int .i64 a] IntT).alloc #[.pointer pv] RpT).alloc #[.int .i64 a, .int .i64 b] SpT)
  simp only [World.size_alloc] at S4
  obtain ⟨W4, hW4⟩ : ∃ W4, W4 = ((w2.alloc (.cells #[.int .i64 a] IntT)).alloc (.cells #[.pointer pv] RpT)).alloc (.cells #[.int .i64 a, .int .i64 b] SpT) := ⟨_, rfl⟩
  rw [← hW4] at S4
  have hz4 : W4.heap.size = w2.heap.size + 3 := by rw [hW4]; simp
  have hWw := HF2.out.size
  rw [World.size_alloc] at hWw
  have G0 : GpI J l W.heap.size w2.heap.size (w2.heap.size + 1) (w2.heap.size + 1 + 1) sb a b (fun _ => False) [] (fun k => k = W.heap.size ∨ (w2.heap.size ≤ k ∧ k < W4.heap.size)) W4 := by
    refine ⟨HJ.out.1 _ _ None _ _ _ HJ2.out S4.fr (fun _ h => h.elim) (fun k e => e), ?_, fun _ h => h.elim, ⟨id, id, id⟩, HB2.out.1.fr S4.fr id, S4.at_ 2 rfl, HB2.out.2.2.fr S4.fr id, fun _ h => h.elim⟩
    rintro k (rfl | rfl | rfl | rfl)
    · exact .inl rfl
    · exact .inr ⟨by omega, by omega⟩
    · exact .inr ⟨by omega, by omega⟩
    · exact .inr ⟨by omega, by omega⟩
  have FW : Fr None w W4 := HF0.out.trans (((Fr.refl None W).alloc (.cells #[.func (.yield l) #[] #[]] YspT)).trans (HF2.out.trans S4.fr))
  have HS := Lib.hid (fun n => HM.out n (w2.heap.size + 1) (w2.heap.size + 1 + 1) W4 (FrC.none FW) (S4.at_ 1 rfl) (S4.at_ 0 rfl) (fun k => Sh k ∨ k = w2.heap.size + 1 ∨ k = w2.heap.size + 1 + 1) (fun _ h => .inl h) (.inr (.inl rfl)) (.inr (.inr rfl)))
  have HG0 := Lib.hid (show ∃ Pro, GpI J l W.heap.size w2.heap.size (w2.heap.size + 1) (w2.heap.size + 1 + 1) sb a b (fun _ => False) [] Pro W4 from ⟨_, G0⟩)
  have HN := Lib.hid (And.intro hWw hz4)
  have EW := Lib.hid hW4.symm
  clear J3 S4 hW4 G0 FW hz4 hWw HF0 HF2 HM
  gi_wp2_with fail
  first | refine ⟨trivial, (callsIn_wide.2 (HA.out)).mono ?_⟩ | refine ⟨trivial, fun h => (by cases h), (callsIn_wide.2 (HA.out)).mono ?_⟩
  rintro e w3 ⟨rfl, e3⟩
  simp only [EW.out] at e3
  simp only [e3]
  clear e3 w3 d0 d1 d2 HB2 HJ2 HA l2
  gi_wp2_with fail
  refine wpIn_rangeY (gf := 90) (lb := #[.pointer (at0 (w2.heap.size + 1)), .pointer (at0 (w2.heap.size + 1 + 1))]) rfl (enters_of Try.func90 (by kernel_rfl) rfl) (HS.out _) (Below.refl _ _) (fun _ => rfl)
    (fun Pri pre V => ∃ Pro, GpI J l W.heap.size w2.heap.size (w2.heap.size + 1) (w2.heap.size + 1 + 1) sb a b Pri pre Pro V) (fun c Pri pre V => c = .ret ∧ ∃ Pro, Jx Pro (gpre a pre) V ∧ ∀ k, Pri k → Pro k)
    (fun Pr Pr' X s A C ⟨Pro, h⟩ f hX hP => ⟨_, h.turn HJ.out.1 (by have := HN.out; omega) f hX hP⟩)
    (fun c Pr Pr' X s A C ⟨e, Pro, h, hp⟩ f hX hP => ⟨e, _, HJ.out.2 Pro (fun k => Pro k ∨ (A.heap.size ≤ k ∧ k < C.heap.size)) X _ A C h f (fun k hk => ⟨by have := (hX k hk).1; have := HN.out; omega, (hX k hk).2.imp (hp k) id⟩) (fun _ h => h), fun k hk => (hP k hk).imp (hp k) id⟩)
    HG0.out ?fA (fun Pri pre x k V => ∃ Pro, GpI J l W.heap.size w2.heap.size (w2.heap.size + 1) (w2.heap.size + 1 + 1) sb a b Pri pre Pro V ∧ Blk V k SpT #[.int .i64 x.1, .int .i64 x.2] ∧ Pro k ∧ ¬ Pri k ∧ k ≠ w2.heap.size)
    (fun Pri pre x k s A C row ⟨Pro, h, h1, h2, h3, h4⟩ hg hr => ⟨_, h.turn (Pri' := Pri) HJ.out.1 (by have := HN.out; omega) (grown_fr hg) (fun k e => ⟨(hr k e).1, .inr (hr k e).2⟩) (fun _ h => .inl h), h1.fr (own_frY hg hr) h1.odd, .inl h2, h3, h4⟩) ?assign ?body ?done ?stop
  case assign =>
    intro l' Pri pre x V K ⟨Pro, hI⟩ hK
    gi_wp2
    have f : Fr None V (V.alloc (.cells #[.int .i64 x.1, .int .i64 x.2] SpT)) := (Fr.refl None V).alloc _
    have hp : ∀ k, Pri k → k < V.heap.size := hI.old
    have hK' := hK V.heap.size (V.alloc (.cells #[.int .i64 x.1, .int .i64 x.2] SpT)) (KeepsFrom.of_fr f (fun _ _ h => h.elim)) (FrC.none f)
      ⟨_, hI.turn (Pri' := Pri) (B' := W4.heap.size) HJ.out.1 (by have := HN.out; omega) f (fun k h => h.elim) (fun _ h => .inl h), Blk.new V SpT _, .inr ⟨Nat.le_refl _, by simp⟩, fun h => absurd (hp _ h) (by omega), by have := hI.at_.lt; omega⟩
    clear hI hK f hp
    generalize V.heap.size = k at *
    exact hK'
  case body =>
    rintro l' Pri pre ⟨x1, x2⟩ k V ⟨Pro, hI, hk, hPk, hnk, hka⟩ hpre
    have c1 : V.cell? ⟨w2.heap.size, 0, none⟩ = some (.int .i64 (gat a pre)) := hI.at_.cell 0
    have c0 : V.cell? ⟨W.heap.size, 0, none⟩ = some (.func (.yield l) #[] #[]) := hI.y.cell 0
    have x1c : V.cell? ⟨k, 0, none⟩ = some (.int .i64 x1) := hk.cell 0
    have x2c : V.cell? ⟨k, 1, none⟩ = some (.int .i64 x2) := hk.cell 1
    by_cases g : gat a pre < x1
    · have g1 : decide (gat a pre < x1) = true := decide_eq_true g
      have e1 : gpre a (pre ++ [(x1, x2)]) = gpre a pre ++ [(gat a pre, x1)] := by rw [gpre_snoc, if_pos g]
      have hp2 := gapsF_pre (s := (a, b)) HZ.out hpre
      rw [show gpre (a, b).1 (pre ++ [(x1, x2)]) = gpre a pre ++ [(gat a pre, x1)] from e1] at hp2
      obtain ⟨fn, tmps, assign, body, hy, hR⟩ := HY.out Pro (gpre a pre) (gat a pre, x1) V hI.j hp2
      have HR := Lib.hid hR
      have HV := Lib.hid (And.intro hI hk)
      have HE := Lib.hid e1
      clear hR hI hk hp2 hpre g e1
      gi_wp2_with fail
      refine ⟨fun h => (by cases h), (roundIn_any rfl HR.out).mono ?_⟩
      rintro e V3 ⟨hk3, (⟨rfl, h1, h2⟩ | ⟨rfl, h1⟩)⟩
      · have P := Lib.hid (gaps_step HJ.out.1 HN.out.1 HN.out.2 l3 HSh.out.2.1 HSh.out.2.2 HV.out.1 hPk hk3 h2 (by rw [HE.out]; exact h1))
        have k3 := (HV.out.2.frC h2 (fun hn => hn (.inl hPk))).cell 1
        have z3 := (HV.out.1.at_.frC h2 (fun hn => hn (.inl (HV.out.1.own _ (.inr (.inl rfl)))))).cell 0
        have y3 := (HV.out.1.at_.frC h2 (fun hn => hn (.inl (HV.out.1.own _ (.inr (.inl rfl)))))).frozen 0
        clear h1 h2 hk3 hy HR HV c0 c1 x1c x2c
        gi_wp2_with fail
        exact P.out
      · have P := Lib.hid (And.intro (KeepsFrom.up hk3 (show W.heap.size ≤ W4.heap.size by have := HN.out; omega)) h1)
        clear h1 hk3 hy HR c0 c1 x1c x2c
        gi_wp2_with fail
        exact ⟨P.out.1, rfl, Pro, by rw [HE.out]; exact P.out.2, HV.out.1.pri⟩
    · have g1 : decide (gat a pre < x1) = false := decide_eq_false g
      have e1 : gpre a (pre ++ [(x1, x2)]) = gpre a pre := by rw [gpre_snoc, if_neg g, List.append_nil]
      have P := Lib.hid (gaps_step HJ.out.1 HN.out.1 HN.out.2 l3 HSh.out.2.1 HSh.out.2.2 hI hPk (KeepsFrom.refl _ V) (FrC.refl _ V) (by rw [e1]; exact hI.j))
      have z3 := hI.at_.frozen 0
      clear hI hk hpre e1 c0
      gi_wp2_with fail
      refine ⟨fun _ h => (by cases h), ?_⟩
      gi_wp2_with fail
      exact P.out
  case done =>
    rintro D Pr V hD ⟨Pro, hI⟩ hK
    have c1 : V.cell? ⟨w2.heap.size, 0, none⟩ = some (.int .i64 (gat a m)) := hI.at_.cell 0
    have c0 : V.cell? ⟨W.heap.size, 0, none⟩ = some (.func (.yield l) #[] #[]) := hI.y.cell 0
    have c2 : V.cell? ⟨sb, 1, none⟩ = some (.int .i64 b) := hI.s.cell 1
    by_cases g : gat a m < b
    · have g1 : decide (gat a m < b) = true := decide_eq_true g
      have e1 : gapsF (a, b) m = gpre a m ++ [(gat a m, b)] := by unfold gapsF; rw [if_neg HZ.out, gaps_parts]; simp only []; rw [if_pos g]
      obtain ⟨fn, tmps, assign, body, hy, hR⟩ := HY.out Pro (gpre a m) (gat a m, b) V hI.j (by rw [e1]; exact List.prefix_refl _)
      have HR := Lib.hid hR
      clear hR
      have HE := Lib.hid e1
      clear hI e1 g
      gi_wp2_with fail
      refine ⟨fun h => (by cases h), (roundIn_any rfl HR.out).mono ?_⟩
      rintro e V3 ⟨hk3, (⟨rfl, h1, h2⟩ | ⟨rfl, h1⟩)⟩
      · have hK3 := hk3.same _ _ (by have := HN.out; omega) hK rfl
        have P := Lib.hid ((HJ.out.1.own _).putObj (.deferred none) h1 (by have := HN.out; omega) hK3 rfl)
        clear h1 h2 hk3 hy HR c0 c1 c2
        gi_wp2_with fail
        refine ⟨by simp, .inl ⟨_, _, rfl, run_takeDeferred hK3, ?_⟩⟩
        exact ⟨_, results_none rfl _ _ _, ⟨⟨_, rfl⟩, .inl ⟨_, by rw [HE.out]; exact P.out⟩⟩⟩
      · have hK3 := hk3.same _ _ (by have := HN.out; omega) hK rfl
        have P := Lib.hid ((HJ.out.2.own _).putObj (.deferred none) h1 (by have := HN.out; omega) hK3 rfl)
        clear h1 hk3 hy HR c0 c1 c2
        gi_wp2_with fail
        refine ⟨by simp, .inl ⟨_, _, rfl, run_takeDeferred hK3, ?_⟩⟩
        exact ⟨_, results_none rfl _ _ _, ⟨⟨_, rfl⟩, .inr ⟨_, _, by rw [HE.out]; exact List.prefix_refl _, P.out⟩⟩⟩
    · have g1 : decide (gat a m < b) = false := decide_eq_false g
      have e1 : gapsF (a, b) m = gpre a m := by unfold gapsF; rw [if_neg HZ.out, gaps_parts]; simp only []; rw [if_neg g, List.append_nil]
      have P := Lib.hid ((HJ.out.1.own _).putObj (.deferred none) hI.j (by have := HN.out; omega) hK rfl)
      rw [← e1] at P
      clear e1 hI
      gi_wp2_with fail
      refine ⟨by simp, .inl ⟨_, _, rfl, run_takeDeferred hK, ?_⟩⟩
      exact ⟨_, results_none rfl _ _ _, ⟨⟨_, rfl⟩, .inl ⟨_, P.out⟩⟩⟩
  case stop =>
    rintro D c Pr pre V hD hpre ⟨rfl, Pro, hjx, _⟩ hK
    have P := Lib.hid ((HJ.out.2.own _).putObj (.deferred none) hjx (by have := HN.out; omega) hK rfl)
    have HP2 := Lib.hid (gapsF_pre (s := (a, b)) HZ.out hpre)
    clear hpre hjx
    gi_wp2_with fail
    refine ⟨by simp, .inl ⟨_, _, rfl, run_takeDeferred hK, ?_⟩⟩
    exact ⟨_, results_none rfl _ _ _, ⟨⟨_, rfl⟩, .inr ⟨gpre a pre, HP2.out, Pro, P.out⟩⟩⟩
end Go.Proofs.Ytfobeheplficgaa
