/- Take, when it takes: walked. -/
import Derived.Test.YtfobeheplficgaaHrM1
import Derived.Test.YtfobeheplficgaaRwVa
import Derived.Test.YtfobeheplficgaaRegE
import Derived.Sort.LoopGhostIn
set_option linter.unusedVariables false
set_option linter.unusedSimpArgs false
namespace Go.Proofs.Ytfobeheplficgaa
open Go.RowKit Go.Und Go.Shelf
attribute [local go_sem] Oper.semAt_some
attribute [local go_sem ↓] Go.wp_at_zero Go.wp_at_succ

theorem _root_.Go.Und.Sep.brow_set {D : Nat → Prop} {w0 w : World} {L : List Ob} (S : Sep D w0 w L) (i : Nat) {rb rc : Nat} {r : List Int} (h : L[i]? = some (brow (some ⟨rb, 0, none⟩) rc r)) {m : Nat} {x : Int} (c : Int) (hx : r[m]? = some x) :
    Sep D w0 (w.setCell ⟨rb, m, none⟩ (.int .u8 c)) (L.set i (brow (some ⟨rb, 0, none⟩) rc (r.set m c))) := by
  have h1 : Owns u8c 1 U8T w (.slice (some ⟨rb, 0, none⟩) r.length rc) r := S.at_ i h
  have h2 := h1.set (x' := c) (j := 0) (u := .int .u8 c) u8c_len hx (by decide) rfl
  refine S.turn i h (brow (some ⟨rb, 0, none⟩) rc (r.set m c)) (E := (· = rb)) (Fr.setCell (D := (· = rb)) (Fr.refl _ w) (p := ⟨rb, m, none⟩) (fun _ => rfl) _) (fun _ _ h => by subst h; rfl) ?_ (fun _ h => .inl h)
  show World.ownsRow _ _ _ _ _ _ _
  rw [List.length_set]
  rw [Nat.mul_one, Nat.add_zero] at h2
  unfold Owns at h2
  rw [List.length_set] at h2
  exact h2
theorem gaps_all2 {l : List (Int × Int)} (ok : OkL l) (s : Int × Int) : OkL (gapsR l s) ∧ (∀ o, memL (gapsR l s) o ↔ inS s o ∧ ¬ memL l o) := by
  by_cases hz : lenS s = 0
  · have e : gapsR l s = [] := by unfold gapsR; rw [if_pos hz]
    rw [e]
    exact ⟨trivial, fun o => ⟨fun h => absurd h (memL_nil o), fun h => absurd h.1 (inS_zero hz o)⟩⟩
  · have hs := lenS_ne hz
    obtain ⟨r1, r2⟩ := gapsR_ok hs l ok
    exact ⟨r1, fun o => by rw [r2, inS_pr hs]⟩
theorem gap_in {l : List (Int × Int)} (ok : OkL l) {a b : Int} (h0 : 0 ≤ a) (h1 : a < b) (h2 : b ≤ 4611686018427387904) {pre : List (Int × Int)} {x : Int × Int} (h : pre ++ [x] <+: gapsR l (a, b)) : a ≤ x.1 ∧ x.1 < x.2 ∧ x.2 ≤ b ∧ PrS x ∧ ¬ memL l x.1 := by
  obtain ⟨g1, g2⟩ := gaps_all2 ok (a, b)
  have hx : x ∈ gapsR l (a, b) := h.subset (by simp)
  have px := g1.pr x hx
  have hs : PrS (a, b) := ⟨h0, h1, h2⟩
  have m0 := ((g2 x.1).1 ⟨x, hx, Int.le_refl _, px.2.1⟩)
  have m1 := m0.1
  have m2 := ((g2 (x.2 - 1)).1 ⟨x, hx, by have := px.2.1; omega, by omega⟩).1
  rw [inS_pr hs] at m1 m2
  simp only at m1 m2
  exact ⟨m1.1, px.2.1, by omega, px, m0.2⟩
theorem add_room2 (p : Nat) (q : Option Addr) (cap : Nat) (l : List (Int × Int)) (a b : Int) (w : World) (ok : OkL l) (hl : l.length ≤ 4000) (hs : PrS (a, b)) (S : Sep (fpL (rns p q cap l)) w w (rns p q cap l)) :
    Calls Try.prog 15 #[.pointer (at0 p), .agg #[.int .i64 a, .int .i64 b]] w fun e w' => e = .returned (.tuple #[.int .i64 (lenS (a, b) - withinL l (a, b)), .int .i64 0]) ∧ ∃ q' c', Sep (fpL (rns p q cap l)) w w' (rns p q' c' (addL l (a, b))) := by
  have h2 := hull_len_add ok hs
  refine (add_do p q cap l a b w ok (by omega) hs S).mono ?_
  rintro e w' (⟨_, h⟩ | ⟨h, _⟩)
  · exact h
  · omega
theorem odd_keep {L : List Ob} {w w' : World} {D : Nat} {x : Option (List Deferred)} (hS : ∀ o ∈ L, o.ok w) (f : Fr (fpL L) w w') (h : w.heap[D]? = some (.deferred x)) : w'.heap[D]? = some (.deferred x) :=
  (f.block D (heap_lt h) (fun ⟨o, ho, hk⟩ => by obtain ⟨cs, t, z, hc⟩ := o.cel (hS o ho) hk; rw [h] at hc; cases hc)).trans h
theorem odd_set {w : World} {D b o : Nat} {x : Option (List Deferred)} {ty : TypeId} {cs : Array Value} (h : w.heap[D]? = some (.deferred x)) (hb : Blk w b ty cs) (v : Value) : (w.setCell ⟨b, o, none⟩ v).heap[D]? = some (.deferred x) :=
  (Below.heap_setCell w ⟨b, o, none⟩ v D (fun e => by unfold Blk at hb; have e' : D = b := e; subst e'; rw [h] at hb; cases hb)).trans h
/-- What comes of a segment that is taken. -/
def TakePost (L : List Ob) (w : World) (room hp : Nat) (first : Int) (gp rb rc : Nat) (l : List (Int × Int)) (b body : List Int) (o : Nat) (e : Ending) (w' : World) : Prop :=
  ∃ q' c' tq' tc' text' ring', e = .returned (.tuple #[.agg #[.int .i64 o, .int .i64 ((o : Int) + body.length), .int .i64 (lenS ((o : Int), (o : Int) + body.length) - withinL l ((o : Int), (o : Int) + body.length)), .bool (decide (0 < lenS (meetS (nextL l o) ((o : Int), (o : Int) + body.length)))), .int .i64 (meetS (nextL l o) ((o : Int), (o : Int) + body.length)).1, .int .i64 (meetS (nextL l o) ((o : Int), (o : Int) + body.length)).2], .int .i64 0]) ∧
    HOk room (addL l ((o : Int), (o : Int) + body.length)) (layB l b o body) text' ring' ∧ Sep (fpL L) w w' (hrd hp first gp q' c' (addL l ((o : Int), (o : Int) + body.length)) tq' tc' text' (some ⟨rb, 0, none⟩) rc ring')

abbrev rest6 (ws w1s w2s hp gp : Nat) (first : Int) (q : Option Addr) (c : Nat) (l : List (Int × Int)) (tq : Option Addr) (tc : Nat) (text : List Int) (rb rc : Nat) (ring : List Int) (a : Option Addr) (cap : Nat) (len o : Nat) (d1 d2 : Int) : List Ob :=
  [Ob.blk w2s SpT #[.int .i64 d1, .int .i64 d2], Ob.blk w1s SpT #[.int .i64 o, .int .i64 ((o : Int) + len)], Ob.blk (ws + 1 + 1) TdT #[.int .i64 0, .int .i64 0, .int .i64 0, .bool false, .int .i64 0, .int .i64 0], Ob.blk (ws + 1) BlT #[.slice a len cap], Ob.blk ws HpT #[.pointer (at0 hp)], Ob.blk gp RnT #[.slice q l.length c], srow q c l, Ob.blk hp HdT (hcs first gp tq tc text (some ⟨rb, 0, none⟩) rc ring), brow tq tc text]
set_option maxRecDepth 100000 in
set_option maxHeartbeats 16000000 in
theorem take_yes (hp gp : Nat) (first num : Int) (q : Option Addr) (c : Nat) (l : List (Int × Int)) (tq : Option Addr) (tc : Nat) (text : List Int) (rb rc : Nat) (ring b : List Int) (a : Option Addr) (cap : Nat) (body : List Int) (o : Nat) (w : World)
    (S : Sep (fpL (hrd hp first gp q c l tq tc text (some ⟨rb, 0, none⟩) rc ring)) w w (hrd hp first gp q c l tq tc text (some ⟨rb, 0, none⟩) rc ring))
    (HB : ∀ V, Fr (fpL (hrd hp first gp q c l tq tc text (some ⟨rb, 0, none⟩) rc ring)) w V → Reads V 1 a body.length cap (fc u8c body))
    (hok : HOk ring.length l b text ring) (ho : offH text.length first num = o) (b0 : 0 < body.length) (b1 : body.length ≤ 2048) (b2 : o + body.length ≤ text.length + ring.length) (b3 : ring.length ≤ 65536) (b4 : text.length ≤ 50000000) (b5 : l.length ≤ 4000) :
    Calls Try.prog 42 #[.pointer (at0 hp), .int .u32 num, .slice a body.length cap] w (TakePost (hrd hp first gp q c l tq tc text (some ⟨rb, 0, none⟩) rc ring) w ring.length hp first gp rb rc l b body o) := by
  have e0 : w.cell? ⟨hp, 0, none⟩ = some (.int .u32 first) := (S.at_ 2 rfl).cell 0
  have e1 : w.cell? ⟨hp, 1, none⟩ = some (.pointer (at0 gp)) := (S.at_ 2 rfl).cell 1
  have e2 : w.cell? ⟨hp, 2, none⟩ = some (.slice tq text.length tc) := (S.at_ 2 rfl).cell 2
  have e3 : w.cell? ⟨hp, 3, none⟩ = some (.slice (some ⟨rb, 0, none⟩) ring.length rc) := (S.at_ 2 rfl).cell 3
  obtain ⟨r1, r2⟩ := rns_row (R := [Ob.blk hp HdT (hcs first gp tq tc text (some ⟨rb, 0, none⟩) rc ring), brow tq tc text, brow (some ⟨rb, 0, none⟩) rc ring]) S
  have lrb : rb < w.heap.size := Ob.lt _ (S.at_ 4 rfl) (k := rb) rfl
  have hcode := code_ok (n := text.length) (room := ring.length) (len := body.length) (off := o) b0 b1 (by omega) (by omega)
  have hpl := (plS_of hcode).2
  rw [if_pos rfl] at hpl
  have HP := Lib.hid (fun (V : World) (f : Fr None w V) => place_ok hp first num o gp tq text.length tc (some ⟨rb, 0, none⟩) ring.length rc a body.length cap V (by omega) b3 (cell_frN f e0) (cell_frN f e2) (cell_frN f e3) ho b0 b1)
  rw [hcode, hpl] at HP
  have HT := Lib.hid (fun (V : World) (f : Fr None w V) => twice_any hp gp q c l o (o + body.length) V hok.ok (by omega) (cell_frN f e1) (cell_frN f r1) (r2.fr f (fun _ _ h => h)))
  unfold TakePost
  obtain ⟨d1, d2, hd⟩ : ∃ d1 d2, meetS (nextL l o) ((o : Int), (o : Int) + body.length) = (d1, d2) := ⟨_, _, rfl⟩
  rw [hd] at HT ⊢
  have HS0 := Lib.hid (((S.alloc #[.pointer (at0 hp)] HpT).alloc #[.slice a body.length cap] BlT).alloc #[.int .i64 0, .int .i64 0, .int .i64 0, .bool false, .int .i64 0, .int .i64 0] TdT)
  have HF0 := Lib.hid ((((Fr.refl None w).alloc (.cells #[.pointer (at0 hp)] HpT)).alloc (.cells #[.slice a body.length cap] BlT)).alloc (.cells #[.int .i64 0, .int .i64 0, .int .i64 0, .bool false, .int .i64 0, .int .i64 0] TdT))
  simp only [World.size_alloc] at HS0
  obtain ⟨i, hi, hz0, hz1, hz2⟩ := info_parts u8Info
  have HI := Lib.hid (And.intro hi (And.intro hz0 (And.intro hz1 hz2))); clear hi hz0 hz1 hz2
  have HK := Lib.hid (And.intro hok (And.intro e1 (And.intro r1 r2)))
  clear S e0 e1 e2 e3 r1 r2 hcode hpl ho hd hok
  refine (callsIn_wide (n := 5)).1 ?_
  refine callsIn_of_wp_marks Try.func42 rfl trivial ?_ rfl
  refine wpIn_wide.2 ?_
  simp only [Try.ntmps42, List.size_toArray, List.length_cons, List.length_nil, Nat.reduceAdd, Nat.reduceSub, Array.replicate_succ, Array.replicate_zero, List.push_toArray, List.append_toArray, List.nil_append, List.cons_append]
  go_wp2_with (first
    | ((with_reducible refine (HP.out _ HF0.out).mono ?_); rintro y1 w1 ⟨rfl, F1⟩; have HS1 := Lib.hid ((HS0.out.same F1).alloc #[.int .i64 o, .int .i64 ((o : Int) + body.length)] SpT); have HF1 := Lib.hid ((HF0.out.trans F1).alloc (.cells #[.int .i64 o, .int .i64 ((o : Int) + body.length)] SpT)); have p1 : w1.cell? ⟨w.heap.size, 0, none⟩ = some (.pointer (at0 hp)) := ((HS0.out.same F1).at_ 2 rfl).cell 0; have lt1 : w.heap.size < w1.heap.size := World.block_lt_of_cell? w1 _ p1; clear F1)
    | ((with_reducible refine (HT.out _ HF1.out).mono ?_); rintro y2 w2 ⟨rfl, F2⟩; have S2 := (HS1.out.same F2).alloc #[.int .i64 d1, .int .i64 d2] SpT; have FW := HF1.out.trans F2; have p3 : w2.cell? ⟨w.heap.size, 0, none⟩ = some (.pointer (at0 hp)) := ((HS1.out.same F2).at_ 3 rfl).cell 0; have p4 : w2.cell? ⟨hp, 1, none⟩ = some (.pointer (at0 gp)) := cell_frN FW HK.out.2.1; have p5 : w2.cell? ⟨w1.heap.size, 0, none⟩ = some (.int .i64 o) := ((HS1.out.same F2).at_ 0 rfl).cell 0; have p6 : w2.cell? ⟨w1.heap.size, 1, none⟩ = some (.int .i64 ((o : Int) + body.length)) := ((HS1.out.same F2).at_ 0 rfl).cell 1; have lt2 : w.heap.size < w2.heap.size := World.block_lt_of_cell? w2 _ p3; have lt3 : w1.heap.size < w2.heap.size := World.block_lt_of_cell? w2 _ p5; have lt4 : hp < w2.heap.size := World.block_lt_of_cell? w2 _ p4; have HS2 := Lib.hid S2; have HF2 := Lib.hid (FW.alloc (.cells #[.int .i64 d1, .int .i64 d2] SpT)); clear S2 FW F2)
    | fail)
  refine (wpIn_wide (n := 5)).1 ?_
  refine wpIn_region_segs (by kernel_rfl) ?_
  refine seg_still 5 (by kernel_rfl) ?_
  simp only [List.drop_zero, List.take_succ_cons, List.take_zero, Nat.reduceSub]
  repeat (go_big_quiet_step (fail))
  refine wpQuiet_nil ?_
  refine seg_one (by kernel_rfl) fun K hK => ?_
  simp only [List.drop_succ_cons, List.drop_zero, List.take_succ_cons, List.take_zero]
  gi_wp2_with fail
  first | refine ⟨trivial, (callsIn_wide.2 (gapsG_any (at0 gp) o (o + body.length) _)).mono ?_⟩ | refine ⟨trivial, fun h => (by cases h), (callsIn_wide.2 (gapsG_any (at0 gp) o (o + body.length) _)).mono ?_⟩
  have f9 : Fr None w ((w2.alloc (.cells #[.int .i64 d1, .int .i64 d2] SpT)).drew) := HF2.out.drew
  have HSq := Lib.hid (fun n => gaps_seq gp q c l o (o + body.length) HK.out.1.ok (by omega) ((w2.alloc (.cells #[.int .i64 d1, .int .i64 d2] SpT)).drew) (cell_frN f9 HK.out.2.2.1) (HK.out.2.2.2.fr f9 (fun _ _ h => h)) _ rfl n)
  rw [gaps_eq HK.out.1.ok] at HSq
  have SW := ((HS2.out.drew.skip (.cells #[.pointer (at0 gp)] RpT)).skip (.cells #[.int .i64 o, .int .i64 ((o : Int) + body.length)] SpT)).front 9 rfl
  have hsz : ((((w2.alloc (.cells #[.int .i64 d1, .int .i64 d2] SpT)).drew).alloc (.cells #[.pointer (at0 gp)] RpT)).alloc (.cells #[.int .i64 o, .int .i64 ((o : Int) + body.length)] SpT)).heap.size = w2.heap.size + 3 := by simp [size_drew']
  simp only [World.size_alloc, size_drew'] at HSq
  rintro y3 w3 ⟨rfl, e3⟩
  generalize eW : (((w2.alloc (.cells #[.int .i64 d1, .int .i64 d2] SpT)).drew).alloc (.cells #[.pointer (at0 gp)] RpT)).alloc (.cells #[.int .i64 o, .int .i64 ((o : Int) + body.length)] SpT) = W0 at SW HSq hsz
  have e4 := e3.trans eW
  clear e3 eW
  subst e4
  have HSW := Lib.hid (show Sep _ w w3 ([brow (some ⟨rb, 0, none⟩) rc ring] ++ rest6 w.heap.size w1.heap.size w2.heap.size hp gp first q c l tq tc text rb rc ring a cap body.length o d1 d2) from SW)
  have HSh := Lib.hid (show ∀ k, (ShR gp q l k ∨ k = w2.heap.size + 1 ∨ k = w2.heap.size + 1 + 1) → k < w3.heap.size ∧ ¬ fpL [brow (some ⟨rb, 0, none⟩) rc ring] k from fun k hk => by
    have S3 := HSW.out
    have hsl := shR_lt HK.out.2.2.1 HK.out.2.2.2
    have hw : w.heap.size ≤ w2.heap.size := by omega
    have h1 : k < w3.heap.size := by
      rcases hk with hk | rfl | rfl
      · have := hsl k hk; omega
      · omega
      · omega
    refine ⟨h1, fun ⟨o', ho', h⟩ => ?_⟩
    rw [List.mem_singleton.1 ho'] at h
    have h' : k = rb := by cases h; rfl
    subst h'
    rcases hk with hk | hk | hk
    · rcases hk with hk | ⟨hk0, ad, had, hk⟩
      · exact S3.ne 6 0 (by decide) rfl rfl k (show k = gp from hk) rfl
      · refine S3.ne 7 0 (by decide) rfl rfl k ?_ rfl
        show (Value.slice q l.length c).ownBlock = some k
        rw [had, ← hk]; rfl
    · omega
    · omega)
  have HZ := Lib.hid hsz
  clear SW hsz f9 p1 p3 p4 p5 p6 HS0 HS1 HF0 HF1 HP HT
  dsimp only
  simp only [World.size_alloc, size_drew']
  gi_wp2_with fail
  refine seg_done (by rfl) (by kernel_rfl) ?_
  go_wp2_with fail
  refine (wpIn_wide (n := 5)).1 ?_
  refine wpIn_rangeR (gf := 58) (lb := #[.pointer (at0 (w2.heap.size + 1 + 1)), .pointer (at0 (w2.heap.size + 1))]) rfl (enters_of Try.func58 (by kernel_rfl) rfl) (HSq.out _) (Below.refl _ _) (fun _ => rfl)
    HSW.out HSh.out (fun pre r => RgI ring.length text.length o body ring r (fun k => memL pre k)) (fun r => [brow (some ⟨rb, 0, none⟩) rc r]) (fun _ _ => False) ring ((RgI.start rfl).congr fun k _ _ => ⟨fun h => h.elim, fun h => absurd h (memL_nil _)⟩) rfl ?fA SpT (fun x => #[.int .i64 x.1, .int .i64 x.2]) ?assign ?body ?done ?stop
  case assign =>
    intro l' x V K hK
    gi_wp2
    generalize V.heap.size = k at *
    exact hK
  case body =>
    rintro l' pre ⟨x1, x2⟩ k V r hr hpre S hk
    obtain ⟨g1, g2, g3, g4, g5⟩ := gap_in HK.out.1.ok (by omega) (by omega) (by omega) hpre
    simp only at g1 g2 g3 g5
    have g6 : (text.length : Int) ≤ x1 := by
      rcases Int.lt_or_le x1 text.length with h | h
      · exact absurd ((gap_spec HK.out.1.ok).2.1 x1 (by omega) (by rw [HK.out.1.nx]; exact h)) g5
      · exact h
    obtain ⟨a1, rfl⟩ := Int.eq_ofNat_of_zero_le (show 0 ≤ x1 by omega)
    obtain ⟨nn, rfl⟩ : ∃ nn : Nat, x2 = a1 + nn := ⟨(x2 - a1).toNat, by omega⟩
    have HL := Lib.hid (fun W => len_any a1 (a1 + nn) W)
    have hln : lenS ((a1 : Int), (a1 : Int) + nn) = nn := by rw [lenS_of g4]; simp only; omega
    rw [hln] at HL
    have x1c : V.cell? ⟨k, 0, none⟩ = some (.int .i64 a1) := (S.at_ 1 rfl).cell 0
    have x2c : V.cell? ⟨k, 1, none⟩ = some (.int .i64 ((a1 : Int) + nn)) := (S.at_ 1 rfl).cell 1
    have HS := Lib.hid S
    have HT := Lib.hid S.head
    have HR := Lib.hid hr
    clear S hr hpre g4 hln hk g5
    gi_wp2_with fail
    refine ⟨trivial, (CallsIn.inRound _ (callsIn_wide.2 (HL.out _))).mono ?_⟩
    rintro e4 w4 ⟨rfl, F4⟩
    have HS4 := Lib.hid (HS.out.same F4)
    have HT4 := Lib.hid (HT.out.same F4)
    clear F4 x1c x2c HL HS HT
    gi_wp2_with fail
    gi_loopg [42] nn (fun n iv wr => ∃ (j : Nat) (r' : List Int), j + n = nn ∧ iv = .int .i64 j ∧ RgI ring.length text.length o body ring r' (fun m => memL pre m ∨ ((a1 : Int) ≤ m ∧ (m : Int) < a1 + j)) ∧
      Sep (fpL (hrd hp first gp q c l tq tc text (some ⟨rb, 0, none⟩) rc ring)) w wr (([brow (some ⟨rb, 0, none⟩) rc r'] ++ [Ob.blk k SpT #[.int .i64 a1, .int .i64 ((a1 : Int) + nn)]]) ++ rest6 w.heap.size w1.heap.size w2.heap.size hp gp first q c l tq tc text rb rc ring a cap body.length o d1 d2) ∧
      Sep (fpL ([brow (some ⟨rb, 0, none⟩) rc r] ++ [Ob.blk k SpT #[.int .i64 a1, .int .i64 ((a1 : Int) + nn)]])) V wr ([brow (some ⟨rb, 0, none⟩) rc r'] ++ [Ob.blk k SpT #[.int .i64 a1, .int .i64 ((a1 : Int) + nn)]]))
    case atStart => exact ⟨0, r, by omega, rfl, HR.out.congr (fun m _ _ => ⟨.inl, fun h => h.elim id (fun h => by omega)⟩), HS4.out, HT4.out⟩
    case round =>
      obtain ⟨j, r', hjn, rfl, hr', SA, SB⟩ := hrel
      by_cases g : j < nn
      · obtain ⟨t, ht⟩ : ∃ t, t = a1 + j := ⟨_, rfl⟩
        have ea : (a1 : Int) + (j : Int) = t := by omega
        have hr0 : 0 < ring.length := HK.out.1.pos
        obtain ⟨m, hm⟩ : ∃ m, m = t % ring.length := ⟨_, rfl⟩
        have hml : m < ring.length := by rw [hm]; exact Nat.mod_lt _ hr0
        have em : (t : Int) % (ring.length : Int) = m := by rw [hm]; rfl
        obtain ⟨d, hd⟩ : ∃ d, d = t - o := ⟨_, rfl⟩
        have ed : (t : Int) - (o : Int) = d := by omega
        have hdl : d < body.length := by omega
        obtain ⟨y, hy⟩ : ∃ y, body[d]? = some y := ⟨_, List.getElem?_eq_getElem hdl⟩
        obtain ⟨z, hz⟩ : ∃ z, r'[m]? = some z := ⟨_, List.getElem?_eq_getElem (by rw [hr'.1]; exact hml)⟩
        obtain ⟨bb, oo, rfl, hcb⟩ := (HB wr SA.fr).elem u8c_len (by decide) hy
        have v1 : wr.cell? ⟨bb, oo + d, none⟩ = some (.int .u8 y) := by have := hcb 0 _ rfl; simpa using this
        obtain ⟨gg, eg, hgl, hcg, hfz⟩ := Owns.elem u8c_len (show Owns u8c 1 U8T wr (.slice (some ⟨rb, 0, none⟩) r'.length rc) r' from SA.at_ 0 rfl) (by decide) hz
        obtain rfl : rb = gg := by cases eg; rfl
        have v2 : wr.cell? ⟨rb, m, none⟩ = some (.int .u8 z) := by have := hcg 0 _ rfl; simpa using this
        have v3 : wr.frozen? ⟨rb, m, none⟩ = false := hfz m
        have v4 : wr.cell? ⟨w.heap.size, 0, none⟩ = some (.pointer (at0 hp)) := (SA.at_ 6 rfl).cell 0
        have v5 : wr.cell? ⟨hp, 3, none⟩ = some (.slice (some ⟨rb, 0, none⟩) ring.length rc) := (SA.at_ 9 rfl).cell 3
        have v6 : wr.cell? ⟨w.heap.size + 1, 0, none⟩ = some (.slice (some ⟨bb, oo, none⟩) body.length cap) := (SA.at_ 5 rfl).cell 0
        have v7 : wr.cell? ⟨w1.heap.size, 0, none⟩ = some (.int .i64 o) := (SA.at_ 3 rfl).cell 0
        have v8 : wr.cell? ⟨k, 0, none⟩ = some (.int .i64 a1) := (SA.at_ 1 rfl).cell 0
        have g1' : decide (j < nn) = true := decide_eq_true g
        have HA := Lib.hid ((SA.drew).brow_set 0 rfl y hz)
        have HBb := Lib.hid ((SB.drew).brow_set 0 rfl y hz)
        have HP := Lib.hid ((hr'.put (j := t) (c := y) ⟨by omega, by omega⟩ (by rw [← hd]; exact hy)).congr (P' := fun m => memL pre m ∨ ((a1 : Int) ≤ m ∧ (m : Int) < a1 + (j + 1 : Nat))) (fun x _ _ => ⟨fun h => by
          rcases h with (h | h) | h
          · exact .inl h
          · exact .inr ⟨h.1, by omega⟩
          · exact .inr ⟨by omega, by omega⟩, fun h => by
          rcases h with h | h
          · exact .inl (.inl h)
          · rcases Nat.lt_or_ge x t with h2 | h2
            · exact .inl (.inr ⟨h.1, by omega⟩)
            · exact .inr (by omega)⟩))
        rw [← hm] at HP
        have t0 : (0 : Int) ≤ t := by omega
        have m0 : (0 : Int) ≤ m := by omega
        have m1 : (m : Int) < ring.length := by omega
        have dd0 : (0 : Int) ≤ d := by omega
        have dd1 : (d : Int) < body.length := by omega
        have r0 : (0 : Int) < ring.length := by omega
        have HRl := Lib.hid hr'
        clear SA SB hr' hcb hcg hfz hy hz hm hd ht eg
        gi_wp2_with fail
        refine wpIn_region_round (by kernel_rfl) (by kernel_rfl) ?_
        refine seg_still 19 (by kernel_rfl) ?_
        simp only [List.drop_zero, List.take_succ_cons, List.take_zero, Nat.reduceSub]
        repeat (go_big_quiet_step (fail))
        refine wpQuiet_nil ?_
        refine seg_one (by kernel_rfl) fun K hK => ?_
        simp only [List.drop_succ_cons, List.drop_zero, List.take_succ_cons, List.take_zero]
        gi_wp2_with fail
        refine seg_done (by rfl) (by kernel_rfl) ?_
        gi_wp2_with fail
        go_roundg (gk - 1)
        case measure => omega
        case rel => exact ⟨j + 1, r'.set m y, by omega, by go_num, HP.out, HA.out, HBb.out⟩
      · obtain rfl : j = nn := by omega
        have HX := Lib.hid (And.intro hr' SB)
        clear hr' SA SB
        gi_wp2_with fail
        refine ⟨r', ?_, ?_⟩
        · exact HX.out.1.congr (fun m _ _ => by
            unfold memL
            simp only [List.mem_append, List.mem_singleton]
            constructor
            · rintro (⟨x, h1, h2⟩ | h)
              · exact ⟨x, .inl h1, h2⟩
              · exact ⟨_, .inr rfl, h⟩
            · rintro ⟨x, h1 | rfl, h2⟩
              · exact .inl ⟨x, h1, h2⟩
              · exact .inr h2)
        · exact HX.out.2.drop (List.sublist_append_left _ _)
  case done =>
    rintro D' V r hD hr S fV hK
    have hr2 : RgI ring.length text.length o body ring r (fun k => (o ≤ k ∧ k < o + body.length) ∧ ¬ memL l k) := hr.congr (fun m _ _ => by
      rw [(gaps_all2 HK.out.1.ok _).2, inS_pr ⟨by simp only; omega, by simp only; omega, by simp only; omega⟩]
      simp only
      constructor
      · rintro ⟨⟨h1, h2⟩, h3⟩; exact ⟨⟨by omega, by omega⟩, h3⟩
      · rintro ⟨⟨h1, h2⟩, h3⟩; exact ⟨⟨by omega, by omega⟩, h3⟩)
    clear hr fV
    have hps : PrS ((o : Int), (o : Int) + body.length) := ⟨by simp only; omega, by simp only; omega, by simp only; omega⟩
    have c1 : V.cell? ⟨w.heap.size, 0, none⟩ = some (.pointer (at0 hp)) := (S.at_ 5 rfl).cell 0
    have c2 : V.cell? ⟨hp, 1, none⟩ = some (.pointer (at0 gp)) := (S.at_ 8 rfl).cell 1
    have c3 : V.cell? ⟨w1.heap.size, 0, none⟩ = some (.int .i64 o) := (S.at_ 2 rfl).cell 0
    have c4 : V.cell? ⟨w1.heap.size, 1, none⟩ = some (.int .i64 ((o : Int) + body.length)) := (S.at_ 2 rfl).cell 1
    have HS := Lib.hid (show Sep _ w V.drew (rns gp q c l ++ [brow (some ⟨rb, 0, none⟩) rc r, Ob.blk w2.heap.size SpT #[.int .i64 d1, .int .i64 d2], Ob.blk w1.heap.size SpT #[.int .i64 o, .int .i64 ((o : Int) + body.length)], Ob.blk (w.heap.size + 1 + 1) TdT #[.int .i64 0, .int .i64 0, .int .i64 0, .bool false, .int .i64 0, .int .i64 0], Ob.blk (w.heap.size + 1) BlT #[.slice a body.length cap], Ob.blk w.heap.size HpT #[.pointer (at0 hp)], Ob.blk hp HdT (hcs first gp tq tc text (some ⟨rb, 0, none⟩) rc ring), brow tq tc text]) from ((S.front 7 rfl).front 7 rfl).drew)
    have HA := Lib.hid (add_room2 gp q c l o (o + body.length) V.drew HK.out.1.ok b5 hps HS.out.head)
    have HD := Lib.hid (And.intro hD hK)
    have HR := Lib.hid hr2
    clear S hD hK hr2 HSW HSh HSq
    go_wp2_with fail
    refine (wpIn_wide (n := 5)).1 ?_
    refine wpIn_region_segs (by kernel_rfl) ?_
    refine seg_still 5 (by kernel_rfl) ?_
    simp only [List.drop_zero, List.take_succ_cons, List.take_zero, Nat.reduceSub]
    repeat (go_big_quiet_step (fail))
    refine wpQuiet_nil ?_
    refine seg_one (by kernel_rfl) fun K hK => ?_
    simp only [List.drop_succ_cons, List.drop_zero, List.take_succ_cons, List.take_zero]
    gi_wp2_with fail
    first | refine ⟨trivial, (callsIn_wide.2 (HA.out)).mono ?_⟩ | refine ⟨trivial, fun h => (by cases h), (callsIn_wide.2 (HA.out)).mono ?_⟩
    rintro y5 w5 ⟨rfl, q5, k5, T⟩
    have S5 := HS.out.did T
    have hok2 := (add_ok HK.out.1.ok hps).1
    have hl2 := hull_len_add HK.out.1.ok hps
    obtain ⟨n', hn'⟩ : ∃ n' : Nat, gapL (addL l ((o : Int), (o : Int) + body.length)) 0 = n' := ⟨(gapL (addL l ((o : Int), (o : Int) + body.length)) 0).toNat, by have := (gap_spec hok2).1; omega⟩
    obtain ⟨t1, t2, t3, t4⟩ := take_ok HK.out.1 b0 b2 (by omega) HR.out n' hn'
    have hT0 := take_old HK.out.1 o body
    have HG := Lib.hid (fun W c3 hr' => gap_any gp q5 k5 (addL l ((o : Int), (o : Int) + body.length)) 0 W hok2 (by omega) c3 hr')
    rw [hn'] at HG
    generalize hE1 : addL l ((o : Int), (o : Int) + body.length) = l2 at *
    have HE1 := Lib.hid hE1
    generalize hE2 : lenS ((o : Int), (o : Int) + body.length) - withinL l ((o : Int), (o : Int) + body.length) = nf at *
    have HE2 := Lib.hid hE2
    have hT : ∀ j : Nat, j ≤ n' → ((layB l b o body).take j).length = j := fun j hj => by
      have h1 := t4.bl
      have h2 := t4.nx
      rw [hn'] at h2
      rw [List.length_take]
      rw [List.length_take] at h2
      omega
    have hrl := HR.out.1
    generalize hE3 : layB l b o body = b' at *
    have HE3 := Lib.hid hE3
    clear hE1 hE2 hE3
    have HT3 := Lib.hid (And.intro t3 (And.intro hT hT0))
    have HT4 := Lib.hid t4
    have f1 : w5.cell? ⟨w.heap.size, 0, none⟩ = some (.pointer (at0 hp)) := (S5.at_ 7 rfl).cell 0
    have f2 : w5.cell? ⟨hp, 1, none⟩ = some (.pointer (at0 gp)) := (S5.at_ 8 rfl).cell 1
    have HG5 := Lib.hid (HG.out w5 (rns_row S5).1 (rns_row S5).2)
    have HS5 := Lib.hid S5
    have HD5 := Lib.hid (odd_keep HS.out.head.ok T.fr (show V.drew.heap[D']? = some (.deferred (some [])) from HD.out.2))
    clear T S5 hok2 hl2 hn' t3 t4 hT hT0 HG HA HS c1 c2 c3 c4 hps HR
    dsimp only
    gi_wp2_with fail
    refine seg_still 11 (by kernel_rfl) ?_
    simp only [List.drop_succ_cons, List.drop_zero, List.take_succ_cons, List.take_zero]
    repeat (go_big_quiet_step (fail))
    refine wpQuiet_nil ?_
    refine seg_done (by rfl) (by kernel_rfl) ?_
    go_wp2_with fail
    refine (HG5.out).mono ?_
    rintro y6 w6 ⟨rfl, F6⟩
    have HS6 := Lib.hid (HS5.out.same F6)
    have HD6 := Lib.hid ((F6.block _ (heap_lt HD5.out) (fun h => h)).trans HD5.out)
    clear F6 f1 f2 HG5 HS5
    go_wp2_with fail
    go_loopg [] (n' - text.length) (fun n wr => ∃ (tx : List Int) (q7 : Option Addr) (k7 : Nat), tx.length + n = n' ∧ text.length ≤ tx.length ∧ tx = b'.take tx.length ∧ wr.heap[D']? = some (.deferred (some [])) ∧
      Sep (fpL (hrd hp first gp q c l tq tc text (some ⟨rb, 0, none⟩) rc ring)) w wr ([Ob.blk hp HdT (hcs first gp q7 k7 tx (some ⟨rb, 0, none⟩) rc ring), brow q7 k7 tx, brow (some ⟨rb, 0, none⟩) rc r] ++ (rns gp q5 k5 l2 ++ [Ob.blk w2.heap.size SpT #[.int .i64 d1, .int .i64 d2], Ob.blk w1.heap.size SpT #[.int .i64 o, .int .i64 ((o : Int) + body.length)], Ob.blk (w.heap.size + 1 + 1) TdT #[.int .i64 0, .int .i64 0, .int .i64 0, .bool false, .int .i64 0, .int .i64 0], Ob.blk (w.heap.size + 1) BlT #[.slice a body.length cap], Ob.blk w.heap.size HpT #[.pointer (at0 hp)]])))
    case atStart => exact ⟨text, tq, tc, by omega, Nat.le_refl _, HT3.out.2.2.symm, HD6.out, ((HS6.out.front 2 rfl).front 9 rfl).front 9 rfl⟩
    case round =>
      obtain ⟨tx, q7, k7, htn, htl, htx, hDw, S7⟩ := hrel
      have u1 : wr.cell? ⟨w.heap.size, 0, none⟩ = some (.pointer (at0 hp)) := (S7.at_ 9 rfl).cell 0
      have u2 : wr.cell? ⟨hp, 2, none⟩ = some (.slice q7 tx.length k7) := (S7.at_ 0 rfl).cell 2
      have u3 : wr.cell? ⟨hp, 3, none⟩ = some (.slice (some ⟨rb, 0, none⟩) ring.length rc) := (S7.at_ 0 rfl).cell 3
      by_cases g : tx.length < n'
      · obtain ⟨y, hy1, hy2⟩ := HT3.out.1 tx.length htl g
        have hr0 : 0 < ring.length := HK.out.1.pos
        obtain ⟨m, hm⟩ : ∃ m, m = tx.length % ring.length := ⟨_, rfl⟩
        have hml : m < ring.length := by rw [hm]; exact Nat.mod_lt _ hr0
        have em : (tx.length : Int) % (ring.length : Int) = m := by rw [hm]; rfl
        have etm : (tx.length : Int).tmod (ring.length : Int) = m := by rw [Int.tmod_eq_emod_of_nonneg (by omega)]; exact em
        have hne : (ring = []) = False := by simp only [eq_iff_iff, iff_false]; intro h; rw [h] at hr0; simp at hr0
        rw [← hm] at hy1
        obtain ⟨gg, eg, hgl, hcg, hfz⟩ := Owns.elem u8c_len (show Owns u8c 1 U8T wr (.slice (some ⟨rb, 0, none⟩) r.length rc) r from S7.at_ 2 rfl) (by decide) hy1
        obtain rfl : rb = gg := by cases eg; rfl
        have v2 : wr.cell? ⟨rb, m, none⟩ = some (.int .u8 y) := by have := hcg 0 _ rfl; simpa using this
        have HVy := Lib.hid (fun (W : World) (h : (brow (some ⟨rb, 0, none⟩) rc r).ok W) => (show W.cell? ⟨rb, m, none⟩ = some (.int .u8 y) by
          obtain ⟨gg, eg, _, hcg, _⟩ := Owns.elem u8c_len (show Owns u8c 1 U8T W (.slice (some ⟨rb, 0, none⟩) r.length rc) r from h) (by decide) hy1
          obtain rfl : rb = gg := by cases eg; rfl
          have := hcg 0 _ rfl; simpa using this))
        have g1 : decide (tx.length < n') = true := decide_eq_true g
        have m0 : (0 : Int) ≤ m := by omega
        have m1 : (m : Int) < ring.length := by omega
        have r0 : (0 : Int) < ring.length := by omega
        have HS7 := Lib.hid S7
        have HE := Lib.hid (show tx ++ [y] = b'.take (tx.length + 1) by rw [← hy2, ← htx])
        have HDw := Lib.hid hDw
        clear S7 hcg hfz eg hy1 hy2 hm htx hDw
        go_wp2_with fail
        refine wp_region_noPanic ?_
        refine wp_region_to (S := fun w' => w'.cell? ⟨w.heap.size, 0, none⟩ = some (.pointer (at0 hp)) ∧ w'.cell? ⟨hp, 2, none⟩ = some (.slice q7 tx.length k7) ∧ w'.cell? ⟨hp, 3, none⟩ = some (.slice (some ⟨rb, 0, none⟩) ring.length rc) ∧ w'.cell? ⟨rb, m, none⟩ = some (.int .u8 y)) 26 (by kernel_rfl) ⟨u1, u2, u3, v2⟩ (fun hHeld => ?_)
        refine wpTo_take (i := 0) (v := ?_) rfl (by kernel_rfl) (fun _ _ _ h => h) (Or.inl ⟨by rfl, ?_⟩) hHeld ?_
        rotate_left
        · (intro w' hSw; (try dsimp only at hSw); go_simp <;> with_reducible rfl)
        simp only [Act.put, List.setIfInBounds_toArray, List.set_cons_zero, List.set_cons_succ, List.getElem_toArray, List.getElem_cons_succ, List.getElem_cons_zero]
        refine wpTo_take (i := 1) (v := ?_) rfl (by kernel_rfl) (fun _ _ _ h => h) (Or.inl ⟨by rfl, ?_⟩) hHeld ?_
        rotate_left
        · (intro w' hSw; (try dsimp only at hSw); go_simp <;> with_reducible rfl)
        simp only [Act.put, List.setIfInBounds_toArray, List.set_cons_zero, List.set_cons_succ, List.getElem_toArray, List.getElem_cons_succ, List.getElem_cons_zero]
        refine wpTo_take (i := 2) (v := ?_) rfl (by kernel_rfl) (fun _ _ _ h => h) (Or.inl ⟨by rfl, ?_⟩) hHeld ?_
        rotate_left
        · (intro w' hSw; (try dsimp only at hSw); go_simp <;> with_reducible rfl)
        simp only [Act.put, List.setIfInBounds_toArray, List.set_cons_zero, List.set_cons_succ, List.getElem_toArray, List.getElem_cons_succ, List.getElem_cons_zero]
        refine wpTo_take (i := 3) (v := ?_) rfl (by kernel_rfl) (fun _ _ _ h => h) (Or.inl ⟨by rfl, ?_⟩) hHeld ?_
        rotate_left
        · (intro w' hSw; (try dsimp only at hSw); go_simp <;> with_reducible rfl)
        simp only [Act.put, List.setIfInBounds_toArray, List.set_cons_zero, List.set_cons_succ, List.getElem_toArray, List.getElem_cons_succ, List.getElem_cons_zero]
        refine wpTo_take (i := 4) (v := ?_) rfl (by kernel_rfl) (fun _ _ _ h => h) (Or.inl ⟨by rfl, ?_⟩) hHeld ?_
        rotate_left
        · (intro w' hSw; (try dsimp only at hSw); go_simp <;> with_reducible rfl)
        simp only [Act.put, List.setIfInBounds_toArray, List.set_cons_zero, List.set_cons_succ, List.getElem_toArray, List.getElem_cons_succ, List.getElem_cons_zero]
        refine wpTo_take (i := 5) (v := ?_) rfl (by kernel_rfl) (fun _ _ _ h => h) (Or.inl ⟨by rfl, ?_⟩) hHeld ?_
        rotate_left
        · (intro w' hSw; (try dsimp only at hSw); go_simp <;> with_reducible rfl)
        simp only [Act.put, List.setIfInBounds_toArray, List.set_cons_zero, List.set_cons_succ, List.getElem_toArray, List.getElem_cons_succ, List.getElem_cons_zero]
        refine wpTo_take (i := 6) (v := ?_) rfl (by kernel_rfl) (fun _ _ _ h => h) (Or.inl ⟨by rfl, ?_⟩) hHeld ?_
        rotate_left
        · (intro w' hSw; (try dsimp only at hSw); go_simp <;> with_reducible rfl)
        simp only [Act.put, List.setIfInBounds_toArray, List.set_cons_zero, List.set_cons_succ, List.getElem_toArray, List.getElem_cons_succ, List.getElem_cons_zero]
        refine wpTo_take (i := 7) (v := ?_) rfl (by kernel_rfl) (fun _ _ _ h => h) (Or.inl ⟨by rfl, ?_⟩) hHeld ?_
        rotate_left
        · (intro w' hSw; (try dsimp only at hSw); go_simp <;> with_reducible rfl)
        simp only [Act.put, List.setIfInBounds_toArray, List.set_cons_zero, List.set_cons_succ, List.getElem_toArray, List.getElem_cons_succ, List.getElem_cons_zero]
        refine wpTo_take (i := 8) (v := ?_) rfl (by kernel_rfl) (fun _ _ _ h => h) (Or.inl ⟨by rfl, ?_⟩) hHeld ?_
        rotate_left
        · (intro w' hSw; (try dsimp only at hSw); go_simp <;> with_reducible rfl)
        simp only [Act.put, List.setIfInBounds_toArray, List.set_cons_zero, List.set_cons_succ, List.getElem_toArray, List.getElem_cons_succ, List.getElem_cons_zero]
        refine wpTo_take (i := 9) (v := ?_) rfl (by kernel_rfl) (fun _ _ _ h => h) (Or.inl ⟨by rfl, ?_⟩) hHeld ?_
        rotate_left
        · (intro w' hSw; (try dsimp only at hSw); go_simp <;> with_reducible rfl)
        simp only [Act.put, List.setIfInBounds_toArray, List.set_cons_zero, List.set_cons_succ, List.getElem_toArray, List.getElem_cons_succ, List.getElem_cons_zero]
        refine wpTo_take (i := 10) (v := ?_) rfl (by kernel_rfl) (fun _ _ _ h => h) (Or.inl ⟨by rfl, ?_⟩) hHeld ?_
        rotate_left
        · (intro w' hSw; (try dsimp only at hSw); go_simp <;> with_reducible rfl)
        simp only [Act.put, List.setIfInBounds_toArray, List.set_cons_zero, List.set_cons_succ, List.getElem_toArray, List.getElem_cons_succ, List.getElem_cons_zero]
        refine wpTo_take (i := 11) (v := ?_) rfl (by kernel_rfl) (fun _ _ _ h => h) (Or.inl ⟨by rfl, ?_⟩) hHeld ?_
        rotate_left
        · (intro w' hSw; (try dsimp only at hSw); go_simp <;> with_reducible rfl)
        simp only [Act.put, List.setIfInBounds_toArray, List.set_cons_zero, List.set_cons_succ, List.getElem_toArray, List.getElem_cons_succ, List.getElem_cons_zero]
        refine wpTo_take (i := 12) (v := ?_) rfl (by kernel_rfl) (fun _ _ _ h => h) (Or.inl ⟨by rfl, ?_⟩) hHeld ?_
        rotate_left
        · (intro w' hSw; (try dsimp only at hSw); go_simp <;> with_reducible rfl)
        simp only [Act.put, List.setIfInBounds_toArray, List.set_cons_zero, List.set_cons_succ, List.getElem_toArray, List.getElem_cons_succ, List.getElem_cons_zero]
        refine wpTo_take (i := 13) (v := ?_) rfl (by kernel_rfl) (fun _ _ _ h => h) (Or.inl ⟨by rfl, ?_⟩) hHeld ?_
        rotate_left
        · (intro w' hSw; (try dsimp only at hSw); go_simp <;> with_reducible rfl)
        simp only [Act.put, List.setIfInBounds_toArray, List.set_cons_zero, List.set_cons_succ, List.getElem_toArray, List.getElem_cons_succ, List.getElem_cons_zero]
        refine wpTo_take (i := 14) (v := ?_) rfl (by kernel_rfl) (fun _ _ _ h => h) (Or.inl ⟨by rfl, ?_⟩) hHeld ?_
        rotate_left
        · (intro w' hSw; (try dsimp only at hSw); go_simp <;> with_reducible rfl)
        simp only [Act.put, List.setIfInBounds_toArray, List.set_cons_zero, List.set_cons_succ, List.getElem_toArray, List.getElem_cons_succ, List.getElem_cons_zero]
        refine wpTo_take (i := 15) (v := ?_) rfl (by kernel_rfl) (fun _ _ _ h => h) (Or.inl ⟨by rfl, ?_⟩) hHeld ?_
        rotate_left
        · (intro w' hSw; (try dsimp only at hSw); go_simp <;> with_reducible rfl)
        simp only [Act.put, List.setIfInBounds_toArray, List.set_cons_zero, List.set_cons_succ, List.getElem_toArray, List.getElem_cons_succ, List.getElem_cons_zero]
        refine wpTo_take (i := 16) (v := ?_) rfl (by kernel_rfl) (fun _ _ _ h => h) (Or.inl ⟨by rfl, ?_⟩) hHeld ?_
        rotate_left
        · (intro w' hSw; (try dsimp only at hSw); go_simp <;> with_reducible rfl)
        simp only [Act.put, List.setIfInBounds_toArray, List.set_cons_zero, List.set_cons_succ, List.getElem_toArray, List.getElem_cons_succ, List.getElem_cons_zero]
        refine wpTo_take (i := 17) (v := ?_) rfl (by kernel_rfl) (fun _ _ _ h => h) (Or.inl ⟨by rfl, ?_⟩) hHeld ?_
        rotate_left
        · (intro w' hSw; (try dsimp only at hSw); go_simp <;> with_reducible rfl)
        simp only [Act.put, List.setIfInBounds_toArray, List.set_cons_zero, List.set_cons_succ, List.getElem_toArray, List.getElem_cons_succ, List.getElem_cons_zero]
        refine wpTo_take (i := 18) (v := ?_) rfl (by kernel_rfl) (fun _ _ _ h => h) (Or.inl ⟨by rfl, ?_⟩) hHeld ?_
        rotate_left
        · (intro w' hSw; (try dsimp only at hSw); go_simp <;> with_reducible rfl)
        simp only [Act.put, List.setIfInBounds_toArray, List.set_cons_zero, List.set_cons_succ, List.getElem_toArray, List.getElem_cons_succ, List.getElem_cons_zero]
        refine wpTo_take (i := 19) (v := ?_) rfl (by kernel_rfl) (fun _ _ _ h => h) (Or.inl ⟨by rfl, ?_⟩) hHeld ?_
        rotate_left
        · (intro w' hSw; (try dsimp only at hSw); go_simp <;> with_reducible rfl)
        simp only [Act.put, List.setIfInBounds_toArray, List.set_cons_zero, List.set_cons_succ, List.getElem_toArray, List.getElem_cons_succ, List.getElem_cons_zero]
        refine wpTo_take (i := 20) (v := ?_) rfl (by kernel_rfl) (fun _ _ _ h => h) (Or.inl ⟨by rfl, ?_⟩) hHeld ?_
        rotate_left
        · (intro w' hSw; (try dsimp only at hSw); go_simp <;> with_reducible rfl)
        simp only [Act.put, List.setIfInBounds_toArray, List.set_cons_zero, List.set_cons_succ, List.getElem_toArray, List.getElem_cons_succ, List.getElem_cons_zero]
        refine wpTo_take (i := 21) (v := ?_) rfl (by kernel_rfl) (fun _ _ _ h => h) (Or.inl ⟨by rfl, ?_⟩) hHeld ?_
        rotate_left
        · (intro w' hSw; (try dsimp only at hSw); go_simp <;> with_reducible rfl)
        simp only [Act.put, List.setIfInBounds_toArray, List.set_cons_zero, List.set_cons_succ, List.getElem_toArray, List.getElem_cons_succ, List.getElem_cons_zero]
        refine wpTo_mid (i := 22) (by kernel_rfl) rfl (fun K hK => ?_)
        go_simp
        have FA := ((Fr.refl None wr).alloc (.cells #[.int .u8 y] 5)).drew
        have HU := Lib.hid (show _ ∧ _ ∧ _ ∧ _ from ⟨cell_frN FA u1, cell_frN FA u2, cell_frN FA u3, cell_frN FA v2⟩)
        clear FA
        refine hK.out _ _ HU.out (fun hHeld => ?_)
        clear hK K
        refine wpTo_mid (i := 23) (by kernel_rfl) rfl (fun K hK => ?_)
        refine step_append_row _ (by rfl) _ _ _ (by rfl) 0 U8T _ _ 1 1 Try.underlying62 HI.out.1 HI.out.2.1 HI.out.2.2.1 HI.out.2.2.2 rfl (by decide) _ tx.length (fc u8c tx) (by rfl) ((HS7.out.drew.skip _).at_ 1 rfl) (some ⟨wr.heap.size, 0, none⟩) 1 1 (fc u8c [y]) (by rfl) ((reads_oneR wr.drew U8T y u8c_len)) (fc_one u8c_one _) (by simp [maxLen]; omega) (by omega) (Nat.zero_le _) ?_
        intro q8 k8 w8 ho8 hf8 hb8
        have S8 := HS7.out.drew.append 1 rfl (.cells #[.int .u8 y] U8T) ho8 hf8 hb8
        have hD8 : w8.heap[D']? = some (.deferred (some [])) := odd_keep (L := [brow q7 k7 tx]) (w := (wr.alloc (.cells #[.int .u8 y] 5)).drew) (fun o ho => (HS7.out.drew.skip (.cells #[.int .u8 y] 5)).ok o (by rw [List.mem_singleton.1 ho]; exact .tail _ (.head _))) (hf8.mono fun k _ h => ⟨_, List.mem_singleton.2 rfl, h⟩) ((Below.heap_alloc wr (.cells #[.int .u8 y] 5) D' (heap_lt HDw.out)).trans HDw.out)
        have x1 : w8.cell? ⟨w.heap.size, 0, none⟩ = some (.pointer (at0 hp)) := (S8.at_ 9 rfl).cell 0
        have x2 : w8.cell? ⟨hp, 2, none⟩ = some (.slice q7 tx.length k7) := (S8.at_ 0 rfl).cell 2
        have x3 : w8.cell? ⟨hp, 3, none⟩ = some (.slice (some ⟨rb, 0, none⟩) ring.length rc) := (S8.at_ 0 rfl).cell 3
        have x4 : w8.cell? ⟨rb, m, none⟩ = some (.int .u8 y) := HVy.out w8 (S8.at_ 2 rfl)
        have z8 : w8.frozen? ⟨hp, 2, none⟩ = false := (S8.at_ 0 rfl).frozen 2
        have hll : (tx ++ [y]).length = tx.length + 1 := by simp
        have S9 : Sep (fpL (hrd hp first gp q c l tq tc text (some ⟨rb, 0, none⟩) rc ring)) w (w8.setCell ⟨hp, 2, none⟩ (.slice q8 (tx.length + 1) k8)) ([Ob.blk hp HdT (hcs first gp q8 k8 (tx ++ [y]) (some ⟨rb, 0, none⟩) rc ring), brow q8 k8 (tx ++ [y]), brow (some ⟨rb, 0, none⟩) rc r] ++ (rns gp q5 k5 l2 ++ [Ob.blk w2.heap.size SpT #[.int .i64 d1, .int .i64 d2], Ob.blk w1.heap.size SpT #[.int .i64 o, .int .i64 ((o : Int) + body.length)], Ob.blk (w.heap.size + 1 + 1) TdT #[.int .i64 0, .int .i64 0, .int .i64 0, .bool false, .int .i64 0, .int .i64 0], Ob.blk (w.heap.size + 1) BlT #[.slice a body.length cap], Ob.blk w.heap.size HpT #[.pointer (at0 hp)]])) := by
          have h9 := S8.set 0 rfl 2 (.slice q8 (tx.length + 1) k8)
          rw [← fc_append, ← hll] at h9
          rw [← hll]
          exact h9
        have HS9 := Lib.hid S9
        have HD9 := Lib.hid (odd_set (o := 2) hD8 (S8.at_ 0 rfl) (.slice q8 (tx.length + 1) k8))
        have HLL := Lib.hid hll
        clear S8 S9 hll ho8 hf8 hb8 hD8 HU
        refine hK.out _ _ ⟨x1, x2, x3, x4⟩ (fun hHeld => ?_)
        clear hK K
        simp only [Act.put, List.setIfInBounds_toArray, List.set_cons_zero, List.set_cons_succ, List.getElem_toArray, List.getElem_cons_succ, List.getElem_cons_zero]
        refine wpTo_take (i := 24) (v := ?_) rfl (by kernel_rfl) (fun _ _ _ h => h) (Or.inl ⟨by rfl, ?_⟩) hHeld ?_
        rotate_left
        · (intro w' hSw; (try dsimp only at hSw); go_simp <;> with_reducible rfl)
        simp only [Act.put, List.setIfInBounds_toArray, List.set_cons_zero, List.set_cons_succ, List.getElem_toArray, List.getElem_cons_succ, List.getElem_cons_zero]
        refine wpTo_take (i := 25) (v := ?_) rfl (by kernel_rfl) (fun _ _ _ h => h) (Or.inl ⟨by rfl, ?_⟩) hHeld ?_
        rotate_left
        · (intro w' hSw; (try dsimp only at hSw); go_simp <;> with_reducible rfl)
        simp only [Act.put, List.setIfInBounds_toArray, List.set_cons_zero, List.set_cons_succ, List.getElem_toArray, List.getElem_cons_succ, List.getElem_cons_zero]
        refine wpTo_last (i := 26) (by kernel_rfl) rfl (by decide) (fun K hK => ?_)
        go_simp
        refine hK.out _ _ ?_
        clear hK K
        refine wpTo_done (by kernel_rfl) ?_ _
        refine NoPanic.normal ?_
        go_wp2_with fail
        go_roundg (gk - 1)
        case measure => omega
        case rel => exact ⟨tx ++ [y], q8, k8, by rw [HLL.out]; omega, by rw [HLL.out]; omega, by rw [HLL.out]; exact HE.out, HD9.out, HS9.out⟩
      · have hje : tx.length = n' := by omega
        have g1 : decide (tx.length < n') = false := decide_eq_false g
        have HLn := Lib.hid (fun W => len_any d1 d2 W)
        have m1 : wr.cell? ⟨w2.heap.size, 0, none⟩ = some (.int .i64 d1) := (S7.at_ 5 rfl).cell 0
        have m2 : wr.cell? ⟨w2.heap.size, 1, none⟩ = some (.int .i64 d2) := (S7.at_ 5 rfl).cell 1
        have m3 : wr.cell? ⟨w1.heap.size, 0, none⟩ = some (.int .i64 o) := (S7.at_ 6 rfl).cell 0
        have m4 : wr.cell? ⟨w1.heap.size, 1, none⟩ = some (.int .i64 ((o : Int) + body.length)) := (S7.at_ 6 rfl).cell 1
        have HS7 := Lib.hid S7
        have HDw := Lib.hid hDw
        have HE := Lib.hid (And.intro htx hje)
        generalize hE4 : lenS (d1, d2) = ld at *
        have HE4 := Lib.hid hE4
        clear hE4
        clear S7 hDw htx hje
        go_wp2_with fail
        refine wp_region_noPanic ?_
        refine wp_region_to (S := fun w' => w'.cell? ⟨w2.heap.size, 0, none⟩ = some (.int .i64 d1) ∧ w'.cell? ⟨w2.heap.size, 1, none⟩ = some (.int .i64 d2) ∧ w'.cell? ⟨w1.heap.size, 0, none⟩ = some (.int .i64 o) ∧ w'.cell? ⟨w1.heap.size, 1, none⟩ = some (.int .i64 ((o : Int) + body.length))) 7 (by kernel_rfl) ⟨m1, m2, m3, m4⟩ (fun hHeld => ?_)
        refine wpTo_take (i := 0) (v := ?_) rfl (by kernel_rfl) (fun _ _ _ h => h) (Or.inl ⟨by rfl, ?_⟩) hHeld ?_
        rotate_left
        · (intro w' hSw; (try dsimp only at hSw); go_simp <;> with_reducible rfl)
        simp only [Act.put, List.setIfInBounds_toArray, List.set_cons_zero, List.set_cons_succ, List.getElem_toArray, List.getElem_cons_succ, List.getElem_cons_zero]
        refine wpTo_take (i := 1) (v := ?_) rfl (by kernel_rfl) (fun _ _ _ h => h) (Or.inl ⟨by rfl, ?_⟩) hHeld ?_
        rotate_left
        · (intro w' hSw; (try dsimp only at hSw); go_simp <;> with_reducible rfl)
        simp only [Act.put, List.setIfInBounds_toArray, List.set_cons_zero, List.set_cons_succ, List.getElem_toArray, List.getElem_cons_succ, List.getElem_cons_zero]
        refine wpTo_take (i := 2) (v := ?_) rfl (by kernel_rfl) (fun _ _ _ h => h) (Or.inl ⟨by rfl, ?_⟩) hHeld ?_
        rotate_left
        · (intro w' hSw; (try dsimp only at hSw); go_simp <;> with_reducible rfl)
        simp only [Act.put, List.setIfInBounds_toArray, List.set_cons_zero, List.set_cons_succ, List.getElem_toArray, List.getElem_cons_succ, List.getElem_cons_zero]
        refine wpTo_take (i := 5) (v := ?_) rfl (by kernel_rfl) (fun _ _ _ h => h) (Or.inl ⟨by rfl, ?_⟩) hHeld ?_
        rotate_left
        · (intro w' hSw; (try dsimp only at hSw); go_simp <;> with_reducible rfl)
        simp only [Act.put, List.setIfInBounds_toArray, List.set_cons_zero, List.set_cons_succ, List.getElem_toArray, List.getElem_cons_succ, List.getElem_cons_zero]
        refine wpTo_mid (i := 3) (by kernel_rfl) rfl (fun K hK => ?_)
        go_simp
        refine (HLn.out _).mono ?_
        rintro y9 w9 ⟨rfl, F9⟩
        have HF9 := Lib.hid F9
        have HS9 := Lib.hid (HS7.out.drew.same F9)
        have HD9 := Lib.hid ((F9.block _ (heap_lt HDw.out) (fun h => h)).trans HDw.out)
        clear F9
        refine hK.out _ _ ⟨cell_frN HF9.out hHeld.1, cell_frN HF9.out hHeld.2.1, cell_frN HF9.out hHeld.2.2.1, cell_frN HF9.out hHeld.2.2.2⟩ (fun hHeld => ?_)
        clear hK K
        try simp only [Act.put, List.setIfInBounds_toArray, List.set_cons_zero, List.set_cons_succ, List.getElem_toArray, List.getElem_cons_succ, List.getElem_cons_zero]
        refine wpTo_take (i := 4) (v := ?_) rfl (by kernel_rfl) (fun _ _ _ h => h) (Or.inl ⟨by rfl, ?_⟩) hHeld ?_
        rotate_left
        · (intro w' hSw; (try dsimp only at hSw); go_simp <;> with_reducible rfl)
        simp only [Act.put, List.setIfInBounds_toArray, List.set_cons_zero, List.set_cons_succ, List.getElem_toArray, List.getElem_cons_succ, List.getElem_cons_zero]
        refine wpTo_take (i := 6) (v := ?_) rfl (by kernel_rfl) (fun _ _ _ h => h) (Or.inl ⟨by rfl, ?_⟩) hHeld ?_
        rotate_left
        · (intro w' hSw; (try dsimp only at hSw); go_simp <;> with_reducible rfl)
        simp only [Act.put, List.setIfInBounds_toArray, List.set_cons_zero, List.set_cons_succ, List.getElem_toArray, List.getElem_cons_succ, List.getElem_cons_zero]
        have i0 : w9.cell? ⟨w.heap.size + 1 + 1, 0, none⟩ = some (.int .i64 0) := (HS9.out.at_ 7 rfl).cell 0
        have z0 : w9.frozen? ⟨w.heap.size + 1 + 1, 0, none⟩ = false := (HS9.out.at_ 7 rfl).frozen 0
        have i1 : w9.cell? ⟨w.heap.size + 1 + 1, 1, none⟩ = some (.int .i64 0) := (HS9.out.at_ 7 rfl).cell 1
        have z1 : w9.frozen? ⟨w.heap.size + 1 + 1, 1, none⟩ = false := (HS9.out.at_ 7 rfl).frozen 1
        have i2 : w9.cell? ⟨w.heap.size + 1 + 1, 2, none⟩ = some (.int .i64 0) := (HS9.out.at_ 7 rfl).cell 2
        have z2 : w9.frozen? ⟨w.heap.size + 1 + 1, 2, none⟩ = false := (HS9.out.at_ 7 rfl).frozen 2
        have i3 : w9.cell? ⟨w.heap.size + 1 + 1, 3, none⟩ = some (.bool false) := (HS9.out.at_ 7 rfl).cell 3
        have z3 : w9.frozen? ⟨w.heap.size + 1 + 1, 3, none⟩ = false := (HS9.out.at_ 7 rfl).frozen 3
        have i4 : w9.cell? ⟨w.heap.size + 1 + 1, 4, none⟩ = some (.int .i64 0) := (HS9.out.at_ 7 rfl).cell 4
        have z4 : w9.frozen? ⟨w.heap.size + 1 + 1, 4, none⟩ = false := (HS9.out.at_ 7 rfl).frozen 4
        have i5 : w9.cell? ⟨w.heap.size + 1 + 1, 5, none⟩ = some (.int .i64 0) := (HS9.out.at_ 7 rfl).cell 5
        have z5 : w9.frozen? ⟨w.heap.size + 1 + 1, 5, none⟩ = false := (HS9.out.at_ 7 rfl).frozen 5
        refine wpTo_last (i := 7) (by kernel_rfl) rfl (by decide) (fun K hK => ?_)
        go_simp
        refine hK.out _ _ ?_
        clear hK K
        refine wpTo_last (i := 8) (by kernel_rfl) rfl (by decide) (fun K hK => ?_)
        go_simp
        refine hK.out _ _ ?_
        clear hK K
        refine wpTo_done (by kernel_rfl) ?_ _
        refine NoPanic.normal ?_
        have S10 := ((((((((((((HS9.out).set 7 rfl 0 (.int .i64 o))).set 7 rfl 1 (.int .i64 ((o : Int) + body.length)))).set 7 rfl 2 (.int .i64 nf))).set 7 rfl 3 (.bool (decide (0 < ld))))).set 7 rfl 4 (.int .i64 d1))).set 7 rfl 5 (.int .i64 d2))
        have hD10 : ((((((w9.setCell ⟨w.heap.size + 1 + 1, 0, none⟩ (.int .i64 o)).setCell ⟨w.heap.size + 1 + 1, 1, none⟩ (.int .i64 ((o : Int) + body.length))).setCell ⟨w.heap.size + 1 + 1, 2, none⟩ (.int .i64 nf)).setCell ⟨w.heap.size + 1 + 1, 3, none⟩ (.bool (decide (0 < ld)))).setCell ⟨w.heap.size + 1 + 1, 4, none⟩ (.int .i64 d1)).setCell ⟨w.heap.size + 1 + 1, 5, none⟩ (.int .i64 d2)).heap[D']? = some (.deferred (some [])) := (Fr.block (D := fun k => k = w.heap.size + 1 + 1) (Fr.setCell (D := fun k => k = w.heap.size + 1 + 1) (Fr.setCell (D := fun k => k = w.heap.size + 1 + 1) (Fr.setCell (D := fun k => k = w.heap.size + 1 + 1) (Fr.setCell (D := fun k => k = w.heap.size + 1 + 1) (Fr.setCell (D := fun k => k = w.heap.size + 1 + 1) (Fr.setCell (D := fun k => k = w.heap.size + 1 + 1) (Fr.refl _ w9) (p := ⟨w.heap.size + 1 + 1, 0, none⟩) (fun _ => rfl) _) (p := ⟨w.heap.size + 1 + 1, 1, none⟩) (fun _ => rfl) _) (p := ⟨w.heap.size + 1 + 1, 2, none⟩) (fun _ => rfl) _) (p := ⟨w.heap.size + 1 + 1, 3, none⟩) (fun _ => rfl) _) (p := ⟨w.heap.size + 1 + 1, 4, none⟩) (fun _ => rfl) _) (p := ⟨w.heap.size + 1 + 1, 5, none⟩) (fun _ => rfl) _) D' (heap_lt HD9.out) (fun e => by have e' : D' = w.heap.size + 1 + 1 := e; have hb : Blk w9 (w.heap.size + 1 + 1) TdT _ := HS9.out.at_ 7 rfl; unfold Blk at hb; rw [← e', HD9.out] at hb; cases hb)).trans HD9.out
        generalize ((((((w9.setCell ⟨w.heap.size + 1 + 1, 0, none⟩ (.int .i64 o)).setCell ⟨w.heap.size + 1 + 1, 1, none⟩ (.int .i64 ((o : Int) + body.length))).setCell ⟨w.heap.size + 1 + 1, 2, none⟩ (.int .i64 nf)).setCell ⟨w.heap.size + 1 + 1, 3, none⟩ (.bool (decide (0 < ld)))).setCell ⟨w.heap.size + 1 + 1, 4, none⟩ (.int .i64 d1)).setCell ⟨w.heap.size + 1 + 1, 5, none⟩ (.int .i64 d2)) = X at S10 hD10 ⊢
        have S11 := odd_done S10 hD10 (by have := HD.out.1; have := HZ.out; omega)
        have j0 : (X.putObj D' (.deferred none)).cell? ⟨w.heap.size + 1 + 1, 0, none⟩ = some (.int .i64 o) := (S11.at_ 7 rfl).cell 0
        have j1 : (X.putObj D' (.deferred none)).cell? ⟨w.heap.size + 1 + 1, 1, none⟩ = some (.int .i64 ((o : Int) + body.length)) := (S11.at_ 7 rfl).cell 1
        have j2 : (X.putObj D' (.deferred none)).cell? ⟨w.heap.size + 1 + 1, 2, none⟩ = some (.int .i64 nf) := (S11.at_ 7 rfl).cell 2
        have j3 : (X.putObj D' (.deferred none)).cell? ⟨w.heap.size + 1 + 1, 3, none⟩ = some (.bool (decide (0 < ld))) := (S11.at_ 7 rfl).cell 3
        have j4 : (X.putObj D' (.deferred none)).cell? ⟨w.heap.size + 1 + 1, 4, none⟩ = some (.int .i64 d1) := (S11.at_ 7 rfl).cell 4
        have j5 : (X.putObj D' (.deferred none)).cell? ⟨w.heap.size + 1 + 1, 5, none⟩ = some (.int .i64 d2) := (S11.at_ 7 rfl).cell 5
        have SE : Sep (fpL (hrd hp first gp q c l tq tc text (some ⟨rb, 0, none⟩) rc ring)) w (X.putObj D' (.deferred none)) (hrd hp first gp q5 k5 l2 q7 k7 tx (some ⟨rb, 0, none⟩) rc r) := by
          have h9 := ((S11.front 3 rfl).front 4 rfl).front 1 rfl
          simp only [List.eraseIdx, List.cons_append, List.nil_append] at h9
          unfold hcs at h9
          rw [← hrl] at h9
          exact h9.drop (List.sublist_append_left (hrd hp first gp q5 k5 l2 q7 k7 tx (some ⟨rb, 0, none⟩) rc r) _)
        have HSE := Lib.hid SE
        have HX := Lib.hid hD10
        clear S10 S11 SE hD10 hHeld i0 z0 i1 z1 i2 z2 i3 z3 i4 z4 i5 z5
        go_wp2_with fail
        refine ⟨by simp, .inl ⟨_, _, rfl, run_takeDeferred HX.out, ?_⟩⟩
        refine ⟨.tuple #[.agg #[.int .i64 o, .int .i64 ((o : Int) + body.length), .int .i64 nf, .bool (decide (0 < ld)), .int .i64 d1, .int .i64 d2], .int .i64 0], by simp [results, Try.results42, go_sem, j0, j1, j2, j3, j4, j5], ?_⟩
        exact ⟨q5, k5, q7, k7, tx, r, by rw [HE2.out, HE4.out], by rw [HE1.out, HE3.out, HE.out.1, HE.out.2]; exact HT4.out, by rw [HE1.out]; exact HSE.out⟩
  case stop =>
    rintro D' V pre s _ _ h
    exact h.elim
end Go.Proofs.Ytfobeheplficgaa
