/- Whatever is put and deleted: the law, walked. -/
import Derived.Test.YtkjhdkjenloifaaAvlP0
import Derived.Test.YtkjhdkjenloifaaAvlC1
import Derived.Test.YtkjhdkjenloifaaAvlF0
import Derived.IntWalk
namespace Go.Und
namespace Tr
variable {α : Type}
theorem floorL_put {key : Int} {v : α} : ∀ {l : List (Int × α)}, Rise l → floorL key (putL key v l) = some (key, v)
  | [], _ => by simp [putL, floorL]
  | x :: l, h => by
    obtain ⟨h1, h2⟩ := rise_cons h
    have hl : key ≤ x.1 → l.filter (fun y => decide (y.1 ≤ key)) = [] := fun hk => List.filter_eq_nil_iff.2 fun y hy => by have := h2 y hy; simp; omega
    rcases Int.lt_trichotomy key x.1 with g | g | g
    · have hp : putL key v (x :: l) = (key, v) :: x :: l := by simp only [putL]; rw [if_pos g]
      rw [hp]
      unfold floorL
      rw [List.filter_cons_of_pos (by simp), List.filter_cons_of_neg (by simp; omega), hl (by omega)]; rfl
    · have hp : putL key v (x :: l) = (key, v) :: l := by simp only [putL]; rw [if_neg (by omega), if_neg (by omega)]
      rw [hp]
      unfold floorL
      rw [List.filter_cons_of_pos (by simp), hl (by omega)]; rfl
    · have hp : putL key v (x :: l) = x :: putL key v l := by simp only [putL]; rw [if_neg (by omega), if_pos (by omega)]
      have ih := floorL_put (key := key) (v := v) h1
      rw [hp]
      unfold floorL at ih ⊢
      rw [List.filter_cons_of_pos (by simp; omega), List.getLast?_cons, ih]; rfl
theorem floorL_del {key : Int} {l : List (Int × α)} : ∀ x, floorL key (delL key l) = some x → x.1 ≠ key := fun x hx => by
  have h1 := List.mem_of_getLast? hx
  have h2 := (List.mem_filter.1 h1).1
  simpa using (List.mem_filter.1 h2).2
theorem mem_delL {key : Int} {l : List (Int × α)} {x : Int × α} (h : x ∈ delL key l) : x ∈ l := (List.mem_filter.1 h).1
end Tr
end Go.Und
namespace Go.Proofs.Ytkjhdkjenloifaa
open Go.RowKit Go.Und

theorem getV_put {key v : Int} {t : TrV} {l : List (Int × Int)} (hl : Tr.Rise l) (hr : Tr.Rise t.items) (h : t.items = Tr.putL key v l) : getV key (Tr.floorT key none t) = .tuple #[.int .i64 v, .bool true] := by
  rw [Tr.floorT_spec hr, h, Tr.floorL_put hl]; simp [getV]
theorem getV_del {key : Int} {t : TrV} {l : List (Int × Int)} (hr : Tr.Rise t.items) (h : t.items = Tr.delL key l) : getV key (Tr.floorT key none t) = .tuple #[.int .i64 0, .bool false] := by
  rw [Tr.floorT_spec hr, h]
  cases e : Tr.floorL key (Tr.delL key l) with
  | none => rfl
  | some x =>
    have := Tr.floorL_del x e
    simp [getV, this]

theorem wf_i64P {x : Int} (h : (Lit.int .i64 x).wf = true) : -9223372036854775808 ≤ x ∧ x ≤ 9223372036854775807 := by
  have h1 : IntKind.i64.min ≤ x ∧ x ≤ IntKind.i64.max := by simpa [Lit.wf] using h
  exact h1
/-- What one operation makes of the list. -/
def opL (o : OpR) (l : List (Int × Int)) : List (Int × Int) := if o.out then Tr.delL o.key l else Tr.putL o.key o.v l
theorem opL_len (o : OpR) (l : List (Int × Int)) : (opL o l).length ≤ l.length + 1 := by
  unfold opL; split
  · have := List.length_filter_le (fun x : Int × Int => x.1 != o.key) l; unfold Tr.delL; omega
  · have := Tr.putL_length o.key o.v l; omega
theorem opL_low {o : OpR} {l : List (Int × Int)} (h : ∀ x ∈ l, -9223372036854775808 ≤ x.1) (hk : -9223372036854775808 ≤ o.key) : ∀ x ∈ opL o l, -9223372036854775808 ≤ x.1 := fun x hx => by
  unfold opL at hx; split at hx
  · exact h x (Tr.mem_delL hx)
  · rcases Tr.mem_putL hx with e | e
    · rw [e]; exact hk
    · exact h x e
theorem does_any (p : Nat) (t : TrV) (q : Option Addr) (cap : Nat) (o : OpR) (W : World) (hT : TreeAt W p t) (hP : Pairs W (.slice q t.items.length cap) t.items) (hs : t.items.length ≤ 100000) :
    Calls Try.prog 23 #[.pointer (some ⟨p, 0, none⟩), .slice q t.items.length cap, .agg #[.bool o.out, .int .i64 o.key, .int .i64 o.v]] W (DoesPost W p t q (opL o t.items)) := by
  obtain ⟨out, key, v⟩ := o
  cases out with
  | true => exact does_del p t q cap key v W hT hP hs
  | false => exact does_put p t q cap key v W hT hP hs

/-- The tree and the list, and an operation kept for later. -/
structure PSt (w : World) (p Bo : Nat) (o : OpR) (W : World) (t : TrV) (q : Option Addr) (cap : Nat) : Prop where
  tree : TreeAt W p t
  prs : Pairs W (.slice q t.items.length cap) t.items
  op : Blk W Bo OpT #[.bool o.out, .int .i64 o.key, .int .i64 o.v]
  fr : Below w.heap.size w W
  hp : w.heap.size ≤ p
  hb : ∀ x ∈ t.blocks, w.heap.size ≤ x
  hq : ∀ ad, q = some ad → w.heap.size ≤ ad.block
  low : ∀ x ∈ t.items, -9223372036854775808 ≤ x.1

section
variable {w W W' : World} {p Bo : Nat} {o o' : OpR} {t t2 : TrV} {q q' : Option Addr} {cap cap' : Nat}
theorem PSt.same (h : PSt w p Bo o W t q cap) (f : Fr None W W') : PSt w p Bo o W' t q cap :=
  ⟨h.tree.fr f (fun h => h) (fun _ _ h => h), h.prs.fr f (fun _ _ h => h), h.op.fr f id, h.fr.trans (Fr.to_below f h.fr.size (fun _ h => h.elim)), h.hp, h.hb, h.hq, h.low⟩
theorem PSt.does (h : PSt w p Bo o W t q cap) (f : Fr (fun x => x = p ∨ x ∈ t.blocks) W W') (q2 : TreeAt W' p t2) (q3 : t2.items = opL o' t.items) (q4 : ∀ x ∈ t2.blocks, x ∈ t.blocks ∨ W.heap.size ≤ x)
    (q5 : Pairs W' (.slice q' (opL o' t.items).length cap') (opL o' t.items)) (q6 : ∀ ad, q' = some ad → q = some ad ∨ W.heap.size ≤ ad.block) (hk : -9223372036854775808 ≤ o'.key) : PSt w p Bo o W' t2 q' cap' :=
  ⟨q2, by rw [q3]; exact q5, h.op.fr f (fun e => by
      rcases e with e | e
      · have h1 := h.op; rw [e] at h1; exact absurd (blk_tyP h1 h.tree.blk) (by decide)
      · obtain ⟨cs, hc⟩ := in_blkP h.tree.inn _ e; exact absurd (blk_tyP h.op hc) (by decide)),
    h.fr.trans (Fr.to_below f h.fr.size (fun i hi => by rcases hi with rfl | hi; exact h.hp; exact h.hb i hi)), h.hp,
    fun x hx => by rcases q4 x hx with e | e; exact h.hb x e; exact Nat.le_trans h.fr.size e, fun ad had => by rcases q6 ad had with e | e; exact h.hq ad e; exact Nat.le_trans h.fr.size e, by rw [q3]; exact opL_low h.low hk⟩
end

theorem PSt.told {w W : World} {p Bo : Nat} {o : OpR} {t : TrV} {q : Option Addr} {cap : Nat} (h : PSt w p Bo o W t q cap) (hs : t.items.length ≤ 100000) :
    Calls Try.prog 26 #[.pointer (some ⟨p, 0, none⟩), .bool false] W fun e w' => Fresh W w' t.items e := told_all p t W h.tree.blk h.tree.inn h.tree.rise hs h.low
theorem PSt.back {w W : World} {p Bo : Nat} {o : OpR} {t : TrV} {q : Option Addr} {cap : Nat} (h : PSt w p Bo o W t q cap) (hs : t.items.length ≤ 100000) :
    Calls Try.prog 26 #[.pointer (some ⟨p, 0, none⟩), .bool true] W fun e w' => Fresh W w' t.items.reverse e := told_back p t W h.tree.blk h.tree.inn hs

set_option maxRecDepth 100000 in
set_option maxHeartbeats 4000000 in
theorem avlPlays_walk (w : World) (v : Value) (u : U) (h : (Sh.slice shOp).holds w u [v]) (c1 : Array Value) (u1 : U) (h1 : shOp.holds w u1 c1.toList) :
    Calls Try.prog 6 #[v, .agg c1] w fun e w' => e = .returned (.bool true) ∧ Below w.heap.size w w' := by
  obtain ⟨ops, a, cap0, rfl, hl1, hl2, hops⟩ := ops_of h
  obtain ⟨o, rfl, wk, wv⟩ : ∃ o : OpR, c1 = #[.bool o.out, .int .i64 o.key, .int .i64 o.v] ∧ (Lit.int .i64 o.key).wf = true ∧ (Lit.int .i64 o.v).wf = true := by
    obtain ⟨_, _, g3⟩ := h1
    obtain ⟨_, _, _, _, _, e0, _, ⟨o, _, rfl⟩, g3⟩ := g3
    obtain ⟨_, _, _, _, _, e1, _, ⟨k1, _, rfl, w1⟩, g3⟩ := g3
    obtain ⟨_, _, _, _, _, e2, _, ⟨k2, _, rfl, w2⟩, g3⟩ := g3
    obtain ⟨_, rfl⟩ := g3
    subst e2 e1
    exact ⟨⟨o, k1, k2⟩, by apply Array.ext'; simpa using e0, w1, w2⟩
  clear h h1
  unfold maxLen at hl2
  have HO := Lib.hid hops; clear hops
  have K := Lib.hid (wf_i64P wk); clear wk wv
  have O0 := Lib.hid (Blk.new w OpT #[.bool o.out, .int .i64 o.key, .int .i64 o.v])
  go_enter Try.func6, Try.ntmps6
  go_wp2_with fail
  refine (known_any _).mono ?_
  rintro e w1 ⟨rfl, B1⟩
  have f1 := Fr.of_below (D := None) B1
  have HB1 := Lib.hid (((Below.refl w.heap.size w).alloc (Nat.le_refl _) _).trans (B1.mono (by simp)))
  have O1 := Lib.hid (O0.out.fr f1 id); clear B1 f1 O0
  go_wp2_with fail
  refine (newTree_any w1).mono ?_
  rintro e w2 ⟨rfl, hw2⟩
  have S0 : PSt w w1.heap.size w.heap.size o (w1.alloc (.cells #[.pointer none] TT)) .nil none 0 :=
    ⟨newTree_at w1, Pairs.nil _, O1.out.alloc _, HB1.out.alloc HB1.out.size _, HB1.out.size, by simp, by simp, by simp⟩
  have HS0 := Lib.hid S0
  rw [← hw2] at HS0
  clear hw2 S0 O1 HB1
  generalize w1.heap.size = p at *
  go_wp2_with fail
  go_loopg [6, 7] 300 (fun n l i wr => ∃ (k : Nat) (t : TrV) (q : Option Addr) (cap : Nat), k + n = 300 ∧ k ≤ ops.length ∧ i = .int .i64 k ∧ l = .slice q t.items.length cap ∧ t.items.length ≤ k ∧ PSt w p w.heap.size o wr t q cap)
  case atStart => exact ⟨0, .nil, none, 0, rfl, Nat.zero_le _, rfl, rfl, Nat.zero_le _, HS0.out⟩
  case round =>
    obtain ⟨k, t, q, cap, hk0, hk, rfl, rfl, hlen, hS⟩ := hrel
    by_cases g : k < ops.length ∧ k < 300
    · obtain ⟨g1, g2⟩ := g
      obtain ⟨b, off, rfl, hb, c0, c1, c2, wk, wv⟩ := HO.out k ops[k] (List.getElem?_eq_getElem g1)
      have hc : ∀ W, Below w.heap.size w W → W.cell? ⟨b, off + k * 3, none⟩ = some (.bool ops[k].out) ∧ W.cell? ⟨b, off + k * 3 + 1, none⟩ = some (.int .i64 ops[k].key) ∧ W.cell? ⟨b, off + k * 3 + 2, none⟩ = some (.int .i64 ops[k].v) :=
        fun W hB => ⟨(hB.cell (p := ⟨b, off + k * 3, none⟩) hb).trans c0, (hB.cell (p := ⟨b, off + k * 3 + 1, none⟩) hb).trans c1, (hB.cell (p := ⟨b, off + k * 3 + 2, none⟩) hb).trans c2⟩
      generalize ops[k] = op at *
      have HC := Lib.hid hc; clear hc c0 c1 c2
      have hk' := (wf_i64P wk).1
      have HD := Lib.hid (does_any p t q cap op wr hS.tree hS.prs (by omega))
      obtain ⟨d0, d1, d2⟩ := HC.out wr hS.fr
      have HS := Lib.hid hS; have HK := Lib.hid hk'; clear hS wk wv hk'
      go_wp2_with fail
      refine HD.out.mono ?_
      rintro e w3 ⟨t2, q', cap', rfl, r1, r2, r3, r4, r5, r6⟩
      have S2 := HS.out.does r6 r1 r2 r3 r4 r5 HK.out
      have hl2 : t2.items.length ≤ k + 1 := by rw [r2]; have := opL_len op t.items; omega
      obtain ⟨d0, d1, d2⟩ := HC.out w3 S2.fr
      have HG := Lib.hid (get_any p t2 op.key w3 r1.blk r1.inn)
      have HL := Lib.hid (fun n => lenT_any p t2 (w3.drewN n) (r1.drewN n).blk (r1.drewN n).inn)
      have E2 := Lib.hid r2
      have RI := Lib.hid (And.intro HS.out.tree.rise r1.rise)
      have HSZ := Lib.hid r1.sz
      rw [HSZ.out] at HL
      have HS2 := Lib.hid S2; clear r1 r2 r3 r4 r5 r6 S2 HD HS
      rw [← E2.out]
      cases eo : op.out with
      | true =>
        simp only [eo] at d0
        have EG := Lib.hid (getV_del (key := op.key) (l := t.items) RI.out.2 (by rw [E2.out]; simp [opL, eo]))
        clear eo
        go_wp2_with fail
        refine HG.out.mono ?_
        rintro e w4 ⟨rfl, n4, rfl⟩
        rw [EG.out]
        go_wp2_with fail
        refine (HL.out n4).mono ?_
        rintro e w4 ⟨rfl, rfl⟩
        go_wp2_with fail
        go_roundg (gk - 1)
        case measure => omega
        case rel => exact ⟨k + 1, t2, q', cap', by omega, by omega, by go_num, rfl, hl2, HS2.out.same ((Fr.refl None w3).drewN n4)⟩
      | false =>
        simp only [eo] at d0
        have EG := Lib.hid (getV_put (key := op.key) (v := op.v) (l := t.items) RI.out.1 RI.out.2 (by rw [E2.out]; simp [opL, eo]))
        clear eo
        go_wp2_with fail
        refine HG.out.mono ?_
        rintro e w4 ⟨rfl, n4, rfl⟩
        rw [EG.out]
        go_wp2_with fail
        refine (HL.out n4).mono ?_
        rintro e w4 ⟨rfl, rfl⟩
        go_wp2_with fail
        go_roundg (gk - 1)
        case measure => omega
        case rel => exact ⟨k + 1, t2, q', cap', by omega, by omega, by go_num, rfl, hl2, HS2.out.same ((Fr.refl None w3).drewN n4)⟩
    · have hlen' : t.items.length ≤ 300 := by omega
      have HS := Lib.hid hS
      clear hS HO hlen
      by_cases g1 : k < ops.length
      all_goals
        have g2 : k < ops.length → ¬ k < 300 := fun h h' => g ⟨h, h'⟩
        clear g
        try have g3 := g2 g1
        clear g2
        go_wp2_with fail
        refine (HS.out.told (by omega)).mono ?_
        rintro e w3 ⟨q3, cap3, rfl, k1, k2, k3⟩
        have S3 := Lib.hid (HS.out.same k3)
        have H3 := Lib.hid (same_any q3 q cap3 cap t.items w3 k1.reads.1 S3.out.prs.reads.1 (by omega))
        clear k1 k2 k3 HS
        go_wp2_with fail
        refine H3.out.mono ?_
        rintro e w4 ⟨rfl, n4, rfl⟩
        have S5 := Lib.hid (S3.out.same ((Fr.refl None w3).drewN n4))
        have HC := Lib.hid (cloneT_any p t (w3.drewN n4) S5.out.tree)
        clear S3 H3
        generalize w3.drewN n4 = w5 at *
        go_wp2_with fail
        refine HC.out.mono ?_
        rintro e w6 ⟨p', t', rfl, k1, k2, k3, k4, k5⟩
        have S6 := S5.out.same k5
        have c0 := S6.op.cell
        have e' := k2.items
        have HD := Lib.hid (does_any p' t' q cap o w6 k1 (by rw [e']; exact S6.prs) (by rw [e']; omega))
        rw [e'] at HD
        have HX := Lib.hid (show (∀ W, Fr (fun x => x = p' ∨ x ∈ t'.blocks) w6 W → PSt w p w.heap.size o W t q cap) from fun W f => S5.out.same (Fr.of_below (k5.none_below.trans (Fr.to_below f k5.size (fun x hx => by rcases hx with rfl | hx; exact k3; exact k4 x hx)))))
        have LO := Lib.hid (opL_low (o := o) S6.low K.out.1)
        clear S6 k1 k2 k3 k4 k5 e' HC S5
        go_wp2_with fail
        refine HD.out.mono ?_
        rintro e w7 ⟨t2, q7, cap7, rfl, r1, r2, r3, r4, r5, r6⟩
        have S7 := Lib.hid (HX.out w7 r6)
        have l2 := opL_len o t.items
        have hl2 : (opL o t.items).length ≤ 301 := by omega
        have HN := Lib.hid (told_all p' t2 w7 r1.blk r1.inn r1.rise (by rw [r2]; omega) (by rw [r2]; exact LO.out))
        rw [r2] at HN
        have HNP := Lib.hid (fun W (f : Fr None w7 W) => (r4.fr f (fun _ _ h => h)).reads.1)
        clear r1 r2 r3 r4 r5 r6 l2 HD HX c0 LO
        go_wp2_with fail
        refine HN.out.mono ?_
        rintro e w8 ⟨q8, cap8, rfl, k1, k2, k3⟩
        have H8 := Lib.hid (same_any q8 q7 cap8 cap7 (opL o t.items) w8 k1.reads.1 (HNP.out w8 k3) (by omega))
        have S8 := Lib.hid (S7.out.same k3); clear k1 k2 k3 HN HNP S7
        go_wp2_with fail
        refine H8.out.mono ?_
        rintro e w9 ⟨rfl, n9, rfl⟩
        have S9 := Lib.hid (S8.out.same ((Fr.refl None w8).drewN n9)); clear S8 H8
        generalize w8.drewN n9 = w9 at *
        go_wp2_with fail
        refine (S9.out.told (by omega)).mono ?_
        rintro e w10 ⟨q10, cap10, rfl, k1, k2, k3⟩
        have S10 := Lib.hid (S9.out.same k3)
        have H10 := Lib.hid (same_any q10 q cap10 cap t.items w10 k1.reads.1 S10.out.prs.reads.1 (by omega))
        clear k1 k2 k3 S9
        go_wp2_with fail
        refine H10.out.mono ?_
        rintro e w11 ⟨rfl, n11, rfl⟩
        have S11 := Lib.hid (S10.out.same ((Fr.refl None w10).drewN n11)); clear S10 H10
        generalize w10.drewN n11 = w11 at *
        go_wp2_with fail
        refine (S11.out.back (by omega)).mono ?_
        rintro e w12 ⟨q12, cap12, rfl, k1, k2, k3⟩
        have S12 := Lib.hid (S11.out.same k3)
        have R1 := Lib.hid k1.reads.1
        have R2 := Lib.hid S12.out.prs.reads.1
        have B12 := Lib.hid S12.out.fr
        clear k1 k2 k3 S11
        have er : t.items.reverse.length = t.items.length := List.length_reverse
        rw [er] at R1 ⊢
        clear er S12
        go_wp2_with fail
        go_loopg [16] t.items.length (fun r i wr => ∃ k n : Nat, k + r = t.items.length ∧ i = .int .i64 k ∧ wr = w12.drewN n)
        case atStart => exact ⟨0, 0, by omega, rfl, rfl⟩
        case round =>
          obtain ⟨i, n, hi0, rfl, rfl⟩ := hrel
          by_cases gi : i < t.items.length
          · obtain ⟨j, ej⟩ : ∃ j : Nat, t.items.length = j + 1 + i := ⟨t.items.length - 1 - i, by omega⟩
            have hj : j < t.items.length := by omega
            have ex := List.getElem?_eq_getElem hj
            have ey : t.items.reverse[i]? = some t.items[j] := by
              rw [List.getElem?_reverse gi, show t.items.length - 1 - i = j by omega, ex]
            obtain ⟨b1, off1, rfl, c1, c2⟩ := Pairs.at R2.out ex
            obtain ⟨b2, off2, rfl, d1, d2⟩ := Pairs.at R1.out ey
            generalize t.items[j] = x at *
            clear ex ey
            have w1 : IntKind.i64.wrap ((t.items.length : Int) - 1) = (t.items.length : Int) - 1 := IntWalk.i64_in _ (by omega)
            have w2 : IntKind.i64.wrap ((t.items.length : Int) - 1 - (i : Int)) = (j : Int) := (IntWalk.i64_in _ (by omega)).trans (by omega)
            have w3 : (0 : Int) ≤ (j : Int) ∧ (j : Int) < (t.items.length : Int) := by omega
            obtain ⟨w3, w4⟩ := w3
            clear ej
            go_wp2_with fail
            go_quiet (fail)
            go_wp2_with fail
            go_roundg (gk - 1)
            case measure => omega
            case rel => exact ⟨i + 1, _, by omega, by go_num, rfl⟩
          · go_wp2_with fail
            refine (known_any _).mono ?_
            rintro e w4 ⟨rfl, q1⟩
            have Q1 := Lib.hid q1; clear q1
            go_wp2_with fail
            go_ret
            exact ⟨rfl, (B12.out.trans (Fr.to_below (((Fr.refl None w12).drewN n)) B12.out.size (fun _ h => h.elim))).trans (Q1.out.mono B12.out.size)⟩
end Go.Proofs.Ytkjhdkjenloifaa
