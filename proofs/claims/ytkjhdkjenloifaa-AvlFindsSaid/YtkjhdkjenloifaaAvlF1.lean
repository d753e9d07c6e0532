/- Keys about a key, walked: how the tree and the list are made. -/
import Derived.Test.YtkjhdkjenloifaaAvlF0
import Derived.Test.YtkjhdkjenloifaaAvlI4
namespace Go.Proofs.Ytkjhdkjenloifaa
open Go.RowKit Go.Und Go.Shelf
attribute [local go_sem] Oper.semAt_some run_store_func run_store_nilFunc

theorem in_blk {w : World} {t : TrV} (h : inW w t) : ∀ x ∈ t.blocks, ∃ cs, Blk w x NT cs := by
  induction t with
  | nil => intro x hx; cases hx
  | node b k v l r hh n ihl ihr =>
    obtain ⟨h1, h2, h3⟩ := h
    intro x hx
    simp only [Tr.blocks_node, List.mem_cons, List.mem_append] at hx
    rcases hx with rfl | hx | hx
    · exact ⟨_, h1⟩
    · exact ihl h2 x hx
    · exact ihr h3 x hx
theorem wf_i64 {x : Int} (h : (Lit.int .i64 x).wf = true) : -9223372036854775808 ≤ x ∧ x ≤ 9223372036854775807 := by
  have h1 : IntKind.i64.min ≤ x ∧ x ≤ IntKind.i64.max := by simpa [Lit.wf] using h
  exact h1
theorem setCell_same {W : World} {b : Nat} {t : TypeId} {v : Value} (h : Blk W b t #[v]) : W.setCell ⟨b, 0, none⟩ v = W := by
  unfold Blk at h
  unfold World.setCell
  have e : ∀ f : Obj → Obj, f (.cells #[v] t (0, 0)) = .cells #[v] t (0, 0) → W.heap.modify b f = W.heap := fun f hf => by
    apply Array.ext
    · simp
    · intro i h1 h2
      rw [Array.getElem_modify]
      split
      · rename_i e
        subst e
        have := (Array.getElem?_eq_some_iff.1 h).2
        rw [this]; exact hf
      · rfl
  rw [e _ (by simp)]
theorem blk_ty {w : World} {b : Nat} {t t' : TypeId} {cs cs' : Array Value} (h : Blk w b t cs) (h' : Blk w b t' cs') : t = t' := by
  unfold Blk at h h'; rw [h] at h'; cases h'; rfl
theorem TreeAt.apart {W : World} {p : Nat} {t : TrV} (h : TreeAt W p t) {b : Nat} {ty : TypeId} {cs : Array Value} (hb : Blk W b ty cs) (h1 : ty ≠ TT) (h2 : ty ≠ NT) : ¬ (b = p ∨ b ∈ t.blocks) := by
  rintro (rfl | hx)
  · exact h1 (blk_ty hb h.blk)
  · obtain ⟨cs', hc⟩ := in_blk h.inn b hx
    exact h2 (blk_ty hb hc)

/-- The tree and the list. -/
structure FSt (w : World) (p : Nat) (W : World) (t : TrV) (q : Option Addr) (cap : Nat) : Prop where
  tree : TreeAt W p t
  prs : Pairs W (.slice q t.items.length cap) t.items
  far : ∀ ad, q = some ad → w.heap.size ≤ ad.block
  fr : Below w.heap.size w W
  hp : w.heap.size ≤ p
  hb : ∀ x ∈ t.blocks, w.heap.size ≤ x
  low : ∀ x ∈ t.items, -9223372036854775808 ≤ x.1

theorem putL_low {key v : Int} {l : List (Int × Int)} (h : ∀ x ∈ l, -9223372036854775808 ≤ x.1) (hk : -9223372036854775808 ≤ key) : ∀ x ∈ Tr.putL key v l, -9223372036854775808 ≤ x.1 := fun x hx => by
  rcases Tr.mem_putL hx with e | e
  · rw [e]; exact hk
  · exact h x e

/-- The list is put to, too. -/
theorem FSt.step {w W W3 W4 : World} {p Lb : Nat} {t t2 : TrV} {q q' : Option Addr} {cap cap' : Nat} {x k : Int} {cs : Array Value} {n : Nat} (h : FSt w p W t q cap) (q2 : TreeAt W3 p t2)
    (q3 : t2.items = Tr.putL x k t.items) (q4 : ∀ b ∈ t2.blocks, b ∈ t.blocks ∨ b = W.heap.size) (s2 : Below w.heap.size w W3) (l3 : Blk W3 Lb PairsT cs) (hL : w.heap.size ≤ Lb)
    (hp' : Pairs W4 (.slice q' (Tr.putL x k t.items).length cap') (Tr.putL x k t.items)) (hfar' : ∀ ad, q' = some ad → (W3.drewN n).heap.size ≤ ad.block) (hf : Fr None (W3.drewN n) W4) (hlow : -9223372036854775808 ≤ x) :
    FSt w p (W4.setCell ⟨Lb, 0, none⟩ (.slice q' (Tr.putL x k t.items).length cap')) t2 q' cap' := by
  have l4 := (l3.drewN n).fr hf id
  have f1 : Fr (· = Lb) W3 (W4.setCell ⟨Lb, 0, none⟩ (.slice q' (Tr.putL x k t.items).length cap')) :=
    Fr.setCell (D := (· = Lb)) (((Fr.refl _ W3).drewN n).trans (hf.mono (fun _ _ h => h.elim))) (p := ⟨Lb, 0, none⟩) (fun _ => rfl) _
  have f2 : Fr (· = Lb) W4 (W4.setCell ⟨Lb, 0, none⟩ (.slice q' (Tr.putL x k t.items).length cap')) := Fr.setCell (D := (· = Lb)) (Fr.refl _ W4) (p := ⟨Lb, 0, none⟩) (fun _ => rfl) _
  have hne : ∀ b, (b = p ∨ b ∈ t2.blocks) → b ≠ Lb := fun b hb e => by subst e; exact q2.apart l3 (by decide) (by decide) hb
  refine ⟨q2.fr f1 (hne p (.inl rfl)) (fun b hb => hne b (.inr hb)), ?_, fun ad had => Nat.le_trans s2.size (hfar' ad had), s2.trans (Fr.to_below f1 s2.size (fun i e => by rw [e]; exact hL)), h.hp, fun b hb => ?_, by rw [q3]; exact putL_low h.low hlow⟩
  · rw [q3]
    refine hp'.fr f2 fun b hb e => ?_
    obtain ⟨cs', hc⟩ := hp'.block hb
    rw [e] at hc
    exact absurd (blk_ty hc l4) (by decide)
  · rcases q4 b hb with e | e
    · exact h.hb b e
    · rw [e]; exact h.fr.size

/-- The tree has been put to; the list not yet. -/
theorem FSt.put {w W W' : World} {p : Nat} {t : TrV} {q : Option Addr} {cap : Nat} (h : FSt w p W t q cap) (f : Fr (fun x => x = p ∨ x ∈ t.blocks) W W') :
    Pairs W' (.slice q t.items.length cap) t.items ∧ Below w.heap.size w W' := by
  refine ⟨h.prs.fr f (fun b hb => ?_), h.fr.trans (Fr.to_below f h.fr.size (fun i hi => by rcases hi with rfl | hi; exact h.hp; exact h.hb i hi))⟩
  obtain ⟨cs, hc⟩ := h.prs.block hb
  exact h.tree.apart hc (by decide) (by decide)

theorem results_cell_bool {fn : Func} {p : Tmp} (h : fn.results = #[.cell p 4]) (tmps : Array Value) (w : World) (g : Nat) (b : Bool)
    (hp : tmps.getD p undef = .pointer (some ⟨g, 0, none⟩)) (hg : Blk w g 4 #[.bool b]) : (results fn tmps).run Try.prog w = .ok (.bool b) w := by
  have hp' : tmps[p]?.getD undef = .pointer (some ⟨g, 0, none⟩) := by simpa using hp
  have c : w.cell? ⟨g, 0, none⟩ = some (.bool b) := hg.cell 0
  simp [results, h, hp', asAddr, go_sem, c]

/-- The law's end: what it says, behind the turn of the loop's block for deferred calls. -/
theorem end_said {fn : Func} {p : Tmp} (h : fn.results = #[.cell p 4]) {tmps : Array Value} {w W : World} {g D S : Nat} {o' : Obj} (hp : tmps.getD p undef = .pointer (some ⟨g, 0, none⟩)) (hg : Blk W g 4 #[.bool true]) (hf : Below w.heap.size w W)
    (hK : W.heap[D]? = some (.deferred (some []))) (hD : S ≤ D) (hS : w.heap.size ≤ S) :
    ∃ v, (results fn tmps).run Try.prog (W.putObj D o') = .ok v (W.putObj D o') ∧ (fun (e : Ending) (w' : World) => e = .returned (.bool true) ∧ Below w.heap.size w w') (.returned v) (W.putObj D o') := by
  have f : Fr (· = D) W (W.putObj D o') := ⟨rfl, rfl, rfl, by simp, fun k _ hn => World.putObj_heap_other hn⟩
  have hg2 := hg.fr f (fun e => by unfold Blk at hg; rw [e, hK] at hg; cases hg)
  exact ⟨_, results_cell_bool h tmps _ g true hp hg2, rfl, hf.trans (Fr.to_below f hf.size (fun i e => by rw [e]; exact Nat.le_trans hS hD))⟩

/-- The loop over the keys from one on: what stands between two rounds. -/
structure Fi (w : World) (q : Option Addr) (cap : Nat) (l : List (Int × Int)) (r : Nat) (most : Int) (Lb M Rb Nb Kb : Nat) (pre : List (Int × Int)) (W : World) : Prop where
  kk : Blk W Kb 3 #[.int .i64 pre.length]
  ll : Blk W Lb PairsT #[.slice q l.length cap]
  mm : Blk W M 3 #[.int .i64 most]
  nn : Blk W Nb 3 #[.int .i64 r]
  rr : Blk W Rb 4 #[.bool false]
  prs : Pairs W (.slice q l.length cap) l
  pre : pre <+: l.drop r
  fr : Below w.heap.size w W
/-- How it is left ahead of its end. -/
def Fx (w : World) (l : List (Int × Int)) (r : Nat) (Rb : Nat) (c : Code) (pre : List (Int × Int)) (W : World) : Prop :=
  c = .ret ∧ (pre <+: l.drop r → Blk W Rb 4 #[.bool true]) ∧ Below w.heap.size w W
/-- What its body may turn. -/
def FD (Kb Rb : Nat) (b : Nat) (_ : TypeId) : Prop := b = Kb ∨ b = Rb

section
variable {w : World} {q : Option Addr} {cap : Nat} {l : List (Int × Int)} {r : Nat} {most : Int} {Lb M Rb Nb Kb : Nat} {pre : List (Int × Int)} {W A C : World} {S : Nat}
theorem below_odd (h : Below w.heap.size w A) (f : Fr (Odd S A) A C) (hS : w.heap.size ≤ S) : Below w.heap.size w C :=
  h.trans (Fr.to_below f h.size (fun i hi => Nat.le_trans hS hi.1))
theorem pairs_odd {v : Value} (h : Pairs A v l) (f : Fr (Odd S A) A C) : Pairs C v l := h.fr f fun b hb => by obtain ⟨cs, hc⟩ := h.block hb; exact hc.odd
theorem Fi.odd (h : Fi w q cap l r most Lb M Rb Nb Kb pre A) (f : Fr (Odd S A) A C) (hS : w.heap.size ≤ S) : Fi w q cap l r most Lb M Rb Nb Kb pre C :=
  ⟨h.kk.fr f h.kk.odd, h.ll.fr f h.ll.odd, h.mm.fr f h.mm.odd, h.nn.fr f h.nn.odd, h.rr.fr f h.rr.odd, pairs_odd h.prs f, h.pre, below_odd h.fr f hS⟩
theorem Fx.odd {c : Code} (h : Fx w l r Rb c pre A) (f : Fr (Odd S A) A C) (hS : w.heap.size ≤ S) : Fx w l r Rb c pre C :=
  ⟨h.1, fun hp => (h.2.1 hp).fr f (h.2.1 hp).odd, below_odd h.2.2 f hS⟩

theorem prefix_snoc {xs : List (Int × Int)} {x y : Int × Int} (hp : pre <+: xs) (hy : xs[pre.length]? = some y) : pre ++ [x] <+: xs ↔ x = y := by
  obtain ⟨rest, rfl⟩ := hp
  rw [List.getElem?_append_right (Nat.le_refl _), Nat.sub_self] at hy
  cases rest with
  | nil => simp at hy
  | cons z rest =>
    obtain rfl : z = y := by simpa using hy
    rw [List.prefix_append_right_inj]
    simp

theorem keeps_set {b : Nat} {t : TypeId} {cs : Array Value} (hb : Blk W b t cs) (v : Value) : KeepsOthers W (W.setCell ⟨b, 0, none⟩ v) := KeepsOthers.setCell _ _ _
theorem fr_set (W : World) (b : Nat) (v : Value) : Fr (· = b) W (W.setCell ⟨b, 0, none⟩ v) := Fr.setCell (D := (· = b)) (Fr.refl _ W) (p := ⟨b, 0, none⟩) (fun _ => rfl) v
theorem frC_set {D : Nat → TypeId → Prop} (W : World) (b : Nat) (v : Value) (hD : ∀ t, D b t) : FrC D W (W.setCell ⟨b, 0, none⟩ v) := FrC.of_fr (fr_set W b v) (fun i cs t z _ e => by rw [e]; exact hD t)

/-- A round that goes on. -/
theorem Fi.next {x : Int × Int} (h : Fi w q cap l r most Lb M Rb Nb Kb pre W) (hx : (l.drop r)[pre.length]? = some x) (hne : Kb ≠ M ∧ Kb ≠ Nb) (hw : w.heap.size ≤ Kb) :
    KeepsOthers W (W.setCell ⟨Kb, 0, none⟩ (.int .i64 (pre.length + 1))) ∧ FrC (FD Kb Rb) W (W.setCell ⟨Kb, 0, none⟩ (.int .i64 (pre.length + 1))) ∧
      Fi w q cap l r most Lb M Rb Nb Kb (pre ++ [x]) (W.setCell ⟨Kb, 0, none⟩ (.int .i64 (pre.length + 1))) := by
  have f := fr_set W Kb (.int .i64 (pre.length + 1))
  have k2 := h.kk.set 0 (.int .i64 (pre.length + 1))
  refine ⟨keeps_set h.kk _, frC_set W Kb _ (fun _ => .inl rfl), ⟨by simpa using k2, h.ll.fr f (fun e => ?_), h.mm.fr f (fun e => hne.1 e.symm), h.nn.fr f (fun e => hne.2 e.symm), h.rr.fr f (fun e => ?_), h.prs.fr f (fun b hb e => ?_), (prefix_snoc h.pre hx).2 rfl,
    h.fr.trans (Fr.to_below f h.fr.size (fun i e => by rw [e]; exact hw))⟩⟩
  · have h1 := h.ll; rw [e] at h1; exact absurd (blk_ty h1 h.kk) (by decide)
  · have h1 := h.rr; rw [e] at h1; exact absurd (blk_ty h1 h.kk) (by decide)
  · obtain ⟨cs, hc⟩ := h.prs.block hb; rw [e] at hc; exact absurd (blk_ty hc h.kk) (by decide)
/-- A round that has seen enough. -/
theorem Fi.stop {W1 : World} {pre1 : List (Int × Int)} (h : Fi w q cap l r most Lb M Rb Nb Kb pre W) (hk : KeepsOthers C W) (h1 : Below W.heap.size W W1) (v : Bool) (hv : pre1 <+: l.drop r → v = true) (hw : w.heap.size ≤ Rb) :
    Blk W1 Rb 4 #[.bool false] ∧ (KeepsOthers C (W1.setCell ⟨Rb, 0, none⟩ (.bool v)) ∧ Fx w l r Rb .ret pre1 (W1.setCell ⟨Rb, 0, none⟩ (.bool v))) := by
  have b1 := h.rr.fr (Fr.of_below (D := None) h1) id
  have f := fr_set W1 Rb (.bool v)
  have b2 := b1.set 0 (.bool v)
  have k1 : KeepsOthers W W1 := keepsOthers_of_fr (Fr.of_below (D := None) h1) (fun _ _ h => h.elim)
  refine ⟨b1, (hk.trans k1).trans (keeps_set b1 _), rfl, fun hp => ?_, ((h.fr.trans (h1.mono h.fr.size))).trans (Fr.to_below f (Nat.le_trans h.fr.size h1.size) (fun i e => by rw [e]; exact hw))⟩
  rw [hv hp] at b2 ⊢
  simpa using b2
end

set_option maxRecDepth 100000 in
set_option maxHeartbeats 16000000 in
theorem avlFinds_walk (w : World) (v : Value) (u : U) (h : (Sh.slice I).holds w u [v]) (v2 : Value) (u2 : U) (h2 : I.holds w u2 [v2]) (v3 : Value) (u3 : U) (h3 : I.holds w u3 [v3]) :
    Calls Try.prog 5 #[v, v2, v3] w fun e w' => e = .returned (.bool true) ∧ Below w.heap.size w w' := by
  obtain ⟨ks, a, cap0, rfl, hl1, hl2, hks⟩ := ints_of h
  obtain ⟨key, _, e2, wk⟩ := h2
  obtain ⟨most, _, e3, wm⟩ := h3
  simp only [List.cons.injEq, and_true] at e2 e3
  subst e2 e3
  clear h
  unfold maxLen at hl2
  have HO := Lib.hid hks; clear hks
  refine (callsIn_wide (n := 5)).1 ?_
  refine callsIn_of_wp_marks Try.func5 rfl trivial ?_ rfl
  simp only [Try.ntmps5, List.size_toArray, List.length_cons, List.length_nil, Nat.reduceAdd, Nat.reduceSub, Array.replicate_succ, Array.replicate_zero, List.push_toArray, List.append_toArray, List.nil_append, List.cons_append]
  refine wpIn_wide.2 ?_
  have m0 : Blk ((w.alloc (.cells #[.int .i64 most] 3)).alloc (.cells #[.bool false] 4)) w.heap.size 3 #[.int .i64 most] := (Blk.new w _ _).alloc _
  have r0 : Blk ((w.alloc (.cells #[.int .i64 most] 3)).alloc (.cells #[.bool false] 4)) (w.heap.size + 1) 4 #[.bool false] := by
    have := Blk.new (w.alloc (.cells #[.int .i64 most] 3)) 4 #[.bool false]
    rwa [World.size_alloc] at this
  have f0 : Fr None w ((w.alloc (.cells #[.int .i64 most] 3)).alloc (.cells #[.bool false] 4)) := ((Fr.refl _ w).alloc _).alloc _
  have M0 := Lib.hid m0; have R0 := Lib.hid r0; have F0 := Lib.hid f0; clear m0 r0 f0
  go_wp2_with fail
  refine (known_any _).mono ?_
  rintro e w1 ⟨rfl, B1⟩
  have g1 := Fr.of_below (D := None) B1
  have M1 := Lib.hid (M0.out.fr g1 id); have R1 := Lib.hid (R0.out.fr g1 id); have F1 := Lib.hid (F0.out.trans g1)
  clear M0 R0 F0 B1 g1
  go_wp2_with fail
  refine (newTree_any w1).mono ?_
  rintro e w2 ⟨rfl, hw2⟩
  have T2 := Lib.hid ((newTree_at w1).alloc (.cells #[.slice none 0 0] PairsT))
  have M2 := Lib.hid ((M1.out.alloc (.cells #[.pointer none] TT)).alloc (.cells #[.slice none 0 0] PairsT))
  have R2 := Lib.hid ((R1.out.alloc (.cells #[.pointer none] TT)).alloc (.cells #[.slice none 0 0] PairsT))
  have F2 := Lib.hid ((F1.out.alloc (.cells #[.pointer none] TT)).alloc (.cells #[.slice none 0 0] PairsT))
  have L2 := Lib.hid (Blk.new (w1.alloc (.cells #[.pointer none] TT)) PairsT #[.slice none 0 0])
  have P2 := Lib.hid F1.out.size
  have PS := Lib.hid (show w.heap.size ≤ w2.heap.size by rw [hw2, World.size_alloc]; have := F1.out.size; omega)
  rw [← hw2] at T2 M2 R2 F2 L2
  clear hw2 M1 R1 F1
  generalize w1.heap.size = p at *
  obtain ⟨Lb, hLb⟩ : ∃ Lb, w2.heap.size = Lb := ⟨_, rfl⟩
  rw [hLb] at L2
  have PLb := Lib.hid (show w.heap.size ≤ Lb by rw [← hLb]; exact PS.out)
  have HLb := Lib.hid hLb; clear hLb
  go_wp2_with fail
  simp only [HLb.out]
  go_loopg [9] 200 (fun r i wr => ∃ (k : Nat) (t : TrV) (q : Option Addr) (cap : Nat), k + r = 200 ∧ k ≤ ks.length ∧ i = .int .i64 k ∧ FSt w p wr t q cap ∧ t.items.length ≤ k ∧ Blk wr Lb PairsT #[.slice q t.items.length cap] ∧
    Blk wr w.heap.size 3 #[.int .i64 most] ∧ Blk wr (w.heap.size + 1) 4 #[.bool false])
  case atStart => exact ⟨0, .nil, none, 0, rfl, Nat.zero_le _, rfl, ⟨T2.out, Pairs.nil _, fun _ h => (by cases h), F2.out.none_below, P2.out, fun _ h => (by cases h), fun _ h => (by cases h)⟩, Nat.le_refl _, L2.out, M2.out, R2.out⟩
  case round =>
    obtain ⟨k, t, q, cap, hk0, hk, rfl, hS, hz, hL, hM, hRb⟩ := hrel
    have HS := Lib.hid hS; have HZ := Lib.hid hz; have HL := Lib.hid hL; have HM := Lib.hid hM; have HRb := Lib.hid hRb
    clear hS hz hL hM hRb T2 M2 R2 F2 L2 HLb
    by_cases g1 : k < ks.length
    · by_cases g2 : k < 200
      · obtain ⟨b, off, rfl, hb, c0, wx⟩ := HO.out k ks[k] (List.getElem?_eq_getElem g1)
        have d0 := (HS.out.fr.cell (p := ⟨b, off + k, none⟩) hb).trans c0
        have hlow := (wf_i64 wx).1
        have C0 := Lib.hid c0; clear c0
        generalize ks[k] = x at *
        go_wp2_with fail
        refine (putT_tree x k HS.out.tree (by have := HS.out.tree.sz; have := HZ.out; omega)).mono ?_
        rintro e w3 ⟨rfl, q1, t2, q2, q3, q4, q5⟩
        clear q5
        obtain ⟨s1, s2⟩ := HS.out.put q1
        have l3 := HL.out.fr q1 (HS.out.tree.apart HL.out (by decide) (by decide))
        have m3 := HM.out.fr q1 (HS.out.tree.apart HM.out (by decide) (by decide))
        have r3 := HRb.out.fr q1 (HS.out.tree.apart HRb.out (by decide) (by decide))
        have k3 := (s2.cell (p := ⟨b, off + k, none⟩) hb).trans C0.out
        have RD := Lib.hid s1.reads.1
        have ST := Lib.hid (And.intro q1 (And.intro q2 (And.intro q3 (And.intro q4 (And.intro s1 (And.intro s2 (And.intro l3 (And.intro m3 r3))))))))
        have hlen3 := Lib.hid (show t.items.length ≤ 200 by have := HZ.out; omega)
        have cl := l3.cell; have cz := l3.frozen
        clear q1 q2 q3 q4 s1 s2 l3 m3 r3 d0 HL HM HRb
        go_wp2_with fail
        refine wp_region_tail (C := fun w' => ∃ n, w' = w3.drewN n) 6 (by kernel_rfl) (by kernel_rfl) ⟨1, rfl⟩ ?_
        simp only [List.take_succ_cons, List.take_zero, List.drop_succ_cons, List.drop_zero]
        repeat (go_big_quiet_step (fail))
        refine wpQuiet_nil ?_
        intro w' hw'
        obtain ⟨n1, rfl⟩ := hw'
        go_wp2_with fail
        refine (putRef_any q cap t.items x k (w3.drewN n1) (RD.out.fr ((Fr.refl None w3).drewN n1) (fun _ _ h => h)) (by have := hlen3.out; omega) HS.out.tree.rise).mono ?_
        rintro e w4 ⟨q', cap', rfl, hp', hfar', hfr'⟩
        obtain ⟨q1, q2, q3, q4, s1, s2, l3, m3, r3⟩ := ST.out
        have NS := Lib.hid (HS.out.step q2 q3 q4 s2 l3 PLb.out hp' hfar' hfr' hlow)
        have l4 := (l3.drewN n1).fr hfr' id
        have hne : ∀ b ty cs, Blk w3 b ty cs → ty ≠ PairsT → b ≠ Lb := fun b ty cs hb hty e => by subst e; exact hty (blk_ty hb l3)
        have m5 := ((m3.drewN n1).fr hfr' id).far (p := ⟨Lb, 0, none⟩) (hne _ _ _ m3 (by decide)) (.slice q' (Tr.putL x (k : Int) t.items).length cap')
        have r5 := ((r3.drewN n1).fr hfr' id).far (p := ⟨Lb, 0, none⟩) (hne _ _ _ r3 (by decide)) (.slice q' (Tr.putL x (k : Int) t.items).length cap')
        have l5 := l4.set 0 (.slice q' (Tr.putL x (k : Int) t.items).length cap')
        have NX := Lib.hid (And.intro m5 (And.intro r5 l5))
        have NL := Lib.hid (show t2.items.length ≤ k + 1 by rw [q3]; have := Tr.putL_length x (k : Int) t.items; have := HZ.out; omega)
        have Q3 := Lib.hid q3
        have c4 := l4.cell 0; have z4 := l4.frozen 0
        clear q1 q2 q3 q4 s1 s2 l3 m3 r3 hp' hfar' hfr' l4 m5 r5 l5 hne cl cz k3
        go_wp2_with fail
        go_roundg (gk - 1)
        case measure => omega
        case rel => exact ⟨k + 1, t2, q', cap', by omega, by omega, by go_num, NS.out, NL.out, by rw [Q3.out]; simpa using NX.out.2.2, NX.out.1, NX.out.2.1⟩
      · have HZ2 : t.items.length ≤ 200 := by have := HZ.out; omega
        have RD := Lib.hid HS.out.prs.reads.1
        have HRk := Lib.hid (rankRef_any q cap t.items key wr RD.out (by have := HZ.out; omega))
        have hle := Tr.rk_le key t.items
        obtain ⟨r, er⟩ : ∃ r, Tr.rk key t.items = r := ⟨_, rfl⟩
        have ER := Lib.hid er
        rw [er] at HRk hle; clear er
        have nb := (Blk.new wr 3 #[.int .i64 r]).cell 0
        have cl := HL.out.cell 0
        have cl5 := (HL.out.alloc (.cells #[.int .i64 r] 3)).cell 0
        have z0 := (Blk.new wr 3 #[.int .i64 0]).frozen 0
        have n0 := (Blk.new wr 3 #[.int .i64 0]).cell 0
        have HH := Lib.hid (hasRef_any q cap t.items key (wr.alloc (.cells #[.int .i64 r] 3)) (RD.out.fr ((Fr.refl None wr).alloc _) (fun _ _ h => h)) (by have := HZ.out; omega))
        obtain ⟨b, eb⟩ : ∃ b, Tr.hasR key t.items = b := ⟨_, rfl⟩
        have EB := Lib.hid eb
        rw [eb] at HH; clear eb
        go_wp2_with fail
        refine HRk.out.mono ?_
        rintro e w5 ⟨rfl, rfl⟩
        go_wp2_with fail
        refine HH.out.mono ?_
        rintro e w6 ⟨rfl, rfl⟩
        have tv := HS.out.tree.alloc (.cells #[.int .i64 r] 3)
        have pv : Pairs (w5.alloc (.cells #[.int .i64 r] 3)) (.slice q t.items.length cap) t.items := HS.out.prs.fr ((Fr.refl None w5).alloc _) (fun _ _ h => h)
        have lv := HL.out.alloc (.cells #[.int .i64 r] 3)
        have mv := HM.out.alloc (.cells #[.int .i64 r] 3)
        have rv := HRb.out.alloc (.cells #[.int .i64 r] 3)
        have nv := Blk.new w5 3 #[.int .i64 r]
        have fv := (Fr.of_below (D := None) HS.out.fr).alloc (.cells #[.int .i64 r] 3)
        have hNb := HS.out.fr.size
        have hNb2 : w5.heap.size < (w5.alloc (.cells #[.int .i64 r] 3)).heap.size := by simp
        clear nb cl cl5 z0 n0 HRk HH
        generalize w5.alloc (.cells #[.int .i64 r] 3) = V at *
        generalize w5.heap.size = Nb at *
        have TV := Lib.hid tv; have PV := Lib.hid pv; have LV := Lib.hid lv; have MV := Lib.hid mv; have RV := Lib.hid rv; have NV := Lib.hid nv; have FV := Lib.hid fv
        clear tv pv lv mv rv nv fv
        obtain ⟨fo, efo⟩ : ∃ fo, Tr.floorT key none t = fo := ⟨_, rfl⟩
        obtain ⟨co, eco⟩ : ∃ co, Tr.ceilT key none t = co := ⟨_, rfl⟩
        obtain ⟨ao, eao⟩ : ∃ ao, atV most t = ao := ⟨_, rfl⟩
        have FL := Lib.hid (fun n => floor_any p t key (V.drewN n) (TV.out.drewN n).blk (TV.out.drewN n).inn)
        have CE := Lib.hid (fun n => ceil_any p t key (V.drewN n) (TV.out.drewN n).blk (TV.out.drewN n).inn)
        have AT := Lib.hid (fun n => at_any p t most (V.drewN n) (wf_i64 wm).1 (TV.out.drewN n).blk (TV.out.drewN n).inn TV.out.right (by have := TV.out.sz; omega))
        have RA := Lib.hid (fun n => rank_any p t key (V.drewN n) (TV.out.drewN n).blk (TV.out.drewN n).inn TV.out.right TV.out.rise (by have := TV.out.sz; omega))
        have er2 : Tr.rankT key 0 t = r := by rw [Tr.rankT_spec TV.out.rise TV.out.right, ← Tr.rk_rank TV.out.rise, ER.out]; omega
        rw [er2] at RA
        rw [efo, tellV_eq] at FL; rw [eco, tellV_eq] at CE; rw [eao, tellV_eq] at AT
        have EFo := Lib.hid (show fo = if (if Tr.hasR key t.items = true then (Tr.rk key t.items : Int) else Tr.rk key t.items - 1) < 0 then none else t.items[(if Tr.hasR key t.items = true then (Tr.rk key t.items : Int) else Tr.rk key t.items - 1).toNat]? from by
          rw [← efo, Tr.floorT_spec TV.out.rise, Option.or_none]; exact floor_at TV.out.rise)
        have ECo := Lib.hid (show co = t.items[Tr.rk key t.items]? from by rw [← eco, Tr.ceilT_spec TV.out.rise, Option.or_none]; exact ceil_at TV.out.rise)
        have EAo := Lib.hid (eao.symm.trans (at_at TV.out.right))
        have Er2 := Lib.hid er2
        clear efo eco eao er2
        have cL := LV.out.cell; have cM := MV.out.cell; have cN := NV.out.cell
        cases b with
        | false =>
          go_wp2_with fail
          refine (FL.out 0).mono ?_
          rintro e w6 ⟨rfl, n1, rfl⟩
          go_wp2_with fail
          refine (CE.out _).mono ?_
          rintro e w6 ⟨rfl, n2, rfl⟩
          go_wp2_with fail
          refine (AT.out _).mono ?_
          rintro e w6 ⟨rfl, n3, rfl⟩
          go_wp2_with fail
          have tv := TV.out.drewN (n1 + n2 + n3)
          have pv : Pairs (V.drewN (n1 + n2 + n3)) (.slice q t.items.length cap) t.items := PV.out.fr ((Fr.refl None V).drewN _) (fun _ _ h => h)
          have lv := LV.out.drewN (n1 + n2 + n3)
          have mv := MV.out.drewN (n1 + n2 + n3)
          have rv := RV.out.drewN (n1 + n2 + n3)
          have nv := NV.out.drewN (n1 + n2 + n3)
          have fv := FV.out.drewN (n1 + n2 + n3)
          have hNb3 : Nb < (V.drewN (n1 + n2 + n3)).heap.size := hNb2
          clear cL cM cN TV PV LV MV RV NV FV FL CE AT RA hNb2
          generalize V.drewN (n1 + n2 + n3) = V2 at *
          have TV2 := Lib.hid tv; have PV2 := Lib.hid pv; have LV2 := Lib.hid lv; have MV2 := Lib.hid mv; have RV2 := Lib.hid rv; have NV2 := Lib.hid nv; have FV2 := Lib.hid fv
          clear tv pv lv mv rv nv fv
          have F1 := Lib.hid (fun n => is_any q cap t.items ((r : Int) - 1) (kOf fo) (vOf fo) fo.isSome (V2.drewN n) (PV2.out.reads.1.fr ((Fr.refl None V2).drewN n) (fun _ _ h => h)) (by have := HZ.out; omega) (is_of (EFo.out.trans (by simp [EB.out, ER.out]))))
          have F2 := Lib.hid (fun n => is_any q cap t.items r (kOf co) (vOf co) co.isSome (V2.drewN n) (PV2.out.reads.1.fr ((Fr.refl None V2).drewN n) (fun _ _ h => h)) (by have := HZ.out; omega) (is_of (ECo.out.trans (by rw [if_neg (by omega), Int.toNat_natCast, ER.out]))))
          have F3 := Lib.hid (fun n => is_any q cap t.items most (kOf ao) (vOf ao) ao.isSome (V2.drewN n) (PV2.out.reads.1.fr ((Fr.refl None V2).drewN n) (fun _ _ h => h)) (by have := HZ.out; omega) (is_of EAo.out))
          have RA2 := Lib.hid (fun n => (rank_any p t key (V2.drewN n) (TV2.out.drewN n).blk (TV2.out.drewN n).inn TV2.out.right TV2.out.rise (by have := TV2.out.sz; omega) : Calls _ _ _ _ fun e w' => e = .returned (.int .i64 (Tr.rankT key 0 t)) ∧ ∃ m, w' = (V2.drewN n).drewN m))
          rw [Er2.out] at RA2
          have cL := LV2.out.cell; have cM := MV2.out.cell; have cN := NV2.out.cell
          go_quiet ((first | (with_reducible exact Calls.quiet_of_same (F1.out _)) | (with_reducible exact Calls.quiet_of_same (F2.out _)) | (with_reducible exact Calls.quiet_of_same (F3.out _)) | (with_reducible exact Calls.quiet_of (RA2.out _))))
          have n0 : ((V2.drewN nq).alloc (.cells #[.int .i64 0] 3)).cell? ⟨V2.heap.size, 0, none⟩ = some (.int .i64 0) := (Blk.new (V2.drewN nq) 3 #[.int .i64 0]).cell 0
          have z0 : ((V2.drewN nq).alloc (.cells #[.int .i64 0] 3)).frozen? ⟨V2.heap.size, 0, none⟩ = false := (Blk.new (V2.drewN nq) 3 #[.int .i64 0]).frozen 0
          go_wp2_with fail
          have tv := (TV2.out.drewN nq).alloc (.cells #[.int .i64 0] 3)
          have pv : Pairs ((V2.drewN nq).alloc (.cells #[.int .i64 0] 3)) (.slice q t.items.length cap) t.items := PV2.out.fr (((Fr.refl None V2).drewN nq).alloc _) (fun _ _ h => h)
          have lv := (LV2.out.drewN nq).alloc (.cells #[.int .i64 0] 3)
          have mv := (MV2.out.drewN nq).alloc (.cells #[.int .i64 0] 3)
          have rv := (RV2.out.drewN nq).alloc (.cells #[.int .i64 0] 3)
          have nv := (NV2.out.drewN nq).alloc (.cells #[.int .i64 0] 3)
          have kv : Blk ((V2.drewN nq).alloc (.cells #[.int .i64 0] 3)) V2.heap.size 3 #[.int .i64 0] := Blk.new (V2.drewN nq) 3 #[.int .i64 0]
          have fv := (FV2.out.drewN nq).alloc (.cells #[.int .i64 0] 3)
          have hKb := FV2.out.size
          have HKM := Lib.hid MV2.out.lt
          clear cL cM cN n0 z0 TV2 PV2 LV2 MV2 RV2 NV2 FV2 F1 F2 F3 RA2
          generalize (V2.drewN nq).alloc (.cells #[.int .i64 0] 3) = V3 at *
          generalize V2.heap.size = Kb at *
          simp only [setCell_same kv]
          have f3 := ((Fr.refl None V3).alloc (.cells #[.pointer (some ⟨p, 0, none⟩)] 24)).alloc (.cells #[.int .i64 key] 3)
          have bT := (Blk.new V3 24 #[.pointer (some ⟨p, 0, none⟩)]).alloc (.cells #[.int .i64 key] 3)
          have bK := Blk.new (V3.alloc (.cells #[.pointer (some ⟨p, 0, none⟩)] 24)) 3 #[.int .i64 key]
          rw [World.size_alloc] at bK
          refine (from_any p key V3).mono ?_
          rintro e w7 ⟨rfl, ew7⟩
          rw [← ew7] at f3 bT bK
          clear ew7
          have G := Lib.hid (And.intro tv (And.intro pv (And.intro lv (And.intro mv (And.intro rv (And.intro nv (And.intro kv (And.intro fv (And.intro f3 (And.intro bT bK))))))))))
          clear tv pv lv mv rv nv kv fv f3 bT bK
          go_wp2_with fail
          refine (wpIn_wide (n := 5)).1 ?_
          obtain ⟨tv, pv, lv, mv, rv, nv, kv, fv, f3, bT, bK⟩ := G.out
          have hL : fromL key t.items = t.items.drop r := by rw [← ER.out]; exact Tr.fromL_drop tv.rise
          have neKM : Kb ≠ w.heap.size ∧ Kb ≠ Nb := ⟨by have := HKM.out; omega, by omega⟩
          have HS7 := Lib.hid (fun n => from_stops n (t.items.drop r).length (V3.heap.size + 1) V3.heap.size p t key (FD Kb (w.heap.size + 1)) w7
            (fun b hb => ⟨fun h => h.elim (fun e => by subst e; exact absurd hb (Nat.not_le_of_lt (kv.fr f3 id).lt)) (fun e => by subst e; exact absurd hb (Nat.not_le_of_lt (rv.fr f3 id).lt)), fun h => h.elim (fun e => by subst e; exact absurd hb (Nat.not_le_of_lt (kv.fr f3 id).lt)) (fun e => by subst e; exact absurd hb (Nat.not_le_of_lt (rv.fr f3 id).lt))⟩)
            (fun h => h.elim (fun e => by have := kv.lt; omega) (fun e => by have := rv.lt; omega))
            (fun b hb h => h.elim (fun e => by subst e; exact tv.apart kv (by decide) (by decide) (.inr hb)) (fun e => by subst e; exact tv.apart rv (by decide) (by decide) (.inr hb)))
            bK bT (tv.fr f3 id (fun _ _ h => h)).blk (tv.fr f3 id (fun _ _ h => h)).inn tv.rise (by rw [hL]))
          rw [hL] at HS7
          have H0 := Lib.hid (show Fi w q cap t.items r most Lb w.heap.size (w.heap.size + 1) Nb Kb [] w7 from
            ⟨kv.fr f3 id, lv.fr f3 id, mv.fr f3 id, nv.fr f3 id, rv.fr f3 id, pv.fr f3 (fun _ _ h => h), List.nil_prefix, (fv.trans f3).none_below⟩)
          have hS7 := (fv.trans f3).size
          have hr7 : w.heap.size ≤ Kb := by have := HKM.out; omega
          clear tv pv lv mv rv nv kv fv f3 bT bK hL
          refine wpIn_rangeFunc_ownF rfl (by omega) (gf := 34) (lb := #[.pointer (some ⟨V3.heap.size + 1, 0, none⟩), .pointer (some ⟨V3.heap.size, 0, none⟩)]) rfl trivial (enters_of Try.func34 (by kernel_rfl) rfl) (HS7.out _) (fun h k => h.trans k) frC_b (Below.refl _ _) (fun _ => rfl)
            (Fi w q cap t.items r most Lb w.heap.size (w.heap.size + 1) Nb Kb) (Fx w t.items r (w.heap.size + 1)) (ownFrom_of fun s A C h f => h.odd f hS7) (fun c => ownFrom_of fun s A C h f => h.odd f hS7) H0.out ?a11 ?assign1 ?body1 ?done1 ?stop1
          case assign1 =>
            intro l x W K hK
            gi_wp2
            exact hK
          case body1 =>
            intro l pre x W hI hlen
            have hx := List.getElem?_eq_getElem hlen
            have hx2 : t.items[r + pre.length]? = some ((t.items.drop r)[pre.length]) := by rw [← hx, List.getElem?_drop]
            obtain ⟨b, off, rfl, y1, y2⟩ := Pairs.at hI.prs.reads.1 hx2
            generalize (t.items.drop r)[pre.length] = y at *
            have hlt := (List.getElem?_eq_some_iff.1 hx2).1
            have ck := hI.kk.cell; have cz := hI.kk.frozen; have cl := hI.ll.cell; have cm := hI.mm.cell; have cn := hI.nn.cell; have cr := hI.rr.cell; have crz := hI.rr.frozen
            have HI := Lib.hid hI; have HX := Lib.hid hx
            clear hI hx hx2
            obtain ⟨x1, x2⟩ := x
            obtain ⟨yk, yv⟩ := y
            simp only at y1 y2
            by_cases g : yk = x1 ∧ yv = x2
            · obtain ⟨rfl, rfl⟩ := g
              have N := Lib.hid (HI.out.next HX.out neKM hr7)
              gi_wp2_with fail
              · refine ⟨trivial, ((callsIn_wide.2 (known_any _)).inRound l).mono ?_⟩
                rintro e W2 ⟨rfl, B2⟩
                have HB2 := Lib.hid B2; clear B2
                obtain ⟨b1, hst⟩ := N.out.2.2.stop N.out.1 HB2.out true (fun _ => rfl) (Nat.le_succ _)
                have c1 := b1.cell; have z1 := b1.frozen
                dsimp only
                gi_wp2_with fail
                exact hst
              · exact N.out
            · have hst := HI.out.stop (KeepsOthers.refl W) (Below.refl _ W) false (pre1 := pre ++ [(x1, x2)]) (fun hp => by
                have e := (prefix_snoc HI.out.pre HX.out).1 hp
                simp only [Prod.mk.injEq] at e
                exact absurd ⟨e.1.symm, e.2.symm⟩ g) (Nat.le_succ _)
              have HST := Lib.hid hst.2
              clear hst
              by_cases gk : yk = x1
              · have gv : ¬ yv = x2 := fun e => g ⟨gk, e⟩
                subst gk
                have gb : (yv == x2) = false := by simpa using gv
                have gb2 : (yv != x2) = true := by simpa using gv
                gi_wp2_with fail
                exact HST.out
              · have gb : (yk == x1) = false := by simpa using gk
                have gb2 : (yk != x1) = true := by simpa using gk
                gi_wp2_with fail
                exact HST.out
          case done1 =>
            rintro D' ys W hD rfl hI hK
            have ck := hI.kk.cell; have cl := hI.ll.cell; have cn := hI.nn.cell
            have er : (t.items.drop r).length = t.items.length - r := List.length_drop
            rw [er] at ck
            obtain ⟨m, hm⟩ : ∃ m, t.items.length - r = m := ⟨_, rfl⟩
            rw [hm] at ck
            have hm2 : (r : Int) + m = t.items.length := by omega
            have hr200 : r ≤ 200 := by omega
            have hm200 : m ≤ 200 := by omega
            have gb : ((r : Int) + m == (t.items.length : Int)) = true := by simpa using hm2
            have HI := Lib.hid hI; have HK := Lib.hid hK
            clear hI hK er hm hm2
            go_wp2_with fail
            refine (known_any _).mono ?_
            rintro e W2 ⟨rfl, B2⟩
            have HB2 := Lib.hid B2; clear B2
            have b1 := HI.out.rr.fr (Fr.of_below (D := None) HB2.out) id
            have b2 := b1.set 0 (.bool true)
            have f2 := fr_set W2 (w.heap.size + 1) (.bool true)
            have hK2 : (W2.setCell ⟨w.heap.size + 1, 0, none⟩ (.bool true)).heap[D']? = some (.deferred (some [])) := by
              rw [f2.block D' (Nat.lt_of_lt_of_le (heap_lt HK.out) HB2.out.size) (fun e => by
                have h1 := HI.out.rr; unfold Blk at h1; rw [← e, HK.out] at h1; cases h1), HB2.out.block D' (heap_lt HK.out)]
              exact HK.out
            have hfin := (HI.out.fr.trans (HB2.out.mono HI.out.fr.size)).trans (Fr.to_below f2 (Nat.le_trans HI.out.fr.size HB2.out.size) (fun i e => by rw [e]; exact Nat.le_succ _))
            have HF := Lib.hid (And.intro b2 (And.intro hK2 hfin))
            have c1 := b1.cell; have z1 := b1.frozen
            clear b1 b2 f2 hK2 hfin ck cl cn
            go_wp2_with fail
            refine ⟨by simp, .inl ⟨_, _, rfl, run_takeDeferred HF.out.2.1, ?_⟩⟩
            exact end_said rfl rfl (by simpa using HF.out.1) HF.out.2.2 HF.out.2.1 hD hS7
          case stop1 =>
            rintro D' c pre W hD hp h hK
            obtain ⟨rfl, hr1, hr2⟩ := h
            have b2 := hr1 hp
            refine wpIn_wide.2 ?_
            go_wp2_with fail
            refine ⟨by simp, .inl ⟨_, _, rfl, run_takeDeferred hK, ?_⟩⟩
            exact end_said rfl rfl b2 hr2 hK hD hS7
        | true =>
          go_wp2_with fail
          refine (FL.out 0).mono ?_
          rintro e w6 ⟨rfl, n1, rfl⟩
          go_wp2_with fail
          refine (CE.out _).mono ?_
          rintro e w6 ⟨rfl, n2, rfl⟩
          go_wp2_with fail
          refine (AT.out _).mono ?_
          rintro e w6 ⟨rfl, n3, rfl⟩
          go_wp2_with fail
          have tv := TV.out.drewN (n1 + n2 + n3)
          have pv : Pairs (V.drewN (n1 + n2 + n3)) (.slice q t.items.length cap) t.items := PV.out.fr ((Fr.refl None V).drewN _) (fun _ _ h => h)
          have lv := LV.out.drewN (n1 + n2 + n3)
          have mv := MV.out.drewN (n1 + n2 + n3)
          have rv := RV.out.drewN (n1 + n2 + n3)
          have nv := NV.out.drewN (n1 + n2 + n3)
          have fv := FV.out.drewN (n1 + n2 + n3)
          have hNb3 : Nb < (V.drewN (n1 + n2 + n3)).heap.size := hNb2
          clear cL cM cN TV PV LV MV RV NV FV FL CE AT RA hNb2
          generalize V.drewN (n1 + n2 + n3) = V2 at *
          have TV2 := Lib.hid tv; have PV2 := Lib.hid pv; have LV2 := Lib.hid lv; have MV2 := Lib.hid mv; have RV2 := Lib.hid rv; have NV2 := Lib.hid nv; have FV2 := Lib.hid fv
          clear tv pv lv mv rv nv fv
          have F1 := Lib.hid (fun n => is_any q cap t.items (r : Int) (kOf fo) (vOf fo) fo.isSome (V2.drewN n) (PV2.out.reads.1.fr ((Fr.refl None V2).drewN n) (fun _ _ h => h)) (by have := HZ.out; omega) (is_of (EFo.out.trans (by simp [EB.out, ER.out]))))
          have F2 := Lib.hid (fun n => is_any q cap t.items r (kOf co) (vOf co) co.isSome (V2.drewN n) (PV2.out.reads.1.fr ((Fr.refl None V2).drewN n) (fun _ _ h => h)) (by have := HZ.out; omega) (is_of (ECo.out.trans (by rw [if_neg (by omega), Int.toNat_natCast, ER.out]))))
          have F3 := Lib.hid (fun n => is_any q cap t.items most (kOf ao) (vOf ao) ao.isSome (V2.drewN n) (PV2.out.reads.1.fr ((Fr.refl None V2).drewN n) (fun _ _ h => h)) (by have := HZ.out; omega) (is_of EAo.out))
          have RA2 := Lib.hid (fun n => (rank_any p t key (V2.drewN n) (TV2.out.drewN n).blk (TV2.out.drewN n).inn TV2.out.right TV2.out.rise (by have := TV2.out.sz; omega) : Calls _ _ _ _ fun e w' => e = .returned (.int .i64 (Tr.rankT key 0 t)) ∧ ∃ m, w' = (V2.drewN n).drewN m))
          rw [Er2.out] at RA2
          have cL := LV2.out.cell; have cM := MV2.out.cell; have cN := NV2.out.cell
          go_quiet ((first | (with_reducible exact Calls.quiet_of_same (F1.out _)) | (with_reducible exact Calls.quiet_of_same (F2.out _)) | (with_reducible exact Calls.quiet_of_same (F3.out _)) | (with_reducible exact Calls.quiet_of (RA2.out _))))
          have n0 : ((V2.drewN nq).alloc (.cells #[.int .i64 0] 3)).cell? ⟨V2.heap.size, 0, none⟩ = some (.int .i64 0) := (Blk.new (V2.drewN nq) 3 #[.int .i64 0]).cell 0
          have z0 : ((V2.drewN nq).alloc (.cells #[.int .i64 0] 3)).frozen? ⟨V2.heap.size, 0, none⟩ = false := (Blk.new (V2.drewN nq) 3 #[.int .i64 0]).frozen 0
          go_wp2_with fail
          have tv := (TV2.out.drewN nq).alloc (.cells #[.int .i64 0] 3)
          have pv : Pairs ((V2.drewN nq).alloc (.cells #[.int .i64 0] 3)) (.slice q t.items.length cap) t.items := PV2.out.fr (((Fr.refl None V2).drewN nq).alloc _) (fun _ _ h => h)
          have lv := (LV2.out.drewN nq).alloc (.cells #[.int .i64 0] 3)
          have mv := (MV2.out.drewN nq).alloc (.cells #[.int .i64 0] 3)
          have rv := (RV2.out.drewN nq).alloc (.cells #[.int .i64 0] 3)
          have nv := (NV2.out.drewN nq).alloc (.cells #[.int .i64 0] 3)
          have kv : Blk ((V2.drewN nq).alloc (.cells #[.int .i64 0] 3)) V2.heap.size 3 #[.int .i64 0] := Blk.new (V2.drewN nq) 3 #[.int .i64 0]
          have fv := (FV2.out.drewN nq).alloc (.cells #[.int .i64 0] 3)
          have hKb := FV2.out.size
          have HKM := Lib.hid MV2.out.lt
          clear cL cM cN n0 z0 TV2 PV2 LV2 MV2 RV2 NV2 FV2 F1 F2 F3 RA2
          generalize (V2.drewN nq).alloc (.cells #[.int .i64 0] 3) = V3 at *
          generalize V2.heap.size = Kb at *
          simp only [setCell_same kv]
          have f3 := ((Fr.refl None V3).alloc (.cells #[.pointer (some ⟨p, 0, none⟩)] 24)).alloc (.cells #[.int .i64 key] 3)
          have bT := (Blk.new V3 24 #[.pointer (some ⟨p, 0, none⟩)]).alloc (.cells #[.int .i64 key] 3)
          have bK := Blk.new (V3.alloc (.cells #[.pointer (some ⟨p, 0, none⟩)] 24)) 3 #[.int .i64 key]
          rw [World.size_alloc] at bK
          refine (from_any p key V3).mono ?_
          rintro e w7 ⟨rfl, ew7⟩
          rw [← ew7] at f3 bT bK
          clear ew7
          have G := Lib.hid (And.intro tv (And.intro pv (And.intro lv (And.intro mv (And.intro rv (And.intro nv (And.intro kv (And.intro fv (And.intro f3 (And.intro bT bK))))))))))
          clear tv pv lv mv rv nv kv fv f3 bT bK
          go_wp2_with fail
          refine (wpIn_wide (n := 5)).1 ?_
          obtain ⟨tv, pv, lv, mv, rv, nv, kv, fv, f3, bT, bK⟩ := G.out
          have hL : fromL key t.items = t.items.drop r := by rw [← ER.out]; exact Tr.fromL_drop tv.rise
          have neKM : Kb ≠ w.heap.size ∧ Kb ≠ Nb := ⟨by have := HKM.out; omega, by omega⟩
          have HS7 := Lib.hid (fun n => from_stops n (t.items.drop r).length (V3.heap.size + 1) V3.heap.size p t key (FD Kb (w.heap.size + 1)) w7
            (fun b hb => ⟨fun h => h.elim (fun e => by subst e; exact absurd hb (Nat.not_le_of_lt (kv.fr f3 id).lt)) (fun e => by subst e; exact absurd hb (Nat.not_le_of_lt (rv.fr f3 id).lt)), fun h => h.elim (fun e => by subst e; exact absurd hb (Nat.not_le_of_lt (kv.fr f3 id).lt)) (fun e => by subst e; exact absurd hb (Nat.not_le_of_lt (rv.fr f3 id).lt))⟩)
            (fun h => h.elim (fun e => by have := kv.lt; omega) (fun e => by have := rv.lt; omega))
            (fun b hb h => h.elim (fun e => by subst e; exact tv.apart kv (by decide) (by decide) (.inr hb)) (fun e => by subst e; exact tv.apart rv (by decide) (by decide) (.inr hb)))
            bK bT (tv.fr f3 id (fun _ _ h => h)).blk (tv.fr f3 id (fun _ _ h => h)).inn tv.rise (by rw [hL]))
          rw [hL] at HS7
          have H0 := Lib.hid (show Fi w q cap t.items r most Lb w.heap.size (w.heap.size + 1) Nb Kb [] w7 from
            ⟨kv.fr f3 id, lv.fr f3 id, mv.fr f3 id, nv.fr f3 id, rv.fr f3 id, pv.fr f3 (fun _ _ h => h), List.nil_prefix, (fv.trans f3).none_below⟩)
          have hS7 := (fv.trans f3).size
          have hr7 : w.heap.size ≤ Kb := by have := HKM.out; omega
          clear tv pv lv mv rv nv kv fv f3 bT bK hL
          refine wpIn_rangeFunc_ownF rfl (by omega) (gf := 34) (lb := #[.pointer (some ⟨V3.heap.size + 1, 0, none⟩), .pointer (some ⟨V3.heap.size, 0, none⟩)]) rfl trivial (enters_of Try.func34 (by kernel_rfl) rfl) (HS7.out _) (fun h k => h.trans k) frC_b (Below.refl _ _) (fun _ => rfl)
            (Fi w q cap t.items r most Lb w.heap.size (w.heap.size + 1) Nb Kb) (Fx w t.items r (w.heap.size + 1)) (ownFrom_of fun s A C h f => h.odd f hS7) (fun c => ownFrom_of fun s A C h f => h.odd f hS7) H0.out ?a12 ?assign2 ?body2 ?done2 ?stop2
          case assign2 =>
            intro l x W K hK
            gi_wp2
            exact hK
          case body2 =>
            intro l pre x W hI hlen
            have hx := List.getElem?_eq_getElem hlen
            have hx2 : t.items[r + pre.length]? = some ((t.items.drop r)[pre.length]) := by rw [← hx, List.getElem?_drop]
            obtain ⟨b, off, rfl, y1, y2⟩ := Pairs.at hI.prs.reads.1 hx2
            generalize (t.items.drop r)[pre.length] = y at *
            have hlt := (List.getElem?_eq_some_iff.1 hx2).1
            have ck := hI.kk.cell; have cz := hI.kk.frozen; have cl := hI.ll.cell; have cm := hI.mm.cell; have cn := hI.nn.cell; have cr := hI.rr.cell; have crz := hI.rr.frozen
            have HI := Lib.hid hI; have HX := Lib.hid hx
            clear hI hx hx2
            obtain ⟨x1, x2⟩ := x
            obtain ⟨yk, yv⟩ := y
            simp only at y1 y2
            by_cases g : yk = x1 ∧ yv = x2
            · obtain ⟨rfl, rfl⟩ := g
              have N := Lib.hid (HI.out.next HX.out neKM hr7)
              gi_wp2_with fail
              · refine ⟨trivial, ((callsIn_wide.2 (known_any _)).inRound l).mono ?_⟩
                rintro e W2 ⟨rfl, B2⟩
                have HB2 := Lib.hid B2; clear B2
                obtain ⟨b1, hst⟩ := N.out.2.2.stop N.out.1 HB2.out true (fun _ => rfl) (Nat.le_succ _)
                have c1 := b1.cell; have z1 := b1.frozen
                dsimp only
                gi_wp2_with fail
                exact hst
              · exact N.out
            · have hst := HI.out.stop (KeepsOthers.refl W) (Below.refl _ W) false (pre1 := pre ++ [(x1, x2)]) (fun hp => by
                have e := (prefix_snoc HI.out.pre HX.out).1 hp
                simp only [Prod.mk.injEq] at e
                exact absurd ⟨e.1.symm, e.2.symm⟩ g) (Nat.le_succ _)
              have HST := Lib.hid hst.2
              clear hst
              by_cases gk : yk = x1
              · have gv : ¬ yv = x2 := fun e => g ⟨gk, e⟩
                subst gk
                have gb : (yv == x2) = false := by simpa using gv
                have gb2 : (yv != x2) = true := by simpa using gv
                gi_wp2_with fail
                exact HST.out
              · have gb : (yk == x1) = false := by simpa using gk
                have gb2 : (yk != x1) = true := by simpa using gk
                gi_wp2_with fail
                exact HST.out
          case done2 =>
            rintro D' ys W hD rfl hI hK
            have ck := hI.kk.cell; have cl := hI.ll.cell; have cn := hI.nn.cell
            have er : (t.items.drop r).length = t.items.length - r := List.length_drop
            rw [er] at ck
            obtain ⟨m, hm⟩ : ∃ m, t.items.length - r = m := ⟨_, rfl⟩
            rw [hm] at ck
            have hm2 : (r : Int) + m = t.items.length := by omega
            have hr200 : r ≤ 200 := by omega
            have hm200 : m ≤ 200 := by omega
            have gb : ((r : Int) + m == (t.items.length : Int)) = true := by simpa using hm2
            have HI := Lib.hid hI; have HK := Lib.hid hK
            clear hI hK er hm hm2
            go_wp2_with fail
            refine (known_any _).mono ?_
            rintro e W2 ⟨rfl, B2⟩
            have HB2 := Lib.hid B2; clear B2
            have b1 := HI.out.rr.fr (Fr.of_below (D := None) HB2.out) id
            have b2 := b1.set 0 (.bool true)
            have f2 := fr_set W2 (w.heap.size + 1) (.bool true)
            have hK2 : (W2.setCell ⟨w.heap.size + 1, 0, none⟩ (.bool true)).heap[D']? = some (.deferred (some [])) := by
              rw [f2.block D' (Nat.lt_of_lt_of_le (heap_lt HK.out) HB2.out.size) (fun e => by
                have h1 := HI.out.rr; unfold Blk at h1; rw [← e, HK.out] at h1; cases h1), HB2.out.block D' (heap_lt HK.out)]
              exact HK.out
            have hfin := (HI.out.fr.trans (HB2.out.mono HI.out.fr.size)).trans (Fr.to_below f2 (Nat.le_trans HI.out.fr.size HB2.out.size) (fun i e => by rw [e]; exact Nat.le_succ _))
            have HF := Lib.hid (And.intro b2 (And.intro hK2 hfin))
            have c1 := b1.cell; have z1 := b1.frozen
            clear b1 b2 f2 hK2 hfin ck cl cn
            go_wp2_with fail
            refine ⟨by simp, .inl ⟨_, _, rfl, run_takeDeferred HF.out.2.1, ?_⟩⟩
            exact end_said rfl rfl (by simpa using HF.out.1) HF.out.2.2 HF.out.2.1 hD hS7
          case stop2 =>
            rintro D' c pre W hD hp h hK
            obtain ⟨rfl, hr1, hr2⟩ := h
            have b2 := hr1 hp
            refine wpIn_wide.2 ?_
            go_wp2_with fail
            refine ⟨by simp, .inl ⟨_, _, rfl, run_takeDeferred hK, ?_⟩⟩
            exact end_said rfl rfl b2 hr2 hK hD hS7
    · have HZ2 : t.items.length ≤ 200 := by have := HZ.out; omega
      have RD := Lib.hid HS.out.prs.reads.1
      have HRk := Lib.hid (rankRef_any q cap t.items key wr RD.out (by have := HZ.out; omega))
      have hle := Tr.rk_le key t.items
      obtain ⟨r, er⟩ : ∃ r, Tr.rk key t.items = r := ⟨_, rfl⟩
      have ER := Lib.hid er
      rw [er] at HRk hle; clear er
      have nb := (Blk.new wr 3 #[.int .i64 r]).cell 0
      have cl := HL.out.cell 0
      have cl5 := (HL.out.alloc (.cells #[.int .i64 r] 3)).cell 0
      have z0 := (Blk.new wr 3 #[.int .i64 0]).frozen 0
      have n0 := (Blk.new wr 3 #[.int .i64 0]).cell 0
      have HH := Lib.hid (hasRef_any q cap t.items key (wr.alloc (.cells #[.int .i64 r] 3)) (RD.out.fr ((Fr.refl None wr).alloc _) (fun _ _ h => h)) (by have := HZ.out; omega))
      obtain ⟨b, eb⟩ : ∃ b, Tr.hasR key t.items = b := ⟨_, rfl⟩
      have EB := Lib.hid eb
      rw [eb] at HH; clear eb
      go_wp2_with fail
      refine HRk.out.mono ?_
      rintro e w5 ⟨rfl, rfl⟩
      go_wp2_with fail
      refine HH.out.mono ?_
      rintro e w6 ⟨rfl, rfl⟩
      have tv := HS.out.tree.alloc (.cells #[.int .i64 r] 3)
      have pv : Pairs (w5.alloc (.cells #[.int .i64 r] 3)) (.slice q t.items.length cap) t.items := HS.out.prs.fr ((Fr.refl None w5).alloc _) (fun _ _ h => h)
      have lv := HL.out.alloc (.cells #[.int .i64 r] 3)
      have mv := HM.out.alloc (.cells #[.int .i64 r] 3)
      have rv := HRb.out.alloc (.cells #[.int .i64 r] 3)
      have nv := Blk.new w5 3 #[.int .i64 r]
      have fv := (Fr.of_below (D := None) HS.out.fr).alloc (.cells #[.int .i64 r] 3)
      have hNb := HS.out.fr.size
      have hNb2 : w5.heap.size < (w5.alloc (.cells #[.int .i64 r] 3)).heap.size := by simp
      clear nb cl cl5 z0 n0 HRk HH
      generalize w5.alloc (.cells #[.int .i64 r] 3) = V at *
      generalize w5.heap.size = Nb at *
      have TV := Lib.hid tv; have PV := Lib.hid pv; have LV := Lib.hid lv; have MV := Lib.hid mv; have RV := Lib.hid rv; have NV := Lib.hid nv; have FV := Lib.hid fv
      clear tv pv lv mv rv nv fv
      obtain ⟨fo, efo⟩ : ∃ fo, Tr.floorT key none t = fo := ⟨_, rfl⟩
      obtain ⟨co, eco⟩ : ∃ co, Tr.ceilT key none t = co := ⟨_, rfl⟩
      obtain ⟨ao, eao⟩ : ∃ ao, atV most t = ao := ⟨_, rfl⟩
      have FL := Lib.hid (fun n => floor_any p t key (V.drewN n) (TV.out.drewN n).blk (TV.out.drewN n).inn)
      have CE := Lib.hid (fun n => ceil_any p t key (V.drewN n) (TV.out.drewN n).blk (TV.out.drewN n).inn)
      have AT := Lib.hid (fun n => at_any p t most (V.drewN n) (wf_i64 wm).1 (TV.out.drewN n).blk (TV.out.drewN n).inn TV.out.right (by have := TV.out.sz; omega))
      have RA := Lib.hid (fun n => rank_any p t key (V.drewN n) (TV.out.drewN n).blk (TV.out.drewN n).inn TV.out.right TV.out.rise (by have := TV.out.sz; omega))
      have er2 : Tr.rankT key 0 t = r := by rw [Tr.rankT_spec TV.out.rise TV.out.right, ← Tr.rk_rank TV.out.rise, ER.out]; omega
      rw [er2] at RA
      rw [efo, tellV_eq] at FL; rw [eco, tellV_eq] at CE; rw [eao, tellV_eq] at AT
      have EFo := Lib.hid (show fo = if (if Tr.hasR key t.items = true then (Tr.rk key t.items : Int) else Tr.rk key t.items - 1) < 0 then none else t.items[(if Tr.hasR key t.items = true then (Tr.rk key t.items : Int) else Tr.rk key t.items - 1).toNat]? from by
        rw [← efo, Tr.floorT_spec TV.out.rise, Option.or_none]; exact floor_at TV.out.rise)
      have ECo := Lib.hid (show co = t.items[Tr.rk key t.items]? from by rw [← eco, Tr.ceilT_spec TV.out.rise, Option.or_none]; exact ceil_at TV.out.rise)
      have EAo := Lib.hid (eao.symm.trans (at_at TV.out.right))
      have Er2 := Lib.hid er2
      clear efo eco eao er2
      have cL := LV.out.cell; have cM := MV.out.cell; have cN := NV.out.cell
      cases b with
      | false =>
        go_wp2_with fail
        refine (FL.out 0).mono ?_
        rintro e w6 ⟨rfl, n1, rfl⟩
        go_wp2_with fail
        refine (CE.out _).mono ?_
        rintro e w6 ⟨rfl, n2, rfl⟩
        go_wp2_with fail
        refine (AT.out _).mono ?_
        rintro e w6 ⟨rfl, n3, rfl⟩
        go_wp2_with fail
        have tv := TV.out.drewN (n1 + n2 + n3)
        have pv : Pairs (V.drewN (n1 + n2 + n3)) (.slice q t.items.length cap) t.items := PV.out.fr ((Fr.refl None V).drewN _) (fun _ _ h => h)
        have lv := LV.out.drewN (n1 + n2 + n3)
        have mv := MV.out.drewN (n1 + n2 + n3)
        have rv := RV.out.drewN (n1 + n2 + n3)
        have nv := NV.out.drewN (n1 + n2 + n3)
        have fv := FV.out.drewN (n1 + n2 + n3)
        have hNb3 : Nb < (V.drewN (n1 + n2 + n3)).heap.size := hNb2
        clear cL cM cN TV PV LV MV RV NV FV FL CE AT RA hNb2
        generalize V.drewN (n1 + n2 + n3) = V2 at *
        have TV2 := Lib.hid tv; have PV2 := Lib.hid pv; have LV2 := Lib.hid lv; have MV2 := Lib.hid mv; have RV2 := Lib.hid rv; have NV2 := Lib.hid nv; have FV2 := Lib.hid fv
        clear tv pv lv mv rv nv fv
        have F1 := Lib.hid (fun n => is_any q cap t.items ((r : Int) - 1) (kOf fo) (vOf fo) fo.isSome (V2.drewN n) (PV2.out.reads.1.fr ((Fr.refl None V2).drewN n) (fun _ _ h => h)) (by have := HZ.out; omega) (is_of (EFo.out.trans (by simp [EB.out, ER.out]))))
        have F2 := Lib.hid (fun n => is_any q cap t.items r (kOf co) (vOf co) co.isSome (V2.drewN n) (PV2.out.reads.1.fr ((Fr.refl None V2).drewN n) (fun _ _ h => h)) (by have := HZ.out; omega) (is_of (ECo.out.trans (by rw [if_neg (by omega), Int.toNat_natCast, ER.out]))))
        have F3 := Lib.hid (fun n => is_any q cap t.items most (kOf ao) (vOf ao) ao.isSome (V2.drewN n) (PV2.out.reads.1.fr ((Fr.refl None V2).drewN n) (fun _ _ h => h)) (by have := HZ.out; omega) (is_of EAo.out))
        have RA2 := Lib.hid (fun n => (rank_any p t key (V2.drewN n) (TV2.out.drewN n).blk (TV2.out.drewN n).inn TV2.out.right TV2.out.rise (by have := TV2.out.sz; omega) : Calls _ _ _ _ fun e w' => e = .returned (.int .i64 (Tr.rankT key 0 t)) ∧ ∃ m, w' = (V2.drewN n).drewN m))
        rw [Er2.out] at RA2
        have cL := LV2.out.cell; have cM := MV2.out.cell; have cN := NV2.out.cell
        go_quiet ((first | (with_reducible exact Calls.quiet_of_same (F1.out _)) | (with_reducible exact Calls.quiet_of_same (F2.out _)) | (with_reducible exact Calls.quiet_of_same (F3.out _)) | (with_reducible exact Calls.quiet_of (RA2.out _))))
        have n0 : ((V2.drewN nq).alloc (.cells #[.int .i64 0] 3)).cell? ⟨V2.heap.size, 0, none⟩ = some (.int .i64 0) := (Blk.new (V2.drewN nq) 3 #[.int .i64 0]).cell 0
        have z0 : ((V2.drewN nq).alloc (.cells #[.int .i64 0] 3)).frozen? ⟨V2.heap.size, 0, none⟩ = false := (Blk.new (V2.drewN nq) 3 #[.int .i64 0]).frozen 0
        go_wp2_with fail
        have tv := (TV2.out.drewN nq).alloc (.cells #[.int .i64 0] 3)
        have pv : Pairs ((V2.drewN nq).alloc (.cells #[.int .i64 0] 3)) (.slice q t.items.length cap) t.items := PV2.out.fr (((Fr.refl None V2).drewN nq).alloc _) (fun _ _ h => h)
        have lv := (LV2.out.drewN nq).alloc (.cells #[.int .i64 0] 3)
        have mv := (MV2.out.drewN nq).alloc (.cells #[.int .i64 0] 3)
        have rv := (RV2.out.drewN nq).alloc (.cells #[.int .i64 0] 3)
        have nv := (NV2.out.drewN nq).alloc (.cells #[.int .i64 0] 3)
        have kv : Blk ((V2.drewN nq).alloc (.cells #[.int .i64 0] 3)) V2.heap.size 3 #[.int .i64 0] := Blk.new (V2.drewN nq) 3 #[.int .i64 0]
        have fv := (FV2.out.drewN nq).alloc (.cells #[.int .i64 0] 3)
        have hKb := FV2.out.size
        have HKM := Lib.hid MV2.out.lt
        clear cL cM cN n0 z0 TV2 PV2 LV2 MV2 RV2 NV2 FV2 F1 F2 F3 RA2
        generalize (V2.drewN nq).alloc (.cells #[.int .i64 0] 3) = V3 at *
        generalize V2.heap.size = Kb at *
        simp only [setCell_same kv]
        have f3 := ((Fr.refl None V3).alloc (.cells #[.pointer (some ⟨p, 0, none⟩)] 24)).alloc (.cells #[.int .i64 key] 3)
        have bT := (Blk.new V3 24 #[.pointer (some ⟨p, 0, none⟩)]).alloc (.cells #[.int .i64 key] 3)
        have bK := Blk.new (V3.alloc (.cells #[.pointer (some ⟨p, 0, none⟩)] 24)) 3 #[.int .i64 key]
        rw [World.size_alloc] at bK
        refine (from_any p key V3).mono ?_
        rintro e w7 ⟨rfl, ew7⟩
        rw [← ew7] at f3 bT bK
        clear ew7
        have G := Lib.hid (And.intro tv (And.intro pv (And.intro lv (And.intro mv (And.intro rv (And.intro nv (And.intro kv (And.intro fv (And.intro f3 (And.intro bT bK))))))))))
        clear tv pv lv mv rv nv kv fv f3 bT bK
        go_wp2_with fail
        refine (wpIn_wide (n := 5)).1 ?_
        obtain ⟨tv, pv, lv, mv, rv, nv, kv, fv, f3, bT, bK⟩ := G.out
        have hL : fromL key t.items = t.items.drop r := by rw [← ER.out]; exact Tr.fromL_drop tv.rise
        have neKM : Kb ≠ w.heap.size ∧ Kb ≠ Nb := ⟨by have := HKM.out; omega, by omega⟩
        have HS7 := Lib.hid (fun n => from_stops n (t.items.drop r).length (V3.heap.size + 1) V3.heap.size p t key (FD Kb (w.heap.size + 1)) w7
          (fun b hb => ⟨fun h => h.elim (fun e => by subst e; exact absurd hb (Nat.not_le_of_lt (kv.fr f3 id).lt)) (fun e => by subst e; exact absurd hb (Nat.not_le_of_lt (rv.fr f3 id).lt)), fun h => h.elim (fun e => by subst e; exact absurd hb (Nat.not_le_of_lt (kv.fr f3 id).lt)) (fun e => by subst e; exact absurd hb (Nat.not_le_of_lt (rv.fr f3 id).lt))⟩)
          (fun h => h.elim (fun e => by have := kv.lt; omega) (fun e => by have := rv.lt; omega))
          (fun b hb h => h.elim (fun e => by subst e; exact tv.apart kv (by decide) (by decide) (.inr hb)) (fun e => by subst e; exact tv.apart rv (by decide) (by decide) (.inr hb)))
          bK bT (tv.fr f3 id (fun _ _ h => h)).blk (tv.fr f3 id (fun _ _ h => h)).inn tv.rise (by rw [hL]))
        rw [hL] at HS7
        have H0 := Lib.hid (show Fi w q cap t.items r most Lb w.heap.size (w.heap.size + 1) Nb Kb [] w7 from
          ⟨kv.fr f3 id, lv.fr f3 id, mv.fr f3 id, nv.fr f3 id, rv.fr f3 id, pv.fr f3 (fun _ _ h => h), List.nil_prefix, (fv.trans f3).none_below⟩)
        have hS7 := (fv.trans f3).size
        have hr7 : w.heap.size ≤ Kb := by have := HKM.out; omega
        clear tv pv lv mv rv nv kv fv f3 bT bK hL
        refine wpIn_rangeFunc_ownF rfl (by omega) (gf := 34) (lb := #[.pointer (some ⟨V3.heap.size + 1, 0, none⟩), .pointer (some ⟨V3.heap.size, 0, none⟩)]) rfl trivial (enters_of Try.func34 (by kernel_rfl) rfl) (HS7.out _) (fun h k => h.trans k) frC_b (Below.refl _ _) (fun _ => rfl)
          (Fi w q cap t.items r most Lb w.heap.size (w.heap.size + 1) Nb Kb) (Fx w t.items r (w.heap.size + 1)) (ownFrom_of fun s A C h f => h.odd f hS7) (fun c => ownFrom_of fun s A C h f => h.odd f hS7) H0.out ?a13 ?assign3 ?body3 ?done3 ?stop3
        case assign3 =>
          intro l x W K hK
          gi_wp2
          exact hK
        case body3 =>
          intro l pre x W hI hlen
          have hx := List.getElem?_eq_getElem hlen
          have hx2 : t.items[r + pre.length]? = some ((t.items.drop r)[pre.length]) := by rw [← hx, List.getElem?_drop]
          obtain ⟨b, off, rfl, y1, y2⟩ := Pairs.at hI.prs.reads.1 hx2
          generalize (t.items.drop r)[pre.length] = y at *
          have hlt := (List.getElem?_eq_some_iff.1 hx2).1
          have ck := hI.kk.cell; have cz := hI.kk.frozen; have cl := hI.ll.cell; have cm := hI.mm.cell; have cn := hI.nn.cell; have cr := hI.rr.cell; have crz := hI.rr.frozen
          have HI := Lib.hid hI; have HX := Lib.hid hx
          clear hI hx hx2
          obtain ⟨x1, x2⟩ := x
          obtain ⟨yk, yv⟩ := y
          simp only at y1 y2
          by_cases g : yk = x1 ∧ yv = x2
          · obtain ⟨rfl, rfl⟩ := g
            have N := Lib.hid (HI.out.next HX.out neKM hr7)
            gi_wp2_with fail
            · refine ⟨trivial, ((callsIn_wide.2 (known_any _)).inRound l).mono ?_⟩
              rintro e W2 ⟨rfl, B2⟩
              have HB2 := Lib.hid B2; clear B2
              obtain ⟨b1, hst⟩ := N.out.2.2.stop N.out.1 HB2.out true (fun _ => rfl) (Nat.le_succ _)
              have c1 := b1.cell; have z1 := b1.frozen
              dsimp only
              gi_wp2_with fail
              exact hst
            · exact N.out
          · have hst := HI.out.stop (KeepsOthers.refl W) (Below.refl _ W) false (pre1 := pre ++ [(x1, x2)]) (fun hp => by
              have e := (prefix_snoc HI.out.pre HX.out).1 hp
              simp only [Prod.mk.injEq] at e
              exact absurd ⟨e.1.symm, e.2.symm⟩ g) (Nat.le_succ _)
            have HST := Lib.hid hst.2
            clear hst
            by_cases gk : yk = x1
            · have gv : ¬ yv = x2 := fun e => g ⟨gk, e⟩
              subst gk
              have gb : (yv == x2) = false := by simpa using gv
              have gb2 : (yv != x2) = true := by simpa using gv
              gi_wp2_with fail
              exact HST.out
            · have gb : (yk == x1) = false := by simpa using gk
              have gb2 : (yk != x1) = true := by simpa using gk
              gi_wp2_with fail
              exact HST.out
        case done3 =>
          rintro D' ys W hD rfl hI hK
          have ck := hI.kk.cell; have cl := hI.ll.cell; have cn := hI.nn.cell
          have er : (t.items.drop r).length = t.items.length - r := List.length_drop
          rw [er] at ck
          obtain ⟨m, hm⟩ : ∃ m, t.items.length - r = m := ⟨_, rfl⟩
          rw [hm] at ck
          have hm2 : (r : Int) + m = t.items.length := by omega
          have hr200 : r ≤ 200 := by omega
          have hm200 : m ≤ 200 := by omega
          have gb : ((r : Int) + m == (t.items.length : Int)) = true := by simpa using hm2
          have HI := Lib.hid hI; have HK := Lib.hid hK
          clear hI hK er hm hm2
          go_wp2_with fail
          refine (known_any _).mono ?_
          rintro e W2 ⟨rfl, B2⟩
          have HB2 := Lib.hid B2; clear B2
          have b1 := HI.out.rr.fr (Fr.of_below (D := None) HB2.out) id
          have b2 := b1.set 0 (.bool true)
          have f2 := fr_set W2 (w.heap.size + 1) (.bool true)
          have hK2 : (W2.setCell ⟨w.heap.size + 1, 0, none⟩ (.bool true)).heap[D']? = some (.deferred (some [])) := by
            rw [f2.block D' (Nat.lt_of_lt_of_le (heap_lt HK.out) HB2.out.size) (fun e => by
              have h1 := HI.out.rr; unfold Blk at h1; rw [← e, HK.out] at h1; cases h1), HB2.out.block D' (heap_lt HK.out)]
            exact HK.out
          have hfin := (HI.out.fr.trans (HB2.out.mono HI.out.fr.size)).trans (Fr.to_below f2 (Nat.le_trans HI.out.fr.size HB2.out.size) (fun i e => by rw [e]; exact Nat.le_succ _))
          have HF := Lib.hid (And.intro b2 (And.intro hK2 hfin))
          have c1 := b1.cell; have z1 := b1.frozen
          clear b1 b2 f2 hK2 hfin ck cl cn
          go_wp2_with fail
          refine ⟨by simp, .inl ⟨_, _, rfl, run_takeDeferred HF.out.2.1, ?_⟩⟩
          exact end_said rfl rfl (by simpa using HF.out.1) HF.out.2.2 HF.out.2.1 hD hS7
        case stop3 =>
          rintro D' c pre W hD hp h hK
          obtain ⟨rfl, hr1, hr2⟩ := h
          have b2 := hr1 hp
          refine wpIn_wide.2 ?_
          go_wp2_with fail
          refine ⟨by simp, .inl ⟨_, _, rfl, run_takeDeferred hK, ?_⟩⟩
          exact end_said rfl rfl b2 hr2 hK hD hS7
      | true =>
        go_wp2_with fail
        refine (FL.out 0).mono ?_
        rintro e w6 ⟨rfl, n1, rfl⟩
        go_wp2_with fail
        refine (CE.out _).mono ?_
        rintro e w6 ⟨rfl, n2, rfl⟩
        go_wp2_with fail
        refine (AT.out _).mono ?_
        rintro e w6 ⟨rfl, n3, rfl⟩
        go_wp2_with fail
        have tv := TV.out.drewN (n1 + n2 + n3)
        have pv : Pairs (V.drewN (n1 + n2 + n3)) (.slice q t.items.length cap) t.items := PV.out.fr ((Fr.refl None V).drewN _) (fun _ _ h => h)
        have lv := LV.out.drewN (n1 + n2 + n3)
        have mv := MV.out.drewN (n1 + n2 + n3)
        have rv := RV.out.drewN (n1 + n2 + n3)
        have nv := NV.out.drewN (n1 + n2 + n3)
        have fv := FV.out.drewN (n1 + n2 + n3)
        have hNb3 : Nb < (V.drewN (n1 + n2 + n3)).heap.size := hNb2
        clear cL cM cN TV PV LV MV RV NV FV FL CE AT RA hNb2
        generalize V.drewN (n1 + n2 + n3) = V2 at *
        have TV2 := Lib.hid tv; have PV2 := Lib.hid pv; have LV2 := Lib.hid lv; have MV2 := Lib.hid mv; have RV2 := Lib.hid rv; have NV2 := Lib.hid nv; have FV2 := Lib.hid fv
        clear tv pv lv mv rv nv fv
        have F1 := Lib.hid (fun n => is_any q cap t.items (r : Int) (kOf fo) (vOf fo) fo.isSome (V2.drewN n) (PV2.out.reads.1.fr ((Fr.refl None V2).drewN n) (fun _ _ h => h)) (by have := HZ.out; omega) (is_of (EFo.out.trans (by simp [EB.out, ER.out]))))
        have F2 := Lib.hid (fun n => is_any q cap t.items r (kOf co) (vOf co) co.isSome (V2.drewN n) (PV2.out.reads.1.fr ((Fr.refl None V2).drewN n) (fun _ _ h => h)) (by have := HZ.out; omega) (is_of (ECo.out.trans (by rw [if_neg (by omega), Int.toNat_natCast, ER.out]))))
        have F3 := Lib.hid (fun n => is_any q cap t.items most (kOf ao) (vOf ao) ao.isSome (V2.drewN n) (PV2.out.reads.1.fr ((Fr.refl None V2).drewN n) (fun _ _ h => h)) (by have := HZ.out; omega) (is_of EAo.out))
        have RA2 := Lib.hid (fun n => (rank_any p t key (V2.drewN n) (TV2.out.drewN n).blk (TV2.out.drewN n).inn TV2.out.right TV2.out.rise (by have := TV2.out.sz; omega) : Calls _ _ _ _ fun e w' => e = .returned (.int .i64 (Tr.rankT key 0 t)) ∧ ∃ m, w' = (V2.drewN n).drewN m))
        rw [Er2.out] at RA2
        have cL := LV2.out.cell; have cM := MV2.out.cell; have cN := NV2.out.cell
        go_quiet ((first | (with_reducible exact Calls.quiet_of_same (F1.out _)) | (with_reducible exact Calls.quiet_of_same (F2.out _)) | (with_reducible exact Calls.quiet_of_same (F3.out _)) | (with_reducible exact Calls.quiet_of (RA2.out _))))
        have n0 : ((V2.drewN nq).alloc (.cells #[.int .i64 0] 3)).cell? ⟨V2.heap.size, 0, none⟩ = some (.int .i64 0) := (Blk.new (V2.drewN nq) 3 #[.int .i64 0]).cell 0
        have z0 : ((V2.drewN nq).alloc (.cells #[.int .i64 0] 3)).frozen? ⟨V2.heap.size, 0, none⟩ = false := (Blk.new (V2.drewN nq) 3 #[.int .i64 0]).frozen 0
        go_wp2_with fail
        have tv := (TV2.out.drewN nq).alloc (.cells #[.int .i64 0] 3)
        have pv : Pairs ((V2.drewN nq).alloc (.cells #[.int .i64 0] 3)) (.slice q t.items.length cap) t.items := PV2.out.fr (((Fr.refl None V2).drewN nq).alloc _) (fun _ _ h => h)
        have lv := (LV2.out.drewN nq).alloc (.cells #[.int .i64 0] 3)
        have mv := (MV2.out.drewN nq).alloc (.cells #[.int .i64 0] 3)
        have rv := (RV2.out.drewN nq).alloc (.cells #[.int .i64 0] 3)
        have nv := (NV2.out.drewN nq).alloc (.cells #[.int .i64 0] 3)
        have kv : Blk ((V2.drewN nq).alloc (.cells #[.int .i64 0] 3)) V2.heap.size 3 #[.int .i64 0] := Blk.new (V2.drewN nq) 3 #[.int .i64 0]
        have fv := (FV2.out.drewN nq).alloc (.cells #[.int .i64 0] 3)
        have hKb := FV2.out.size
        have HKM := Lib.hid MV2.out.lt
        clear cL cM cN n0 z0 TV2 PV2 LV2 MV2 RV2 NV2 FV2 F1 F2 F3 RA2
        generalize (V2.drewN nq).alloc (.cells #[.int .i64 0] 3) = V3 at *
        generalize V2.heap.size = Kb at *
        simp only [setCell_same kv]
        have f3 := ((Fr.refl None V3).alloc (.cells #[.pointer (some ⟨p, 0, none⟩)] 24)).alloc (.cells #[.int .i64 key] 3)
        have bT := (Blk.new V3 24 #[.pointer (some ⟨p, 0, none⟩)]).alloc (.cells #[.int .i64 key] 3)
        have bK := Blk.new (V3.alloc (.cells #[.pointer (some ⟨p, 0, none⟩)] 24)) 3 #[.int .i64 key]
        rw [World.size_alloc] at bK
        refine (from_any p key V3).mono ?_
        rintro e w7 ⟨rfl, ew7⟩
        rw [← ew7] at f3 bT bK
        clear ew7
        have G := Lib.hid (And.intro tv (And.intro pv (And.intro lv (And.intro mv (And.intro rv (And.intro nv (And.intro kv (And.intro fv (And.intro f3 (And.intro bT bK))))))))))
        clear tv pv lv mv rv nv kv fv f3 bT bK
        go_wp2_with fail
        refine (wpIn_wide (n := 5)).1 ?_
        obtain ⟨tv, pv, lv, mv, rv, nv, kv, fv, f3, bT, bK⟩ := G.out
        have hL : fromL key t.items = t.items.drop r := by rw [← ER.out]; exact Tr.fromL_drop tv.rise
        have neKM : Kb ≠ w.heap.size ∧ Kb ≠ Nb := ⟨by have := HKM.out; omega, by omega⟩
        have HS7 := Lib.hid (fun n => from_stops n (t.items.drop r).length (V3.heap.size + 1) V3.heap.size p t key (FD Kb (w.heap.size + 1)) w7
          (fun b hb => ⟨fun h => h.elim (fun e => by subst e; exact absurd hb (Nat.not_le_of_lt (kv.fr f3 id).lt)) (fun e => by subst e; exact absurd hb (Nat.not_le_of_lt (rv.fr f3 id).lt)), fun h => h.elim (fun e => by subst e; exact absurd hb (Nat.not_le_of_lt (kv.fr f3 id).lt)) (fun e => by subst e; exact absurd hb (Nat.not_le_of_lt (rv.fr f3 id).lt))⟩)
          (fun h => h.elim (fun e => by have := kv.lt; omega) (fun e => by have := rv.lt; omega))
          (fun b hb h => h.elim (fun e => by subst e; exact tv.apart kv (by decide) (by decide) (.inr hb)) (fun e => by subst e; exact tv.apart rv (by decide) (by decide) (.inr hb)))
          bK bT (tv.fr f3 id (fun _ _ h => h)).blk (tv.fr f3 id (fun _ _ h => h)).inn tv.rise (by rw [hL]))
        rw [hL] at HS7
        have H0 := Lib.hid (show Fi w q cap t.items r most Lb w.heap.size (w.heap.size + 1) Nb Kb [] w7 from
          ⟨kv.fr f3 id, lv.fr f3 id, mv.fr f3 id, nv.fr f3 id, rv.fr f3 id, pv.fr f3 (fun _ _ h => h), List.nil_prefix, (fv.trans f3).none_below⟩)
        have hS7 := (fv.trans f3).size
        have hr7 : w.heap.size ≤ Kb := by have := HKM.out; omega
        clear tv pv lv mv rv nv kv fv f3 bT bK hL
        refine wpIn_rangeFunc_ownF rfl (by omega) (gf := 34) (lb := #[.pointer (some ⟨V3.heap.size + 1, 0, none⟩), .pointer (some ⟨V3.heap.size, 0, none⟩)]) rfl trivial (enters_of Try.func34 (by kernel_rfl) rfl) (HS7.out _) (fun h k => h.trans k) frC_b (Below.refl _ _) (fun _ => rfl)
          (Fi w q cap t.items r most Lb w.heap.size (w.heap.size + 1) Nb Kb) (Fx w t.items r (w.heap.size + 1)) (ownFrom_of fun s A C h f => h.odd f hS7) (fun c => ownFrom_of fun s A C h f => h.odd f hS7) H0.out ?a14 ?assign4 ?body4 ?done4 ?stop4
        case assign4 =>
          intro l x W K hK
          gi_wp2
          exact hK
        case body4 =>
          intro l pre x W hI hlen
          have hx := List.getElem?_eq_getElem hlen
          have hx2 : t.items[r + pre.length]? = some ((t.items.drop r)[pre.length]) := by rw [← hx, List.getElem?_drop]
          obtain ⟨b, off, rfl, y1, y2⟩ := Pairs.at hI.prs.reads.1 hx2
          generalize (t.items.drop r)[pre.length] = y at *
          have hlt := (List.getElem?_eq_some_iff.1 hx2).1
          have ck := hI.kk.cell; have cz := hI.kk.frozen; have cl := hI.ll.cell; have cm := hI.mm.cell; have cn := hI.nn.cell; have cr := hI.rr.cell; have crz := hI.rr.frozen
          have HI := Lib.hid hI; have HX := Lib.hid hx
          clear hI hx hx2
          obtain ⟨x1, x2⟩ := x
          obtain ⟨yk, yv⟩ := y
          simp only at y1 y2
          by_cases g : yk = x1 ∧ yv = x2
          · obtain ⟨rfl, rfl⟩ := g
            have N := Lib.hid (HI.out.next HX.out neKM hr7)
            gi_wp2_with fail
            · refine ⟨trivial, ((callsIn_wide.2 (known_any _)).inRound l).mono ?_⟩
              rintro e W2 ⟨rfl, B2⟩
              have HB2 := Lib.hid B2; clear B2
              obtain ⟨b1, hst⟩ := N.out.2.2.stop N.out.1 HB2.out true (fun _ => rfl) (Nat.le_succ _)
              have c1 := b1.cell; have z1 := b1.frozen
              dsimp only
              gi_wp2_with fail
              exact hst
            · exact N.out
          · have hst := HI.out.stop (KeepsOthers.refl W) (Below.refl _ W) false (pre1 := pre ++ [(x1, x2)]) (fun hp => by
              have e := (prefix_snoc HI.out.pre HX.out).1 hp
              simp only [Prod.mk.injEq] at e
              exact absurd ⟨e.1.symm, e.2.symm⟩ g) (Nat.le_succ _)
            have HST := Lib.hid hst.2
            clear hst
            by_cases gk : yk = x1
            · have gv : ¬ yv = x2 := fun e => g ⟨gk, e⟩
              subst gk
              have gb : (yv == x2) = false := by simpa using gv
              have gb2 : (yv != x2) = true := by simpa using gv
              gi_wp2_with fail
              exact HST.out
            · have gb : (yk == x1) = false := by simpa using gk
              have gb2 : (yk != x1) = true := by simpa using gk
              gi_wp2_with fail
              exact HST.out
        case done4 =>
          rintro D' ys W hD rfl hI hK
          have ck := hI.kk.cell; have cl := hI.ll.cell; have cn := hI.nn.cell
          have er : (t.items.drop r).length = t.items.length - r := List.length_drop
          rw [er] at ck
          obtain ⟨m, hm⟩ : ∃ m, t.items.length - r = m := ⟨_, rfl⟩
          rw [hm] at ck
          have hm2 : (r : Int) + m = t.items.length := by omega
          have hr200 : r ≤ 200 := by omega
          have hm200 : m ≤ 200 := by omega
          have gb : ((r : Int) + m == (t.items.length : Int)) = true := by simpa using hm2
          have HI := Lib.hid hI; have HK := Lib.hid hK
          clear hI hK er hm hm2
          go_wp2_with fail
          refine (known_any _).mono ?_
          rintro e W2 ⟨rfl, B2⟩
          have HB2 := Lib.hid B2; clear B2
          have b1 := HI.out.rr.fr (Fr.of_below (D := None) HB2.out) id
          have b2 := b1.set 0 (.bool true)
          have f2 := fr_set W2 (w.heap.size + 1) (.bool true)
          have hK2 : (W2.setCell ⟨w.heap.size + 1, 0, none⟩ (.bool true)).heap[D']? = some (.deferred (some [])) := by
            rw [f2.block D' (Nat.lt_of_lt_of_le (heap_lt HK.out) HB2.out.size) (fun e => by
              have h1 := HI.out.rr; unfold Blk at h1; rw [← e, HK.out] at h1; cases h1), HB2.out.block D' (heap_lt HK.out)]
            exact HK.out
          have hfin := (HI.out.fr.trans (HB2.out.mono HI.out.fr.size)).trans (Fr.to_below f2 (Nat.le_trans HI.out.fr.size HB2.out.size) (fun i e => by rw [e]; exact Nat.le_succ _))
          have HF := Lib.hid (And.intro b2 (And.intro hK2 hfin))
          have c1 := b1.cell; have z1 := b1.frozen
          clear b1 b2 f2 hK2 hfin ck cl cn
          go_wp2_with fail
          refine ⟨by simp, .inl ⟨_, _, rfl, run_takeDeferred HF.out.2.1, ?_⟩⟩
          exact end_said rfl rfl (by simpa using HF.out.1) HF.out.2.2 HF.out.2.1 hD hS7
        case stop4 =>
          rintro D' c pre W hD hp h hK
          obtain ⟨rfl, hr1, hr2⟩ := h
          have b2 := hr1 hp
          refine wpIn_wide.2 ?_
          go_wp2_with fail
          refine ⟨by simp, .inl ⟨_, _, rfl, run_takeDeferred hK, ?_⟩⟩
          exact end_said rfl rfl b2 hr2 hK hD hS7
end Go.Proofs.Ytkjhdkjenloifaa
