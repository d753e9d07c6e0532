/- Loops over iterators, told by ledgers: what the rounds own stands in a ledger since the loop began. -/
import Derived.Test.YtfobeheplficgaaRangeY
import Derived.Test.YtfobeheplficgaaOc3
set_option linter.unusedVariables false
set_option linter.unusedSimpArgs false
namespace Go.Und
open Go.RowKit Go.Shelf

theorem frC_pd {Pr Sh X : Nat → Prop} {V V' : World} (f : Fr X V V') (h : ∀ k, X k → ¬ Pr k ∧ ¬ Sh k) : FrC (Pd Pr Sh) V V' :=
  FrC.of_fr f fun i _ _ _ _ hx hp => hp.elim (h i hx).1 (h i hx).2
/-- A ledger since the loop began, apart from what is protected. -/
structure SepQ (Pr D : Nat → Prop) (w V : World) (L : List Ob) : Prop where
  sep : Sep D w V L
  old : ∀ k, Pr k → k < V.heap.size
  off : ∀ o ∈ L, ∀ k, o.fp k → ¬ Pr k
theorem SepQ.turn {Pr Pr' D X : Nat → Prop} {B : Nat} {w A C : World} {L : List Ob} (hB : w.heap.size ≤ B) (h : SepQ Pr D w A L) (f : Fr X A C) (hx : ∀ k, X k → B ≤ k ∧ (Pr k ∨ ∃ o : Obj, A.heap[k]? = some o ∧ o.isCells = false)) (hp : ∀ k, Pr' k → Pr k ∨ (A.heap.size ≤ k ∧ k < C.heap.size)) : SepQ Pr' D w C L := by
  refine ⟨⟨h.sep.fr.trans' f (fun i hi hX => absurd (hx i hX).1 (by omega)), fun o ho => o.fr (h.sep.ok o ho) f (fun k hk hX => ?_), h.sep.fp, h.sep.apart⟩, fun k hk => ?_, fun o ho k hk hk' => ?_⟩
  · rcases (hx k hX).2 with h1 | ⟨o', h1, h2⟩
    · exact h.off o ho k hk h1
    · obtain ⟨cs, t, z, hc⟩ := o.cel (h.sep.ok o ho) hk
      rw [hc] at h1; cases h1; cases h2
  · rcases hp k hk with h1 | h1
    · exact Nat.lt_of_lt_of_le (h.old k h1) f.size
    · exact h1.2
  · rcases hp k hk' with h1 | h1
    · exact h.off o ho k hk h1
    · have := o.lt (h.sep.ok o ho) hk; omega
/-- A round has ended. -/
theorem SepQ.round {Pr D Sh : Nat → Prop} {B : Nat} {w V V' : World} {L L' : List Ob} (h : SepQ Pr D w V L) (hSh : ∀ k, Sh k → k < w.heap.size ∧ ¬ D k) (S' : Sep (fpL L) V V' L') : KeepsFrom B V V' ∧ FrC (Pd Pr Sh) V V' ∧ SepQ Pr D w V' L' := by
  refine ⟨KeepsFrom.of_fr S'.fr fun k o ⟨a, ha, hk⟩ _ ho => ?_, frC_pd S'.fr fun k ⟨a, ha, hk⟩ => ⟨h.off a ha k hk, fun hs => ?_⟩, h.sep.did0 S', fun k hk => Nat.lt_of_lt_of_le (h.old k hk) S'.fr.size, fun o ho k hk hp => ?_⟩
  · obtain ⟨cs, t, z, hc⟩ := a.cel (h.sep.ok a ha) hk
    rw [hc] at ho; cases ho; rfl
  · rcases h.sep.fp a ha k hk with h1 | h1
    · exact (hSh k hs).2 h1
    · have := (hSh k hs).1; omega
  · rcases S'.fp o ho k hk with ⟨a, ha, hk'⟩ | h1
    · exact h.off a ha k hk' hp
    · have := h.old k hp; omega

theorem wpIn_rangeL {α σ : Type} {n : Nat} {P : Program} {g : Operand} {ps : Array Tmp} {assign body : Code} {Q : Exit → Act → World → Prop} {a : Act} {w : World}
    {gf : Nat} {lb : Array Value} (hg : a.eval g = .func (.func gf) #[] lb) (eg : ∀ args w, (callFunc gf args).run P w = .ok (.enter gf args) w)
    {encs : α → Array Value} {Sh : Nat → Prop} {m : List α} {w0 : World} (hseq : SeqY (n - 1) P gf lb encs Sh m w0) (hb0 : Below w0.heap.size w0 w) (hps : ∀ x, (encs x).size = ps.size)
    {L0 : List Ob} (S0 : Sep (fpL L0) w w L0) (hSh : ∀ k, Sh k → k < w.heap.size ∧ ¬ fpL L0 k)
    (Φ : List α → σ → Prop) (L : σ → List Ob) (Ψ : List α → σ → Prop) (s0 : σ) (hs0 : Φ [] s0) (hL0 : L s0 = L0)
    (fA : α → Nat → Act) (T : TypeId) (cs : α → Array Value)
    (hassign : ∀ (l : Nat) (x : α) (W : World) (K : Act → World → Prop), K (fA x W.heap.size) (W.alloc (.cells (cs x) T)) →
      assign.wpIn (Fence.wide.inRound l) (n - 1 - 1) P (Exit.then K (fun _ _ _ => False)) { tmps := (ps.zip (encs x)).foldl (fun t (p, v) => t.setIfInBounds p v) a.tmps, defers := [] } W)
    (hbody : ∀ (l : Nat) (pre : List α) (x : α) (k : Nat) (V : World) (s : σ), Φ pre s → pre ++ [x] <+: m → Sep (fpL (Ob.blk k T (cs x) :: L s)) V V (Ob.blk k T (cs x) :: L s) → Fr (fpL L0) w V → w.heap.size ≤ k →
      body.wpIn (Fence.wide.inRound l) (n - 1 - 1) P (fun e _ V' => (e = .normal ∧ ∃ s', Φ (pre ++ [x]) s' ∧ Sep (fpL (Ob.blk k T (cs x) :: L s)) V V' (L s')) ∨ (e = .ret ∧ ∃ s', Ψ (pre ++ [x]) s' ∧ Sep (fpL (Ob.blk k T (cs x) :: L s)) V V' (L s'))) (fA x k) V)
    (hdone : ∀ (D : Nat) (V : World) (s : σ), w.heap.size ≤ D → Φ m s → Sep (fpL L0) w V (L s) → V.heap[D]? = some (.deferred (some [])) → Q .normal { a with defers := { target := .collected D, args := #[] } :: a.defers } V)
    (hstop : ∀ (D : Nat) (V : World) (pre : List α) (s : σ), w.heap.size ≤ D → pre <+: m → Ψ pre s → Sep (fpL L0) w V (L s) → V.heap[D]? = some (.deferred (some [])) → Code.ret.wpIn Fence.wide n P Q { a with defers := { target := .collected D, args := #[] } :: a.defers } V) :
    (Code.rangeFunc g ps assign body).wpIn Fence.wide n P Q a w := by
  refine wpIn_rangeY hg eg hseq hb0 hps (fun Pr pre V => ∃ s, Φ pre s ∧ SepQ Pr (fpL L0) w V (L s)) (fun c Pr pre V => c = .ret ∧ ∃ s, Ψ pre s ∧ SepQ Pr (fpL L0) w V (L s))
    (fun Pr Pr' X s A C ⟨t, h1, h2⟩ f hx hp => ⟨t, h1, h2.turn (Nat.le_refl _) f hx hp⟩) (fun c Pr Pr' X s A C ⟨e, t, h1, h2⟩ f hx hp => ⟨e, t, h1, h2.turn (Nat.le_refl _) f hx hp⟩)
    ⟨s0, hs0, by rw [hL0]; exact ⟨S0, fun _ h => h.elim, fun _ _ _ _ h => h⟩⟩ fA (fun Pr pre x k V => w.heap.size ≤ k ∧ ∃ s, Φ pre s ∧ SepQ Pr (fpL L0) w V (Ob.blk k T (cs x) :: L s))
    (fun Pr pre x k s A C row ⟨hk, t, h1, h2⟩ hg hr => ⟨hk, t, h1, h2.turn (Pr' := Pr) (Nat.le_refl _) (grown_fr hg) (fun k e => ⟨(hr k e).1, .inr (hr k e).2⟩) (fun _ h => .inl h)⟩) ?_ ?_ ?_ ?_
  · intro l Pr pre x W K ⟨s, h1, h2⟩ hK
    refine hassign l x W K (hK _ _ ((KeepsOthers.alloc W _).from _) (FrC.alloc _ W _) ⟨h2.sep.fr.size, s, h1, ⟨h2.sep.alloc (cs x) T, fun k hk => by have := h2.old k hk; simp; omega, fun o ho k hk hp => ?_⟩⟩)
    rcases List.mem_cons.1 ho with rfl | ho
    · have hk' : k = W.heap.size := hk
      have := h2.old k hp; omega
    · exact h2.off o ho k hk hp
  · intro l Pr pre x k W ⟨hk, s, h1, h2⟩ hpre
    refine wpIn_mono (hbody l pre x k W s h1 hpre h2.sep.self h2.sep.fr hk) ?_
    rintro e a' V' (⟨rfl, s', h3, h4⟩ | ⟨rfl, s', h3, h4⟩)
    · obtain ⟨r1, r2, r3⟩ := h2.round (B := w.heap.size) hSh h4
      exact ⟨r1, r2, s', h3, r3⟩
    · obtain ⟨r1, _, r3⟩ := h2.round (B := w.heap.size) hSh h4
      exact ⟨r1, rfl, s', h3, r3⟩
  · intro D Pr W hD ⟨s, h1, h2⟩ hK
    exact hdone D W s hD h1 h2.sep hK
  · intro D c Pr pre W hD hpre ⟨e, s, h1, h2⟩ hK
    subst e
    exact hstop D W pre s hD hpre h1 h2.sep hK
end Go.Und
