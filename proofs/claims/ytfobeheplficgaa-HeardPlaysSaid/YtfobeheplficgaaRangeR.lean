/- Loops over iterators, told by ledgers: what the rounds own, and what stands beside. -/
import Derived.Test.YtfobeheplficgaaRangeL
set_option linter.unusedVariables false
set_option linter.unusedSimpArgs false
namespace Go.Und
open Go.RowKit Go.Shelf

theorem fpL_snoc {L : List Ob} {o : Ob} (k : Nat) : fpL (o :: L) k ↔ fpL (L ++ [o]) k :=
  ⟨fun ⟨a, ha, hk⟩ => ⟨a, by rcases List.mem_cons.1 ha with rfl | h <;> simp [*], hk⟩, fun ⟨a, ha, hk⟩ => ⟨a, by rcases List.mem_append.1 ha with h | h <;> simp_all, hk⟩⟩
theorem wpIn_rangeR {α σ : Type} {n : Nat} {P : Program} {g : Operand} {ps : Array Tmp} {assign body : Code} {Q : Exit → Act → World → Prop} {a : Act} {w : World}
    {gf : Nat} {lb : Array Value} (hg : a.eval g = .func (.func gf) #[] lb) (eg : ∀ args w, (callFunc gf args).run P w = .ok (.enter gf args) w)
    {encs : α → Array Value} {Sh : Nat → Prop} {m : List α} {w0 : World} (hseq : SeqY (n - 1) P gf lb encs Sh m w0) (hb0 : Below w0.heap.size w0 w) (hps : ∀ x, (encs x).size = ps.size)
    {D0 : Nat → Prop} {w00 : World} {L0 R : List Ob} (S0 : Sep D0 w00 w (L0 ++ R)) (hSh : ∀ k, Sh k → k < w.heap.size ∧ ¬ fpL L0 k)
    (Φ : List α → σ → Prop) (L : σ → List Ob) (Ψ : List α → σ → Prop) (s0 : σ) (hs0 : Φ [] s0) (hL0 : L s0 = L0)
    (fA : α → Nat → Act) (T : TypeId) (cs : α → Array Value)
    (hassign : ∀ (l : Nat) (x : α) (W : World) (K : Act → World → Prop), K (fA x W.heap.size) (W.alloc (.cells (cs x) T)) →
      assign.wpIn (Fence.wide.inRound l) (n - 1 - 1) P (Exit.then K (fun _ _ _ => False)) { tmps := (ps.zip (encs x)).foldl (fun t (p, v) => t.setIfInBounds p v) a.tmps, defers := [] } W)
    (hbody : ∀ (l : Nat) (pre : List α) (x : α) (k : Nat) (V : World) (s : σ), Φ pre s → pre ++ [x] <+: m → Sep D0 w00 V ((L s ++ [Ob.blk k T (cs x)]) ++ R) → w.heap.size ≤ k →
      body.wpIn (Fence.wide.inRound l) (n - 1 - 1) P (fun e _ V' => (e = .normal ∧ ∃ s', Φ (pre ++ [x]) s' ∧ Sep (fpL (L s ++ [Ob.blk k T (cs x)])) V V' (L s')) ∨ (e = .ret ∧ ∃ s', Ψ (pre ++ [x]) s' ∧ Sep (fpL (L s ++ [Ob.blk k T (cs x)])) V V' (L s'))) (fA x k) V)
    (hdone : ∀ (D : Nat) (V : World) (s : σ), w.heap.size ≤ D → Φ m s → Sep D0 w00 V (L s ++ R) → Fr (fpL L0) w V → V.heap[D]? = some (.deferred (some [])) → Q .normal { a with defers := { target := .collected D, args := #[] } :: a.defers } V)
    (hstop : ∀ (D : Nat) (V : World) (pre : List α) (s : σ), w.heap.size ≤ D → pre <+: m → Ψ pre s → Sep D0 w00 V (L s ++ R) → Fr (fpL L0) w V → V.heap[D]? = some (.deferred (some [])) → Code.ret.wpIn Fence.wide n P Q { a with defers := { target := .collected D, args := #[] } :: a.defers } V) :
    (Code.rangeFunc g ps assign body).wpIn Fence.wide n P Q a w := by
  refine wpIn_rangeY hg eg hseq hb0 hps (fun Pr pre V => ∃ s, Φ pre s ∧ SepQ Pr (fpL L0) w V (L s)) (fun c Pr pre V => c = .ret ∧ ∃ s, Ψ pre s ∧ SepQ Pr (fpL L0) w V (L s))
    (fun Pr Pr' X s A C ⟨t, h1, h2⟩ f hx hp => ⟨t, h1, h2.turn (Nat.le_refl _) f hx hp⟩) (fun c Pr Pr' X s A C ⟨e, t, h1, h2⟩ f hx hp => ⟨e, t, h1, h2.turn (Nat.le_refl _) f hx hp⟩)
    ⟨s0, hs0, by rw [hL0]; exact ⟨S0.head, fun _ h => h.elim, fun _ _ _ _ h => h⟩⟩ fA (fun Pr pre x k V => w.heap.size ≤ k ∧ ∃ s, Φ pre s ∧ SepQ Pr (fpL L0) w V (Ob.blk k T (cs x) :: L s))
    (fun Pr pre x k s A C row ⟨hk, t, h1, h2⟩ hg hr => ⟨hk, t, h1, h2.turn (Pr' := Pr) (Nat.le_refl _) (grown_fr hg) (fun k e => ⟨(hr k e).1, .inr (hr k e).2⟩) (fun _ h => .inl h)⟩) ?_ ?_ ?_ ?_
  · intro l Pr pre x W K ⟨s, h1, h2⟩ hK
    refine hassign l x W K (hK _ _ ((KeepsOthers.alloc W _).from _) (FrC.alloc _ W _) ⟨h2.sep.fr.size, s, h1, ⟨h2.sep.alloc (cs x) T, fun k hk => by have := h2.old k hk; simp; omega, fun o ho k hk hp => ?_⟩⟩)
    rcases List.mem_cons.1 ho with rfl | ho
    · have hk' : k = W.heap.size := hk
      have := h2.old k hp; omega
    · exact h2.off o ho k hk hp
  · intro l Pr pre x k W ⟨hk, s, h1, h2⟩ hpre
    have hp : (Ob.blk k T (cs x) :: L s).Perm (L s ++ [Ob.blk k T (cs x)]) := (List.perm_append_comm (l₁ := [_]))
    have e : fpL (L s ++ [Ob.blk k T (cs x)]) = fpL (Ob.blk k T (cs x) :: L s) := funext fun k => propext (fpL_snoc k).symm
    refine wpIn_mono (hbody l pre x k W s h1 hpre (S0.did (h2.sep.perm hp)) hk) ?_
    rw [e]
    rintro e a' V' (⟨rfl, s', h3, h4⟩ | ⟨rfl, s', h3, h4⟩)
    · obtain ⟨r1, r2, r3⟩ := h2.round (B := w.heap.size) hSh h4
      exact ⟨r1, r2, s', h3, r3⟩
    · obtain ⟨r1, _, r3⟩ := h2.round (B := w.heap.size) hSh h4
      exact ⟨r1, rfl, s', h3, r3⟩
  · intro D Pr W hD ⟨s, h1, h2⟩ hK
    exact hdone D W s hD h1 (S0.did h2.sep) h2.sep.fr hK
  · intro D c Pr pre W hD hpre ⟨e, s, h1, h2⟩ hK
    subst e
    exact hstop D W pre s hD hpre h1 (S0.did h2.sep) h2.sep.fr hK
end Go.Und
