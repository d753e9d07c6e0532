/- Loops over iterators that have cells of their own: these are protected from the rounds, and the rounds' standing abides their turn. -/
import Derived.Test.YtfobeheplficgaaRangeX
import Derived.Test.YtfobeheplficgaaSep
set_option linter.unusedVariables false
set_option linter.unusedSimpArgs false
namespace Go.Und
open Go.RowKit Go.Shelf

/-- A standing that abides the turn of protected blocks, of those that are no cells, and of what is new; what is new may be protected, too. -/
def OwnP {β : Type} (B : Nat) (J : (Nat → Prop) → β → World → Prop) : Prop :=
  ∀ (Pr Pr' X : Nat → Prop) (s : β) (A C : World), J Pr s A → Fr X A C → (∀ k, X k → B ≤ k ∧ (Pr k ∨ ∃ o : Obj, A.heap[k]? = some o ∧ o.isCells = false)) → (∀ k, Pr' k → Pr k ∨ (A.heap.size ≤ k ∧ k < C.heap.size)) → J Pr' s C
/-- What rounds may touch: all but what is protected or shared. -/
def Pd (Pr Sh : Nat → Prop) : Nat → TypeId → Prop := fun k _ => ¬ (Pr k ∨ Sh k)
theorem grown_fr {A C : World} {row : Option Nat} (hg : A.grownBy C row) : Fr (fun k => row = some k) A C :=
  ⟨hg.os, hg.tape, hg.output, hg.size, fun k hk hn => hg.block k hk (fun e => hn e.symm)⟩
theorem OwnP.own {β : Type} {B : Nat} {J : (Nat → Prop) → β → World → Prop} (h : OwnP B J) (Pr : Nat → Prop) : OwnFrom B (J Pr) := fun s A C row hs hg hr =>
  h Pr Pr _ s A C hs (grown_fr hg) (fun k e => ⟨(hr k e).1, .inr (hr k e).2⟩) (fun _ h => .inl h)
theorem OwnP.mono {β : Type} {B B' : Nat} {J : (Nat → Prop) → β → World → Prop} (h : OwnP B J) (hB : B ≤ B') : OwnP B' J := fun Pr Pr' X s A C hs f hx hp =>
  h Pr Pr' X s A C hs f (fun k e => ⟨Nat.le_trans hB (hx k e).1, (hx k e).2⟩) hp

/-- An iterator's contract. -/
def SeqY {α : Type} (n : Nat) (P : Program) (g : Nat) (lb : Array Value) (encs : α → Array Value) (Sh : Nat → Prop) (m : List α) (w : World) : Prop :=
  ∀ (l : Nat) (J Jx : (Nat → Prop) → List α → World → Prop) (W : World), Below w.heap.size w W → OwnP W.heap.size J → OwnP W.heap.size Jx →
    (∀ Pr pre x W1, J Pr pre W1 → pre ++ [x] <+: m → YieldAt Fence.wide (n - 1) P l (encs x) W1 fun e W' => KeepsFrom W.heap.size W1 W' ∧
      ((e = .returned (.bool true) ∧ J Pr (pre ++ [x]) W' ∧ FrC (Pd Pr Sh) W1 W') ∨ (e = .returned (.bool false) ∧ Jx Pr (pre ++ [x]) W'))) →
    J (fun _ => False) [] W →
    CallsIn Fence.wide n P g (#[.func (.yield l) #[] #[]] ++ lb) W fun e W' => (∃ v, e = .returned v) ∧ ((∃ Pr, J Pr m W') ∨ (∃ pre Pr, pre <+: m ∧ Jx Pr pre W'))

theorem wpIn_rangeY {α : Type} {n : Nat} {P : Program} {g : Operand} {ps : Array Tmp} {assign body : Code} {Q : Exit → Act → World → Prop} {a : Act} {w : World}
    {gf : Nat} {lb : Array Value} (hg : a.eval g = .func (.func gf) #[] lb) (eg : ∀ args w, (callFunc gf args).run P w = .ok (.enter gf args) w)
    {encs : α → Array Value} {Sh : Nat → Prop} {m : List α} {w0 : World} (hseq : SeqY (n - 1) P gf lb encs Sh m w0)
    (hb0 : Below w0.heap.size w0 w) (hps : ∀ x, (encs x).size = ps.size)
    (I : (Nat → Prop) → List α → World → Prop) (Ix : Code → (Nat → Prop) → List α → World → Prop) (hI : OwnP w.heap.size I) (hIx : ∀ c, OwnP w.heap.size (Ix c)) (h0 : I (fun _ => False) [] w)
    (fA : α → Nat → Act) (Ax : (Nat → Prop) → List α → α → Nat → World → Prop) (hAx : ∀ Pr pre x k, OwnFrom w.heap.size (fun (_ : Unit) W => Ax Pr pre x k W))
    (hassign : ∀ (l : Nat) (Pr : Nat → Prop) (pre : List α) (x : α) (W : World) (K : Act → World → Prop), I Pr pre W → (∀ k W', KeepsFrom w.heap.size W W' → FrC (Pd Pr Sh) W W' → Ax Pr pre x k W' → K (fA x k) W') →
      assign.wpIn (Fence.wide.inRound l) (n - 1 - 1) P (Exit.then K (fun _ _ _ => False)) { tmps := (ps.zip (encs x)).foldl (fun t (p, v) => t.setIfInBounds p v) a.tmps, defers := [] } W)
    (hbody : ∀ (l : Nat) (Pr : Nat → Prop) (pre : List α) (x : α) (k : Nat) (W : World), Ax Pr pre x k W → pre ++ [x] <+: m → body.wpIn (Fence.wide.inRound l) (n - 1 - 1) P (ownPostG w.heap.size (FrC (Pd Pr Sh)) (I Pr) (fun c => Ix c Pr) (pre ++ [x]) W) (fA x k) W)
    (hdone : ∀ (D : Nat) (Pr : Nat → Prop) (W : World), w.heap.size ≤ D → I Pr m W → W.heap[D]? = some (.deferred (some [])) → Q .normal { a with defers := { target := .collected D, args := #[] } :: a.defers } W)
    (hstop : ∀ (D : Nat) (c : Code) (Pr : Nat → Prop) (pre : List α) (W : World), w.heap.size ≤ D → pre <+: m → Ix c Pr pre W → W.heap[D]? = some (.deferred (some [])) → c.wpIn Fence.wide n P Q { a with defers := { target := .collected D, args := #[] } :: a.defers } W) :
    (Code.rangeFunc g ps assign body).wpIn Fence.wide n P Q a w := by
  refine wpIn_rangeFunc fun fn hfn => ?_
  -- the two blocks of the loop: its calls put off at D, its record at R
  obtain ⟨D, hD⟩ : ∃ D, w.heap.size = D := ⟨_, rfl⟩
  obtain ⟨rc, hrc⟩ : ∃ rc : LoopState → Option Code → Loop, rc = fun st pe => { state := st, pending := pe, fn, tmps := a.tmps, params := ps, assign, body, defers := D } := ⟨_, rfl⟩
  have hbits : ∀ st pe, (rc st pe).state = st ∧ (rc st pe).pending = pe ∧ (rc st pe).fn = fn ∧ (rc st pe).tmps = a.tmps ∧ (rc st pe).params = ps ∧ (rc st pe).assign = assign ∧ (rc st pe).body = body := by
    intro st pe; rw [hrc]; exact ⟨rfl, rfl, rfl, rfl, rfl, rfl, rfl⟩
  obtain ⟨W1, hW1⟩ : ∃ W1, (w.alloc (.deferred (some []))).alloc (.loop (rc .ready none)) = W1 := ⟨_, rfl⟩
  have hsz : W1.heap.size = D + 2 := by rw [← hW1]; simp [hD]
  have hR1 : W1.heap[D + 1]? = some (.loop (rc .ready none)) := by
    rw [← hW1, ← hD]
    have := World.alloc_heap_new (w.alloc (.deferred (some []))) (.loop (rc .ready none))
    rwa [World.size_alloc] at this
  have hD1 : W1.heap[D]? = some (.deferred (some [])) := by
    rw [← hW1, ← hD]
    exact (Below.heap_alloc _ _ _ (by simp)).trans (World.alloc_heap_new w _)
  rw [hD] at hI hIx hAx hassign hbody hdone hstop
  have hI1 : I (fun _ => False) [] W1 := by rw [← hW1]; exact (hI.own _).alloc _ ((hI.own _).alloc _ h0)
  have hB1 : Below w0.heap.size w0 W1 := by
    rw [← hW1]; exact (hb0.alloc hb0.size _).alloc (by simp; exact Nat.le_succ_of_le hb0.size) _
  have kp : ∀ {A B : World} {X Pr : Nat → Prop} {k : Nat} {o : Obj}, Fr X A B → (∀ k, X k → W1.heap.size ≤ k ∧ (Pr k ∨ ∃ o : Obj, A.heap[k]? = some o ∧ o.isCells = false)) → k ≤ D + 1 → A.heap[k]? = some o → B.heap[k]? = some o :=
    fun hg hr hkD hk => (hg.block _ (heap_lt hk) (fun e => by have := (hr _ e).1; omega)).trans hk
  refine ⟨D + 1, [{ target := .collected D, args := #[] }], W1, { target := .fn (.func gf) lb, args := #[.func (.yield (D + 1)) #[] #[]] }, W1, gf, #[.func (.yield (D + 1)) #[] #[]] ++ lb, W1, ?_, ?_, fun _ _ => trivial, ?_, fun h => (by cases h), ?_⟩
  · have := run_enterLoop_outer (P := P) (w := w) fn a.tmps ps assign body
    rw [hD] at this
    rw [← hW1, hrc]
    exact this
  · simp only [resolve, hg]
    simp [go_sem]
  · simp [invoke, go_sem, eg]
  refine (hseq (D + 1) (fun Pr pre W => I Pr pre W ∧ W.heap[D + 1]? = some (.loop (rc .ready none)) ∧ W.heap[D]? = some (.deferred (some [])))
    (fun Pr pre W => ∃ c, Ix c Pr pre W ∧ W.heap[D + 1]? = some (.loop (rc .done (some c))) ∧ W.heap[D]? = some (.deferred (some []))) W1 hB1
    (fun Pr Pr' X s A B hs hg' hr hp => ⟨hI Pr Pr' X s A B hs.1 hg' (fun k e => ⟨by have := (hr k e).1; omega, (hr k e).2⟩) hp, kp hg' hr (Nat.le_refl _) hs.2.1, kp hg' hr (Nat.le_succ _) hs.2.2⟩)
    (fun Pr Pr' X s A B hs hg' hr hp => by
      obtain ⟨c, h1, h2, h3⟩ := hs
      exact ⟨c, hIx c Pr Pr' X s A B h1 hg' (fun k e => ⟨by have := (hr k e).1; omega, (hr k e).2⟩) hp, kp hg' hr (Nat.le_refl _) h2, kp hg' hr (Nat.le_succ _) h3⟩) ?_ ⟨hI1, hR1, hD1⟩).mono ?_
  · -- a round
    rintro Pr pre x W ⟨hi, hl, hk⟩ hlen
    have hy := run_yield (P := P) (args := encs x) hl (by rw [(hbits .ready none).2.2.2.2.1]; exact hps x)
    obtain ⟨b1, b2, b3, b4, b5, b6, b7⟩ := hbits .ready none
    rw [b3, b4, b5, b6, b7] at hy
    refine ⟨fn, _, assign, body, hy, roundIn_of_wpIn hfn (hassign _ Pr pre x W _ hi ?_)⟩
    clear hy
    intro a' Wa ka1 ka2 hax
    have F1 : KeepsFrom W1.heap.size W Wa := KeepsFrom.up ka1 (by omega)
    replace hl := ka1.same _ _ (by omega) hl rfl
    replace hk := ka1.same _ _ (Nat.le_refl _) hk rfl
    clear hi
    refine ⟨_, run_beginRound hl b1, ?_⟩
    have hlt : D + 1 < Wa.heap.size := (Array.getElem?_eq_some_iff.1 hl).1
    have hl2 := World.putObj_heap_same (o := .loop { rc .ready none with state := .busy }) hlt
    have hk2 : (Wa.putObj (D + 1) (.loop { rc .ready none with state := .busy })).heap[D]? = some (.deferred (some [])) := (World.putObj_heap_other (by omega)).trans hk
    have hK2 : FrC (Pd Pr Sh) Wa (Wa.putObj (D + 1) (.loop { rc .ready none with state := .busy })) := FrC.putObj _ _ _ _ hl rfl
    have F2 : KeepsFrom W1.heap.size Wa (Wa.putObj (D + 1) (.loop { rc .ready none with state := .busy })) := KeepsFrom.putObj Wa _ (by omega)
    have hb := hbody (D + 1) Pr pre x a' _ ((hAx Pr pre x a').putObj (s := ()) (.loop { rc .ready none with state := .busy }) hax (by omega) hl rfl) hlen
    refine wpIn_mono hb ?_
    clear hb
    have fin : ∀ (j : Option Code) (W3 : World), KeepsFrom D (Wa.putObj (D + 1) (.loop { rc .ready none with state := .busy })) W3 → ∃ o', (Instr.endRound (D + 1) j).run P W3 = .ok (.bool j.isNone) (W3.putObj (D + 1) (.loop o')) ∧ o' = rc (if j.isNone then .ready else .done) j ∧
        (∃ o, W3.heap[D + 1]? = some (.loop o)) ∧ (W3.putObj (D + 1) (.loop o')).heap[D + 1]? = some (.loop o') ∧ (W3.putObj (D + 1) (.loop o')).heap[D]? = some (.deferred (some [])) ∧ KeepsFrom W1.heap.size W (W3.putObj (D + 1) (.loop o')) := by
      intro j W3 h3
      have hl3 := h3.same _ _ (by omega) hl2 rfl
      refine ⟨_, run_endRound (P := P) j hl3, by rw [hrc], ⟨_, hl3⟩, World.putObj_heap_same (Array.getElem?_eq_some_iff.1 hl3).1, (World.putObj_heap_other (by omega)).trans (h3.same _ _ (Nat.le_refl _) hk2 rfl), ?_⟩
      exact ((F1.trans F2).trans (KeepsFrom.up h3 (by omega))).trans (KeepsFrom.putObj W3 _ (by omega))
    rintro e a3 W3 hp
    cases e with
    | normal =>
      obtain ⟨q1, q2, q3⟩ := hp
      obtain ⟨o', r1, rfl, ⟨o, r2⟩, r3, r4, r5⟩ := fin none W3 q1
      exact ⟨_, _, r1, r5, .inl ⟨rfl, ⟨(hI.own Pr).putObj _ q3 (by omega) r2 rfl, r3, r4⟩, ka2.trans ((hK2.trans q2).trans (FrC.putObj _ _ _ _ r2 rfl))⟩⟩
    | ret =>
      obtain ⟨q1, q3⟩ := hp
      obtain ⟨o', r1, rfl, ⟨o, r2⟩, r3, r4, r5⟩ := fin (some .ret) W3 q1
      exact ⟨_, _, r1, r5, .inr ⟨rfl, .ret, ((hIx _).own Pr).putObj _ q3 (by omega) r2 rfl, r3, r4⟩⟩
    | exit id =>
      obtain ⟨q1, q3⟩ := hp
      obtain ⟨o', r1, rfl, ⟨o, r2⟩, r3, r4, r5⟩ := fin (some (.exit id)) W3 q1
      exact ⟨_, _, r1, r5, .inr ⟨rfl, .exit id, ((hIx _).own Pr).putObj _ q3 (by omega) r2 rfl, r3, r4⟩⟩
    | goto t =>
      obtain ⟨q1, q3⟩ := hp
      obtain ⟨o', r1, rfl, ⟨o, r2⟩, r3, r4, r5⟩ := fin (some (.goto t)) W3 q1
      exact ⟨_, _, r1, r5, .inr ⟨rfl, .goto t, ((hIx _).own Pr).putObj _ q3 (by omega) r2 rfl, r3, r4⟩⟩
    | panic ch => exact hp.elim
    | outgrown => exact hp.elim
  · -- behind the iterator
    rintro e W2 ⟨⟨v, rfl⟩, (⟨Pr, hi, hl, hk⟩ | ⟨pre, Pr, hSp, c, hi, hl, hk⟩)⟩
    · have hr := run_endLoop (P := P) hl (by rw [(hbits .ready none).1]; decide)
      rw [(hbits .ready none).2.1] at hr
      exact ⟨none, _, hr, hdone D Pr _ (by omega) ((hI.own Pr).putObj _ hi (by omega) hl rfl) ((World.putObj_heap_other (by omega)).trans hk)⟩
    · have hr := run_endLoop (P := P) hl (by rw [(hbits .done (some c)).1]; decide)
      rw [(hbits .done (some c)).2.1] at hr
      exact ⟨some c, _, hr, hstop D c Pr pre _ (by omega) hSp (((hIx c).own Pr).putObj _ hi (by omega) hl rfl) ((World.putObj_heap_other (by omega)).trans hk)⟩

/-- A ledger apart from what is protected. -/
structure SepP (Pr : Nat → Prop) (w V : World) (L : List Ob) : Prop where
  sep : Sep None w V L
  old : ∀ k, Pr k → k < V.heap.size
  off : ∀ o ∈ L, ∀ k, o.fp k → ¬ Pr k
theorem SepP.own {β : Type} {B : Nat} {w : World} (hB : w.heap.size ≤ B) (L : β → List Ob) : OwnP B (fun Pr s V => SepP Pr w V (L s)) := fun Pr Pr' X s A C h f hx hp => by
  refine ⟨⟨h.sep.fr.trans' f (fun i hi hX => absurd (hx i hX).1 (by omega)), fun o ho => o.fr (h.sep.ok o ho) f (fun k hk hX => ?_), h.sep.fp, h.sep.apart⟩, fun k hk => ?_, fun o ho k hk hk' => ?_⟩
  · rcases (hx k hX).2 with h1 | ⟨o', h1, h2⟩
    · exact h.off o ho k hk h1
    · obtain ⟨cs, t, z, hc⟩ := o.cel (h.sep.ok o ho) hk
      rw [hc] at h1; cases h1; cases h2
  · rcases hp k hk with h1 | h1
    · exact Nat.lt_of_lt_of_le (h.old k h1) f.size
    · exact h1.2
  · rcases hp k hk' with h1 | h1
    · exact h.off o ho k hk h1
    · have := o.lt (h.sep.ok o ho) hk; omega
theorem SepP.start {w V : World} {L : List Ob} (h : Sep None w V L) : SepP (fun _ => False) w V L := ⟨h, fun _ h => h.elim, fun _ _ _ _ h => h⟩
/-- Some objects have turned, nothing else. -/
theorem SepP.next {Pr : Nat → Prop} {w V V' : World} {L L' : List Ob} {D : Nat → Prop} (h : SepP Pr w V L) (f : Fr D V V') (S' : Sep None w V' L') (hn : ∀ o ∈ L', ∀ k, o.fp k → V.heap.size ≤ k ∨ ∃ o' ∈ L, o'.fp k) : SepP Pr w V' L' :=
  ⟨S', fun k hk => Nat.lt_of_lt_of_le (h.old k hk) f.size, fun o ho k hk hp => by
    rcases hn o ho k hk with h1 | ⟨o', h1, h2⟩
    · have := h.old k hp; omega
    · exact h.off o' h1 k h2 hp⟩
theorem SepP.same {Pr : Nat → Prop} {w V V' : World} {L : List Ob} (h : SepP Pr w V L) (f : Fr None V V') : SepP Pr w V' L :=
  h.next f (h.sep.same f) fun o ho k hk => .inr ⟨o, ho, hk⟩
end Go.Und
