/- A loop over an iterator that itself loops over another one: the outer rounds leave alone the inner loop's record. -/
import Derived.Test.YtfobeheplficgaaRange
import Derived.Test.YtfobeheplficgaaRegionIn
set_option linter.unusedVariables false
set_option linter.unusedSimpArgs false
namespace Go.Und
open Go.RowKit Go.Shelf

/-- An iterator's contract, whose caller's rounds leave alone all that is no cells from where the iterator began. -/
def SeqX {α : Type} (n : Nat) (P : Program) (g : Nat) (lb : Array Value) (encs : α → Array Value) (Kp : World → World → Prop) (S Sp : List α → Prop) (N : Nat) (w : World) : Prop :=
  ∀ (l : Nat) (J Jx : List α → World → Prop) (W : World), Below w.heap.size w W → OwnFrom W.heap.size J → OwnFrom W.heap.size Jx →
    (∀ pre x W1, J pre W1 → pre.length < N → YieldAt Fence.wide (n - 1) P l (encs x) W1 fun e W' => KeepsFrom W.heap.size W1 W' ∧
      ((e = .returned (.bool true) ∧ J (pre ++ [x]) W' ∧ Kp W1 W') ∨ (e = .returned (.bool false) ∧ Jx (pre ++ [x]) W'))) →
    J [] W →
    CallsIn Fence.wide n P g (#[.func (.yield l) #[] #[]] ++ lb) W fun e W' => (∃ v, e = .returned v) ∧ ((∃ xs, S xs ∧ J xs W') ∨ (∃ pre, Sp pre ∧ Jx pre W'))

theorem OwnFrom.abides {β : Type} {B : Nat} {J : β → World → Prop} (h : OwnFrom B J) : AbidesFrom B J := fun s A C row hs hg hr => h s A C row hs hg fun r e => by
  obtain ⟨h1, o, h2, h3⟩ := hr r e
  exact ⟨h1, o, h2, Obj.not_cells_of_walk h3⟩
theorem SeqX.of_k {α : Type} {n : Nat} {P : Program} {g : Nat} {lb : Array Value} {encs : α → Array Value} {Kp : World → World → Prop} {S Sp : List α → Prop} {N : Nat} {w : World}
    (h : SeqStopsK Fence.wide n P g lb encs Kp S Sp N w) : SeqX n P g lb encs Kp S Sp N w := fun l J Jx W hW hJ hJx hY h0 =>
  h l J Jx W hW (OwnFrom.abides hJ) (OwnFrom.abides hJx) (fun pre x W1 hj hl => (hY pre x W1 hj hl).mono fun _ _ h => h.2) h0

theorem KeepsFrom.up {B B' : Nat} {W W' : World} (h : KeepsFrom B W W') (hB : B ≤ B') : KeepsFrom B' W W' := ⟨h.size, fun k o hk => h.same k o (Nat.le_trans hB hk)⟩
theorem KeepsFrom.putObj (W : World) {l B : Nat} (o' : Obj) (hl : l < B) : KeepsFrom B W (W.putObj l o') := ⟨by simp, fun k o hk ho _ => (World.putObj_heap_other (by omega)).trans ho⟩
/-- Blocks that are no cells lie where they lay, but for those of cells alone. -/
theorem KeepsFrom.of_fr {D : Nat → Prop} {B : Nat} {W W' : World} (f : Fr D W W') (h : ∀ k o, D k → B ≤ k → W.heap[k]? = some o → o.isCells = true) : KeepsFrom B W W' :=
  ⟨f.size, fun k o hB hk ho => (f.block k (heap_lt hk) (fun hd => by rw [h k o hd hB hk] at ho; cases ho)).trans hk⟩

theorem wpIn_rangeXA {α : Type} {n : Nat} {P : Program} {g : Operand} {ps : Array Tmp} {assign body : Code} {Q : Exit → Act → World → Prop} {a : Act} {w : World}
    {gf : Nat} {lb : Array Value} (hg : a.eval g = .func (.func gf) #[] lb) (eg : ∀ args w, (callFunc gf args).run P w = .ok (.enter gf args) w)
    {encs : α → Array Value} {Kp : World → World → Prop} {S Sp : List α → Prop} {N : Nat} {w0 : World} (hseq : SeqX (n - 1) P gf lb encs Kp S Sp N w0)
    (hKt : ∀ {A B C : World}, Kp A B → Kp B C → Kp A C) (hKb : ∀ (W : World) (l : Nat) (o o' : Obj), w.heap.size ≤ l → W.heap[l]? = some o → o.isCells = false → o.isWalk = false → Kp W (W.putObj l o')) (hb0 : Below w0.heap.size w0 w) (hps : ∀ x, (encs x).size = ps.size)
    (I : List α → World → Prop) (Ix : Code → List α → World → Prop) (hI : OwnFrom w.heap.size I) (hIx : ∀ c, OwnFrom w.heap.size (Ix c)) (h0 : I [] w) (Ax : α → Act → World → Prop) (hAx : ∀ x a', OwnFrom w.heap.size (fun (_ : Unit) W => Ax x a' W))
    (hassign : ∀ (l : Nat) (pre : List α) (x : α) (W : World) (K : Act → World → Prop), I pre W → (∀ a' W', KeepsFrom w.heap.size W W' → Kp W W' → I pre W' → Ax x a' W' → K a' W') →
      assign.wpIn (Fence.wide.inRound l) (n - 1 - 1) P (Exit.then K (fun _ _ _ => False)) { tmps := (ps.zip (encs x)).foldl (fun t (p, v) => t.setIfInBounds p v) a.tmps, defers := [] } W)
    (hbody : ∀ (l : Nat) (pre : List α) (x : α) (a' : Act) (W : World), I pre W → Ax x a' W → pre.length < N → body.wpIn (Fence.wide.inRound l) (n - 1 - 1) P (ownPostG w.heap.size Kp I Ix (pre ++ [x]) W) a' W)
    (hdone : ∀ (D : Nat) (xs : List α) (W : World), w.heap.size ≤ D → S xs → I xs W → W.heap[D]? = some (.deferred (some [])) → Q .normal { a with defers := { target := .collected D, args := #[] } :: a.defers } W)
    (hstop : ∀ (D : Nat) (c : Code) (pre : List α) (W : World), w.heap.size ≤ D → Sp pre → Ix c pre W → W.heap[D]? = some (.deferred (some [])) → c.wpIn Fence.wide n P Q { a with defers := { target := .collected D, args := #[] } :: a.defers } W) :
    (Code.rangeFunc g ps assign body).wpIn Fence.wide n P Q a w := by
  refine wpIn_rangeFunc fun fn hfn => ?_
  -- the two blocks of the loop: its calls put off at D, its record at R
  obtain ⟨D, hD⟩ : ∃ D, w.heap.size = D := ⟨_, rfl⟩
  obtain ⟨rc, hrc⟩ : ∃ rc : LoopState → Option Code → Loop, rc = fun st pe => { state := st, pending := pe, fn, tmps := a.tmps, params := ps, assign, body, defers := D } := ⟨_, rfl⟩
  have hbits : ∀ st pe, (rc st pe).state = st ∧ (rc st pe).pending = pe ∧ (rc st pe).fn = fn ∧ (rc st pe).tmps = a.tmps ∧ (rc st pe).params = ps ∧ (rc st pe).assign = assign ∧ (rc st pe).body = body := by
    intro st pe; rw [hrc]; exact ⟨rfl, rfl, rfl, rfl, rfl, rfl, rfl⟩
  obtain ⟨W1, hW1⟩ : ∃ W1, (w.alloc (.deferred (some []))).alloc (.loop (rc .ready none)) = W1 := ⟨_, rfl⟩
  have hsz : W1.heap.size = D + 2 := by rw [← hW1]; simp [hD]
  have hR1 : W1.heap[D + 1]? = some (.loop (rc .ready none)) := by
    rw [← hW1, ← hD]
    have := World.alloc_heap_new (w.alloc (.deferred (some []))) (.loop (rc .ready none))
    rwa [World.size_alloc] at this
  have hD1 : W1.heap[D]? = some (.deferred (some [])) := by
    rw [← hW1, ← hD]
    exact (Below.heap_alloc _ _ _ (by simp)).trans (World.alloc_heap_new w _)
  rw [hD] at hI hIx hKb hAx
  have hI1 : I [] W1 := by rw [← hW1]; exact hI.alloc _ (hI.alloc _ h0)
  have hB1 : Below w0.heap.size w0 W1 := by
    rw [← hW1]; exact (hb0.alloc hb0.size _).alloc (by simp; exact Nat.le_succ_of_le hb0.size) _
  have wk : ∀ {A : World} {row : Option Nat}, (∀ r, row = some r → W1.heap.size ≤ r ∧ ∃ o : Obj, A.heap[r]? = some o ∧ o.isCells = false) → ∀ r, row = some r → D ≤ r ∧ ∃ o : Obj, A.heap[r]? = some o ∧ o.isCells = false := by
    intro A row hr r e
    obtain ⟨h1, o, h2, h3⟩ := hr r e
    exact ⟨by omega, o, h2, h3⟩
  have kp : ∀ {A B : World} {row : Option Nat} {k : Nat} {o : Obj}, A.grownBy B row → (∀ r, row = some r → W1.heap.size ≤ r ∧ ∃ o : Obj, A.heap[r]? = some o ∧ o.isCells = false) → k ≤ D + 1 → A.heap[k]? = some o → B.heap[k]? = some o :=
    fun hg hr hkD hk => (hg.block _ (heap_lt hk) (fun e => by have := (hr _ e.symm).1; omega)).trans hk
  refine ⟨D + 1, [{ target := .collected D, args := #[] }], W1, { target := .fn (.func gf) lb, args := #[.func (.yield (D + 1)) #[] #[]] }, W1, gf, #[.func (.yield (D + 1)) #[] #[]] ++ lb, W1, ?_, ?_, fun _ _ => trivial, ?_, fun h => (by cases h), ?_⟩
  · have := run_enterLoop_outer (P := P) (w := w) fn a.tmps ps assign body
    rw [hD] at this
    rw [← hW1, hrc]
    exact this
  · simp only [resolve, hg]
    simp [go_sem]
  · simp [invoke, go_sem, eg]
  refine (hseq (D + 1) (fun pre W => I pre W ∧ W.heap[D + 1]? = some (.loop (rc .ready none)) ∧ W.heap[D]? = some (.deferred (some [])))
    (fun pre W => ∃ c, Ix c pre W ∧ W.heap[D + 1]? = some (.loop (rc .done (some c))) ∧ W.heap[D]? = some (.deferred (some []))) W1 hB1
    (fun s A B row hs hg' hr => ⟨hI s A B row hs.1 hg' (wk hr), kp hg' hr (Nat.le_refl _) hs.2.1, kp hg' hr (Nat.le_succ _) hs.2.2⟩)
    (fun s A B row hs hg' hr => by
      obtain ⟨c, h1, h2, h3⟩ := hs
      exact ⟨c, hIx c s A B row h1 hg' (wk hr), kp hg' hr (Nat.le_refl _) h2, kp hg' hr (Nat.le_succ _) h3⟩) ?_ ⟨hI1, hR1, hD1⟩).mono ?_
  · -- a round
    rintro pre x W ⟨hi, hl, hk⟩ hlen
    have hy := run_yield (P := P) (args := encs x) hl (by rw [(hbits .ready none).2.2.2.2.1]; exact hps x)
    obtain ⟨b1, b2, b3, b4, b5, b6, b7⟩ := hbits .ready none
    rw [b3, b4, b5, b6, b7] at hy
    refine ⟨fn, _, assign, body, hy, roundIn_of_wpIn hfn (hassign _ pre x W _ hi ?_)⟩
    clear hy
    rw [hD]
    intro a' Wa ka1 ka2 hi' hax
    have F1 : KeepsFrom W1.heap.size W Wa := KeepsFrom.up ka1 (by omega)
    replace hl := ka1.same _ _ (by omega) hl rfl
    replace hk := ka1.same _ _ (Nat.le_refl _) hk rfl
    clear hi
    refine ⟨_, run_beginRound hl b1, ?_⟩
    have hlt : D + 1 < Wa.heap.size := (Array.getElem?_eq_some_iff.1 hl).1
    have hl2 := World.putObj_heap_same (o := .loop { rc .ready none with state := .busy }) hlt
    have hk2 : (Wa.putObj (D + 1) (.loop { rc .ready none with state := .busy })).heap[D]? = some (.deferred (some [])) := (World.putObj_heap_other (by omega)).trans hk
    have hK2 : Kp Wa (Wa.putObj (D + 1) (.loop { rc .ready none with state := .busy })) := hKb _ _ _ _ (by omega) hl rfl rfl
    have F2 : KeepsFrom W1.heap.size Wa (Wa.putObj (D + 1) (.loop { rc .ready none with state := .busy })) := KeepsFrom.putObj Wa _ (by omega)
    have hb := hbody (D + 1) pre x a' _ (hI.putObj (.loop { rc .ready none with state := .busy }) hi' (by omega) hl rfl) ((hAx x a').putObj (s := ()) _ hax (by omega) hl rfl) hlen
    rw [hD] at hb
    refine wpIn_mono hb ?_
    clear hb
    have fin : ∀ (j : Option Code) (W3 : World), KeepsFrom D (Wa.putObj (D + 1) (.loop { rc .ready none with state := .busy })) W3 → ∃ o', (Instr.endRound (D + 1) j).run P W3 = .ok (.bool j.isNone) (W3.putObj (D + 1) (.loop o')) ∧ o' = rc (if j.isNone then .ready else .done) j ∧
        (∃ o, W3.heap[D + 1]? = some (.loop o)) ∧ (W3.putObj (D + 1) (.loop o')).heap[D + 1]? = some (.loop o') ∧ (W3.putObj (D + 1) (.loop o')).heap[D]? = some (.deferred (some [])) ∧ KeepsFrom W1.heap.size W (W3.putObj (D + 1) (.loop o')) := by
      intro j W3 h3
      have hl3 := h3.same _ _ (by omega) hl2 rfl
      refine ⟨_, run_endRound (P := P) j hl3, by rw [hrc], ⟨_, hl3⟩, World.putObj_heap_same (Array.getElem?_eq_some_iff.1 hl3).1, (World.putObj_heap_other (by omega)).trans (h3.same _ _ (Nat.le_refl _) hk2 rfl), ?_⟩
      exact ((F1.trans F2).trans (KeepsFrom.up h3 (by omega))).trans (KeepsFrom.putObj W3 _ (by omega))
    rintro e a3 W3 hp
    cases e with
    | normal =>
      obtain ⟨q1, q2, q3⟩ := hp
      obtain ⟨o', r1, rfl, ⟨o, r2⟩, r3, r4, r5⟩ := fin none W3 q1
      exact ⟨_, _, r1, r5, .inl ⟨rfl, ⟨hI.putObj _ q3 (by omega) r2 rfl, r3, r4⟩, hKt ka2 (hKt (hKt hK2 q2) (hKb _ _ _ _ (by omega) r2 rfl rfl))⟩⟩
    | ret =>
      obtain ⟨q1, q3⟩ := hp
      obtain ⟨o', r1, rfl, ⟨o, r2⟩, r3, r4, r5⟩ := fin (some .ret) W3 q1
      exact ⟨_, _, r1, r5, .inr ⟨rfl, .ret, (hIx _).putObj _ q3 (by omega) r2 rfl, r3, r4⟩⟩
    | exit id =>
      obtain ⟨q1, q3⟩ := hp
      obtain ⟨o', r1, rfl, ⟨o, r2⟩, r3, r4, r5⟩ := fin (some (.exit id)) W3 q1
      exact ⟨_, _, r1, r5, .inr ⟨rfl, .exit id, (hIx _).putObj _ q3 (by omega) r2 rfl, r3, r4⟩⟩
    | goto t =>
      obtain ⟨q1, q3⟩ := hp
      obtain ⟨o', r1, rfl, ⟨o, r2⟩, r3, r4, r5⟩ := fin (some (.goto t)) W3 q1
      exact ⟨_, _, r1, r5, .inr ⟨rfl, .goto t, (hIx _).putObj _ q3 (by omega) r2 rfl, r3, r4⟩⟩
    | panic ch => exact hp.elim
    | outgrown => exact hp.elim
  · -- behind the iterator
    rintro e W2 ⟨⟨v, rfl⟩, (⟨xs, hS, hi, hl, hk⟩ | ⟨pre, hSp, c, hi, hl, hk⟩)⟩
    · have hr := run_endLoop (P := P) hl (by rw [(hbits .ready none).1]; decide)
      rw [(hbits .ready none).2.1] at hr
      exact ⟨none, _, hr, hdone D xs _ (by omega) hS (hI.putObj _ hi (by omega) hl rfl) ((World.putObj_heap_other (by omega)).trans hk)⟩
    · have hr := run_endLoop (P := P) hl (by rw [(hbits .done (some c)).1]; decide)
      rw [(hbits .done (some c)).2.1] at hr
      exact ⟨some c, _, hr, hstop D c pre _ (by omega) hSp ((hIx c).putObj _ hi (by omega) hl rfl) ((World.putObj_heap_other (by omega)).trans hk)⟩

theorem wpIn_rangeX {α : Type} {n : Nat} {P : Program} {g : Operand} {ps : Array Tmp} {assign body : Code} {Q : Exit → Act → World → Prop} {a : Act} {w : World}
    {gf : Nat} {lb : Array Value} (hg : a.eval g = .func (.func gf) #[] lb) (eg : ∀ args w, (callFunc gf args).run P w = .ok (.enter gf args) w)
    {encs : α → Array Value} {Kp : World → World → Prop} {S Sp : List α → Prop} {N : Nat} {w0 : World} (hseq : SeqX (n - 1) P gf lb encs Kp S Sp N w0)
    (hKt : ∀ {A B C : World}, Kp A B → Kp B C → Kp A C) (hKb : ∀ (W : World) (l : Nat) (o o' : Obj), w.heap.size ≤ l → W.heap[l]? = some o → o.isCells = false → o.isWalk = false → Kp W (W.putObj l o')) (hb0 : Below w0.heap.size w0 w) (hps : ∀ x, (encs x).size = ps.size)
    (I : List α → World → Prop) (Ix : Code → List α → World → Prop) (hI : OwnFrom w.heap.size I) (hIx : ∀ c, OwnFrom w.heap.size (Ix c)) (h0 : I [] w) (a₁ : α → Act)
    (hassign : ∀ (l : Nat) (x : α) (W : World) (K : Act → World → Prop), K (a₁ x) W →
      assign.wpIn (Fence.wide.inRound l) (n - 1 - 1) P (Exit.then K (fun _ _ _ => False)) { tmps := (ps.zip (encs x)).foldl (fun t (p, v) => t.setIfInBounds p v) a.tmps, defers := [] } W)
    (hbody : ∀ (l : Nat) (pre : List α) (x : α) (W : World), I pre W → pre.length < N → body.wpIn (Fence.wide.inRound l) (n - 1 - 1) P (ownPostG w.heap.size Kp I Ix (pre ++ [x]) W) (a₁ x) W)
    (hdone : ∀ (D : Nat) (xs : List α) (W : World), w.heap.size ≤ D → S xs → I xs W → W.heap[D]? = some (.deferred (some [])) → Q .normal { a with defers := { target := .collected D, args := #[] } :: a.defers } W)
    (hstop : ∀ (D : Nat) (c : Code) (pre : List α) (W : World), w.heap.size ≤ D → Sp pre → Ix c pre W → W.heap[D]? = some (.deferred (some [])) → c.wpIn Fence.wide n P Q { a with defers := { target := .collected D, args := #[] } :: a.defers } W)
    (hKr : ∀ W, Kp W W) : (Code.rangeFunc g ps assign body).wpIn Fence.wide n P Q a w :=
  wpIn_rangeXA hg eg hseq (fun h k => hKt h k) hKb hb0 hps I Ix hI hIx h0 (fun x a' _ => a' = a₁ x) (fun _ _ _ _ _ _ hs _ _ => hs)
    (fun l pre x W K hi hK => hassign l x W K (hK _ _ (KeepsFrom.refl _ _) (hKr W) hi rfl)) (fun l pre x a' W hi e => by subst e; exact hbody l pre x W hi) hdone hstop

/-! A region whose order is open, within a round: as anywhere, where nothing is put off. -/
def noDefer (ops : Array Oper) : Bool := ops.all fun o => match o.op with | .defer _ => false | _ => true

theorem uponIn_round {F : Fence} {n : Nat} {P : Program} {o : Oper} {a : Act} {K K' : Act → World → Prop} {Q : Exit → Act → World → Prop} (l : Nat) (hK : ∀ a w, K a w → K' a w) : ∀ {r : Result Next}, o.uponIn F n P a K Q r → o.uponIn (F.inRound l) n P a K' Q r := by
  intro r h
  cases r with
  | ok x w' =>
    cases x <;> simp only [Oper.uponIn] at h ⊢ <;>
      first
        | exact hK _ _ h
        | exact ⟨h.1, CallsIn.mono (F := F.inRound l) h.2 (fun e w'' he => by cases e <;> first | exact hK _ _ he | exact he)⟩
        | exact ⟨h.1, RowsIn.mono (F := F.inRound l) h.2 (fun _ _ he => hK _ _ he)⟩
        | exact ⟨h.1, RoundIn.mono (F := F.inRound l) h.2 (fun e w'' he => by cases e <;> first | exact hK _ _ he | exact he)⟩
        | exact h
  | halt x w' => cases x <;> simp only [Oper.uponIn] at h ⊢ <;> exact h

theorem wpAnyIn_round {F : Fence} {n : Nat} {P : Program} {md : Region.Mode} {ops : Array Oper} {Q : Exit → Act → World → Prop} (l : Nat) (hF : F.round = none) (hd : noDefer ops = true) : ∀ (fuel : Nat) (listed : Array Bool) (a : Act) (w : World),
    wpAnyIn F n P md ops Q fuel listed a w → wpAnyIn (F.inRound l) n P md ops Q fuel listed a w
  | 0, _, _, _, h => h
  | fuel + 1, listed, a, w, h => ⟨h.1, fun i hi => by
      have h1 := h.2 i hi
      have ih := fun a w => wpAnyIn_round (n := n) (P := P) (md := md) (Q := Q) l hF hd fuel (listed.setIfInBounds i true) a w
      unfold wpOpIn at h1 ⊢
      cases ho : ops[i]? with
      | none => rw [ho] at h1; exact ih _ _ h1
      | some o =>
        rw [ho] at h1
        have hnd : ∀ c, o.op ≠ .defer c := fun c e => by
          obtain ⟨hl, hx⟩ := Array.getElem?_eq_some_iff.1 ho
          have := (Array.all_eq_true.1 hd) i hl
          rw [hx, e] at this
          cases this
        dsimp only at h1 ⊢
        split at h1
        · rename_i hw
          rw [if_pos hw]
          unfold Oper.wpIn at h1 ⊢
          refine ⟨h1.1, ?_⟩
          have e1 := h1.2
          rw [Oper.semAt_eq _ _ _ hnd] at e1
          rw [Oper.semAt_eq _ _ _ hnd]
          exact uponIn_round l ih e1
        · rename_i hw
          rw [if_neg hw]
          exact ⟨h1.1, ih _ _ h1.2⟩⟩

theorem wpIn_region_round {n id l : Nat} {P : Program} {ops : Array Oper} {Q : Exit → Act → World → Prop} {a : Act} {w : World} (hm : P.follows .mixedOrders = true) (hd : noDefer ops = true) (h : AtOp Fence.wide n P .any ops Q 0 a w.drew) :
    (Code.region id ops true).wpIn (Fence.wide.inRound l) n P Q a w := by
  refine wpIn_region_any hm ?_
  unfold AtOp at h
  rw [firsts_zero] at h
  exact wpAnyIn_round l rfl hd _ _ _ _ h
end Go.Und
