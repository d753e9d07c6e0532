/- Objects in memory, side by side: each has blocks of its own; a step turns one of them and leaves the others. -/
import Derived.Test.YtedogalndhackaaDoorHeap
import Derived.OwnWalk
import Derived.Laws.OwnMore
import Derived.RangeFuncOwn
set_option linter.unusedVariables false
set_option linter.unusedSimpArgs false
namespace Go.Und
open Go.RowKit

/-- An object: its blocks, and what holds of a world in which it lies. -/
structure Ob where
  fp : Nat → Prop
  ok : World → Prop
  cel : ∀ {w : World} {k : Nat}, ok w → fp k → ∃ cs t z, w.heap[k]? = some (.cells cs t z)
  loc : ∀ {w w' : World}, ok w → (∀ k, fp k → k < w.heap.size → w'.heap[k]? = w.heap[k]?) → ok w'

namespace Ob
theorem lt (o : Ob) {w : World} {k : Nat} (h : o.ok w) (hk : o.fp k) : k < w.heap.size := by
  obtain ⟨_, _, _, hc⟩ := o.cel h hk
  exact heap_lt hc
def apart (a b : Ob) : Prop := ∀ k, a.fp k → ¬ b.fp k
theorem apart.symm {a b : Ob} (h : a.apart b) : b.apart a := fun k hk h' => h k h' hk
theorem fr (o : Ob) {D : Nat → Prop} {w w' : World} (h : o.ok w) (f : Fr D w w') (hd : ∀ k, o.fp k → ¬ D k) : o.ok w' := o.loc h fun k hk hl => f.block k hl (hd k hk)
theorem same (o : Ob) {w w' : World} (h : o.ok w) (f : Fr None w w') : o.ok w' := o.fr h f fun _ _ h => h

/-- A block of cells. -/
def blk (b : Nat) (t : TypeId) (cs : Array Value) : Ob where
  fp k := k = b
  ok w := Blk w b t cs
  cel h e := by subst e; exact ⟨_, _, _, h⟩
  loc h f := (f b rfl h.lt).trans h
/-- A slice's row. -/
def row (base : Nat) (e : TypeId) (size : Nat) (v : Value) (n : Nat) (xs : List Value) : Ob where
  fp k := v.ownBlock = some k
  ok w := w.ownsRow base e size v n xs
  cel {w k} h hk := by
    rcases h.2 with ⟨rfl, _⟩ | ⟨g, cap, cur, rfl, _, hg, _⟩
    · cases hk
    · obtain rfl : g = k := by simpa [Value.ownBlock] using hk
      exact ⟨_, _, _, hg⟩
  loc {w w'} h f := by
    refine ⟨h.1, ?_⟩
    rcases h.2 with h2 | ⟨g, cap, cur, rfl, hb, hg, r⟩
    · exact .inl h2
    · exact .inr ⟨g, cap, cur, rfl, hb, (f g rfl (heap_lt hg)).trans hg, r⟩
/-- Nothing in memory: a plain fact. -/
def fact (p : Prop) : Ob where
  fp _ := False
  ok _ := p
  cel _ h := h.elim
  loc h _ := h
end Ob

/-- Objects side by side, since w0: outside D (and of what is new) nothing has changed. -/
structure Sep (D : Nat → Prop) (w0 w : World) (L : List Ob) : Prop where
  fr : Fr D w0 w
  ok : ∀ o ∈ L, o.ok w
  fp : ∀ o ∈ L, ∀ k, o.fp k → D k ∨ w0.heap.size ≤ k
  apart : L.Pairwise Ob.apart

namespace Sep
variable {D : Nat → Prop} {w0 w w' : World} {L R : List Ob} {a b c : Ob}

theorem law (w : World) : Sep None w w [] := ⟨Fr.refl _ w, fun _ h => (by cases h), fun _ h => (by cases h), List.Pairwise.nil⟩
theorem one {w : World} (o : Ob) (h : o.ok w) : Sep o.fp w w [o] :=
  ⟨Fr.refl _ w, fun x hx => by rw [List.mem_singleton.1 hx]; exact h, fun x hx k hk => by rw [List.mem_singleton.1 hx] at hk; exact .inl hk, List.pairwise_singleton _ _⟩
theorem of {w : World} (L : List Ob) (h : ∀ o ∈ L, o.ok w) (ha : L.Pairwise Ob.apart) : Sep (fun k => ∃ o ∈ L, o.fp k) w w L := ⟨Fr.refl _ w, h, fun o ho k hk => .inl ⟨o, ho, hk⟩, ha⟩

theorem at_ (S : Sep D w0 w L) (i : Nat) {o : Ob} (h : L[i]? = some o) : o.ok w := S.ok o (List.mem_of_getElem? h)
theorem ne (S : Sep D w0 w L) (i j : Nat) (hij : i ≠ j) (hi : L[i]? = some a) (hj : L[j]? = some b) : a.apart b := by
  have hp := List.pairwise_iff_getElem.1 S.apart
  obtain ⟨h1, rfl⟩ := List.getElem?_eq_some_iff.1 hi
  obtain ⟨h2, rfl⟩ := List.getElem?_eq_some_iff.1 hj
  rcases Nat.lt_or_gt_of_ne hij with h | h
  · exact hp i j h1 h2 h
  · exact (hp j i h2 h1 h).symm
/-- Nothing that was there is touched. -/
theorem same (S : Sep D w0 w L) (f : Fr None w w') : Sep D w0 w' L :=
  ⟨S.fr.trans (f.mono fun _ _ h => h.elim), fun o ho => o.same (S.ok o ho) f, S.fp, S.apart⟩
theorem drew (S : Sep D w0 w L) : Sep D w0 w.drew L := S.same (Fr.refl None w).drew
theorem drewN (S : Sep D w0 w L) (n : Nat) : Sep D w0 (w.drewN n) L := S.same ((Fr.refl None w).drewN n)
theorem skip (S : Sep D w0 w L) (o : Obj) : Sep D w0 (w.alloc o) L := S.same ((Fr.refl None w).alloc o)
/-- A further object, all new. -/
theorem add (S : Sep D w0 w L) (a : Ob) (f : Fr None w w') (ha : a.ok w') (hn : ∀ k, a.fp k → w.heap.size ≤ k) : Sep D w0 w' (a :: L) := by
  have S' := S.same f
  refine ⟨S'.fr, fun o ho => ?_, fun o ho k hk => ?_, List.pairwise_cons.2 ⟨fun o ho k hk hk' => ?_, S'.apart⟩⟩
  · rcases List.mem_cons.1 ho with rfl | ho
    · exact ha
    · exact S'.ok o ho
  · rcases List.mem_cons.1 ho with rfl | ho
    · exact .inr (Nat.le_trans S.fr.size (hn k hk))
    · exact S.fp o ho k hk
  · have := o.lt (S.ok o ho) hk'
    have := hn k hk
    omega
theorem alloc (S : Sep D w0 w L) (cs : Array Value) (t : TypeId) : Sep D w0 (w.alloc (.cells cs t)) (Ob.blk w.heap.size t cs :: L) :=
  S.add (Ob.blk w.heap.size t cs) ((Fr.refl None w).alloc _) (Blk.new w t cs) fun k hk => by subst hk; exact Nat.le_refl _
/-- One object turns into another one, the others stay. -/
theorem turn (S : Sep D w0 w L) (i : Nat) (h : L[i]? = some a) (a' : Ob) {E : Nat → Prop} (f : Fr E w w') (hE : ∀ k, k < w.heap.size → E k → a.fp k) (ha : a'.ok w') (hn : ∀ k, a'.fp k → a.fp k ∨ w.heap.size ≤ k) :
    Sep D w0 w' (L.set i a') := by
  obtain ⟨hi, rfl⟩ := List.getElem?_eq_some_iff.1 h
  have hp := List.pairwise_iff_getElem.1 S.apart
  refine ⟨S.fr.trans' f fun k hk he => ?_, fun o ho => ?_, fun o ho k hk => ?_, List.pairwise_iff_getElem.2 fun x y hx hy hxy => ?_⟩
  · rcases S.fp _ (List.getElem_mem hi) k (hE k (Nat.lt_of_lt_of_le hk S.fr.size) he) with h1 | h1
    · exact h1
    · omega
  · obtain ⟨j, hj, rfl⟩ := List.getElem_of_mem ho
    rw [List.getElem_set]
    split
    · exact ha
    · rename_i hne
      have hj' : j < L.length := by simpa using hj
      refine Ob.loc _ (S.ok _ (List.getElem_mem hj')) fun k hk hl => f.block k hl fun he => ?_
      rcases Nat.lt_or_gt_of_ne hne with h1 | h1
      · exact hp i j hi hj' h1 k (hE k hl he) hk
      · exact hp j i hj' hi h1 k hk (hE k hl he)
  · obtain ⟨j, hj, rfl⟩ := List.getElem_of_mem ho
    rw [List.getElem_set] at hk
    split at hk
    · rcases hn k hk with h1 | h1
      · exact S.fp _ (List.getElem_mem hi) k h1
      · exact .inr (Nat.le_trans S.fr.size h1)
    · exact S.fp _ (List.getElem_mem (by simpa using hj)) k hk
  · have hx' : x < L.length := by simpa using hx
    have hy' : y < L.length := by simpa using hy
    rw [List.getElem_set, List.getElem_set]
    intro k
    split
    · rw [if_neg (by omega)]
      rename_i e; subst e
      intro hk hk'
      rcases hn k hk with h1 | h1
      · exact hp _ y hx' hy' hxy k h1 hk'
      · have := Ob.lt _ (S.ok _ (List.getElem_mem hy')) hk'; omega
    · split
      · rename_i e; subst e
        intro hk hk'
        rcases hn k hk' with h1 | h1
        · exact hp x _ hx' hy' hxy k hk h1
        · have := Ob.lt _ (S.ok _ (List.getElem_mem hx')) hk; omega
      · exact hp x y hx' hy' hxy k
/-- A store into a block. -/
theorem set (S : Sep D w0 w L) (i : Nat) {b : Nat} {t : TypeId} {cs : Array Value} (h : L[i]? = some (Ob.blk b t cs)) (j : Nat) (v : Value) :
    Sep D w0 (w.setCell ⟨b, j, none⟩ v) (L.set i (Ob.blk b t (cs.setIfInBounds j v))) :=
  S.turn i h _ (E := (· = b)) (Fr.setCell (D := (· = b)) (Fr.refl _ w) (p := ⟨b, j, none⟩) (fun _ => rfl) v) (fun _ _ h => h) (Blk.set (S.at_ i h) j v) (fun _ h => .inl h)
theorem drop (S : Sep D w0 w L) {L' : List Ob} (h : L'.Sublist L) : Sep D w0 w L' := ⟨S.fr, fun o ho => S.ok o (h.subset ho), fun o ho => S.fp o (h.subset ho), S.apart.sublist h⟩
theorem perm (S : Sep D w0 w L) {L' : List Ob} (h : L.Perm L') : Sep D w0 w L' :=
  ⟨S.fr, fun o ho => S.ok o (h.symm.subset ho), fun o ho => S.fp o (h.symm.subset ho), (h.pairwise_iff (fun h => h.symm)).1 S.apart⟩
theorem front (S : Sep D w0 w L) (i : Nat) (h : L[i]? = some a) : Sep D w0 w (a :: L.eraseIdx i) := by
  refine S.perm ?_
  obtain ⟨hi, rfl⟩ := List.getElem?_eq_some_iff.1 h
  have : ∀ (L : List Ob) (i : Nat) (hi : i < L.length), L.Perm (L[i] :: L.eraseIdx i) := by
    intro L
    induction L with
    | nil => intro i hi; simp at hi
    | cons x L ih =>
      intro i hi
      cases i with
      | zero => exact List.Perm.refl _
      | succ i => exact ((ih i (by simpa using hi)).cons x).trans (List.Perm.swap _ _ _)
  exact this L i hi
theorem join (S : Sep D w0 w (L ++ R)) (c : Ob) (hc : c.ok w) (hfp : ∀ k, c.fp k → ∃ a ∈ L, a.fp k) : Sep D w0 w (c :: R) := by
  have hp := List.pairwise_append.1 S.apart
  refine ⟨S.fr, fun o ho => ?_, fun o ho k hk => ?_, List.pairwise_cons.2 ⟨fun o ho k hk => ?_, hp.2.1⟩⟩
  · rcases List.mem_cons.1 ho with rfl | ho
    · exact hc
    · exact S.ok o (List.mem_append_right _ ho)
  · rcases List.mem_cons.1 ho with rfl | ho
    · obtain ⟨a, ha, hk'⟩ := hfp k hk
      exact S.fp a (List.mem_append_left _ ha) k hk'
    · exact S.fp o (List.mem_append_right _ ho) k hk
  · obtain ⟨a, ha, hk'⟩ := hfp k hk
    exact hp.2.2 a ha o ho k hk'
theorem split (S : Sep D w0 w (c :: R)) (A : List Ob) (hok : ∀ a ∈ A, a.ok w) (hfp : ∀ a ∈ A, ∀ k, a.fp k → c.fp k) (hap : A.Pairwise Ob.apart) : Sep D w0 w (A ++ R) := by
  have hp := List.pairwise_cons.1 S.apart
  refine ⟨S.fr, fun o ho => ?_, fun o ho k hk => ?_, List.pairwise_append.2 ⟨hap, hp.2, fun x hx y hy k hk => hp.1 y hy k (hfp x hx k hk)⟩⟩
  · rcases List.mem_append.1 ho with ho | ho
    · exact hok o ho
    · exact S.ok o (List.mem_cons_of_mem _ ho)
  · rcases List.mem_append.1 ho with ho | ho
    · exact S.fp c List.mem_cons_self k (hfp o ho k hk)
    · exact S.fp o (List.mem_cons_of_mem _ ho) k hk
/-- What stands for all of them behind a law. -/
theorem below (S : Sep None w0 w L) : Below w0.heap.size w0 w := S.fr.none_below
theorem swap (S : Sep D w0 w (c :: R)) (a : Ob) (ha : a.ok w) (hfp : ∀ k, a.fp k → c.fp k) : Sep D w0 w (a :: R) :=
  join (L := [c]) S a ha (fun k hk => ⟨c, List.mem_cons_self, hfp k hk⟩)
/-- Append onto a row of one's own: a block is laid for what comes, then the row grows. -/
theorem append (S : Sep D w0 w L) (i : Nat) {e : TypeId} {size n n' : Nat} {v v' : Value} {xs xs' : List Value} (h : L[i]? = some (Ob.row 0 e size v n xs)) (o : Obj) {w1 : World}
    (ho : w1.ownsRow 0 e size v' n' xs') (hf : Fr (fun b => v.ownBlock = some b) (w.alloc o) w1) (hb : v'.ownBlock = v.ownBlock ∨ v'.ownBlock = some (w.alloc o).heap.size) : Sep D w0 w1 (L.set i (Ob.row 0 e size v' n' xs')) :=
  (S.skip o).turn i h _ hf (fun _ _ h => h) ho (fun k hk => by
    have hk' : v'.ownBlock = some k := hk
    rcases hb with e | e
    · exact .inl (show v.ownBlock = some k by rw [← e]; exact hk')
    · rw [e] at hk'; cases hk'; exact .inr (Nat.le_refl _))
/-- What is no cells may turn. -/
theorem odd (S : Sep D w0 w L) {B : Nat} (f : Fr (fun k => B ≤ k ∧ ∃ o, w.heap[k]? = some o ∧ o.isCells = false) w w') (hB : w0.heap.size ≤ B) : Sep D w0 w' L :=
  ⟨S.fr.trans' f (fun i hi h => absurd h.1 (by omega)), fun o ho => o.fr (S.ok o ho) f (fun k hk hd => by
    obtain ⟨cs, t, z, hc⟩ := o.cel (S.ok o ho) hk
    obtain ⟨_, o', h1, h2⟩ := hd
    rw [hc] at h1; cases h1; cases h2), S.fp, S.apart⟩
end Sep
end Go.Und
