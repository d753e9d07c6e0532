/- Regions whose order is open, in segments: still operations between, and single operations that all others wait for or are waited for by. -/
import Derived.Test.YtedogalndhackaaDoorRegion
import Derived.OrdersIn
import Derived.TacticsIn
import Derived.Sort.QuietThIn
set_option linter.unusedVariables false
set_option linter.unusedSimpArgs false
namespace Go.Und
open Go.RowKit

section
variable {F : Fence} {P : Program} {ops : Array Oper} {md : Region.Mode} {C : World → Prop}

/-- Who can be listed while i is not. -/
def without (md : Region.Mode) (i : Nat) : List Oper → Nat → Array Bool → Array Bool
  | [], _, acc => acc
  | o :: rest, k, acc => without md i rest (k + 1) (acc.push (k != i && o.after.all fun e => !Region.binds md e || acc.getD e.on true))
/-- All operations from t on wait for all ahead of t. -/
def waitB (md : Region.Mode) (ops : Array Oper) (t : Nat) : Bool :=
  (List.range t).all fun i => (List.range ops.size).all fun j => decide (j < t) || !(without md i ops.toList 0 #[]).getD j true

theorem push_getD_eq {acc : Array Bool} {k : Nat} (hs : acc.size = k) (x d : Bool) : (acc.push x).getD k d = x := by
  subst hs; simp [Array.getD]
theorem push_getD_lt {acc : Array Bool} {k j : Nat} (hs : acc.size = k) (hj : j < k) (x d : Bool) : (acc.push x).getD j d = acc.getD j d := by
  subst hs; simp [Array.getD, hj, Nat.lt_succ_of_lt hj, Array.getElem_push_lt hj]
theorem without_spec {i : Nat} {listed : Array Bool} (hcl : ∀ j oj, ops[j]? = some oj → listed.getD j false = true → ∀ e ∈ oj.after, Region.binds md e = true → listed.getD e.on false = true)
    (hun : listed.getD i false = false) : ∀ (l : List Oper) (k : Nat) (acc : Array Bool), acc.size = k → (∀ j, l[j]? = ops[k + j]?) → (∀ j, listed.getD j false = true → acc.getD j true = true) →
      (∀ j oj, j < k → ops[j]? = some oj → j ≠ i → (∀ e ∈ oj.after, Region.binds md e = true → listed.getD e.on false = true) → acc.getD j true = true) →
      (∀ j oj, ops[j]? = some oj → j ≠ i → (∀ e ∈ oj.after, Region.binds md e = true → listed.getD e.on false = true) → (without md i l k acc).getD j true = true) := by
  intro l
  induction l with
  | nil =>
    intro k acc hs hl h1 h2 j oj hj hne hal
    refine h2 j oj ?_ hj hne hal
    rcases Nat.lt_or_ge j k with h | h
    · exact h
    · have := hl (j - k)
      rw [show k + (j - k) = j by omega, hj] at this
      simp at this
  | cons o l ih =>
    intro k acc hs hl h1 h2
    have h0 : ops[k]? = some o := by simpa using (hl 0).symm
    have key : ∀ oj, ops[k]? = some oj → k ≠ i → (∀ e ∈ oj.after, Region.binds md e = true → listed.getD e.on false = true) → (k != i && o.after.all fun e => !Region.binds md e || acc.getD e.on true) = true := by
      intro oj hoj hne hal
      obtain rfl : o = oj := Option.some.inj (h0.symm.trans hoj)
      have hne' : (k != i) = true := by simp [hne]
      rw [hne', Bool.true_and, Array.all_eq_true_iff_forall_mem]
      intro e he
      cases hb : Region.binds md e with
      | false => rfl
      | true => simpa using h1 _ (hal e he hb)
    refine ih (k + 1) _ (by simp [hs]) (fun j => by have := hl (j + 1); simpa [Nat.add_assoc, Nat.add_comm 1 j] using this) ?_ ?_
    · intro j hj
      rcases Nat.lt_trichotomy j k with h | h | h
      · have := h1 j hj
        rw [push_getD_lt hs h]; exact this
      · subst h
        have hne : j ≠ i := fun e => by subst e; rw [hun] at hj; cases hj
        rw [push_getD_eq hs]
        exact key o h0 hne (hcl j o h0 hj)
      · have hk : ¬ j < acc.size + 1 := by omega
        simp [Array.getD, hk]
    · intro j oj hjk hoj hne hal
      rcases Nat.lt_or_eq_of_le (Nat.le_of_lt_succ hjk) with h | h
      · have := h2 j oj h hoj hne hal
        rw [push_getD_lt hs h]; exact this
      · subst h
        rw [push_getD_eq hs]
        exact key oj hoj hne hal

theorem wait_spec {t i : Nat} {listed : Array Bool} (hw : waitB md ops t = true) (hcl : ∀ j oj, ops[j]? = some oj → listed.getD j false = true → ∀ e ∈ oj.after, Region.binds md e = true → listed.getD e.on false = true)
    (hun : listed.getD i false = false) (hi : i < t) {j : Nat} (hj : t ≤ j) : j ∉ Region.ready md ops listed := by
  intro hr
  obtain ⟨_, oj, hoj, hal⟩ := mem_ready.1 hr
  have h1 := List.all_eq_true.1 (List.all_eq_true.1 hw i (List.mem_range.2 hi)) j (List.mem_range.2 (Array.getElem?_eq_some_iff.1 hoj).1)
  have h2 := without_spec (ops := ops) hcl hun ops.toList 0 #[] rfl (fun j => by simp) (fun j _ => by simp) (fun _ _ h => absurd h (by omega)) j oj hoj (by omega) hal
  rw [h2] at h1
  simp at h1; omega

/-- The first s are listed. -/
def firsts (m s : Nat) : Array Bool := (Array.range m).map fun j => decide (j < s)
theorem firsts_getD {m s j : Nat} (d : Bool) : (firsts m s).getD j d = if j < m then decide (j < s) else d := by
  unfold firsts
  by_cases h : j < m <;> simp [Array.getD, h]
theorem firsts_zero (m : Nat) : firsts m 0 = Array.replicate m false := by
  apply Array.ext <;> simp [firsts]
theorem firsts_set {m s : Nat} : (firsts m s).setIfInBounds s true = firsts m (s + 1) := by
  apply Array.ext
  · simp [firsts]
  · intro i h1 h2
    simp only [firsts, Array.size_setIfInBounds, Array.size_map, Array.size_range] at h1
    by_cases h : s = i
    · subst h; simp [firsts]
    · have e : decide (i < s + 1) = decide (i < s) := by apply decide_eq_decide.2; omega
      rw [Array.getElem_setIfInBounds_ne (by simpa [firsts] using h1) h]
      simp only [firsts, Array.getElem_map, Array.getElem_range, e]

/-- No op ahead of s waits for one behind. -/
def closedB (md : Region.Mode) (ops : Array Oper) (s : Nat) : Bool :=
  (List.range s).all fun j => ((ops[j]?).map fun o => o.after.all fun e => !Region.binds md e || (decide (e.on < s) && decide (e.on < ops.size))).getD true
theorem closed_inv {s : Nat} (h : closedB md ops s = true) : HeadInv md ops s (firsts ops.size s) := by
  refine ⟨by simp [firsts], fun j oj hj hl e he hb => ?_, fun t ht hts => ?_⟩
  · rw [firsts_getD] at hl
    have hjs : j < s := by split at hl <;> simp_all
    have h1 := List.all_eq_true.1 h j (List.mem_range.2 hjs)
    rw [hj] at h1
    simp only [Option.map_some, Option.getD_some, Array.all_eq_true_iff_forall_mem] at h1
    have h2 := h1 e he
    rw [hb] at h2
    simp at h2
    rw [firsts_getD, if_pos h2.2]; simpa using h2.1
  · rw [firsts_getD, if_pos hts]; simp; omega

/-- Whatever order the operations from s up to t come up in. -/
def segAny (P : Program) (md : Region.Mode) (ops : Array Oper) (C : World → Prop) (n : Nat) (L : Array Bool → Act → Prop) : Nat → Array Bool → Act → Prop :=
  headAny P md ops C n L

theorem qOpIn_wide {n : Nat} {i : Nat} {K : Act → Prop} {a : Act} (hF : ∀ f, F.fn f) (h : qOp P ops C i K a) : qOpIn Fence.wide n P ops C i K a := by
  unfold qOp at h; unfold qOpIn
  split
  · rename_i ho; simp only [ho] at h; exact h
  · rename_i o ho
    simp only [ho] at h
    refine ⟨fun _ _ _ _ => trivial, ?_⟩
    split
    · rename_i hw
      simp only [hw, if_true] at h
      obtain ⟨v, h1, h2⟩ := h
      refine ⟨v, fun w hw => ?_, h2⟩
      have h3 := h1 w hw
      unfold Oper.quietAt at h3; unfold Oper.quietAtIn
      generalize (execOp a.eval o).run P w = r at *
      cases r with
      | ok x w' => cases x <;> simp only [Oper.quietUpon] at h3 <;> simp only [Oper.quietUponIn] <;> first | exact h3 | exact ⟨h3.1, fun e => (by cases e), callsIn_wide.2 h3.2⟩
      | halt x w' => simp only [Oper.quietUpon] at h3
    · rename_i hw; simp only [hw] at h; exact h

theorem headAny_onIn {m n g : Nat} {L : Array Bool → Act → Prop} {Q' : Exit → Act → World → Prop} (hL : ∀ listed a w, C w → L listed a → wpAnyIn Fence.wide m P md ops Q' g listed a w) :
    ∀ (f : Nat) (listed : Array Bool) (a : Act) (w : World), C w → headAny P md ops C n L f listed a → wpAnyIn Fence.wide m P md ops Q' (f + g) listed a w := by
  intro f
  induction f with
  | zero => intro listed a w hw h; rw [Nat.zero_add]; exact hL _ _ _ hw h
  | succ f ih =>
    intro listed a w hw h
    rw [show f + 1 + g = (f + g) + 1 by omega]
    refine ⟨fun h0 => absurd h0 h.1, fun i hi => ?_⟩
    exact wpOpIn_of_qOpIn rfl hw (fun a' w' hw' h' => ih _ a' w' hw' h') (qOpIn_wide (F := Fence.wide) (fun _ => trivial) (h.2 i hi).2)

theorem seg_first {n i : Nat} {oi : Oper} {v : Value} {L : Array Bool → Act → Prop} (hi : ops[i]? = some oi) (hsel : ∀ (j : Nat) (o : Oper) cs b, ops[j]? = some o → o.op ≠ .select cs b)
    (hs : waitB md ops n = true) (hin : i < n)
    (hdone : ∀ listed a, L listed a → ∀ j ∈ Region.ready md ops listed, n ≤ j) :
    ∀ (f : Nat) (listed : Array Bool) (a : Act), HeadInv md ops n listed →
      (∀ j oj, ops[j]? = some oj → j ≠ i → listed.getD j true = false → (∀ e ∈ oj.after, Region.binds md e = true → e.on ≠ i) → oi.apart ops oj = true) →
      i ∈ Region.ready md ops listed → YieldsIn P ops C oi v a →
      headAny P md ops C n L f (listed.setIfInBounds i true) (a.put oi.dst v) → headAny P md ops C n L (f + 1) listed a := by
  intro f
  induction f with
  | zero =>
    intro listed a inv _ hr hy H
    refine ⟨fun h => (by rw [h] at hr; cases hr), fun j hj => ?_⟩
    have hlt : j < n := Nat.lt_of_not_le fun h => wait_spec hs inv.closed (getD_both (mem_ready.1 hr).1) hin h hj
    refine ⟨hlt, ?_⟩
    rcases Decidable.em (j = i) with rfl | hji
    · exact hy.qOp hi H
    · exact absurd (hdone _ _ H j (ready_mono hj hji)) (by omega)
  | succ f ih =>
    intro listed a inv hfree hr hy H
    refine ⟨fun h => (by rw [h] at hr; cases hr), fun j hj => ?_⟩
    have hlt : j < n := Nat.lt_of_not_le fun h => wait_spec hs inv.closed (getD_both (mem_ready.1 hr).1) hin h hj
    refine ⟨hlt, ?_⟩
    rcases Decidable.em (j = i) with rfl | hji
    · exact hy.qOp hi H
    · obtain ⟨hjun, oj, hoj, hall⟩ := mem_ready.1 hj
      have hun := (mem_ready.1 hr).1
      have hnot : ∀ e ∈ oj.after, Region.binds md e = true → e.on ≠ i := fun e he hb heq => by
        have h1 := hall e he hb
        rw [heq, getD_both hun] at h1
        cases h1
      refine qOp_mono (fun a' h3 => ih _ a' (inv.set hj hlt) (fun k ok hk hki hku hno => hfree k ok hk hki ?_ hno) (ready_mono hr (Ne.symm hji)) h3.1 ?_)
        (qOp_put hoj (hfree j oj hoj hji hjun hnot) (fun cs b => hsel i oi cs b hi) (fun cs b => hsel j oj cs b hoj) hy (H.2 j (ready_mono hj hji)).2)
      · rcases Decidable.em (j = k) with rfl | hjk
        · exact hjun
        · rwa [getD_set_ne true hjk] at hku
      · rw [Array.setIfInBounds_comm _ _ hji]
        exact h3.2

/-- The text's order serves, from k on, count many. -/
def lexSeg (md : Region.Mode) (ops : Array Oper) : Nat → Nat → Bool
  | 0, _ => true
  | f + 1, k => (Region.ready md ops (firsts ops.size k)).contains k && Region.free md ops (firsts ops.size k) k && lexSeg md ops f (k + 1)

/-- The walk as it stands before operation s. -/
def AtOp (F : Fence) (m : Nat) (P : Program) (md : Region.Mode) (ops : Array Oper) (Q : Exit → Act → World → Prop) (s : Nat) (a : Act) (w : World) : Prop := wpAnyIn F m P md ops Q (ops.size - s) (firsts ops.size s) a w

theorem seg_lex {t : Nat} {Lq : Act → Prop} (hsel : Region.noSelect ops = true) (hs : waitB md ops t = true) (ht : t ≤ ops.size) :
    ∀ (l : List Oper) (k : Nat) (a : Act), (∀ j, j < l.length → l[j]? = ops[k + j]?) → k + l.length = t → HeadInv md ops t (firsts ops.size k) →
    lexSeg md ops l.length k = true → wpQuiet P ops C Lq l a →
    headAny P md ops C t (fun listed' a' => listed' = firsts ops.size t ∧ Lq a') l.length (firsts ops.size k) a := by
  intro l
  induction l with
  | nil =>
    intro k a _ hk _ _ h
    obtain rfl : k = t := by simpa using hk
    exact ⟨rfl, h⟩
  | cons o l ih =>
    intro k a hl hk inv hB h
    have h0 : ops[k]? = some o := by simpa using (hl 0 (by simp)).symm
    simp only [List.length_cons, lexSeg, Bool.and_eq_true] at hB hk
    obtain ⟨⟨hr, hf⟩, hB'⟩ := hB
    have hr' : k ∈ Region.ready md ops (firsts ops.size k) := by simpa using hr
    have hst : qOp P ops C k (wpQuiet P ops C Lq l) a := by unfold qOp; simp only [h0]; exact h
    obtain ⟨v, hy, hK⟩ := yieldsIn_of_qOp h0 hst
    refine seg_first h0 (Region.noSelect_spec hsel) hs (by omega) (fun listed' a' hL j hj => ?_) l.length _ a inv (Region.free_spec h0 hf) hr' hy ?_
    · obtain ⟨hL, _⟩ := hL
      subst hL
      have h1 := (mem_ready.1 hj).1
      rw [firsts_getD] at h1
      split at h1
      · simpa using h1
      · cases h1
    · rw [firsts_set]
      exact ih (k + 1) _ (fun j hj => by have := hl (j + 1) (by simp; omega); simpa [Nat.add_assoc, Nat.add_comm 1 j] using this) (by omega) (by rw [← firsts_set]; exact inv.set hr' (by omega)) hB' hK

/-- The walk stands still before an append. -/
def HoldIn (p : Prop) : Prop := p
theorem HoldIn.out {F : Fence} {n : Nat} {P : Program} {ops : Array Oper} {Q : Exit → Act → World → Prop} {d : Option Tmp} {s x : Operand} {ts : Array TypeId} {ty : TypeId} {pos : String} {af : Array Edge} {g : Option (Nat × Bool)} {rest : List Oper} {a : Act} {w : World}
    (h : HoldIn (wpListIn F n P ops Q (⟨d, .call { callee := .builtin .append, args := #[s, x], argTypes := ts }, ty, pos, af, g⟩ :: rest) a w)) : wpListIn F n P ops Q (⟨d, .call { callee := .builtin .append, args := #[s, x], argTypes := ts }, ty, pos, af, g⟩ :: rest) a w := h
theorem HoldIn.mk {p : Prop} (h : p) : HoldIn p := h
/-- The closed facts of a segment. -/
def segB (md : Region.Mode) (ops : Array Oper) (s t : Nat) : Bool := Region.noSelect ops && waitB md ops t && decide (t ≤ ops.size) && decide (s ≤ t) && closedB md ops s && lexSeg md ops (t - s) s

theorem seg_quiet {m s : Nat} {Q : Exit → Act → World → Prop} {a : Act} {w : World} (t : Nat) (hB : segB md ops s t = true)
    (h : wpQuiet P ops (fun w' => w' = w) (fun a' => AtOp Fence.wide m P md ops Q t a' w) ((ops.toList.drop s).take (t - s)) a) : AtOp Fence.wide m P md ops Q s a w := by
  simp only [segB, Bool.and_eq_true, decide_eq_true_eq] at hB
  obtain ⟨⟨⟨⟨⟨hsel, hw⟩, ht⟩, hst⟩, hc⟩, hl⟩ := hB
  have hlen : ((ops.toList.drop s).take (t - s)).length = t - s := by simp; omega
  have inv := closed_inv hc
  have inv' : HeadInv md ops t (firsts ops.size s) := ⟨inv.size, inv.closed, fun k hk hks => inv.tail k (by omega) hks⟩
  have H := seg_lex hsel hw ht _ s a (fun j hj => by
    rw [hlen] at hj
    rw [List.getElem?_take_of_lt (by omega), List.getElem?_drop, Array.getElem?_toList]) (by rw [hlen]; omega) inv' (by rw [hlen]; exact hl) h
  rw [hlen] at H
  unfold AtOp
  have := headAny_onIn (C := fun w' => w' = w) (L := fun listed' a' => listed' = firsts ops.size t ∧ AtOp Fence.wide m P md ops Q t a' w) (m := m) (Q' := Q) (g := ops.size - t) (fun listed a' w' hw' hL => by
    obtain ⟨rfl, h2⟩ := hL
    subst hw'
    exact h2) _ _ _ w rfl H
  rwa [show t - s + (ops.size - t) = ops.size - s by omega] at this

/-- A single operation. -/
theorem seg_solo' {m s : Nat} {Q : Exit → Act → World → Prop} {a : Act} {w : World} {o : Oper} (ho : ops[s]? = some o) (hr : Region.ready md ops (firsts ops.size s) = [s])
    (h : wpListIn F m P ops (Exit.then (AtOp F m P md ops Q (s + 1)) Q) [o] a w) : AtOp F m P md ops Q s a w := by
  have hs : s < ops.size := (Array.getElem?_eq_some_iff.1 ho).1
  unfold AtOp
  rw [show ops.size - s = (ops.size - (s + 1)) + 1 by omega]
  refine wpAnyIn_all hr (by simp) fun i hi => ?_
  obtain rfl : i = s := by simpa using hi
  rw [firsts_set]
  unfold wpOpIn
  rw [ho]
  unfold wpListIn at h
  dsimp only
  split
  · rename_i hw
    rw [if_pos hw] at h
    unfold Oper.wpIn at h ⊢
    refine ⟨h.1, ?_⟩
    have h := h.2
    generalize (o.semAt F.round a.eval).run P w = r at *
    cases r with
    | ok x w' =>
      cases x <;> simp only [Oper.uponIn] at h ⊢ <;>
        first
          | exact h
          | exact ⟨h.1, CallsIn.mono h.2 (fun e w'' he => by cases e <;> first | exact he | exact he)⟩
          | exact ⟨h.1, RowsIn.mono h.2 (fun _ _ he => he)⟩
          | exact ⟨h.1, RoundIn.mono h.2 (fun e w'' he => by cases e <;> first | exact he | exact he)⟩
    | halt x w' => cases x <;> simp only [Oper.uponIn] at h ⊢ <;> exact h
  · rename_i hw; rw [if_neg hw] at h; exact h

/-- What a single operation never does. -/
def NoWay : Exit → Act → World → Prop := fun _ _ _ => False
theorem wpListIn_post {m : Nat} {Q Q' : Exit → Act → World → Prop} (hq : ∀ e a w, Q e a w → Q' e a w) : ∀ (l : List Oper) (a : Act) (w : World), wpListIn F m P ops Q l a w → wpListIn F m P ops Q' l a w
  | [], _, _, h => hq _ _ _ h
  | o :: l, a, w, h => by
    unfold wpListIn at h ⊢
    split
    · rename_i hw
      rw [if_pos hw] at h
      unfold Oper.wpIn at h ⊢
      refine ⟨h.1, ?_⟩
      have h := h.2
      generalize (o.semAt F.round a.eval).run P w = r at *
      cases r with
      | ok x w' =>
        cases x <;> simp only [Oper.uponIn] at h ⊢ <;>
          first
            | exact wpListIn_post hq l _ _ h
            | exact ⟨h.1, CallsIn.mono h.2 (fun e w'' he => by cases e <;> first | exact wpListIn_post hq l _ _ he | exact hq _ _ _ he | exact (let ⟨x, y, z⟩ := he; ⟨x, y, hq _ _ _ z⟩))⟩
            | exact ⟨h.1, RowsIn.mono h.2 (fun _ _ he => wpListIn_post hq l _ _ he)⟩
            | exact ⟨h.1, RoundIn.mono h.2 (fun e w'' he => by cases e <;> first | exact wpListIn_post hq l _ _ he | exact hq _ _ _ he | exact (let ⟨x, y, z⟩ := he; ⟨x, y, hq _ _ _ z⟩))⟩
      | halt x w' => cases x <;> simp only [Oper.uponIn] at h ⊢ <;> first | exact hq _ _ _ h | exact h
    · rename_i hw; rw [if_neg hw] at h; exact ⟨h.1, wpListIn_post hq l _ _ h.2⟩
theorem seg_solo {m s : Nat} {Q : Exit → Act → World → Prop} {a : Act} {w : World} {o : Oper} (ho : ops[s]? = some o) (hr : Region.ready md ops (firsts ops.size s) = [s])
    (h : ∀ K : Act → World → Prop, (∀ a w, AtOp F m P md ops Q (s + 1) a w → K a w) → wpListIn F m P ops (Exit.then K NoWay) [o] a w) : AtOp F m P md ops Q s a w :=
  seg_solo' ho hr (wpListIn_post (fun e a w q => by cases e <;> first | exact q | exact q.elim) _ _ _ (h _ fun _ _ h => h))
theorem seg_one {m s : Nat} {Q : Exit → Act → World → Prop} {a : Act} {w : World} {l : List Oper} (hr : Region.ready md l.toArray (firsts l.toArray.size s) = [s])
    (h : ∀ K : Act → World → Prop, (∀ a w, AtOp F m P md l.toArray Q (s + 1) a w → K a w) → wpListIn F m P l.toArray (Exit.then K NoWay) ((l.drop s).take 1) a w) : AtOp F m P md l.toArray Q s a w := by
  have h1 : s ∈ Region.ready md l.toArray (firsts l.toArray.size s) := by rw [hr]; simp
  obtain ⟨_, o, ho, _⟩ := mem_ready.1 h1
  refine seg_solo ho hr ?_
  have e : (l.drop s).take 1 = [o] := by
    have h2 : l[s]? = some o := by simpa using ho
    obtain ⟨hl, h3⟩ := List.getElem?_eq_some_iff.1 h2
    rw [List.drop_eq_getElem_cons hl, h3]; rfl
  rwa [e] at h
theorem seg_still {m s : Nat} {Q : Exit → Act → World → Prop} {a : Act} {w : World} {l : List Oper} (t : Nat) (hB : segB md l.toArray s t = true)
    (h : wpQuiet P l.toArray (fun w' => w' = w) (fun a' => AtOp Fence.wide m P md l.toArray Q t a' w) ((l.drop s).take (t - s)) a) : AtOp Fence.wide m P md l.toArray Q s a w := seg_quiet t hB h
theorem seg_done {m : Nat} {Q : Exit → Act → World → Prop} {a : Act} {w : World} {s : Nat} (hs : s = ops.size) (hr : Region.ready md ops (firsts ops.size s) = []) (h : Q .normal a w) : AtOp F m P md ops Q s a w := by
  unfold AtOp
  exact wpAnyIn_done hr h _

theorem wpIn_region_segs {m id : Nat} {Q : Exit → Act → World → Prop} {a : Act} {w : World} (hm : P.follows .mixedOrders = true) (h : AtOp F m P .any ops Q 0 a w.drew) : (Code.region id ops true).wpIn F m P Q a w := by
  refine wpIn_region_any hm ?_
  unfold AtOp at h
  rw [firsts_zero] at h
  exact h
end
end Go.Und
