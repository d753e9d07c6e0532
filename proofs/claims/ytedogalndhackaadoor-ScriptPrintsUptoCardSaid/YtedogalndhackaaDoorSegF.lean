/- Still segments behind operations that float: those from s up to t, of which all behind t wait. -/
import Derived.Test.YtedogalndhackaaDoorRegionIn
set_option linter.unusedVariables false
set_option linter.unusedSimpArgs false
namespace Go.Und
open Go.RowKit
section
variable {F : Fence} {P : Program} {ops : Array Oper} {md : Region.Mode} {C : World → Prop}

/-- All operations from t on wait for all from s up to t. -/
def waitF (md : Region.Mode) (ops : Array Oper) (s t : Nat) : Bool :=
  (List.range t).all fun i => decide (i < s) || (List.range ops.size).all fun j => decide (j < t) || !(without md i ops.toList 0 #[]).getD j true
theorem waitF_spec {s t i : Nat} {listed : Array Bool} (hw : waitF md ops s t = true) (hcl : ∀ j oj, ops[j]? = some oj → listed.getD j false = true → ∀ e ∈ oj.after, Region.binds md e = true → listed.getD e.on false = true)
    (hun : listed.getD i false = false) (hs : s ≤ i) (hi : i < t) {j : Nat} (hj : t ≤ j) : j ∉ Region.ready md ops listed := by
  intro hr
  obtain ⟨_, oj, hoj, hal⟩ := mem_ready.1 hr
  have h0 := List.all_eq_true.1 hw i (List.mem_range.2 hi)
  rw [decide_eq_false (by omega), Bool.false_or] at h0
  have h1 := List.all_eq_true.1 h0 j (List.mem_range.2 (Array.getElem?_eq_some_iff.1 hoj).1)
  have h2 := without_spec (ops := ops) hcl hun ops.toList 0 #[] rfl (fun j => by simp) (fun j _ => by simp) (fun _ _ h => absurd h (by omega)) j oj hoj (by omega) hal
  rw [h2] at h1
  simp at h1; omega

theorem segF_first {s n i : Nat} {oi : Oper} {v : Value} {L : Array Bool → Act → Prop} (hi : ops[i]? = some oi) (hsel : ∀ (j : Nat) (o : Oper) cs b, ops[j]? = some o → o.op ≠ .select cs b)
    (hs : waitF md ops s n = true) (his : s ≤ i) (hin : i < n)
    (hdone : ∀ listed a, L listed a → ∀ j ∈ Region.ready md ops listed, n ≤ j) :
    ∀ (f : Nat) (listed : Array Bool) (a : Act), HeadInv md ops n listed →
      (∀ j oj, ops[j]? = some oj → j ≠ i → listed.getD j true = false → (∀ e ∈ oj.after, Region.binds md e = true → e.on ≠ i) → oi.apart ops oj = true) →
      i ∈ Region.ready md ops listed → YieldsIn P ops C oi v a →
      headAny P md ops C n L f (listed.setIfInBounds i true) (a.put oi.dst v) → headAny P md ops C n L (f + 1) listed a := by
  intro f
  induction f with
  | zero =>
    intro listed a inv _ hr hy H
    refine ⟨fun h => (by rw [h] at hr; cases hr), fun j hj => ?_⟩
    have hlt : j < n := Nat.lt_of_not_le fun h => waitF_spec hs inv.closed (getD_both (mem_ready.1 hr).1) his hin h hj
    refine ⟨hlt, ?_⟩
    rcases Decidable.em (j = i) with rfl | hji
    · exact hy.qOp hi H
    · exact absurd (hdone _ _ H j (ready_mono hj hji)) (by omega)
  | succ f ih =>
    intro listed a inv hfree hr hy H
    refine ⟨fun h => (by rw [h] at hr; cases hr), fun j hj => ?_⟩
    have hlt : j < n := Nat.lt_of_not_le fun h => waitF_spec hs inv.closed (getD_both (mem_ready.1 hr).1) his hin h hj
    refine ⟨hlt, ?_⟩
    rcases Decidable.em (j = i) with rfl | hji
    · exact hy.qOp hi H
    · obtain ⟨hjun, oj, hoj, hall⟩ := mem_ready.1 hj
      have hun := (mem_ready.1 hr).1
      have hnot : ∀ e ∈ oj.after, Region.binds md e = true → e.on ≠ i := fun e he hb heq => by
        have h1 := hall e he hb
        rw [heq, getD_both hun] at h1
        cases h1
      refine qOp_mono (fun a' h3 => ih _ a' (inv.set hj hlt) (fun k ok hk hki hku hno => hfree k ok hk hki ?_ hno) (ready_mono hr (Ne.symm hji)) h3.1 ?_)
        (qOp_put hoj (hfree j oj hoj hji hjun hnot) (fun cs b => hsel i oi cs b hi) (fun cs b => hsel j oj cs b hoj) hy (H.2 j (ready_mono hj hji)).2)
      · rcases Decidable.em (j = k) with rfl | hjk
        · exact hjun
        · rwa [getD_set_ne true hjk] at hku
      · rw [Array.setIfInBounds_comm _ _ hji]
        exact h3.2

theorem segF_lex {s t : Nat} {Lq : Act → Prop} (hsel : Region.noSelect ops = true) (hs : waitF md ops s t = true) (ht : t ≤ ops.size) :
    ∀ (l : List Oper) (k : Nat) (a : Act), s ≤ k → (∀ j, j < l.length → l[j]? = ops[k + j]?) → k + l.length = t → HeadInv md ops t (firsts ops.size k) →
    lexSeg md ops l.length k = true → wpQuiet P ops C Lq l a →
    headAny P md ops C t (fun listed' a' => listed' = firsts ops.size t ∧ Lq a') l.length (firsts ops.size k) a := by
  intro l
  induction l with
  | nil =>
    intro k a _ _ hk _ _ h
    obtain rfl : k = t := by simpa using hk
    exact ⟨rfl, h⟩
  | cons o l ih =>
    intro k a hsk hl hk inv hB h
    have h0 : ops[k]? = some o := by simpa using (hl 0 (by simp)).symm
    simp only [List.length_cons, lexSeg, Bool.and_eq_true] at hB hk
    obtain ⟨⟨hr, hf⟩, hB'⟩ := hB
    have hr' : k ∈ Region.ready md ops (firsts ops.size k) := by simpa using hr
    have hst : qOp P ops C k (wpQuiet P ops C Lq l) a := by unfold qOp; simp only [h0]; exact h
    obtain ⟨v, hy, hK⟩ := yieldsIn_of_qOp h0 hst
    refine segF_first h0 (Region.noSelect_spec hsel) hs hsk (by omega) (fun listed' a' hL j hj => ?_) l.length _ a inv (Region.free_spec h0 hf) hr' hy ?_
    · obtain ⟨hL, _⟩ := hL
      subst hL
      have h1 := (mem_ready.1 hj).1
      rw [firsts_getD] at h1
      split at h1
      · simpa using h1
      · cases h1
    · rw [firsts_set]
      exact ih (k + 1) _ (by omega) (fun j hj => by have := hl (j + 1) (by simp; omega); simpa [Nat.add_assoc, Nat.add_comm 1 j] using this) (by omega) (by rw [← firsts_set]; exact inv.set hr' (by omega)) hB' hK

/-- The closed facts of such a segment. -/
def segFB (md : Region.Mode) (ops : Array Oper) (s t : Nat) : Bool := Region.noSelect ops && waitF md ops s t && decide (t ≤ ops.size) && decide (s ≤ t) && closedB md ops s && lexSeg md ops (t - s) s
theorem segF_quiet {m s : Nat} {Q : Exit → Act → World → Prop} {a : Act} {w : World} (t : Nat) (hB : segFB md ops s t = true)
    (h : wpQuiet P ops (fun w' => w' = w) (fun a' => AtOp Fence.wide m P md ops Q t a' w) ((ops.toList.drop s).take (t - s)) a) : AtOp Fence.wide m P md ops Q s a w := by
  simp only [segFB, Bool.and_eq_true, decide_eq_true_eq] at hB
  obtain ⟨⟨⟨⟨⟨hsel, hw⟩, ht⟩, hst⟩, hc⟩, hl⟩ := hB
  have hlen : ((ops.toList.drop s).take (t - s)).length = t - s := by simp; omega
  have inv := closed_inv hc
  have inv' : HeadInv md ops t (firsts ops.size s) := ⟨inv.size, inv.closed, fun k hk hks => inv.tail k (by omega) hks⟩
  have H := segF_lex hsel hw ht _ s a (Nat.le_refl _) (fun j hj => by
    rw [hlen] at hj
    rw [List.getElem?_take_of_lt (by omega), List.getElem?_drop, Array.getElem?_toList]) (by rw [hlen]; omega) inv' (by rw [hlen]; exact hl) h
  rw [hlen] at H
  unfold AtOp
  have := headAny_onIn (C := fun w' => w' = w) (L := fun listed' a' => listed' = firsts ops.size t ∧ AtOp Fence.wide m P md ops Q t a' w) (m := m) (Q' := Q) (g := ops.size - t) (fun listed a' w' hw' hL => by
    obtain ⟨rfl, h2⟩ := hL
    subst hw'
    exact h2) _ _ _ w rfl H
  rwa [show t - s + (ops.size - t) = ops.size - s by omega] at this

theorem segF_still {m s : Nat} {Q : Exit → Act → World → Prop} {a : Act} {w : World} {l : List Oper} (t : Nat) (hB : segFB md l.toArray s t = true)
    (h : wpQuiet P l.toArray (fun w' => w' = w) (fun a' => AtOp Fence.wide m P md l.toArray Q t a' w) ((l.drop s).take (t - s)) a) : AtOp Fence.wide m P md l.toArray Q s a w := segF_quiet t hB h
theorem atOp_back {m s n : Nat} {L : Array Bool} {Q : Exit → Act → World → Prop} {a : Act} {w : World} (hn : ops.size - s = n) (hL : firsts ops.size s = L) (h : AtOp F m P md ops Q s a w) : wpAnyIn F m P md ops Q n L a w := by
  unfold AtOp at h
  rwa [hn, hL] at h
end
end Go.Und
