/- A region's last two operations, in either order. -/
import Derived.Test.YtfobeheplficgaaRegionIn
set_option linter.unusedVariables false
set_option linter.unusedSimpArgs false
namespace Go.Und
open Go.RowKit
section
variable {F : Fence} {P : Program} {md : Region.Mode} {ops : Array Oper}

theorem wpOpIn_list {m i : Nat} {Q : Exit → Act → World → Prop} {K K' : Act → World → Prop} {a : Act} {w : World} {o : Oper} {rest : List Oper} (ho : ops[i]? = some o)
    (hk : ∀ a w, wpListIn F m P ops (Exit.then K' Q) rest a w → K a w) (h : wpListIn F m P ops (Exit.then K' Q) (o :: rest) a w) : wpOpIn F m P ops Q i K a w := by
  unfold wpOpIn
  rw [ho]
  unfold wpListIn at h
  dsimp only
  split
  · rename_i hw
    rw [if_pos hw] at h
    unfold Oper.wpIn at h ⊢
    refine ⟨h.1, ?_⟩
    have h := h.2
    generalize (o.semAt F.round a.eval).run P w = r at *
    cases r with
    | ok x w' =>
      cases x <;> simp only [Oper.uponIn] at h ⊢ <;>
        first
          | exact hk _ _ h
          | exact ⟨h.1, CallsIn.mono h.2 (fun e w'' he => by cases e <;> first | exact hk _ _ he | exact he)⟩
          | exact ⟨h.1, RowsIn.mono h.2 (fun _ _ he => hk _ _ he)⟩
          | exact ⟨h.1, RoundIn.mono h.2 (fun e w'' he => by cases e <;> first | exact hk _ _ he | exact he | exact (let ⟨x, y, z⟩ := he; ⟨x, y, hk _ _ z⟩))⟩
    | halt x w' => cases x <;> simp only [Oper.uponIn] at h ⊢ <;> exact h
  · rename_i hw; rw [if_neg hw] at h; exact ⟨h.1, hk _ _ h.2⟩

/-- The last two operations of a region, in either order. -/
theorem seg_pair {m s : Nat} {Q : Exit → Act → World → Prop} {a : Act} {w : World} {l : List Oper} (hn : l.toArray.size = s + 1 + 1) (hr : Region.ready md l.toArray (firsts l.toArray.size s) = [s, s + 1]) (hr1 : Region.ready md l.toArray (firsts l.toArray.size (s + 1)) = [s + 1])
    (hr2 : Region.ready md l.toArray ((firsts l.toArray.size s).setIfInBounds (s + 1) true) = [s]) (hr3 : Region.ready md l.toArray ((firsts l.toArray.size (s + 1)).setIfInBounds (s + 1) true) = []) (hr4 : Region.ready md l.toArray (((firsts l.toArray.size s).setIfInBounds (s + 1) true).setIfInBounds s true) = [])
    (h : ∀ K : Act → World → Prop, (∀ a w, Q .normal a w → K a w) → wpListIn F m P l.toArray (Exit.then K NoWay) ((l.drop s).take 1 ++ (l.drop (s + 1)).take 1) a w)
    (h' : ∀ K : Act → World → Prop, (∀ a w, Q .normal a w → K a w) → wpListIn F m P l.toArray (Exit.then K NoWay) ((l.drop (s + 1)).take 1 ++ (l.drop s).take 1) a w) : AtOp F m P md l.toArray Q s a w := by
  have hsz : l.length = s + 1 + 1 := by simpa using hn
  have e1 : l.drop s = [l[s], l[s + 1]] := by
    rw [List.drop_eq_getElem_cons (by omega), List.drop_eq_getElem_cons (by omega), List.drop_eq_nil_of_le (by omega)]
  have e2 : l.drop (s + 1) = [l[s + 1]] := by
    rw [List.drop_eq_getElem_cons (by omega), List.drop_eq_nil_of_le (by omega)]
  rw [e1, e2] at h h'
  have o1 : l.toArray[s]? = some l[s] := by simp
  have o2 : l.toArray[s + 1]? = some l[s + 1] := by simp
  have up : ∀ (L : List Oper), wpListIn F m P l.toArray (Exit.then (fun a w => Q .normal a w) NoWay) L a w → wpListIn F m P l.toArray (Exit.then (fun a w => Q .normal a w) Q) L a w :=
    fun L => wpListIn_post (fun e a w q => by cases e <;> first | exact q | exact q.elim) _ _ _
  have hA := up _ (h _ fun _ _ h => h)
  have hB := up _ (h' _ fun _ _ h => h)
  unfold AtOp
  rw [show l.toArray.size - s = 0 + 1 + 1 by omega]
  refine wpAnyIn_all hr (by simp) fun i hi => ?_
  have hi' : i = s ∨ i = s + 1 := by simpa using hi
  rcases hi' with rfl | rfl
  · refine wpOpIn_list o1 (fun a w hh => ?_) hA
    rw [firsts_set]
    refine wpAnyIn_all hr1 (by simp) fun j hj => ?_
    obtain rfl : j = i + 1 := by simpa using hj
    exact wpOpIn_list (K' := fun a w => Q .normal a w) (rest := []) o2 (fun a w hh => ⟨hr3, hh⟩) hh
  · refine wpOpIn_list o2 (fun a w hh => ?_) hB
    refine wpAnyIn_all hr2 (by simp) fun j hj => ?_
    obtain rfl : j = s := by simpa using hj
    exact wpOpIn_list (K' := fun a w => Q .normal a w) (rest := []) o1 (fun a w hh => ⟨hr4, hh⟩) hh
theorem atOp_any {m s n : Nat} {L : Array Bool} {Q : Exit → Act → World → Prop} {a : Act} {w : World} (hn : ops.size - s = n) (hL : firsts ops.size s = L) (h : wpAnyIn F m P md ops Q n L a w) : AtOp F m P md ops Q s a w := by
  unfold AtOp
  rw [hn, hL]; exact h
end
end Go.Und
