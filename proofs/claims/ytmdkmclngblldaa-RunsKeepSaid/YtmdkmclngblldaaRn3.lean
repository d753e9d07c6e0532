/- Spans and sets of the reference (plain): they are what the program's are; what the laws say. -/
import Derived.Test.YtmdkmclngblldaaRn2
set_option linter.unusedVariables false
set_option linter.unusedSimpArgs false
namespace Go.Und

def belowR (s : Int × Int) (o : Int) : Int × Int := if o < 0 then (0, 0) else meetS s (0, min o 4611686018427387904)
def fromR (s : Int × Int) (o : Int) : Int × Int := if 4611686018427387904 < o then (0, 0) else meetS s (max o 0, 4611686018427387904)
theorem belowR_eq (s : Int × Int) (o : Int) : belowR s o = belowS s o := by
  unfold belowR
  refine plain_ext ?_ (below_plain s o) fun k => ?_
  · split
    · exact plain_zero
    · exact meet_plain _ _
  · rw [in_below]
    split
    · constructor
      · intro h; exact absurd h (inS_zero (s := (0, 0)) (by decide) k)
      · rintro ⟨h, h'⟩; have := inS_range h; omega
    · rw [in_meet, inS_of (Int.le_refl _) (by omega)]
      constructor
      · rintro ⟨h, h'⟩; exact ⟨h, by omega⟩
      · rintro ⟨h, h'⟩; exact ⟨h, by have := inS_range h; omega⟩
theorem fromR_eq (s : Int × Int) (o : Int) : fromR s o = fromS s o := by
  unfold fromR
  refine plain_ext ?_ (from_plain s o) fun k => ?_
  · split
    · exact plain_zero
    · exact meet_plain _ _
  · rw [in_from]
    split
    · constructor
      · intro h; exact absurd h (inS_zero (s := (0, 0)) (by decide) k)
      · rintro ⟨h, h'⟩; have := inS_range h; omega
    · rw [in_meet, inS_of (by omega) (Int.le_refl _)]
      constructor
      · rintro ⟨h, h'⟩; exact ⟨h, by omega⟩
      · rintro ⟨h, h'⟩; exact ⟨h, by have := inS_range h; omega⟩
def touchR (s t : Int × Int) : Bool := if lenS s = 0 ∨ lenS t = 0 then false else decide (0 < lenS (meetS (plainS s) (plainS t))) || decide ((plainS s).2 = (plainS t).1) || decide ((plainS t).2 = (plainS s).1)
theorem touchR_eq (s t : Int × Int) : touchR s t = touchS s t := by
  unfold touchR
  by_cases h : lenS s = 0 ∨ lenS t = 0
  · rw [if_pos h]
    symm
    unfold touchS
    rcases h with h | h <;> simp [h]
  · rw [if_neg h]
    have p := lenS_ne (fun e => h (.inl e))
    have q := lenS_ne (fun e => h (.inr e))
    rw [Bool.eq_iff_iff, touch_pr p q, p.plain, q.plain]
    have hb := lenS_bounds (meetS s t)
    have hm : 0 < lenS (meetS s t) ↔ s.1 < t.2 ∧ t.1 < s.2 := by
      constructor
      · intro g
        have pm := lenS_ne (s := meetS s t) (by omega)
        have := (in_meet s t (meetS s t).1).1 ((inS_pr pm _).2 ⟨Int.le_refl _, pm.2.1⟩)
        rw [inS_pr p, inS_pr q] at this
        omega
      · intro g
        have : inS (meetS s t) (max s.1 t.1) := by
          rw [in_meet, inS_pr p, inS_pr q]
          have := p.2.1
          have := q.2.1
          omega
        rcases Int.lt_or_le 0 (lenS (meetS s t)) with k | k
        · exact k
        · exact absurd this (inS_zero (by omega) _)
    have := p.2.1
    have := q.2.1
    simp only [Bool.or_eq_true, decide_eq_true_eq, hm]
    omega
/-- A step of a play: what the document's set is then, how many offsets came or went. -/
def stepL (out : Bool) (l : List (Int × Int)) (s : Int × Int) : List (Int × Int) := if lenS s = 0 then l else if out = true then remL l s else addL l s
def stepN (out : Bool) (l : List (Int × Int)) (s : Int × Int) : Int := if lenS s = 0 then 0 else if out = true then withinL l s else lenS s - withinL l s
theorem step_ok (out : Bool) {l : List (Int × Int)} (h : OkL l) (s : Int × Int) : OkL (stepL out l s) ∧ ∀ o, memL (stepL out l s) o ↔ if out = true then memL l o ∧ ¬ inS s o else memL l o ∨ inS s o := by
  unfold stepL
  by_cases h0 : lenS s = 0
  · rw [if_pos h0]
    refine ⟨h, fun o => ?_⟩
    have := inS_zero h0 o
    split
    · exact ⟨fun h => ⟨h, this⟩, fun h => h.1⟩
    · exact ⟨fun h => .inl h, fun h => h.resolve_right this⟩
  · rw [if_neg h0]
    have p := lenS_ne h0
    cases out with
    | true =>
      obtain ⟨a, b, _⟩ := rem_ok p.2.1 h
      refine ⟨a, fun o => ?_⟩
      rw [if_pos rfl, if_pos rfl, b, inS_pr p]
    | false =>
      obtain ⟨a, b⟩ := add_ok h p
      refine ⟨a, fun o => ?_⟩
      rw [if_neg (by decide), if_neg (by decide), b, inS_pr p]
theorem step_bytes (out : Bool) {l : List (Int × Int)} (h : OkL l) (s : Int × Int) : stepN out l s = if out = true then bytesL l - bytesL (stepL out l s) else bytesL (stepL out l s) - bytesL l := by
  unfold stepN stepL
  by_cases h0 : lenS s = 0
  · simp [h0]
  · have p := lenS_ne h0
    rw [if_neg h0, if_neg h0]
    cases out with
    | true => have := rem_bytes h p; simp; omega
    | false => have := add_bytes h p; simp; omega
theorem hull_len_add {l : List (Int × Int)} (h : OkL l) {s : Int × Int} (hs : PrS s) : (addL l s).length ≤ l.length + 1 := by
  obtain ⟨a, b, c, e, e', _⟩ := add_parts h hs
  rw [e', e]
  simp
  omega
/-- Removing parts one run at most. -/
theorem rem_len {s : Int × Int} (hs : s.1 < s.2) : ∀ {l : List (Int × Int)}, OkL l → (remL l s).length ≤ l.length + 1
  | [], _ => by simp [remL]
  | x :: l, h => by
    obtain ⟨h1, h2, h3⟩ := h
    have e : remL (x :: l) s = partsS s x ++ remL l s := by simp [remL]
    rw [e, List.length_append, List.length_cons]
    by_cases hx : x.2 ≤ s.1 ∨ s.2 ≤ x.1
    · rw [parts_out hs h1 hx]
      have := rem_len hs h3
      simp; omega
    · -- those behind: at most one part each where x reaches beyond, else the ones below are gone
      have two : (partsS s x).length ≤ 2 := by
        unfold partsS; split <;> split <;> simp
      by_cases hr : s.2 < x.2
      · have e2 : remL l s = l := flatMap_same fun y hy => parts_out hs (h3.pr y hy) (.inr (by have := h2 y hy; omega))
        rw [e2]; omega
      · have one : (partsS s x).length ≤ 1 := by
          have : lenS (fromS x s.2) = 0 := from_none h1 (by omega)
          unfold partsS; rw [if_pos this]; split <;> simp
        have := rem_len hs h3
        omega
end Go.Und
