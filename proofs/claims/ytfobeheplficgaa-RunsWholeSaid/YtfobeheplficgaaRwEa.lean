/- Add behind all others. -/
import Derived.Test.YtfobeheplficgaaRwD
import Derived.Test.YtfobeheplficgaaEls
set_option linter.unusedVariables false
set_option linter.unusedSimpArgs false
namespace Go.Proofs.Ytfobeheplficgaa
open Go.RowKit Go.Und Go.Shelf
open Go.ChangeShapes Go.WideShapes Go.ChangeAt Go.RowKit Go.Und
attribute [local go_sem] Oper.semAt_some
attribute [local go_sem ↓] Go.wp_at_zero Go.wp_at_succ

theorem addL_end {l : List (Int × Int)} (ok : OkL l) {s : Int × Int} (hs : PrS s) (h : ∀ x ∈ l, x.2 < s.1) : OkL (l ++ [s]) ∧ addL l s = l ++ [s] ∧ lenS s - withinL l s = s.2 - s.1 ∧ fstP (fun x => decide (s.1 ≤ x.2)) l = l.length ∧ fstP (fun x => decide (s.2 < x.1)) l = l.length := by
  have ok2 : OkL (l ++ [s]) := okL_append.2 ⟨ok, ⟨hs, (fun y hy => by cases hy), trivial⟩, fun x hx y hy => by rw [List.mem_singleton.1 hy]; exact h x hx⟩
  have e1 : addL l s = l ++ [s] := by
    refine ok_ext (add_ok ok hs).1 ok2 fun o => ?_
    rw [(add_ok ok hs).2 o, memL_append, memL_cons]
    constructor
    · rintro (g | g)
      · exact .inl g
      · exact .inr (.inl g)
    · rintro (g | g | g)
      · exact .inl g
      · exact .inr g
      · exact absurd g (memL_nil o)
  have e2 := add_bytes ok hs
  rw [e1, bytes_snoc, lenS_of hs] at e2
  refine ⟨ok2, e1, by rw [lenS_of hs]; omega, fstP_is _ l l.length (Nat.le_refl _) (fun i x _ hx => ?_) (fun i x hi hx => ?_), fstP_is _ l l.length (Nat.le_refl _) (fun i x _ hx => ?_) (fun i x hi hx => ?_)⟩
  · have := h x (List.mem_of_getElem? hx); exact decide_eq_false (by omega)
  · have := (List.getElem?_eq_some_iff.1 hx).1; omega
  · have := h x (List.mem_of_getElem? hx); have := (ok.pr x (List.mem_of_getElem? hx)).2.1; have := hs.2.1; exact decide_eq_false (by omega)
  · have := (List.getElem?_eq_some_iff.1 hx).1; omega
theorem add_end_any (p : Nat) (q : Option Addr) (cap : Nat) (l : List (Int × Int)) (a b : Int) (w : World) (ok : OkL l) (hs : PrS (a, b)) (h : ∀ x ∈ l, x.2 < a) (S : Sep (fpL (rns p q cap l)) w w (rns p q cap l)) (hroom : l.length + 1 ≤ 4096) :
    Calls Try.prog 15 #[.pointer (at0 p), .agg #[.int .i64 a, .int .i64 b]] w fun e w' => e = .returned (.tuple #[.int .i64 (b - a), .int .i64 0]) ∧ ∃ q' c', Sep (fpL (rns p q cap l)) w w' (rns p q' c' (l ++ [(a, b)])) := by
  obtain ⟨_, e1, e2, e3, e4⟩ := addL_end ok hs h
  exact add_step p q cap l a b w (l ++ [(a, b)]) (b - a) ok (by omega) hs S e1 e2 (by simpa using hroom)
theorem add_over_any (p : Nat) (q : Option Addr) (cap : Nat) (l : List (Int × Int)) (a b : Int) (w : World) (ok : OkL l) (hs : PrS (a, b)) (h : ∀ x ∈ l, x.2 < a) (S : Sep (fpL (rns p q cap l)) w w (rns p q cap l)) (hfull : l.length = 4096) :
    Calls Try.prog 15 #[.pointer (at0 p), .agg #[.int .i64 a, .int .i64 b]] w fun e w' => e = .returned (.tuple #[.int .i64 0, .int .i64 4]) ∧ Sep (fpL (rns p q cap l)) w w' (rns p q cap l) := by
  obtain ⟨_, e1, e2, e3, e4⟩ := addL_end ok hs h
  refine (add_do p q cap l a b w ok (by omega) hs S).mono ?_
  have hl : (addL l (a, b)).length = 4097 := by rw [e1]; simp [hfull]
  rintro e w' (⟨g, _⟩ | ⟨_, rfl, T⟩)
  · omega
  · exact ⟨rfl, T⟩
end Go.Proofs.Ytfobeheplficgaa
