/- Shapes of arguments; Add and Remove of any span. -/
import Derived.Test.YtfobeheplficgaaRwK
import Derived.Test.YtfobeheplficgaaEls
set_option linter.unusedVariables false
set_option linter.unusedSimpArgs false
namespace Go.Proofs.Ytfobeheplficgaa
open Go.RowKit Go.Und Go.Shelf
open Go.ChangeShapes Go.WideShapes Go.ChangeAt Go.RowKit Go.Und
attribute [local go_sem] Oper.semAt_some
attribute [local go_sem ↓] Go.wp_at_zero Go.wp_at_succ

abbrev shSp : Sh := .agg (.cons (.int .i64) (.cons (.int .i64) .nil))
abbrev shOp7 : Sh := .agg (.cons .bool (.cons shSp .nil))
abbrev Op7T : TypeId := 40
theorem span_of {W : World} {u : U} {cs : List Value} (h : shSp.holds W u cs) : ∃ a b : Int, cs = [.int .i64 a, .int .i64 b] := by
  obtain ⟨_, _, g⟩ := h
  obtain ⟨_, _, _, _, _, e0, _, ⟨a, _, rfl, _⟩, g⟩ := g
  obtain ⟨_, _, _, _, _, e1, _, ⟨b, _, rfl, _⟩, g⟩ := g
  obtain ⟨_, rfl⟩ := g
  subst e1 e0
  exact ⟨a, b, rfl⟩
theorem op7_of {W : World} {u : U} {cs : List Value} (h : shOp7.holds W u cs) : ∃ (out : Bool) (a b : Int), cs = [.bool out, .int .i64 a, .int .i64 b] := by
  obtain ⟨_, _, g⟩ := h
  obtain ⟨_, _, _, _, _, e0, _, ⟨out, _, rfl⟩, g⟩ := g
  obtain ⟨_, _, _, _, _, e1, _, hs, g⟩ := g
  obtain ⟨a, b, rfl⟩ := span_of hs
  obtain ⟨_, rfl⟩ := g
  subst e1 e0
  exact ⟨out, a, b, rfl⟩
theorem spans_of {W : World} {v : Value} {u : U} (h : (Sh.slice shSp).holds W u [v]) : ∃ (p : Option Addr) (cap : Nat) (l : List (Int × Int)), v = .slice p l.length cap ∧ l.length ≤ cap ∧ cap ≤ maxLen ∧
    ∀ k x, l[k]? = some x → ∃ b off, p = some ⟨b, off, none⟩ ∧ W.cell? ⟨b, off + k * 2, none⟩ = some (.int .i64 x.1) ∧ W.cell? ⟨b, off + k * 2 + 1, none⟩ = some (.int .i64 x.2) := by
  obtain ⟨p, cap, L, rfl, h1, h2, h3⟩ := elems_of h (by decide)
  obtain ⟨l, hlen, hp⟩ := getElem?_some_of_list (f := fun _ => True) (P := fun k (x : Int × Int) => ∃ b off, p = some ⟨b, off, none⟩ ∧ W.cell? ⟨b, off + k * 2, none⟩ = some (.int .i64 x.1) ∧ W.cell? ⟨b, off + k * 2 + 1, none⟩ = some (.int .i64 x.2)) L.length (fun k hk => by
    obtain ⟨g1, ⟨u, g2⟩, b, off, rfl, hb, hc⟩ := h3 k L[k] (List.getElem?_eq_getElem hk)
    obtain ⟨x, y, e⟩ := span_of g2
    rw [e] at hc
    exact ⟨(x, y), b, off, rfl, (show W.cell? ⟨b, off + (k * 2 + 0), none⟩ = some (.int .i64 x) from hc 0 (by decide)), (show W.cell? ⟨b, off + (k * 2 + 1), none⟩ = some (.int .i64 y) from hc 1 (by decide))⟩)
  exact ⟨p, cap, l, by rw [hlen], by omega, h2, hp⟩
theorem not_pr {a b : Int} (h : ¬ PrS (a, b)) : (mayS (a, b) = false ∨ a = b) ∧ lenS (a, b) = 0 := by
  constructor
  · by_cases hm : mayS (a, b) = true
    · right
      have := (mayS_iff _).1 hm
      by_cases he : a = b
      · exact he
      · exact absurd ⟨this.1, by have := this.2.1; simp only at this ⊢; omega, this.2.2⟩ h
    · left; simpa using hm
  · by_cases he : lenS (a, b) = 0
    · exact he
    · exact absurd (lenS_ne he) h
theorem step_len (out : Bool) {l : List (Int × Int)} (ok : OkL l) (s : Int × Int) : (stepL out l s).length ≤ l.length + 1 := by
  unfold stepL
  split
  · omega
  · rename_i h
    split
    · exact rem_len (lenS_ne h).2.1 ok
    · exact hull_len_add ok (lenS_ne h)
theorem add_all (p : Nat) (q : Option Addr) (cap : Nat) (l : List (Int × Int)) (a b : Int) (w : World) (ok : OkL l) (hl : l.length < 4096) (S : Sep (fpL (rns p q cap l)) w w (rns p q cap l)) :
    Calls Try.prog 15 #[.pointer (at0 p), .agg #[.int .i64 a, .int .i64 b]] w fun e w' => ∃ n c q' c', e = .returned (.tuple #[.int .i64 n, .int .i64 c]) ∧ Sep (fpL (rns p q cap l)) w w' (rns p q' c' (stepL false l (a, b))) := by
  by_cases h : PrS (a, b)
  · have hl2 := hull_len_add ok h
    have e : stepL false l (a, b) = addL l (a, b) := by
      unfold stepL; rw [if_neg (by rw [lenS_of h]; have := h.2.1; simp only at this ⊢; omega)]; rfl
    rw [e]
    refine (add_do p q cap l a b w ok (by omega) h S).mono ?_
    rintro e w' (⟨_, rfl, q', c', T⟩ | ⟨g, _⟩)
    · exact ⟨_, _, q', c', rfl, T⟩
    · omega
  · obtain ⟨h1, h2⟩ := not_pr h
    have e : stepL false l (a, b) = l := by unfold stepL; rw [if_pos h2]
    rw [e]
    refine (add_odd p a b w h1).mono ?_
    rintro e w' ⟨rfl, F⟩
    exact ⟨_, _, q, cap, rfl, S.same F⟩
theorem rem_all2 (p : Nat) (q : Option Addr) (cap : Nat) (l : List (Int × Int)) (a b : Int) (w : World) (ok : OkL l) (hl : l.length < 4096) (S : Sep (fpL (rns p q cap l)) w w (rns p q cap l)) :
    Calls Try.prog 24 #[.pointer (at0 p), .agg #[.int .i64 a, .int .i64 b]] w fun e w' => ∃ n c q' c', e = .returned (.tuple #[.int .i64 n, .int .i64 c]) ∧ Sep (fpL (rns p q cap l)) w w' (rns p q' c' (stepL true l (a, b))) := by
  by_cases h : PrS (a, b)
  · have hl2 := rem_len (s := (a, b)) h.2.1 ok
    have e : stepL true l (a, b) = remL l (a, b) := by
      unfold stepL; rw [if_neg (by rw [lenS_of h]; have := h.2.1; simp only at this ⊢; omega)]; rfl
    rw [e]
    refine (rem_all p q cap l a b w ok (by omega) h S).mono ?_
    rintro e w' (⟨_, rfl, q', c', T⟩ | ⟨g, _⟩)
    · exact ⟨_, _, q', c', rfl, T⟩
    · omega
  · obtain ⟨h1, h2⟩ := not_pr h
    have e : stepL true l (a, b) = l := by unfold stepL; rw [if_pos h2]
    rw [e]
    refine (rem_odd p a b w h1).mono ?_
    rintro e w' ⟨rfl, F⟩
    exact ⟨_, _, q, cap, rfl, S.same F⟩
end Go.Proofs.Ytfobeheplficgaa
