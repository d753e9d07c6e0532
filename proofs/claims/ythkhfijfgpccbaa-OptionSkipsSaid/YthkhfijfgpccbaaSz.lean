/- A slice that came in lies within the form's reach. -/
import Derived.Deep.Slices
import Derived.SizedLaws
set_option linter.unusedVariables false
set_option linter.unusedSimpArgs false
namespace Go.Und
open Go Go.Deep

theorem len_sized {H : Type} {enc : TypeId × Value → H} {P : Program} {w : World} {base : Nat} {spare : Nat → Bool} {held : Bool} {ts : List TypeId} {ds : List (DataW H)} {v : Value} {d : DataW H} {p : List MemPlace}
    (hsz : (DataW.weightsEach P ts ds).all (· ≤ reachBytes) = true) {j : Nat} {t e : TypeId} (ht : ts[j]? = some t) (hd : ds[j]? = some d) (hu : P.underlying t = some (.slice e)) (h : DataW.Trod enc P w base spare held t v d p) :
    ∀ a n c, v = .slice a n c → n * P.bytesOf e ≤ reachBytes := by
  rintro a n c rfl
  obtain ⟨m, hm⟩ := h
  rcases open_slice hu hm with ⟨hc, hx⟩ | ⟨ad, len, cap, m', n', D, Pl, hc, _, hl, _, hmm, hx, _⟩
  · simp [Value.cells] at hc
    rw [hc.2.1]; simp
  · simp [Value.cells] at hc
    obtain ⟨rfl, rfl, rfl⟩ := hc
    simp only [Prod.mk.injEq] at hx
    obtain ⟨rfl, rfl⟩ := hx
    have h1 := sized_slice hsz ht hd hu
    refine Nat.le_trans (Nat.mul_le_mul_right _ ?_) h1
    simp
end Go.Und
