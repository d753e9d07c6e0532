/- More on ledgers; what Check lets by. -/
import Derived.Test.YtedogalndhackaaDoorOc0
set_option linter.unusedVariables false
set_option linter.unusedSimpArgs false
namespace Go.Und
open Go.RowKit

theorem Sep.did0 {D : Nat → Prop} {w0 w w' : World} {L L' : List Ob} (S : Sep D w0 w L) (S' : Sep (fpL L) w w' L') : Sep D w0 w' L' := by
  have := Sep.did (R := []) (by rwa [List.append_nil]) S'
  rwa [List.append_nil] at this
/-- All new, beside what stands. -/
theorem Sep.beside {D : Nat → Prop} {w0 w w' : World} {R L' : List Ob} (S : Sep D w0 w R) (S' : Sep None w w' L') : Sep D w0 w' (L' ++ R) :=
  Sep.did (L := []) S ⟨S'.fr.mono (fun _ _ h => h.elim), S'.ok, fun o ho k hk => (S'.fp o ho k hk).elim (fun h => h.elim) .inr, S'.apart⟩
theorem Sep.far {D : Nat → Prop} {w0 w : World} {L : List Ob} (S : Sep D w0 w L) {b : Nat} (h : ¬ D b) (hb : b < w0.heap.size) : ¬ fpL L b := fun ⟨o, ho, hk⟩ => (S.fp o ho b hk).elim h (by omega)
theorem Reads.lt {w : World} {size n cap : Nat} {p : Option Addr} {xs : List Value} (h : Reads w size p n cap xs) (h0 : 0 < xs.length) : ∀ ad, p = some ad → ad.block < w.heap.size := fun ad had => by
  have := h.cell ad had 0 xs[0] (List.getElem?_eq_getElem h0)
  exact World.block_lt_of_cell? w ⟨ad.block, ad.off + 0, none⟩ this
theorem check_zero {o : Opt} (h : checkO o = 0) : (0 ≤ o.mss ∧ o.mss ≤ 65535) ∧ (0 ≤ o.scale ∧ o.scale ≤ 14) ∧ o.blocks.length ≤ 4 := by
  unfold checkO at h
  split at h
  · cases h
  split at h
  · cases h
  split at h
  · cases h
  omega
end Go.Und
