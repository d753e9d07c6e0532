/- ScriptApart, as the statement has its arguments. -/
import Derived.Test.YtedogalndhackaaDoorScF
import Derived.Test.YtedogalndhackaaDoorScG
set_option linter.unusedVariables false
set_option linter.unusedSimpArgs false
namespace Go.Proofs.YtedogalndhackaaDoor
open Go.RowKit Go.Und Go.Shelf Go.Sort
theorem scriptApart_walk (w : World) (c0 : Array Value) (u0 : U) (h0 : shLOp.holds w u0 c0.toList) (b0 : shLOp.bounded 1048576 u0) (c1 : Array Value) (u1 : U) (h1 : shLOp.holds w u1 c1.toList) (b1 : shLOp.bounded 1048576 u1) (hT : Tabs w) :
    Calls Tryd.prog 4 #[.agg c0, .agg c1] w fun e w' => e = .returned (.bool true) ∧ Below w.heap.size w w' := by
  obtain ⟨x, e0, hx⟩ := lop_of h0 b0 (by decide)
  obtain ⟨y, e1, hy⟩ := lop_of h1 b1 (by decide)
  obtain rfl : c0 = (opc x).toArray := by rw [← e0]
  obtain rfl : c1 = (opc y).toArray := by rw [← e1]
  exact (apart_walk x y w hT hx hy).mono fun e w' ⟨h, f⟩ => ⟨h, f.none_below⟩
end Go.Proofs.YtedogalndhackaaDoor
