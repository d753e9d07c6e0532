/- The document's numbers: walked. -/
import Derived.Test.YtedogalndhackaaDoorSc0
import Derived.Test.YtedogalndhackaaDoorOc3
import Derived.Test.YtedogalndhackaaDoorEls
import Derived.Test.YtedogalndhackaaDoorRegE
import Derived.Laws.OwnMore
import Derived.Laws.BytesArg
import Derived.BigQuiet
import Derived.IntWalk
import Derived.Lib.Hide
import Derived.Outline
import Derived.Handy
import Derived.WalkKit
import Derived.WalkSpells
import Derived.Deep.LoopGhost
import Derived.Deep.DeepCutAuto
import Derived.Deep.CutRange
import Derived.Deep.CutBlock
set_option linter.unusedVariables false
set_option linter.unusedSimpArgs false
namespace Go.Proofs.YtedogalndhackaaDoor
open Go.RowKit Go.Und
attribute [local go_sem] Oper.semAt_some


abbrev U8T : TypeId := 5
abbrev BlT : TypeId := 28
theorem u8Info : (Tryd.prog.info? U8T).map (fun i => (i.zero, i.size, i.bytes)) = some (some (.int .u8 0), 1, 1) := by kernel_rfl
abbrev brow (q : Option Addr) (cap : Nat) (l : List Int) : Ob := Ob.row 0 U8T 1 (.slice q l.length cap) l.length (fc u8c l)
theorem brow_reads {w : World} {q : Option Addr} {c : Nat} {l : List Int} (h : (brow q c l).ok w) : Reads w 1 q l.length c (fc u8c l) := (Owns.reads (show Owns u8c 1 U8T w _ l from h)).2.1
theorem brow_at0 {w : World} {q : Option Addr} {c : Nat} {l : List Int} (h : (brow q c l).ok w) (h0 : 0 < l.length) : ∃ b, q = some ⟨b, 0, none⟩ := by
  rcases (show Owns u8c 1 U8T w (.slice q l.length c) l from h).2 with ⟨_, h⟩ | ⟨g, cap, cur, h, _⟩
  · omega
  · injection h with h1 h2 h3
    exact ⟨g, h1⟩
theorem brow_lit (w : World) (x : Int) : (brow (some ⟨w.heap.size, 0, none⟩) 1 [x]).ok (w.alloc (.cells #[.int .u8 x] U8T)) :=
  World.ownsRow_lit w _ 1 (Nat.zero_le _) (by unfold maxLen; omega) (by rfl)
theorem fc_u8 (l : List Int) : fc u8c l = l.map (Value.int .u8) := by
  induction l with
  | nil => rfl
  | cons x l ih => rw [fc_cons, ih]; rfl
set_option maxRecDepth 100000 in
/-- A row of bytes, as a string. -/
theorem conv_run {w : World} {q : Option Addr} {c : Nat} {l : List Int} (h : (brow q c l).ok w) : (convert BlT 9 (.slice q l.length c)).run Tryd.prog w = .ok (.string (strOfNums l)) w := by
  by_cases h0 : 0 < l.length
  · obtain ⟨b, rfl⟩ := brow_at0 h h0
    have hr := brow_reads h
    refine run_convert_bytes_arg (P := Tryd.prog) (w := w) BlT U8T Tryd.underlying28 Tryd.underlying5 b 0 l.length c l rfl (fun i hi => ?_) 9 Tryd.underlying9
    have h2 := hr.cell _ rfl i (.int .u8 (l.getD i 0)) (by
      rw [fc_u8, List.getElem?_map, List.getElem?_eq_getElem hi, List.getD_eq_getElem?_getD, List.getElem?_eq_getElem hi]; rfl)
    exact h2
  · have h1 : l = [] := List.length_eq_zero_iff.1 (by omega)
    subst h1
    rcases (show Owns u8c 1 U8T w (.slice q 0 c) [] from h).2 with ⟨e, _⟩ | ⟨g, cap, cur, e, _⟩
    · injection e with h1 h2 h3
      subst h1 h3
      exact run_convert_bytes_nil (P := Tryd.prog) (w := w) BlT U8T Tryd.underlying28 Tryd.underlying5 0 0 9 Tryd.underlying9
    · injection e with h1 h2 h3
      subst h1
      exact run_convert_bytes_arg (P := Tryd.prog) (w := w) BlT U8T Tryd.underlying28 Tryd.underlying5 g 0 0 c [] rfl (fun i hi => by omega) 9 Tryd.underlying9
end Go.Proofs.YtedogalndhackaaDoor
