/-
  No cell of these rows narrows 'for every input' (looked for: loops, veiled, ifaces, maps, wideKeys, modest, calm, conditions, laid).
  DERIVED. THE GIVEN ROWS OF THIS SEAT. 6 by the template 'for every input the law returns true; each argument reads behind the call as it read before'; 0 by the template 'total and deterministic' (their statements: YthkhfijfgpccbaaTotals.lean).
  GIVEN WITH THE SEED: the statements are not yours to turn. If you find one false, say at which input.
  Laid BY PROGRAM, IN A SANDBOX (cutbox-rows.mjs): the forced cells as the released guide's own fill.sh prints them over the translation c86ab74912bbde67… (all of the seat's roots in one cut). By AI agents, Wed Nov 11 2026. No macro, syntax, notation, axiom, sorry.
-/
import Derived.Test.YthkhfijfgpccbaaChecked
import GoSem.Claim
import GoSem.ClaimJoined
import GoSem.ClaimMapViews
import Derived.JoinedTies
import Derived.KernelRfl
namespace Go.Proofs.Ythkhfijfgpccbaa
/- THE CELL 'sum', in the pinned program and in every row, IS THE sha256 OF THE DUMP (.gsa) THAT YthkhfijfgpccbaaProg.lean LOADS. Nothing in Lean hashes anything: it is a label: what it is worth is what the hold of that sum in a sandbox is worth. -/
noncomputable def Try.pinned : Pinned := { name := "ythkhfijfgpccbaa", sum := "c86ab74912bbde67521592398aaaf94f59b5b20bd91fe827dc0f45b8cf4b9dd8", checked := Try.checked }
namespace Rows
def none {H : Type} : Left H := { results := [], args := [] }

/-- 'undertowlaw04.OptionBack': WHATEVER THE INPUT: true; the input reads as it did. -/
def optionBackSpec : ChangeSpec := { name := "optionBack", fn := fun _ => fun
  | [d] => { results := [.lit (.bool true)], args := [d] }
  | _ => none }
def optionBackRow : OpenClaim := { program := "ythkhfijfgpccbaa", sum := "c86ab74912bbde67521592398aaaf94f59b5b20bd91fe827dc0f45b8cf4b9dd8", func := "undertow/undertowlaw04.OptionBack", spec := "optionBack", unfollowed := true, recurses := true, apart := false }
def OptionBackSaid : Prop := optionBackRow.holds Try.pinned (OpenSpec.ofChange optionBackSpec)

/-- ITS FALSE NEIGHBOUR: 'it returns false'. Refute it at one input. -/
def optionBackWrong : ChangeSpec := { name := "optionBack", fn := fun _ => fun
  | [d] => { results := [.lit (.bool false)], args := [d] }
  | _ => none }
def OptionBackWrongFalsely : Prop := optionBackRow.holds Try.pinned (OpenSpec.ofChange optionBackWrong)

/-- 'undertowlaw04.OptionSkips': WHATEVER THE INPUT: true; the input reads as it did. -/
def optionSkipsSpec : ChangeSpec := { name := "optionSkips", fn := fun _ => fun
  | [d1, d2, d3, d4] => { results := [.lit (.bool true)], args := [d1, d2, d3, d4] }
  | _ => none }
def optionSkipsRow : OpenClaim := { program := "ythkhfijfgpccbaa", sum := "c86ab74912bbde67521592398aaaf94f59b5b20bd91fe827dc0f45b8cf4b9dd8", func := "undertow/undertowlaw04.OptionSkips", spec := "optionSkips", unfollowed := true, recurses := true, apart := false }
def OptionSkipsSaid : Prop := optionSkipsRow.holds Try.pinned (OpenSpec.ofChange optionSkipsSpec)

/-- ITS FALSE NEIGHBOUR: 'it returns false'. Refute it at one input. -/
def optionSkipsWrong : ChangeSpec := { name := "optionSkips", fn := fun _ => fun
  | [d1, d2, d3, d4] => { results := [.lit (.bool false)], args := [d1, d2, d3, d4] }
  | _ => none }
def OptionSkipsWrongFalsely : Prop := optionSkipsRow.holds Try.pinned (OpenSpec.ofChange optionSkipsWrong)

/-- 'undertowlaw04.OptionMay': WHATEVER THE INPUT: true; the input reads as it did. -/
def optionMaySpec : ChangeSpec := { name := "optionMay", fn := fun _ => fun
  | [d] => { results := [.lit (.bool true)], args := [d] }
  | _ => none }
def optionMayRow : OpenClaim := { program := "ythkhfijfgpccbaa", sum := "c86ab74912bbde67521592398aaaf94f59b5b20bd91fe827dc0f45b8cf4b9dd8", func := "undertow/undertowlaw04.OptionMay", spec := "optionMay", unfollowed := true, recurses := true, apart := false }
def OptionMaySaid : Prop := optionMayRow.holds Try.pinned (OpenSpec.ofChange optionMaySpec)

/-- ITS FALSE NEIGHBOUR: 'it returns false'. Refute it at one input. -/
def optionMayWrong : ChangeSpec := { name := "optionMay", fn := fun _ => fun
  | [d] => { results := [.lit (.bool false)], args := [d] }
  | _ => none }
def OptionMayWrongFalsely : Prop := optionMayRow.holds Try.pinned (OpenSpec.ofChange optionMayWrong)

/-- 'undertowlaw05.SegmentTold': WHATEVER THE INPUT: true; the input reads as it did. -/
def segmentToldSpec : ChangeSpec := { name := "segmentTold", fn := fun _ => fun
  | [d1, d2, d3] => { results := [.lit (.bool true)], args := [d1, d2, d3] }
  | _ => none }
def segmentToldRow : OpenClaim := { program := "ythkhfijfgpccbaa", sum := "c86ab74912bbde67521592398aaaf94f59b5b20bd91fe827dc0f45b8cf4b9dd8", func := "undertow/undertowlaw05.SegmentTold", spec := "segmentTold", unfollowed := true, recurses := true, apart := false }
def SegmentToldSaid : Prop := segmentToldRow.holds Try.pinned (OpenSpec.ofChange segmentToldSpec)

/-- ITS FALSE NEIGHBOUR: 'it returns false'. Refute it at one input. -/
def segmentToldWrong : ChangeSpec := { name := "segmentTold", fn := fun _ => fun
  | [d1, d2, d3] => { results := [.lit (.bool false)], args := [d1, d2, d3] }
  | _ => none }
def SegmentToldWrongFalsely : Prop := segmentToldRow.holds Try.pinned (OpenSpec.ofChange segmentToldWrong)

/-- 'undertowlaw05.SegmentBack': WHATEVER THE INPUT: true; the input reads as it did. -/
def segmentBackSpec : ChangeSpec := { name := "segmentBack", fn := fun _ => fun
  | [d] => { results := [.lit (.bool true)], args := [d] }
  | _ => none }
def segmentBackRow : OpenClaim := { program := "ythkhfijfgpccbaa", sum := "c86ab74912bbde67521592398aaaf94f59b5b20bd91fe827dc0f45b8cf4b9dd8", func := "undertow/undertowlaw05.SegmentBack", spec := "segmentBack", unfollowed := true, recurses := true, apart := false }
def SegmentBackSaid : Prop := segmentBackRow.holds Try.pinned (OpenSpec.ofChange segmentBackSpec)

/-- ITS FALSE NEIGHBOUR: 'it returns false'. Refute it at one input. -/
def segmentBackWrong : ChangeSpec := { name := "segmentBack", fn := fun _ => fun
  | [d] => { results := [.lit (.bool false)], args := [d] }
  | _ => none }
def SegmentBackWrongFalsely : Prop := segmentBackRow.holds Try.pinned (OpenSpec.ofChange segmentBackWrong)

/-- 'undertowlaw05.SegmentEncodes': WHATEVER THE INPUT: true; the input reads as it did. -/
def segmentEncodesSpec : ChangeSpec := { name := "segmentEncodes", fn := fun _ => fun
  | [d1, d2] => { results := [.lit (.bool true)], args := [d1, d2] }
  | _ => none }
def segmentEncodesRow : OpenClaim := { program := "ythkhfijfgpccbaa", sum := "c86ab74912bbde67521592398aaaf94f59b5b20bd91fe827dc0f45b8cf4b9dd8", func := "undertow/undertowlaw05.SegmentEncodes", spec := "segmentEncodes", unfollowed := true, recurses := true, apart := false }
def SegmentEncodesSaid : Prop := segmentEncodesRow.holds Try.pinned (OpenSpec.ofChange segmentEncodesSpec)

/-- ITS FALSE NEIGHBOUR: 'it returns false'. Refute it at one input. -/
def segmentEncodesWrong : ChangeSpec := { name := "segmentEncodes", fn := fun _ => fun
  | [d1, d2] => { results := [.lit (.bool false)], args := [d1, d2] }
  | _ => none }
def SegmentEncodesWrongFalsely : Prop := segmentEncodesRow.holds Try.pinned (OpenSpec.ofChange segmentEncodesWrong)

/- THE SECOND FORM. 'bulk': how many values and letters a reading holds, each counted each time it is reached (what is shared counts as often as it is met; a slice's spare places count too). A statement '..UptoSaid' is the law's where the arguments, and the package variables that the reading takes, are together of bulk at most 1048576: NARROWER than '..Said'. Prove '..Said' where nothing that the law and all that it calls make is longer than what came in: it says more and counts as full. Else prove '..UptoSaid'. A law counts once. -/
mutual
def uptoBulk {H : Type} : DataW H → Nat
  | .lit (.string bytes) => bytes.length + 1
  | .lit _ => 1
  | .nil => 1
  | .ptr d => uptoBulk d + 1
  | .slice elems spare => uptoBulkAll elems + uptoBulkAll spare + 1
  | .agg parts => uptoBulkAll parts + 1
  | .iface _ d => uptoBulk d + 1
  | .map entries => uptoBulkEntries entries + 1
  | .held _ => 1
def uptoBulkAll {H : Type} : List (DataW H) → Nat
  | [] => 0
  | d :: r => uptoBulk d + uptoBulkAll r
def uptoBulkEntries {H : Type} : List (Lit × DataW H) → Nat
  | [] => 0
  | x :: r => uptoBulkEntry x + uptoBulkEntries r
def uptoBulkEntry {H : Type} : Lit × DataW H → Nat
  | (.string bytes, d) => bytes.length + uptoBulk d + 1
  | (_, d) => uptoBulk d + 1
 end
def uptoSmall : (H : Type) → List (DataW H) → Bool := fun _ ds => decide (uptoBulkAll ds ≤ 1048576)
def OpenSpec.upto (s : _root_.Go.ChangeSpec) : _root_.Go.OpenSpec := { _root_.Go.OpenSpec.ofChange s with cond := some uptoSmall }

/-- 'undertowlaw04.OptionBack', WHERE WHAT IT READS IS OF BULK AT MOST 1048576: true; the input reads as it did. -/
def optionBackUptoRow : OpenClaim := { program := "ythkhfijfgpccbaa", sum := "c86ab74912bbde67521592398aaaf94f59b5b20bd91fe827dc0f45b8cf4b9dd8", func := "undertow/undertowlaw04.OptionBack", spec := "optionBack", unfollowed := true, recurses := true, apart := false, narrowed := true }
def OptionBackUptoSaid : Prop := optionBackUptoRow.holds Try.pinned (OpenSpec.upto optionBackSpec)

/-- 'undertowlaw04.OptionSkips', WHERE WHAT IT READS IS OF BULK AT MOST 1048576: true; the input reads as it did. -/
def optionSkipsUptoRow : OpenClaim := { program := "ythkhfijfgpccbaa", sum := "c86ab74912bbde67521592398aaaf94f59b5b20bd91fe827dc0f45b8cf4b9dd8", func := "undertow/undertowlaw04.OptionSkips", spec := "optionSkips", unfollowed := true, recurses := true, apart := false, narrowed := true }
def OptionSkipsUptoSaid : Prop := optionSkipsUptoRow.holds Try.pinned (OpenSpec.upto optionSkipsSpec)

/-- 'undertowlaw04.OptionMay', WHERE WHAT IT READS IS OF BULK AT MOST 1048576: true; the input reads as it did. -/
def optionMayUptoRow : OpenClaim := { program := "ythkhfijfgpccbaa", sum := "c86ab74912bbde67521592398aaaf94f59b5b20bd91fe827dc0f45b8cf4b9dd8", func := "undertow/undertowlaw04.OptionMay", spec := "optionMay", unfollowed := true, recurses := true, apart := false, narrowed := true }
def OptionMayUptoSaid : Prop := optionMayUptoRow.holds Try.pinned (OpenSpec.upto optionMaySpec)

/-- 'undertowlaw05.SegmentTold', WHERE WHAT IT READS IS OF BULK AT MOST 1048576: true; the input reads as it did. -/
def segmentToldUptoRow : OpenClaim := { program := "ythkhfijfgpccbaa", sum := "c86ab74912bbde67521592398aaaf94f59b5b20bd91fe827dc0f45b8cf4b9dd8", func := "undertow/undertowlaw05.SegmentTold", spec := "segmentTold", unfollowed := true, recurses := true, apart := false, narrowed := true }
def SegmentToldUptoSaid : Prop := segmentToldUptoRow.holds Try.pinned (OpenSpec.upto segmentToldSpec)

/-- 'undertowlaw05.SegmentBack', WHERE WHAT IT READS IS OF BULK AT MOST 1048576: true; the input reads as it did. -/
def segmentBackUptoRow : OpenClaim := { program := "ythkhfijfgpccbaa", sum := "c86ab74912bbde67521592398aaaf94f59b5b20bd91fe827dc0f45b8cf4b9dd8", func := "undertow/undertowlaw05.SegmentBack", spec := "segmentBack", unfollowed := true, recurses := true, apart := false, narrowed := true }
def SegmentBackUptoSaid : Prop := segmentBackUptoRow.holds Try.pinned (OpenSpec.upto segmentBackSpec)

/-- 'undertowlaw05.SegmentEncodes', WHERE WHAT IT READS IS OF BULK AT MOST 1048576: true; the input reads as it did. -/
def segmentEncodesUptoRow : OpenClaim := { program := "ythkhfijfgpccbaa", sum := "c86ab74912bbde67521592398aaaf94f59b5b20bd91fe827dc0f45b8cf4b9dd8", func := "undertow/undertowlaw05.SegmentEncodes", spec := "segmentEncodes", unfollowed := true, recurses := true, apart := false, narrowed := true }
def SegmentEncodesUptoSaid : Prop := segmentEncodesUptoRow.holds Try.pinned (OpenSpec.upto segmentEncodesSpec)

end Rows
end Go.Proofs.Ythkhfijfgpccbaa
