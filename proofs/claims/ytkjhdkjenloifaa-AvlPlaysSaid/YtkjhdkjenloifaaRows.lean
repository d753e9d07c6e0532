/-
  No cell of these rows narrows 'for every input' (looked for: loops, veiled, ifaces, maps, wideKeys, modest, calm, conditions, laid).
  DERIVED. THE GIVEN ROWS OF THIS SEAT. 4 by the template 'for every input the law returns true; each argument reads behind the call as it read before'; 0 by the template 'total and deterministic' (their statements: YtkjhdkjenloifaaTotals.lean).
  GIVEN WITH THE SEED: the statements are not yours to turn. If you find one false, say at which input.
  Laid BY PROGRAM, IN A SANDBOX (cutbox-rows.mjs): the forced cells as the released guide's own fill.sh prints them over the translation c5f2b26062f661a7… (all of the seat's roots in one cut). By AI agents, Wed Nov 11 2026. No macro, syntax, notation, axiom, sorry.
-/
import Derived.Test.YtkjhdkjenloifaaChecked
import GoSem.Claim
import GoSem.ClaimJoined
import GoSem.ClaimMapViews
import Derived.JoinedTies
import Derived.KernelRfl
namespace Go.Proofs.Ytkjhdkjenloifaa
/- THE CELL 'sum', in the pinned program and in every row, IS THE sha256 OF THE DUMP (.gsa) THAT YtkjhdkjenloifaaProg.lean LOADS. Nothing in Lean hashes anything: it is a label: what it is worth is what the hold of that sum in a sandbox is worth. -/
noncomputable def Try.pinned : Pinned := { name := "ytkjhdkjenloifaa", sum := "c5f2b26062f661a75817b21eb465cc84e9f76a84a43cfe0342e1827635ebfff9", checked := Try.checked }
namespace Rows
def none {H : Type} : Left H := { results := [], args := [] }

/-- 'undertowlaw08.AvlLong': WHATEVER THE INPUT: true; the input reads as it did. -/
def avlLongSpec : ChangeSpec := { name := "avlLong", fn := fun _ => fun
  | [d1, d2, d3] => { results := [.lit (.bool true)], args := [d1, d2, d3] }
  | _ => none }
def avlLongRow : OpenClaim := { program := "ytkjhdkjenloifaa", sum := "c5f2b26062f661a75817b21eb465cc84e9f76a84a43cfe0342e1827635ebfff9", func := "undertow/undertowlaw08.AvlLong", spec := "avlLong", recurses := true, apart := false }
def AvlLongSaid : Prop := avlLongRow.holds Try.pinned (OpenSpec.ofChange avlLongSpec)

/-- ITS FALSE NEIGHBOUR: 'it returns false'. Refute it at one input. -/
def avlLongWrong : ChangeSpec := { name := "avlLong", fn := fun _ => fun
  | [d1, d2, d3] => { results := [.lit (.bool false)], args := [d1, d2, d3] }
  | _ => none }
def AvlLongWrongFalsely : Prop := avlLongRow.holds Try.pinned (OpenSpec.ofChange avlLongWrong)

/-- 'undertowlaw08.AvlBalanced': WHATEVER THE INPUT: true; the input reads as it did. -/
def avlBalancedSpec : ChangeSpec := { name := "avlBalanced", fn := fun _ => fun
  | [d] => { results := [.lit (.bool true)], args := [d] }
  | _ => none }
def avlBalancedRow : OpenClaim := { program := "ytkjhdkjenloifaa", sum := "c5f2b26062f661a75817b21eb465cc84e9f76a84a43cfe0342e1827635ebfff9", func := "undertow/undertowlaw08.AvlBalanced", spec := "avlBalanced", recurses := true, apart := false }
def AvlBalancedSaid : Prop := avlBalancedRow.holds Try.pinned (OpenSpec.ofChange avlBalancedSpec)

/-- ITS FALSE NEIGHBOUR: 'it returns false'. Refute it at one input. -/
def avlBalancedWrong : ChangeSpec := { name := "avlBalanced", fn := fun _ => fun
  | [d] => { results := [.lit (.bool false)], args := [d] }
  | _ => none }
def AvlBalancedWrongFalsely : Prop := avlBalancedRow.holds Try.pinned (OpenSpec.ofChange avlBalancedWrong)

/-- 'undertowlaw08.AvlFinds': WHATEVER THE INPUT: true; the input reads as it did. -/
def avlFindsSpec : ChangeSpec := { name := "avlFinds", fn := fun _ => fun
  | [d1, d2, d3] => { results := [.lit (.bool true)], args := [d1, d2, d3] }
  | _ => none }
def avlFindsRow : OpenClaim := { program := "ytkjhdkjenloifaa", sum := "c5f2b26062f661a75817b21eb465cc84e9f76a84a43cfe0342e1827635ebfff9", func := "undertow/undertowlaw08.AvlFinds", spec := "avlFinds", unfollowed := true, recurses := true, apart := false }
def AvlFindsSaid : Prop := avlFindsRow.holds Try.pinned (OpenSpec.ofChange avlFindsSpec)

/-- ITS FALSE NEIGHBOUR: 'it returns false'. Refute it at one input. -/
def avlFindsWrong : ChangeSpec := { name := "avlFinds", fn := fun _ => fun
  | [d1, d2, d3] => { results := [.lit (.bool false)], args := [d1, d2, d3] }
  | _ => none }
def AvlFindsWrongFalsely : Prop := avlFindsRow.holds Try.pinned (OpenSpec.ofChange avlFindsWrong)

/-- 'undertowlaw08.AvlPlays': WHATEVER THE INPUT: true; the input reads as it did. -/
def avlPlaysSpec : ChangeSpec := { name := "avlPlays", fn := fun _ => fun
  | [d1, d2] => { results := [.lit (.bool true)], args := [d1, d2] }
  | _ => none }
def avlPlaysRow : OpenClaim := { program := "ytkjhdkjenloifaa", sum := "c5f2b26062f661a75817b21eb465cc84e9f76a84a43cfe0342e1827635ebfff9", func := "undertow/undertowlaw08.AvlPlays", spec := "avlPlays", unfollowed := true, recurses := true, apart := false }
def AvlPlaysSaid : Prop := avlPlaysRow.holds Try.pinned (OpenSpec.ofChange avlPlaysSpec)

/-- ITS FALSE NEIGHBOUR: 'it returns false'. Refute it at one input. -/
def avlPlaysWrong : ChangeSpec := { name := "avlPlays", fn := fun _ => fun
  | [d1, d2] => { results := [.lit (.bool false)], args := [d1, d2] }
  | _ => none }
def AvlPlaysWrongFalsely : Prop := avlPlaysRow.holds Try.pinned (OpenSpec.ofChange avlPlaysWrong)

/- THE SECOND FORM. 'bulk': how many values and letters a reading holds, each counted each time it is reached (what is shared counts as often as it is met; a slice's spare places count too). A statement '..UptoSaid' is the law's where the arguments, and the package variables that the reading takes, are together of bulk at most 1048576: NARROWER than '..Said'. Prove '..Said' where nothing that the law and all that it calls make is longer than what came in: it says more and counts as full. Else prove '..UptoSaid'. A law counts once. -/
mutual
def uptoBulk {H : Type} : DataW H → Nat
  | .lit (.string bytes) => bytes.length + 1
  | .lit _ => 1
  | .nil => 1
  | .ptr d => uptoBulk d + 1
  | .slice elems spare => uptoBulkAll elems + uptoBulkAll spare + 1
  | .agg parts => uptoBulkAll parts + 1
  | .iface _ d => uptoBulk d + 1
  | .map entries => uptoBulkEntries entries + 1
  | .held _ => 1
def uptoBulkAll {H : Type} : List (DataW H) → Nat
  | [] => 0
  | d :: r => uptoBulk d + uptoBulkAll r
def uptoBulkEntries {H : Type} : List (Lit × DataW H) → Nat
  | [] => 0
  | x :: r => uptoBulkEntry x + uptoBulkEntries r
def uptoBulkEntry {H : Type} : Lit × DataW H → Nat
  | (.string bytes, d) => bytes.length + uptoBulk d + 1
  | (_, d) => uptoBulk d + 1
 end
def uptoSmall : (H : Type) → List (DataW H) → Bool := fun _ ds => decide (uptoBulkAll ds ≤ 1048576)
def OpenSpec.upto (s : _root_.Go.ChangeSpec) : _root_.Go.OpenSpec := { _root_.Go.OpenSpec.ofChange s with cond := some uptoSmall }

/-- 'undertowlaw08.AvlLong', WHERE WHAT IT READS IS OF BULK AT MOST 1048576: true; the input reads as it did. -/
def avlLongUptoRow : OpenClaim := { program := "ytkjhdkjenloifaa", sum := "c5f2b26062f661a75817b21eb465cc84e9f76a84a43cfe0342e1827635ebfff9", func := "undertow/undertowlaw08.AvlLong", spec := "avlLong", recurses := true, apart := false, narrowed := true }
def AvlLongUptoSaid : Prop := avlLongUptoRow.holds Try.pinned (OpenSpec.upto avlLongSpec)

/-- 'undertowlaw08.AvlBalanced', WHERE WHAT IT READS IS OF BULK AT MOST 1048576: true; the input reads as it did. -/
def avlBalancedUptoRow : OpenClaim := { program := "ytkjhdkjenloifaa", sum := "c5f2b26062f661a75817b21eb465cc84e9f76a84a43cfe0342e1827635ebfff9", func := "undertow/undertowlaw08.AvlBalanced", spec := "avlBalanced", recurses := true, apart := false, narrowed := true }
def AvlBalancedUptoSaid : Prop := avlBalancedUptoRow.holds Try.pinned (OpenSpec.upto avlBalancedSpec)

/-- 'undertowlaw08.AvlFinds', WHERE WHAT IT READS IS OF BULK AT MOST 1048576: true; the input reads as it did. -/
def avlFindsUptoRow : OpenClaim := { program := "ytkjhdkjenloifaa", sum := "c5f2b26062f661a75817b21eb465cc84e9f76a84a43cfe0342e1827635ebfff9", func := "undertow/undertowlaw08.AvlFinds", spec := "avlFinds", unfollowed := true, recurses := true, apart := false, narrowed := true }
def AvlFindsUptoSaid : Prop := avlFindsUptoRow.holds Try.pinned (OpenSpec.upto avlFindsSpec)

/-- 'undertowlaw08.AvlPlays', WHERE WHAT IT READS IS OF BULK AT MOST 1048576: true; the input reads as it did. -/
def avlPlaysUptoRow : OpenClaim := { program := "ytkjhdkjenloifaa", sum := "c5f2b26062f661a75817b21eb465cc84e9f76a84a43cfe0342e1827635ebfff9", func := "undertow/undertowlaw08.AvlPlays", spec := "avlPlays", unfollowed := true, recurses := true, apart := false, narrowed := true }
def AvlPlaysUptoSaid : Prop := avlPlaysUptoRow.holds Try.pinned (OpenSpec.upto avlPlaysSpec)

end Rows
end Go.Proofs.Ytkjhdkjenloifaa
