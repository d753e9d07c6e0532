/-
  No cell of these rows narrows 'for every input' (looked for: loops, veiled, ifaces, maps, wideKeys, modest, calm, conditions, laid).
  DERIVED. THE GIVEN ROWS OF THIS SEAT. 7 by the template 'for every input the law returns true; each argument reads behind the call as it read before'; 0 by the template 'total and deterministic' (their statements: YtckbeppofnnfkaaTotals.lean).
  GIVEN WITH THE SEED: the statements are not yours to turn. If you find one false, say at which input.
  Laid BY PROGRAM, IN A SANDBOX (cutbox-rows.mjs): the forced cells as the released guide's own fill.sh prints them over the translation ed72b9350359d6b8… (all of the seat's roots in one cut). By AI agents, Wed Nov 11 2026. No macro, syntax, notation, axiom, sorry.
-/
import Derived.Test.YtckbeppofnnfkaaChecked
import GoSem.Claim
import GoSem.ClaimJoined
import GoSem.ClaimMapViews
import Derived.JoinedTies
import Derived.KernelRfl
namespace Go.Proofs.Ytckbeppofnnfkaa
/- THE CELL 'sum', in the pinned program and in every row, IS THE sha256 OF THE DUMP (.gsa) THAT YtckbeppofnnfkaaProg.lean LOADS. Nothing in Lean hashes anything: it is a label: what it is worth is what the hold of that sum in a sandbox is worth. -/
noncomputable def Try.pinned : Pinned := { name := "ytckbeppofnnfkaa", sum := "ed72b9350359d6b80394d218fabea7cbc0b7eb77f23a338d39a1503d448022a1", checked := Try.checked }
namespace Rows
def none {H : Type} : Left H := { results := [], args := [] }

/-- 'undertowlaw15.RackFloor': WHATEVER THE INPUT: true; the input reads as it did. -/
def rackFloorSpec : ChangeSpec := { name := "rackFloor", fn := fun _ => fun
  | [d1, d2, d3, d4, d5, d6] => { results := [.lit (.bool true)], args := [d1, d2, d3, d4, d5, d6] }
  | _ => none }
def rackFloorRow : OpenClaim := { program := "ytckbeppofnnfkaa", sum := "ed72b9350359d6b80394d218fabea7cbc0b7eb77f23a338d39a1503d448022a1", func := "undertow/undertowlaw15.RackFloor", spec := "rackFloor", unfollowed := true, recurses := true, apart := false }
def RackFloorSaid : Prop := rackFloorRow.holds Try.pinned (OpenSpec.ofChange rackFloorSpec)

/-- ITS FALSE NEIGHBOUR: 'it returns false'. Refute it at one input. -/
def rackFloorWrong : ChangeSpec := { name := "rackFloor", fn := fun _ => fun
  | [d1, d2, d3, d4, d5, d6] => { results := [.lit (.bool false)], args := [d1, d2, d3, d4, d5, d6] }
  | _ => none }
def RackFloorWrongFalsely : Prop := rackFloorRow.holds Try.pinned (OpenSpec.ofChange rackFloorWrong)

/-- 'undertowlaw15.RackLate': WHATEVER THE INPUT: true; the input reads as it did. -/
def rackLateSpec : ChangeSpec := { name := "rackLate", fn := fun _ => fun
  | [d1, d2, d3, d4] => { results := [.lit (.bool true)], args := [d1, d2, d3, d4] }
  | _ => none }
def rackLateRow : OpenClaim := { program := "ytckbeppofnnfkaa", sum := "ed72b9350359d6b80394d218fabea7cbc0b7eb77f23a338d39a1503d448022a1", func := "undertow/undertowlaw15.RackLate", spec := "rackLate", unfollowed := true, recurses := true, apart := false }
def RackLateSaid : Prop := rackLateRow.holds Try.pinned (OpenSpec.ofChange rackLateSpec)

/-- ITS FALSE NEIGHBOUR: 'it returns false'. Refute it at one input. -/
def rackLateWrong : ChangeSpec := { name := "rackLate", fn := fun _ => fun
  | [d1, d2, d3, d4] => { results := [.lit (.bool false)], args := [d1, d2, d3, d4] }
  | _ => none }
def RackLateWrongFalsely : Prop := rackLateRow.holds Try.pinned (OpenSpec.ofChange rackLateWrong)

/-- 'undertowlaw15.RackHaste': WHATEVER THE INPUT: true; the input reads as it did. -/
def rackHasteSpec : ChangeSpec := { name := "rackHaste", fn := fun _ => fun
  | [d1, d2, d3, d4] => { results := [.lit (.bool true)], args := [d1, d2, d3, d4] }
  | _ => none }
def rackHasteRow : OpenClaim := { program := "ytckbeppofnnfkaa", sum := "ed72b9350359d6b80394d218fabea7cbc0b7eb77f23a338d39a1503d448022a1", func := "undertow/undertowlaw15.RackHaste", spec := "rackHaste", unfollowed := true, recurses := true, apart := false }
def RackHasteSaid : Prop := rackHasteRow.holds Try.pinned (OpenSpec.ofChange rackHasteSpec)

/-- ITS FALSE NEIGHBOUR: 'it returns false'. Refute it at one input. -/
def rackHasteWrong : ChangeSpec := { name := "rackHaste", fn := fun _ => fun
  | [d1, d2, d3, d4] => { results := [.lit (.bool false)], args := [d1, d2, d3, d4] }
  | _ => none }
def RackHasteWrongFalsely : Prop := rackHasteRow.holds Try.pinned (OpenSpec.ofChange rackHasteWrong)

/-- 'undertowlaw15.RackNone': WHATEVER THE INPUT: true; the input reads as it did. -/
def rackNoneSpec : ChangeSpec := { name := "rackNone", fn := fun _ => fun
  | [d1, d2] => { results := [.lit (.bool true)], args := [d1, d2] }
  | _ => none }
def rackNoneRow : OpenClaim := { program := "ytckbeppofnnfkaa", sum := "ed72b9350359d6b80394d218fabea7cbc0b7eb77f23a338d39a1503d448022a1", func := "undertow/undertowlaw15.RackNone", spec := "rackNone", unfollowed := true, recurses := true, apart := false }
def RackNoneSaid : Prop := rackNoneRow.holds Try.pinned (OpenSpec.ofChange rackNoneSpec)

/-- ITS FALSE NEIGHBOUR: 'it returns false'. Refute it at one input. -/
def rackNoneWrong : ChangeSpec := { name := "rackNone", fn := fun _ => fun
  | [d1, d2] => { results := [.lit (.bool false)], args := [d1, d2] }
  | _ => none }
def RackNoneWrongFalsely : Prop := rackNoneRow.holds Try.pinned (OpenSpec.ofChange rackNoneWrong)

/-- 'undertowlaw09.BoardCounts': WHATEVER THE INPUT: true; the input reads as it did. -/
def boardCountsSpec : ChangeSpec := { name := "boardCounts", fn := fun _ => fun
  | [d1, d2] => { results := [.lit (.bool true)], args := [d1, d2] }
  | _ => none }
def boardCountsRow : OpenClaim := { program := "ytckbeppofnnfkaa", sum := "ed72b9350359d6b80394d218fabea7cbc0b7eb77f23a338d39a1503d448022a1", func := "undertow/undertowlaw09.BoardCounts", spec := "boardCounts", unfollowed := true, recurses := true, apart := false }
def BoardCountsSaid : Prop := boardCountsRow.holds Try.pinned (OpenSpec.ofChange boardCountsSpec)

/-- ITS FALSE NEIGHBOUR: 'it returns false'. Refute it at one input. -/
def boardCountsWrong : ChangeSpec := { name := "boardCounts", fn := fun _ => fun
  | [d1, d2] => { results := [.lit (.bool false)], args := [d1, d2] }
  | _ => none }
def BoardCountsWrongFalsely : Prop := boardCountsRow.holds Try.pinned (OpenSpec.ofChange boardCountsWrong)

/-- 'undertowlaw09.BoardOrder': WHATEVER THE INPUT: true; the input reads as it did. -/
def boardOrderSpec : ChangeSpec := { name := "boardOrder", fn := fun _ => fun
  | [d1, d2, d3] => { results := [.lit (.bool true)], args := [d1, d2, d3] }
  | _ => none }
def boardOrderRow : OpenClaim := { program := "ytckbeppofnnfkaa", sum := "ed72b9350359d6b80394d218fabea7cbc0b7eb77f23a338d39a1503d448022a1", func := "undertow/undertowlaw09.BoardOrder", spec := "boardOrder", unfollowed := true, recurses := true, apart := false }
def BoardOrderSaid : Prop := boardOrderRow.holds Try.pinned (OpenSpec.ofChange boardOrderSpec)

/-- ITS FALSE NEIGHBOUR: 'it returns false'. Refute it at one input. -/
def boardOrderWrong : ChangeSpec := { name := "boardOrder", fn := fun _ => fun
  | [d1, d2, d3] => { results := [.lit (.bool false)], args := [d1, d2, d3] }
  | _ => none }
def BoardOrderWrongFalsely : Prop := boardOrderRow.holds Try.pinned (OpenSpec.ofChange boardOrderWrong)

/-- 'undertowlaw14.BookNone': WHATEVER THE INPUT: true; the input reads as it did. -/
def bookNoneSpec : ChangeSpec := { name := "bookNone", fn := fun _ => fun
  | [d1, d2] => { results := [.lit (.bool true)], args := [d1, d2] }
  | _ => none }
def bookNoneRow : OpenClaim := { program := "ytckbeppofnnfkaa", sum := "ed72b9350359d6b80394d218fabea7cbc0b7eb77f23a338d39a1503d448022a1", func := "undertow/undertowlaw14.BookNone", spec := "bookNone", unfollowed := true, recurses := true, apart := false }
def BookNoneSaid : Prop := bookNoneRow.holds Try.pinned (OpenSpec.ofChange bookNoneSpec)

/-- ITS FALSE NEIGHBOUR: 'it returns false'. Refute it at one input. -/
def bookNoneWrong : ChangeSpec := { name := "bookNone", fn := fun _ => fun
  | [d1, d2] => { results := [.lit (.bool false)], args := [d1, d2] }
  | _ => none }
def BookNoneWrongFalsely : Prop := bookNoneRow.holds Try.pinned (OpenSpec.ofChange bookNoneWrong)

/- THE SECOND FORM. 'bulk': how many values and letters a reading holds, each counted each time it is reached (what is shared counts as often as it is met; a slice's spare places count too). A statement '..UptoSaid' is the law's where the arguments, and the package variables that the reading takes, are together of bulk at most 1048576: NARROWER than '..Said'. Prove '..Said' where nothing that the law and all that it calls make is longer than what came in: it says more and counts as full. Else prove '..UptoSaid'. A law counts once. -/
mutual
def uptoBulk {H : Type} : DataW H → Nat
  | .lit (.string bytes) => bytes.length + 1
  | .lit _ => 1
  | .nil => 1
  | .ptr d => uptoBulk d + 1
  | .slice elems spare => uptoBulkAll elems + uptoBulkAll spare + 1
  | .agg parts => uptoBulkAll parts + 1
  | .iface _ d => uptoBulk d + 1
  | .map entries => uptoBulkEntries entries + 1
  | .held _ => 1
def uptoBulkAll {H : Type} : List (DataW H) → Nat
  | [] => 0
  | d :: r => uptoBulk d + uptoBulkAll r
def uptoBulkEntries {H : Type} : List (Lit × DataW H) → Nat
  | [] => 0
  | x :: r => uptoBulkEntry x + uptoBulkEntries r
def uptoBulkEntry {H : Type} : Lit × DataW H → Nat
  | (.string bytes, d) => bytes.length + uptoBulk d + 1
  | (_, d) => uptoBulk d + 1
 end
def uptoSmall : (H : Type) → List (DataW H) → Bool := fun _ ds => decide (uptoBulkAll ds ≤ 1048576)
def OpenSpec.upto (s : _root_.Go.ChangeSpec) : _root_.Go.OpenSpec := { _root_.Go.OpenSpec.ofChange s with cond := some uptoSmall }

/-- 'undertowlaw15.RackFloor', WHERE WHAT IT READS IS OF BULK AT MOST 1048576: true; the input reads as it did. -/
def rackFloorUptoRow : OpenClaim := { program := "ytckbeppofnnfkaa", sum := "ed72b9350359d6b80394d218fabea7cbc0b7eb77f23a338d39a1503d448022a1", func := "undertow/undertowlaw15.RackFloor", spec := "rackFloor", unfollowed := true, recurses := true, apart := false, narrowed := true }
def RackFloorUptoSaid : Prop := rackFloorUptoRow.holds Try.pinned (OpenSpec.upto rackFloorSpec)

/-- 'undertowlaw15.RackLate', WHERE WHAT IT READS IS OF BULK AT MOST 1048576: true; the input reads as it did. -/
def rackLateUptoRow : OpenClaim := { program := "ytckbeppofnnfkaa", sum := "ed72b9350359d6b80394d218fabea7cbc0b7eb77f23a338d39a1503d448022a1", func := "undertow/undertowlaw15.RackLate", spec := "rackLate", unfollowed := true, recurses := true, apart := false, narrowed := true }
def RackLateUptoSaid : Prop := rackLateUptoRow.holds Try.pinned (OpenSpec.upto rackLateSpec)

/-- 'undertowlaw15.RackHaste', WHERE WHAT IT READS IS OF BULK AT MOST 1048576: true; the input reads as it did. -/
def rackHasteUptoRow : OpenClaim := { program := "ytckbeppofnnfkaa", sum := "ed72b9350359d6b80394d218fabea7cbc0b7eb77f23a338d39a1503d448022a1", func := "undertow/undertowlaw15.RackHaste", spec := "rackHaste", unfollowed := true, recurses := true, apart := false, narrowed := true }
def RackHasteUptoSaid : Prop := rackHasteUptoRow.holds Try.pinned (OpenSpec.upto rackHasteSpec)

/-- 'undertowlaw15.RackNone', WHERE WHAT IT READS IS OF BULK AT MOST 1048576: true; the input reads as it did. -/
def rackNoneUptoRow : OpenClaim := { program := "ytckbeppofnnfkaa", sum := "ed72b9350359d6b80394d218fabea7cbc0b7eb77f23a338d39a1503d448022a1", func := "undertow/undertowlaw15.RackNone", spec := "rackNone", unfollowed := true, recurses := true, apart := false, narrowed := true }
def RackNoneUptoSaid : Prop := rackNoneUptoRow.holds Try.pinned (OpenSpec.upto rackNoneSpec)

/-- 'undertowlaw09.BoardCounts', WHERE WHAT IT READS IS OF BULK AT MOST 1048576: true; the input reads as it did. -/
def boardCountsUptoRow : OpenClaim := { program := "ytckbeppofnnfkaa", sum := "ed72b9350359d6b80394d218fabea7cbc0b7eb77f23a338d39a1503d448022a1", func := "undertow/undertowlaw09.BoardCounts", spec := "boardCounts", unfollowed := true, recurses := true, apart := false, narrowed := true }
def BoardCountsUptoSaid : Prop := boardCountsUptoRow.holds Try.pinned (OpenSpec.upto boardCountsSpec)

/-- 'undertowlaw09.BoardOrder', WHERE WHAT IT READS IS OF BULK AT MOST 1048576: true; the input reads as it did. -/
def boardOrderUptoRow : OpenClaim := { program := "ytckbeppofnnfkaa", sum := "ed72b9350359d6b80394d218fabea7cbc0b7eb77f23a338d39a1503d448022a1", func := "undertow/undertowlaw09.BoardOrder", spec := "boardOrder", unfollowed := true, recurses := true, apart := false, narrowed := true }
def BoardOrderUptoSaid : Prop := boardOrderUptoRow.holds Try.pinned (OpenSpec.upto boardOrderSpec)

/-- 'undertowlaw14.BookNone', WHERE WHAT IT READS IS OF BULK AT MOST 1048576: true; the input reads as it did. -/
def bookNoneUptoRow : OpenClaim := { program := "ytckbeppofnnfkaa", sum := "ed72b9350359d6b80394d218fabea7cbc0b7eb77f23a338d39a1503d448022a1", func := "undertow/undertowlaw14.BookNone", spec := "bookNone", unfollowed := true, recurses := true, apart := false, narrowed := true }
def BookNoneUptoSaid : Prop := bookNoneUptoRow.holds Try.pinned (OpenSpec.upto bookNoneSpec)

end Rows
end Go.Proofs.Ytckbeppofnnfkaa
