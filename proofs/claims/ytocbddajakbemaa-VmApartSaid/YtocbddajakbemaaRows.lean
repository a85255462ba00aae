/-
  No cell of these rows narrows 'for every input' (looked for: loops, veiled, ifaces, maps, wideKeys, modest, calm, conditions, laid).
  DERIVED. THE GIVEN ROWS OF THIS SEAT. 4 by the template 'for every input the law returns true; each argument reads behind the call as it read before'; 0 by the template 'total and deterministic' (their statements: YtocbddajakbemaaTotals.lean).
  GIVEN WITH THE SEED: the statements are not yours to turn. If you find one false, say at which input.
  Laid BY PROGRAM, IN A SANDBOX (cutbox-rows.mjs): the forced cells as the released guide's own fill.sh prints them over the translation a8bc9dd6552b3c9d… (all of the seat's roots in one cut). By AI agents, Wed Nov 11 2026. No macro, syntax, notation, axiom, sorry.
-/
import Derived.Test.YtocbddajakbemaaChecked
import GoSem.Claim
import GoSem.ClaimJoined
import GoSem.ClaimMapViews
import Derived.JoinedTies
import Derived.KernelRfl
namespace Go.Proofs.Ytocbddajakbemaa
/- THE CELL 'sum', in the pinned program and in every row, IS THE sha256 OF THE DUMP (.gsa) THAT YtocbddajakbemaaProg.lean LOADS. Nothing in Lean hashes anything: it is a label: what it is worth is what the hold of that sum in a sandbox is worth. -/
noncomputable def Try.pinned : Pinned := { name := "ytocbddajakbemaa", sum := "a8bc9dd6552b3c9d6d06edcbb8f1b34af6b56cd86d32e4c71343be52e40a2f31", checked := Try.checked }
namespace Rows
def none {H : Type} : Left H := { results := [], args := [] }

/-- 'marcheslaw14.VmEvals': WHATEVER THE INPUT: true; the input reads as it did. -/
def vmEvalsSpec : ChangeSpec := { name := "vmEvals", fn := fun _ => fun
  | [d1, d2, d3] => { results := [.lit (.bool true)], args := [d1, d2, d3] }
  | _ => none }
def vmEvalsRow : OpenClaim := { program := "ytocbddajakbemaa", sum := "a8bc9dd6552b3c9d6d06edcbb8f1b34af6b56cd86d32e4c71343be52e40a2f31", func := "marches/marcheslaw14.VmEvals", spec := "vmEvals", unfollowed := true, recurses := true, apart := false }
def VmEvalsSaid : Prop := vmEvalsRow.holds Try.pinned (OpenSpec.ofChange vmEvalsSpec)

/-- ITS FALSE NEIGHBOUR: 'it returns false'. Refute it at one input. -/
def vmEvalsWrong : ChangeSpec := { name := "vmEvals", fn := fun _ => fun
  | [d1, d2, d3] => { results := [.lit (.bool false)], args := [d1, d2, d3] }
  | _ => none }
def VmEvalsWrongFalsely : Prop := vmEvalsRow.holds Try.pinned (OpenSpec.ofChange vmEvalsWrong)

/-- 'marcheslaw14.VmApart': WHATEVER THE INPUT: true; the input reads as it did. -/
def vmApartSpec : ChangeSpec := { name := "vmApart", fn := fun _ => fun
  | [d1, d2, d3, d4] => { results := [.lit (.bool true)], args := [d1, d2, d3, d4] }
  | _ => none }
def vmApartRow : OpenClaim := { program := "ytocbddajakbemaa", sum := "a8bc9dd6552b3c9d6d06edcbb8f1b34af6b56cd86d32e4c71343be52e40a2f31", func := "marches/marcheslaw14.VmApart", spec := "vmApart", unfollowed := true, recurses := true, apart := false }
def VmApartSaid : Prop := vmApartRow.holds Try.pinned (OpenSpec.ofChange vmApartSpec)

/-- ITS FALSE NEIGHBOUR: 'it returns false'. Refute it at one input. -/
def vmApartWrong : ChangeSpec := { name := "vmApart", fn := fun _ => fun
  | [d1, d2, d3, d4] => { results := [.lit (.bool false)], args := [d1, d2, d3, d4] }
  | _ => none }
def VmApartWrongFalsely : Prop := vmApartRow.holds Try.pinned (OpenSpec.ofChange vmApartWrong)

/-- 'marcheslaw14.VmFuel': WHATEVER THE INPUT: true; the input reads as it did. -/
def vmFuelSpec : ChangeSpec := { name := "vmFuel", fn := fun _ => fun
  | [d1, d2, d3, d4] => { results := [.lit (.bool true)], args := [d1, d2, d3, d4] }
  | _ => none }
def vmFuelRow : OpenClaim := { program := "ytocbddajakbemaa", sum := "a8bc9dd6552b3c9d6d06edcbb8f1b34af6b56cd86d32e4c71343be52e40a2f31", func := "marches/marcheslaw14.VmFuel", spec := "vmFuel", unfollowed := true, recurses := true, apart := false }
def VmFuelSaid : Prop := vmFuelRow.holds Try.pinned (OpenSpec.ofChange vmFuelSpec)

/-- ITS FALSE NEIGHBOUR: 'it returns false'. Refute it at one input. -/
def vmFuelWrong : ChangeSpec := { name := "vmFuel", fn := fun _ => fun
  | [d1, d2, d3, d4] => { results := [.lit (.bool false)], args := [d1, d2, d3, d4] }
  | _ => none }
def VmFuelWrongFalsely : Prop := vmFuelRow.holds Try.pinned (OpenSpec.ofChange vmFuelWrong)

/-- 'marcheslaw14.VmNothing': WHATEVER THE INPUT: true; the input reads as it did. -/
def vmNothingSpec : ChangeSpec := { name := "vmNothing", fn := fun _ => fun
  | [d1, d2, d3, d4] => { results := [.lit (.bool true)], args := [d1, d2, d3, d4] }
  | _ => none }
def vmNothingRow : OpenClaim := { program := "ytocbddajakbemaa", sum := "a8bc9dd6552b3c9d6d06edcbb8f1b34af6b56cd86d32e4c71343be52e40a2f31", func := "marches/marcheslaw14.VmNothing", spec := "vmNothing", unfollowed := true, recurses := true, apart := false }
def VmNothingSaid : Prop := vmNothingRow.holds Try.pinned (OpenSpec.ofChange vmNothingSpec)

/-- ITS FALSE NEIGHBOUR: 'it returns false'. Refute it at one input. -/
def vmNothingWrong : ChangeSpec := { name := "vmNothing", fn := fun _ => fun
  | [d1, d2, d3, d4] => { results := [.lit (.bool false)], args := [d1, d2, d3, d4] }
  | _ => none }
def VmNothingWrongFalsely : Prop := vmNothingRow.holds Try.pinned (OpenSpec.ofChange vmNothingWrong)

/- THE SECOND FORM. 'bulk': how many values and letters a reading holds, each counted each time it is reached (what is shared counts as often as it is met; a slice's spare places count too). A statement '..UptoSaid' is the law's where the arguments, and the package variables that the reading takes, are together of bulk at most 1048576: NARROWER than '..Said'. Prove '..Said' where nothing that the law and all that it calls make is longer than what came in: it says more and counts as full. Else prove '..UptoSaid'. A law counts once. -/
mutual
def uptoBulk {H : Type} : DataW H → Nat
  | .lit (.string bytes) => bytes.length + 1
  | .lit _ => 1
  | .nil => 1
  | .ptr d => uptoBulk d + 1
  | .slice elems spare => uptoBulkAll elems + uptoBulkAll spare + 1
  | .agg parts => uptoBulkAll parts + 1
  | .iface _ d => uptoBulk d + 1
  | .map entries => uptoBulkEntries entries + 1
  | .held _ => 1
def uptoBulkAll {H : Type} : List (DataW H) → Nat
  | [] => 0
  | d :: r => uptoBulk d + uptoBulkAll r
def uptoBulkEntries {H : Type} : List (Lit × DataW H) → Nat
  | [] => 0
  | x :: r => uptoBulkEntry x + uptoBulkEntries r
def uptoBulkEntry {H : Type} : Lit × DataW H → Nat
  | (.string bytes, d) => bytes.length + uptoBulk d + 1
  | (_, d) => uptoBulk d + 1
 end
def uptoSmall : (H : Type) → List (DataW H) → Bool := fun _ ds => decide (uptoBulkAll ds ≤ 1048576)
def OpenSpec.upto (s : _root_.Go.ChangeSpec) : _root_.Go.OpenSpec := { _root_.Go.OpenSpec.ofChange s with cond := some uptoSmall }

/-- 'marcheslaw14.VmEvals', WHERE WHAT IT READS IS OF BULK AT MOST 1048576: true; the input reads as it did. -/
def vmEvalsUptoRow : OpenClaim := { program := "ytocbddajakbemaa", sum := "a8bc9dd6552b3c9d6d06edcbb8f1b34af6b56cd86d32e4c71343be52e40a2f31", func := "marches/marcheslaw14.VmEvals", spec := "vmEvals", unfollowed := true, recurses := true, apart := false, narrowed := true }
def VmEvalsUptoSaid : Prop := vmEvalsUptoRow.holds Try.pinned (OpenSpec.upto vmEvalsSpec)

/-- 'marcheslaw14.VmApart', WHERE WHAT IT READS IS OF BULK AT MOST 1048576: true; the input reads as it did. -/
def vmApartUptoRow : OpenClaim := { program := "ytocbddajakbemaa", sum := "a8bc9dd6552b3c9d6d06edcbb8f1b34af6b56cd86d32e4c71343be52e40a2f31", func := "marches/marcheslaw14.VmApart", spec := "vmApart", unfollowed := true, recurses := true, apart := false, narrowed := true }
def VmApartUptoSaid : Prop := vmApartUptoRow.holds Try.pinned (OpenSpec.upto vmApartSpec)

/-- 'marcheslaw14.VmFuel', WHERE WHAT IT READS IS OF BULK AT MOST 1048576: true; the input reads as it did. -/
def vmFuelUptoRow : OpenClaim := { program := "ytocbddajakbemaa", sum := "a8bc9dd6552b3c9d6d06edcbb8f1b34af6b56cd86d32e4c71343be52e40a2f31", func := "marches/marcheslaw14.VmFuel", spec := "vmFuel", unfollowed := true, recurses := true, apart := false, narrowed := true }
def VmFuelUptoSaid : Prop := vmFuelUptoRow.holds Try.pinned (OpenSpec.upto vmFuelSpec)

/-- 'marcheslaw14.VmNothing', WHERE WHAT IT READS IS OF BULK AT MOST 1048576: true; the input reads as it did. -/
def vmNothingUptoRow : OpenClaim := { program := "ytocbddajakbemaa", sum := "a8bc9dd6552b3c9d6d06edcbb8f1b34af6b56cd86d32e4c71343be52e40a2f31", func := "marches/marcheslaw14.VmNothing", spec := "vmNothing", unfollowed := true, recurses := true, apart := false, narrowed := true }
def VmNothingUptoSaid : Prop := vmNothingUptoRow.holds Try.pinned (OpenSpec.upto vmNothingSpec)

end Rows
end Go.Proofs.Ytocbddajakbemaa
