/-
  No cell of these rows narrows 'for every input' (looked for: loops, veiled, ifaces, maps, wideKeys, modest, calm, conditions, laid).
  DERIVED. THE GIVEN ROWS OF THIS SEAT. 9 by the template 'for every input the law returns true; each argument reads behind the call as it read before'; 0 by the template 'total and deterministic' (their statements: YtdekcilfkelhlaaTotals.lean).
  GIVEN WITH THE SEED: the statements are not yours to turn. If you find one false, say at which input.
  Laid BY PROGRAM, IN A SANDBOX (cutbox-rows.mjs): the forced cells as the released guide's own fill.sh prints them over the translation bae15336139d484d… (all of the seat's roots in one cut). By AI agents, Wed Nov 11 2026. No macro, syntax, notation, axiom, sorry.
-/
import Derived.Test.YtdekcilfkelhlaaChecked
import GoSem.Claim
import GoSem.ClaimJoined
import GoSem.ClaimMapViews
import Derived.JoinedTies
import Derived.KernelRfl
namespace Go.Proofs.Ytdekcilfkelhlaa
/- THE CELL 'sum', in the pinned program and in every row, IS THE sha256 OF THE DUMP (.gsa) THAT YtdekcilfkelhlaaProg.lean LOADS. Nothing in Lean hashes anything: it is a label: what it is worth is what the hold of that sum in a sandbox is worth. -/
noncomputable def Try.pinned : Pinned := { name := "ytdekcilfkelhlaa", sum := "bae15336139d484d155a0917c379d74c722321b624ba71ed24b33046840e55c2", checked := Try.checked }
namespace Rows
def none {H : Type} : Left H := { results := [], args := [] }

/-- 'marcheslaw22.ArithModels': WHATEVER THE INPUT: true; the input reads as it did. -/
def arithModelsSpec : ChangeSpec := { name := "arithModels", fn := fun _ => fun
  | [d1, d2] => { results := [.lit (.bool true)], args := [d1, d2] }
  | _ => none }
def arithModelsRow : OpenClaim := { program := "ytdekcilfkelhlaa", sum := "bae15336139d484d155a0917c379d74c722321b624ba71ed24b33046840e55c2", func := "marches/marcheslaw22.ArithModels", spec := "arithModels", unfollowed := true, recurses := true, apart := false }
def ArithModelsSaid : Prop := arithModelsRow.holds Try.pinned (OpenSpec.ofChange arithModelsSpec)

/-- ITS FALSE NEIGHBOUR: 'it returns false'. Refute it at one input. -/
def arithModelsWrong : ChangeSpec := { name := "arithModels", fn := fun _ => fun
  | [d1, d2] => { results := [.lit (.bool false)], args := [d1, d2] }
  | _ => none }
def ArithModelsWrongFalsely : Prop := arithModelsRow.holds Try.pinned (OpenSpec.ofChange arithModelsWrong)

/-- 'marcheslaw22.ArithReads': WHATEVER THE INPUT: true; the input reads as it did. -/
def arithReadsSpec : ChangeSpec := { name := "arithReads", fn := fun _ => fun
  | [d1, d2] => { results := [.lit (.bool true)], args := [d1, d2] }
  | _ => none }
def arithReadsRow : OpenClaim := { program := "ytdekcilfkelhlaa", sum := "bae15336139d484d155a0917c379d74c722321b624ba71ed24b33046840e55c2", func := "marches/marcheslaw22.ArithReads", spec := "arithReads", unfollowed := true, recurses := true, apart := false }
def ArithReadsSaid : Prop := arithReadsRow.holds Try.pinned (OpenSpec.ofChange arithReadsSpec)

/-- ITS FALSE NEIGHBOUR: 'it returns false'. Refute it at one input. -/
def arithReadsWrong : ChangeSpec := { name := "arithReads", fn := fun _ => fun
  | [d1, d2] => { results := [.lit (.bool false)], args := [d1, d2] }
  | _ => none }
def ArithReadsWrongFalsely : Prop := arithReadsRow.holds Try.pinned (OpenSpec.ofChange arithReadsWrong)

/-- 'marcheslaw22.ArithBegins': WHATEVER THE INPUT: true; the input reads as it did. -/
def arithBeginsSpec : ChangeSpec := { name := "arithBegins", fn := fun _ => fun
  | [d1, d2] => { results := [.lit (.bool true)], args := [d1, d2] }
  | _ => none }
def arithBeginsRow : OpenClaim := { program := "ytdekcilfkelhlaa", sum := "bae15336139d484d155a0917c379d74c722321b624ba71ed24b33046840e55c2", func := "marches/marcheslaw22.ArithBegins", spec := "arithBegins", unfollowed := true, recurses := true, apart := false }
def ArithBeginsSaid : Prop := arithBeginsRow.holds Try.pinned (OpenSpec.ofChange arithBeginsSpec)

/-- ITS FALSE NEIGHBOUR: 'it returns false'. Refute it at one input. -/
def arithBeginsWrong : ChangeSpec := { name := "arithBegins", fn := fun _ => fun
  | [d1, d2] => { results := [.lit (.bool false)], args := [d1, d2] }
  | _ => none }
def ArithBeginsWrongFalsely : Prop := arithBeginsRow.holds Try.pinned (OpenSpec.ofChange arithBeginsWrong)

/-- 'marcheslaw22.ArithOrder': WHATEVER THE INPUT: true; the input reads as it did. -/
def arithOrderSpec : ChangeSpec := { name := "arithOrder", fn := fun _ => fun
  | [d1, d2, d3] => { results := [.lit (.bool true)], args := [d1, d2, d3] }
  | _ => none }
def arithOrderRow : OpenClaim := { program := "ytdekcilfkelhlaa", sum := "bae15336139d484d155a0917c379d74c722321b624ba71ed24b33046840e55c2", func := "marches/marcheslaw22.ArithOrder", spec := "arithOrder", inPlace := ["internal/bytealg.Compare"], unfollowed := true, recurses := true, apart := false }
def ArithOrderSaid : Prop := arithOrderRow.holds Try.pinned (OpenSpec.ofChange arithOrderSpec)

/-- ITS FALSE NEIGHBOUR: 'it returns false'. Refute it at one input. -/
def arithOrderWrong : ChangeSpec := { name := "arithOrder", fn := fun _ => fun
  | [d1, d2, d3] => { results := [.lit (.bool false)], args := [d1, d2, d3] }
  | _ => none }
def ArithOrderWrongFalsely : Prop := arithOrderRow.holds Try.pinned (OpenSpec.ofChange arithOrderWrong)

/-- 'marcheslaw22.ArithInverse': WHATEVER THE INPUT: true; the input reads as it did. -/
def arithInverseSpec : ChangeSpec := { name := "arithInverse", fn := fun _ => fun
  | [d1, d2] => { results := [.lit (.bool true)], args := [d1, d2] }
  | _ => none }
def arithInverseRow : OpenClaim := { program := "ytdekcilfkelhlaa", sum := "bae15336139d484d155a0917c379d74c722321b624ba71ed24b33046840e55c2", func := "marches/marcheslaw22.ArithInverse", spec := "arithInverse", unfollowed := true, recurses := true, apart := false }
def ArithInverseSaid : Prop := arithInverseRow.holds Try.pinned (OpenSpec.ofChange arithInverseSpec)

/-- ITS FALSE NEIGHBOUR: 'it returns false'. Refute it at one input. -/
def arithInverseWrong : ChangeSpec := { name := "arithInverse", fn := fun _ => fun
  | [d1, d2] => { results := [.lit (.bool false)], args := [d1, d2] }
  | _ => none }
def ArithInverseWrongFalsely : Prop := arithInverseRow.holds Try.pinned (OpenSpec.ofChange arithInverseWrong)

/-- 'marcheslaw22.ArithOnly': WHATEVER THE INPUT: true; the input reads as it did. -/
def arithOnlySpec : ChangeSpec := { name := "arithOnly", fn := fun _ => fun
  | [d1, d2] => { results := [.lit (.bool true)], args := [d1, d2] }
  | _ => none }
def arithOnlyRow : OpenClaim := { program := "ytdekcilfkelhlaa", sum := "bae15336139d484d155a0917c379d74c722321b624ba71ed24b33046840e55c2", func := "marches/marcheslaw22.ArithOnly", spec := "arithOnly", unfollowed := true, recurses := true, apart := false }
def ArithOnlySaid : Prop := arithOnlyRow.holds Try.pinned (OpenSpec.ofChange arithOnlySpec)

/-- ITS FALSE NEIGHBOUR: 'it returns false'. Refute it at one input. -/
def arithOnlyWrong : ChangeSpec := { name := "arithOnly", fn := fun _ => fun
  | [d1, d2] => { results := [.lit (.bool false)], args := [d1, d2] }
  | _ => none }
def ArithOnlyWrongFalsely : Prop := arithOnlyRow.holds Try.pinned (OpenSpec.ofChange arithOnlyWrong)

/-- 'marcheslaw22.ArithInts': WHATEVER THE INPUT: true; the input reads as it did. -/
def arithIntsSpec : ChangeSpec := { name := "arithInts", fn := fun _ => fun
  | [d1, d2] => { results := [.lit (.bool true)], args := [d1, d2] }
  | _ => none }
def arithIntsRow : OpenClaim := { program := "ytdekcilfkelhlaa", sum := "bae15336139d484d155a0917c379d74c722321b624ba71ed24b33046840e55c2", func := "marches/marcheslaw22.ArithInts", spec := "arithInts", unfollowed := true, recurses := true, apart := false }
def ArithIntsSaid : Prop := arithIntsRow.holds Try.pinned (OpenSpec.ofChange arithIntsSpec)

/-- ITS FALSE NEIGHBOUR: 'it returns false'. Refute it at one input. -/
def arithIntsWrong : ChangeSpec := { name := "arithInts", fn := fun _ => fun
  | [d1, d2] => { results := [.lit (.bool false)], args := [d1, d2] }
  | _ => none }
def ArithIntsWrongFalsely : Prop := arithIntsRow.holds Try.pinned (OpenSpec.ofChange arithIntsWrong)

/-- 'marcheslaw22.ArithFull': WHATEVER THE INPUT: true; the input reads as it did. -/
def arithFullSpec : ChangeSpec := { name := "arithFull", fn := fun _ => fun
  | [] => { results := [.lit (.bool true)], args := [] }
  | _ => none }
def arithFullRow : OpenClaim := { program := "ytdekcilfkelhlaa", sum := "bae15336139d484d155a0917c379d74c722321b624ba71ed24b33046840e55c2", func := "marches/marcheslaw22.ArithFull", spec := "arithFull", unfollowed := true, recurses := true, apart := false }
def ArithFullSaid : Prop := arithFullRow.holds Try.pinned (OpenSpec.ofChange arithFullSpec)

/-- ITS FALSE NEIGHBOUR: 'it returns false'. Refute it at one input. -/
def arithFullWrong : ChangeSpec := { name := "arithFull", fn := fun _ => fun
  | [] => { results := [.lit (.bool false)], args := [] }
  | _ => none }
def ArithFullWrongFalsely : Prop := arithFullRow.holds Try.pinned (OpenSpec.ofChange arithFullWrong)

/-- 'marcheslaw22.ArithNil': WHATEVER THE INPUT: true; the input reads as it did. -/
def arithNilSpec : ChangeSpec := { name := "arithNil", fn := fun _ => fun
  | [d1, d2] => { results := [.lit (.bool true)], args := [d1, d2] }
  | _ => none }
def arithNilRow : OpenClaim := { program := "ytdekcilfkelhlaa", sum := "bae15336139d484d155a0917c379d74c722321b624ba71ed24b33046840e55c2", func := "marches/marcheslaw22.ArithNil", spec := "arithNil", unfollowed := true, recurses := true, apart := false }
def ArithNilSaid : Prop := arithNilRow.holds Try.pinned (OpenSpec.ofChange arithNilSpec)

/-- ITS FALSE NEIGHBOUR: 'it returns false'. Refute it at one input. -/
def arithNilWrong : ChangeSpec := { name := "arithNil", fn := fun _ => fun
  | [d1, d2] => { results := [.lit (.bool false)], args := [d1, d2] }
  | _ => none }
def ArithNilWrongFalsely : Prop := arithNilRow.holds Try.pinned (OpenSpec.ofChange arithNilWrong)

/- THE SECOND FORM. 'bulk': how many values and letters a reading holds, each counted each time it is reached (what is shared counts as often as it is met; a slice's spare places count too). A statement '..UptoSaid' is the law's where the arguments, and the package variables that the reading takes, are together of bulk at most 1048576: NARROWER than '..Said'. Prove '..Said' where nothing that the law and all that it calls make is longer than what came in: it says more and counts as full. Else prove '..UptoSaid'. A law counts once. -/
mutual
def uptoBulk {H : Type} : DataW H → Nat
  | .lit (.string bytes) => bytes.length + 1
  | .lit _ => 1
  | .nil => 1
  | .ptr d => uptoBulk d + 1
  | .slice elems spare => uptoBulkAll elems + uptoBulkAll spare + 1
  | .agg parts => uptoBulkAll parts + 1
  | .iface _ d => uptoBulk d + 1
  | .map entries => uptoBulkEntries entries + 1
  | .held _ => 1
def uptoBulkAll {H : Type} : List (DataW H) → Nat
  | [] => 0
  | d :: r => uptoBulk d + uptoBulkAll r
def uptoBulkEntries {H : Type} : List (Lit × DataW H) → Nat
  | [] => 0
  | x :: r => uptoBulkEntry x + uptoBulkEntries r
def uptoBulkEntry {H : Type} : Lit × DataW H → Nat
  | (.string bytes, d) => bytes.length + uptoBulk d + 1
  | (_, d) => uptoBulk d + 1
 end
def uptoSmall : (H : Type) → List (DataW H) → Bool := fun _ ds => decide (uptoBulkAll ds ≤ 1048576)
def OpenSpec.upto (s : _root_.Go.ChangeSpec) : _root_.Go.OpenSpec := { _root_.Go.OpenSpec.ofChange s with cond := some uptoSmall }

/-- 'marcheslaw22.ArithModels', WHERE WHAT IT READS IS OF BULK AT MOST 1048576: true; the input reads as it did. -/
def arithModelsUptoRow : OpenClaim := { program := "ytdekcilfkelhlaa", sum := "bae15336139d484d155a0917c379d74c722321b624ba71ed24b33046840e55c2", func := "marches/marcheslaw22.ArithModels", spec := "arithModels", unfollowed := true, recurses := true, apart := false, narrowed := true }
def ArithModelsUptoSaid : Prop := arithModelsUptoRow.holds Try.pinned (OpenSpec.upto arithModelsSpec)

/-- 'marcheslaw22.ArithReads', WHERE WHAT IT READS IS OF BULK AT MOST 1048576: true; the input reads as it did. -/
def arithReadsUptoRow : OpenClaim := { program := "ytdekcilfkelhlaa", sum := "bae15336139d484d155a0917c379d74c722321b624ba71ed24b33046840e55c2", func := "marches/marcheslaw22.ArithReads", spec := "arithReads", unfollowed := true, recurses := true, apart := false, narrowed := true }
def ArithReadsUptoSaid : Prop := arithReadsUptoRow.holds Try.pinned (OpenSpec.upto arithReadsSpec)

/-- 'marcheslaw22.ArithBegins', WHERE WHAT IT READS IS OF BULK AT MOST 1048576: true; the input reads as it did. -/
def arithBeginsUptoRow : OpenClaim := { program := "ytdekcilfkelhlaa", sum := "bae15336139d484d155a0917c379d74c722321b624ba71ed24b33046840e55c2", func := "marches/marcheslaw22.ArithBegins", spec := "arithBegins", unfollowed := true, recurses := true, apart := false, narrowed := true }
def ArithBeginsUptoSaid : Prop := arithBeginsUptoRow.holds Try.pinned (OpenSpec.upto arithBeginsSpec)

/-- 'marcheslaw22.ArithOrder', WHERE WHAT IT READS IS OF BULK AT MOST 1048576: true; the input reads as it did. -/
def arithOrderUptoRow : OpenClaim := { program := "ytdekcilfkelhlaa", sum := "bae15336139d484d155a0917c379d74c722321b624ba71ed24b33046840e55c2", func := "marches/marcheslaw22.ArithOrder", spec := "arithOrder", inPlace := ["internal/bytealg.Compare"], unfollowed := true, recurses := true, apart := false, narrowed := true }
def ArithOrderUptoSaid : Prop := arithOrderUptoRow.holds Try.pinned (OpenSpec.upto arithOrderSpec)

/-- 'marcheslaw22.ArithInverse', WHERE WHAT IT READS IS OF BULK AT MOST 1048576: true; the input reads as it did. -/
def arithInverseUptoRow : OpenClaim := { program := "ytdekcilfkelhlaa", sum := "bae15336139d484d155a0917c379d74c722321b624ba71ed24b33046840e55c2", func := "marches/marcheslaw22.ArithInverse", spec := "arithInverse", unfollowed := true, recurses := true, apart := false, narrowed := true }
def ArithInverseUptoSaid : Prop := arithInverseUptoRow.holds Try.pinned (OpenSpec.upto arithInverseSpec)

/-- 'marcheslaw22.ArithOnly', WHERE WHAT IT READS IS OF BULK AT MOST 1048576: true; the input reads as it did. -/
def arithOnlyUptoRow : OpenClaim := { program := "ytdekcilfkelhlaa", sum := "bae15336139d484d155a0917c379d74c722321b624ba71ed24b33046840e55c2", func := "marches/marcheslaw22.ArithOnly", spec := "arithOnly", unfollowed := true, recurses := true, apart := false, narrowed := true }
def ArithOnlyUptoSaid : Prop := arithOnlyUptoRow.holds Try.pinned (OpenSpec.upto arithOnlySpec)

/-- 'marcheslaw22.ArithInts', WHERE WHAT IT READS IS OF BULK AT MOST 1048576: true; the input reads as it did. -/
def arithIntsUptoRow : OpenClaim := { program := "ytdekcilfkelhlaa", sum := "bae15336139d484d155a0917c379d74c722321b624ba71ed24b33046840e55c2", func := "marches/marcheslaw22.ArithInts", spec := "arithInts", unfollowed := true, recurses := true, apart := false, narrowed := true }
def ArithIntsUptoSaid : Prop := arithIntsUptoRow.holds Try.pinned (OpenSpec.upto arithIntsSpec)

/-- 'marcheslaw22.ArithFull', WHERE WHAT IT READS IS OF BULK AT MOST 1048576: true; the input reads as it did. -/
def arithFullUptoRow : OpenClaim := { program := "ytdekcilfkelhlaa", sum := "bae15336139d484d155a0917c379d74c722321b624ba71ed24b33046840e55c2", func := "marches/marcheslaw22.ArithFull", spec := "arithFull", unfollowed := true, recurses := true, apart := false, narrowed := true }
def ArithFullUptoSaid : Prop := arithFullUptoRow.holds Try.pinned (OpenSpec.upto arithFullSpec)

/-- 'marcheslaw22.ArithNil', WHERE WHAT IT READS IS OF BULK AT MOST 1048576: true; the input reads as it did. -/
def arithNilUptoRow : OpenClaim := { program := "ytdekcilfkelhlaa", sum := "bae15336139d484d155a0917c379d74c722321b624ba71ed24b33046840e55c2", func := "marches/marcheslaw22.ArithNil", spec := "arithNil", unfollowed := true, recurses := true, apart := false, narrowed := true }
def ArithNilUptoSaid : Prop := arithNilUptoRow.holds Try.pinned (OpenSpec.upto arithNilSpec)

end Rows
end Go.Proofs.Ytdekcilfkelhlaa
