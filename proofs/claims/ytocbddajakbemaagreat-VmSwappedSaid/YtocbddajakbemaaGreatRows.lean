/-
  NARROWER THAN 'FOR EVERY INPUT', by the rows' own cells (each row's printed sentence says how): VmBoth: loops · VmLoop: loops · VmSwapped: loops.
  DERIVED. THE GIVEN ROWS OF THIS SEAT. 4 by the template 'for every input the law returns true; each argument reads behind the call as it read before'; 0 by the template 'total and deterministic' (their statements: YtocbddajakbemaaGreatTotals.lean).
  GIVEN WITH THE SEED: the statements are not yours to turn. If you find one false, say at which input.
  Laid BY PROGRAM, IN A SANDBOX (cutbox-rows.mjs): the forced cells as the released guide's own fill.sh prints them over the translation be85182ddfebc17b… (all of the seat's roots in one cut). By AI agents, Wed Nov 11 2026. No macro, syntax, notation, axiom, sorry.
-/
import Derived.Test.YtocbddajakbemaaGreatChecked
import GoSem.Claim
import GoSem.ClaimJoined
import GoSem.ClaimMapViews
import Derived.JoinedTies
import Derived.KernelRfl
namespace Go.Proofs.YtocbddajakbemaaGreat
/- THE CELL 'sum', in the pinned program and in every row, IS THE sha256 OF THE DUMP (.gsa) THAT YtocbddajakbemaaGreatProg.lean LOADS. Nothing in Lean hashes anything: it is a label: what it is worth is what the hold of that sum in a sandbox is worth. -/
noncomputable def Tryz.pinned : Pinned := { name := "ytocbddajakbemaagreat", sum := "be85182ddfebc17b92949cb817decbac87feec5cd9c6700ec76d13a55e631a57", checked := Tryz.checked }
namespace Rows
def none {H : Type} : Left H := { results := [], args := [] }

/-- 'marcheslaw14.VmBoth': WHATEVER THE INPUT: true; the input reads as it did. -/
def vmBothSpec : ChangeSpec := { name := "vmBoth", fn := fun _ => fun
  | [d1, d2, d3, d4] => { results := [.lit (.bool true)], args := [d1, d2, d3, d4] }
  | _ => none }
def vmBothRow : OpenClaim := { program := "ytocbddajakbemaagreat", sum := "be85182ddfebc17b92949cb817decbac87feec5cd9c6700ec76d13a55e631a57", func := "marches/marcheslaw14.VmBoth", spec := "vmBoth", unfollowed := true, recurses := true, loops := true, apart := false }
def VmBothSaid : Prop := vmBothRow.holds Tryz.pinned (OpenSpec.ofChange vmBothSpec)

/-- ITS FALSE NEIGHBOUR: 'it returns false'. Refute it at one input. -/
def vmBothWrong : ChangeSpec := { name := "vmBoth", fn := fun _ => fun
  | [d1, d2, d3, d4] => { results := [.lit (.bool false)], args := [d1, d2, d3, d4] }
  | _ => none }
def VmBothWrongFalsely : Prop := vmBothRow.holds Tryz.pinned (OpenSpec.ofChange vmBothWrong)

/-- 'marcheslaw14.VmLoop': WHATEVER THE INPUT: true; the input reads as it did. -/
def vmLoopSpec : ChangeSpec := { name := "vmLoop", fn := fun _ => fun
  | [d1, d2, d3] => { results := [.lit (.bool true)], args := [d1, d2, d3] }
  | _ => none }
def vmLoopRow : OpenClaim := { program := "ytocbddajakbemaagreat", sum := "be85182ddfebc17b92949cb817decbac87feec5cd9c6700ec76d13a55e631a57", func := "marches/marcheslaw14.VmLoop", spec := "vmLoop", unfollowed := true, recurses := true, loops := true, apart := false }
def VmLoopSaid : Prop := vmLoopRow.holds Tryz.pinned (OpenSpec.ofChange vmLoopSpec)

/-- ITS FALSE NEIGHBOUR: 'it returns false'. Refute it at one input. -/
def vmLoopWrong : ChangeSpec := { name := "vmLoop", fn := fun _ => fun
  | [d1, d2, d3] => { results := [.lit (.bool false)], args := [d1, d2, d3] }
  | _ => none }
def VmLoopWrongFalsely : Prop := vmLoopRow.holds Tryz.pinned (OpenSpec.ofChange vmLoopWrong)

/-- 'marcheslaw14.VmSwapped': WHATEVER THE INPUT: true; the input reads as it did. -/
def vmSwappedSpec : ChangeSpec := { name := "vmSwapped", fn := fun _ => fun
  | [d1, d2, d3] => { results := [.lit (.bool true)], args := [d1, d2, d3] }
  | _ => none }
def vmSwappedRow : OpenClaim := { program := "ytocbddajakbemaagreat", sum := "be85182ddfebc17b92949cb817decbac87feec5cd9c6700ec76d13a55e631a57", func := "marches/marcheslaw14.VmSwapped", spec := "vmSwapped", unfollowed := true, recurses := true, loops := true, apart := false }
def VmSwappedSaid : Prop := vmSwappedRow.holds Tryz.pinned (OpenSpec.ofChange vmSwappedSpec)

/-- ITS FALSE NEIGHBOUR: 'it returns false'. Refute it at one input. -/
def vmSwappedWrong : ChangeSpec := { name := "vmSwapped", fn := fun _ => fun
  | [d1, d2, d3] => { results := [.lit (.bool false)], args := [d1, d2, d3] }
  | _ => none }
def VmSwappedWrongFalsely : Prop := vmSwappedRow.holds Tryz.pinned (OpenSpec.ofChange vmSwappedWrong)

/-- 'marcheslaw14.VmDraws': WHATEVER THE INPUT: true; the input reads as it did. -/
def vmDrawsSpec : ChangeSpec := { name := "vmDraws", fn := fun _ => fun
  | [d1, d2, d3] => { results := [.lit (.bool true)], args := [d1, d2, d3] }
  | _ => none }
def vmDrawsRow : OpenClaim := { program := "ytocbddajakbemaagreat", sum := "be85182ddfebc17b92949cb817decbac87feec5cd9c6700ec76d13a55e631a57", func := "marches/marcheslaw14.VmDraws", spec := "vmDraws", unfollowed := true, recurses := true, apart := false }
def VmDrawsSaid : Prop := vmDrawsRow.holds Tryz.pinned (OpenSpec.ofChange vmDrawsSpec)

/-- ITS FALSE NEIGHBOUR: 'it returns false'. Refute it at one input. -/
def vmDrawsWrong : ChangeSpec := { name := "vmDraws", fn := fun _ => fun
  | [d1, d2, d3] => { results := [.lit (.bool false)], args := [d1, d2, d3] }
  | _ => none }
def VmDrawsWrongFalsely : Prop := vmDrawsRow.holds Tryz.pinned (OpenSpec.ofChange vmDrawsWrong)

/- THE SECOND FORM. 'bulk': how many values and letters a reading holds, each counted each time it is reached (what is shared counts as often as it is met; a slice's spare places count too). A statement '..UptoSaid' is the law's where the arguments, and the package variables that the reading takes, are together of bulk at most 1048576: NARROWER than '..Said'. Prove '..Said' where nothing that the law and all that it calls make is longer than what came in: it says more and counts as full. Else prove '..UptoSaid'. A law counts once. -/
mutual
def uptoBulk {H : Type} : DataW H → Nat
  | .lit (.string bytes) => bytes.length + 1
  | .lit _ => 1
  | .nil => 1
  | .ptr d => uptoBulk d + 1
  | .slice elems spare => uptoBulkAll elems + uptoBulkAll spare + 1
  | .agg parts => uptoBulkAll parts + 1
  | .iface _ d => uptoBulk d + 1
  | .map entries => uptoBulkEntries entries + 1
  | .held _ => 1
def uptoBulkAll {H : Type} : List (DataW H) → Nat
  | [] => 0
  | d :: r => uptoBulk d + uptoBulkAll r
def uptoBulkEntries {H : Type} : List (Lit × DataW H) → Nat
  | [] => 0
  | x :: r => uptoBulkEntry x + uptoBulkEntries r
def uptoBulkEntry {H : Type} : Lit × DataW H → Nat
  | (.string bytes, d) => bytes.length + uptoBulk d + 1
  | (_, d) => uptoBulk d + 1
 end
def uptoSmall : (H : Type) → List (DataW H) → Bool := fun _ ds => decide (uptoBulkAll ds ≤ 1048576)
def OpenSpec.upto (s : _root_.Go.ChangeSpec) : _root_.Go.OpenSpec := { _root_.Go.OpenSpec.ofChange s with cond := some uptoSmall }

/-- 'marcheslaw14.VmBoth', WHERE WHAT IT READS IS OF BULK AT MOST 1048576: true; the input reads as it did. -/
def vmBothUptoRow : OpenClaim := { program := "ytocbddajakbemaagreat", sum := "be85182ddfebc17b92949cb817decbac87feec5cd9c6700ec76d13a55e631a57", func := "marches/marcheslaw14.VmBoth", spec := "vmBoth", unfollowed := true, recurses := true, loops := true, apart := false, narrowed := true }
def VmBothUptoSaid : Prop := vmBothUptoRow.holds Tryz.pinned (OpenSpec.upto vmBothSpec)

/-- 'marcheslaw14.VmLoop', WHERE WHAT IT READS IS OF BULK AT MOST 1048576: true; the input reads as it did. -/
def vmLoopUptoRow : OpenClaim := { program := "ytocbddajakbemaagreat", sum := "be85182ddfebc17b92949cb817decbac87feec5cd9c6700ec76d13a55e631a57", func := "marches/marcheslaw14.VmLoop", spec := "vmLoop", unfollowed := true, recurses := true, loops := true, apart := false, narrowed := true }
def VmLoopUptoSaid : Prop := vmLoopUptoRow.holds Tryz.pinned (OpenSpec.upto vmLoopSpec)

/-- 'marcheslaw14.VmSwapped', WHERE WHAT IT READS IS OF BULK AT MOST 1048576: true; the input reads as it did. -/
def vmSwappedUptoRow : OpenClaim := { program := "ytocbddajakbemaagreat", sum := "be85182ddfebc17b92949cb817decbac87feec5cd9c6700ec76d13a55e631a57", func := "marches/marcheslaw14.VmSwapped", spec := "vmSwapped", unfollowed := true, recurses := true, loops := true, apart := false, narrowed := true }
def VmSwappedUptoSaid : Prop := vmSwappedUptoRow.holds Tryz.pinned (OpenSpec.upto vmSwappedSpec)

/-- 'marcheslaw14.VmDraws', WHERE WHAT IT READS IS OF BULK AT MOST 1048576: true; the input reads as it did. -/
def vmDrawsUptoRow : OpenClaim := { program := "ytocbddajakbemaagreat", sum := "be85182ddfebc17b92949cb817decbac87feec5cd9c6700ec76d13a55e631a57", func := "marches/marcheslaw14.VmDraws", spec := "vmDraws", unfollowed := true, recurses := true, apart := false, narrowed := true }
def VmDrawsUptoSaid : Prop := vmDrawsUptoRow.holds Tryz.pinned (OpenSpec.upto vmDrawsSpec)

end Rows
end Go.Proofs.YtocbddajakbemaaGreat
