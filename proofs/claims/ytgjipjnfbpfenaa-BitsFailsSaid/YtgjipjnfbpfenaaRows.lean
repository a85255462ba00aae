/-
  No cell of these rows narrows 'for every input' (looked for: loops, veiled, ifaces, maps, wideKeys, modest, calm, conditions, laid).
  DERIVED. THE GIVEN ROWS OF THIS SEAT. 7 by the template 'for every input the law returns true; each argument reads behind the call as it read before'; 0 by the template 'total and deterministic' (their statements: YtgjipjnfbpfenaaTotals.lean).
  GIVEN WITH THE SEED: the statements are not yours to turn. If you find one false, say at which input.
  Laid BY PROGRAM, IN A SANDBOX (cutbox-rows.mjs): the forced cells as the released guide's own fill.sh prints them over the translation 925189aa17b68f1b… (all of the seat's roots in one cut). By AI agents, Wed Nov 11 2026. No macro, syntax, notation, axiom, sorry.
-/
import Derived.Test.YtgjipjnfbpfenaaChecked
import GoSem.Claim
import GoSem.ClaimJoined
import GoSem.ClaimMapViews
import Derived.JoinedTies
import Derived.KernelRfl
namespace Go.Proofs.Ytgjipjnfbpfenaa
/- THE CELL 'sum', in the pinned program and in every row, IS THE sha256 OF THE DUMP (.gsa) THAT YtgjipjnfbpfenaaProg.lean LOADS. Nothing in Lean hashes anything: it is a label: what it is worth is what the hold of that sum in a sandbox is worth. -/
noncomputable def Try.pinned : Pinned := { name := "ytgjipjnfbpfenaa", sum := "925189aa17b68f1bb5ba0f6c26bd738bbb5546b8926126b8ca0badf68f586cdf", checked := Try.checked }
namespace Rows
def none {H : Type} : Left H := { results := [], args := [] }

/-- 'marcheslaw18.BitsCodes': WHATEVER THE INPUT: true; the input reads as it did. -/
def bitsCodesSpec : ChangeSpec := { name := "bitsCodes", fn := fun _ => fun
  | [d1, d2, d3] => { results := [.lit (.bool true)], args := [d1, d2, d3] }
  | _ => none }
def bitsCodesRow : OpenClaim := { program := "ytgjipjnfbpfenaa", sum := "925189aa17b68f1bb5ba0f6c26bd738bbb5546b8926126b8ca0badf68f586cdf", func := "marches/marcheslaw18.BitsCodes", spec := "bitsCodes", unfollowed := true, recurses := true, apart := false }
def BitsCodesSaid : Prop := bitsCodesRow.holds Try.pinned (OpenSpec.ofChange bitsCodesSpec)

/-- ITS FALSE NEIGHBOUR: 'it returns false'. Refute it at one input. -/
def bitsCodesWrong : ChangeSpec := { name := "bitsCodes", fn := fun _ => fun
  | [d1, d2, d3] => { results := [.lit (.bool false)], args := [d1, d2, d3] }
  | _ => none }
def BitsCodesWrongFalsely : Prop := bitsCodesRow.holds Try.pinned (OpenSpec.ofChange bitsCodesWrong)

/-- 'marcheslaw18.BitsPrefix': WHATEVER THE INPUT: true; the input reads as it did. -/
def bitsPrefixSpec : ChangeSpec := { name := "bitsPrefix", fn := fun _ => fun
  | [d1, d2, d3, d4] => { results := [.lit (.bool true)], args := [d1, d2, d3, d4] }
  | _ => none }
def bitsPrefixRow : OpenClaim := { program := "ytgjipjnfbpfenaa", sum := "925189aa17b68f1bb5ba0f6c26bd738bbb5546b8926126b8ca0badf68f586cdf", func := "marches/marcheslaw18.BitsPrefix", spec := "bitsPrefix", unfollowed := true, recurses := true, apart := false }
def BitsPrefixSaid : Prop := bitsPrefixRow.holds Try.pinned (OpenSpec.ofChange bitsPrefixSpec)

/-- ITS FALSE NEIGHBOUR: 'it returns false'. Refute it at one input. -/
def bitsPrefixWrong : ChangeSpec := { name := "bitsPrefix", fn := fun _ => fun
  | [d1, d2, d3, d4] => { results := [.lit (.bool false)], args := [d1, d2, d3, d4] }
  | _ => none }
def BitsPrefixWrongFalsely : Prop := bitsPrefixRow.holds Try.pinned (OpenSpec.ofChange bitsPrefixWrong)

/-- 'marcheslaw18.BitsParts': WHATEVER THE INPUT: true; the input reads as it did. -/
def bitsPartsSpec : ChangeSpec := { name := "bitsParts", fn := fun _ => fun
  | [d1, d2] => { results := [.lit (.bool true)], args := [d1, d2] }
  | _ => none }
def bitsPartsRow : OpenClaim := { program := "ytgjipjnfbpfenaa", sum := "925189aa17b68f1bb5ba0f6c26bd738bbb5546b8926126b8ca0badf68f586cdf", func := "marches/marcheslaw18.BitsParts", spec := "bitsParts", unfollowed := true, recurses := true, apart := false }
def BitsPartsSaid : Prop := bitsPartsRow.holds Try.pinned (OpenSpec.ofChange bitsPartsSpec)

/-- ITS FALSE NEIGHBOUR: 'it returns false'. Refute it at one input. -/
def bitsPartsWrong : ChangeSpec := { name := "bitsParts", fn := fun _ => fun
  | [d1, d2] => { results := [.lit (.bool false)], args := [d1, d2] }
  | _ => none }
def BitsPartsWrongFalsely : Prop := bitsPartsRow.holds Try.pinned (OpenSpec.ofChange bitsPartsWrong)

/-- 'marcheslaw18.BitsInverse': WHATEVER THE INPUT: true; the input reads as it did. -/
def bitsInverseSpec : ChangeSpec := { name := "bitsInverse", fn := fun _ => fun
  | [d] => { results := [.lit (.bool true)], args := [d] }
  | _ => none }
def bitsInverseRow : OpenClaim := { program := "ytgjipjnfbpfenaa", sum := "925189aa17b68f1bb5ba0f6c26bd738bbb5546b8926126b8ca0badf68f586cdf", func := "marches/marcheslaw18.BitsInverse", spec := "bitsInverse", unfollowed := true, recurses := true, apart := false }
def BitsInverseSaid : Prop := bitsInverseRow.holds Try.pinned (OpenSpec.ofChange bitsInverseSpec)

/-- ITS FALSE NEIGHBOUR: 'it returns false'. Refute it at one input. -/
def bitsInverseWrong : ChangeSpec := { name := "bitsInverse", fn := fun _ => fun
  | [d] => { results := [.lit (.bool false)], args := [d] }
  | _ => none }
def BitsInverseWrongFalsely : Prop := bitsInverseRow.holds Try.pinned (OpenSpec.ofChange bitsInverseWrong)

/-- 'marcheslaw18.BitsOnly': WHATEVER THE INPUT: true; the input reads as it did. -/
def bitsOnlySpec : ChangeSpec := { name := "bitsOnly", fn := fun _ => fun
  | [d1, d2, d3] => { results := [.lit (.bool true)], args := [d1, d2, d3] }
  | _ => none }
def bitsOnlyRow : OpenClaim := { program := "ytgjipjnfbpfenaa", sum := "925189aa17b68f1bb5ba0f6c26bd738bbb5546b8926126b8ca0badf68f586cdf", func := "marches/marcheslaw18.BitsOnly", spec := "bitsOnly", unfollowed := true, recurses := true, apart := false }
def BitsOnlySaid : Prop := bitsOnlyRow.holds Try.pinned (OpenSpec.ofChange bitsOnlySpec)

/-- ITS FALSE NEIGHBOUR: 'it returns false'. Refute it at one input. -/
def bitsOnlyWrong : ChangeSpec := { name := "bitsOnly", fn := fun _ => fun
  | [d1, d2, d3] => { results := [.lit (.bool false)], args := [d1, d2, d3] }
  | _ => none }
def BitsOnlyWrongFalsely : Prop := bitsOnlyRow.holds Try.pinned (OpenSpec.ofChange bitsOnlyWrong)

/-- 'marcheslaw18.BitsFails': WHATEVER THE INPUT: true; the input reads as it did. -/
def bitsFailsSpec : ChangeSpec := { name := "bitsFails", fn := fun _ => fun
  | [d1, d2, d3] => { results := [.lit (.bool true)], args := [d1, d2, d3] }
  | _ => none }
def bitsFailsRow : OpenClaim := { program := "ytgjipjnfbpfenaa", sum := "925189aa17b68f1bb5ba0f6c26bd738bbb5546b8926126b8ca0badf68f586cdf", func := "marches/marcheslaw18.BitsFails", spec := "bitsFails", unfollowed := true, recurses := true, apart := false }
def BitsFailsSaid : Prop := bitsFailsRow.holds Try.pinned (OpenSpec.ofChange bitsFailsSpec)

/-- ITS FALSE NEIGHBOUR: 'it returns false'. Refute it at one input. -/
def bitsFailsWrong : ChangeSpec := { name := "bitsFails", fn := fun _ => fun
  | [d1, d2, d3] => { results := [.lit (.bool false)], args := [d1, d2, d3] }
  | _ => none }
def BitsFailsWrongFalsely : Prop := bitsFailsRow.holds Try.pinned (OpenSpec.ofChange bitsFailsWrong)

/-- 'marcheslaw18.BitsNil': WHATEVER THE INPUT: true; the input reads as it did. -/
def bitsNilSpec : ChangeSpec := { name := "bitsNil", fn := fun _ => fun
  | [d] => { results := [.lit (.bool true)], args := [d] }
  | _ => none }
def bitsNilRow : OpenClaim := { program := "ytgjipjnfbpfenaa", sum := "925189aa17b68f1bb5ba0f6c26bd738bbb5546b8926126b8ca0badf68f586cdf", func := "marches/marcheslaw18.BitsNil", spec := "bitsNil", unfollowed := true, recurses := true, apart := false }
def BitsNilSaid : Prop := bitsNilRow.holds Try.pinned (OpenSpec.ofChange bitsNilSpec)

/-- ITS FALSE NEIGHBOUR: 'it returns false'. Refute it at one input. -/
def bitsNilWrong : ChangeSpec := { name := "bitsNil", fn := fun _ => fun
  | [d] => { results := [.lit (.bool false)], args := [d] }
  | _ => none }
def BitsNilWrongFalsely : Prop := bitsNilRow.holds Try.pinned (OpenSpec.ofChange bitsNilWrong)

/- THE SECOND FORM. 'bulk': how many values and letters a reading holds, each counted each time it is reached (what is shared counts as often as it is met; a slice's spare places count too). A statement '..UptoSaid' is the law's where the arguments, and the package variables that the reading takes, are together of bulk at most 1048576: NARROWER than '..Said'. Prove '..Said' where nothing that the law and all that it calls make is longer than what came in: it says more and counts as full. Else prove '..UptoSaid'. A law counts once. -/
mutual
def uptoBulk {H : Type} : DataW H → Nat
  | .lit (.string bytes) => bytes.length + 1
  | .lit _ => 1
  | .nil => 1
  | .ptr d => uptoBulk d + 1
  | .slice elems spare => uptoBulkAll elems + uptoBulkAll spare + 1
  | .agg parts => uptoBulkAll parts + 1
  | .iface _ d => uptoBulk d + 1
  | .map entries => uptoBulkEntries entries + 1
  | .held _ => 1
def uptoBulkAll {H : Type} : List (DataW H) → Nat
  | [] => 0
  | d :: r => uptoBulk d + uptoBulkAll r
def uptoBulkEntries {H : Type} : List (Lit × DataW H) → Nat
  | [] => 0
  | x :: r => uptoBulkEntry x + uptoBulkEntries r
def uptoBulkEntry {H : Type} : Lit × DataW H → Nat
  | (.string bytes, d) => bytes.length + uptoBulk d + 1
  | (_, d) => uptoBulk d + 1
 end
def uptoSmall : (H : Type) → List (DataW H) → Bool := fun _ ds => decide (uptoBulkAll ds ≤ 1048576)
def OpenSpec.upto (s : _root_.Go.ChangeSpec) : _root_.Go.OpenSpec := { _root_.Go.OpenSpec.ofChange s with cond := some uptoSmall }

/-- 'marcheslaw18.BitsCodes', WHERE WHAT IT READS IS OF BULK AT MOST 1048576: true; the input reads as it did. -/
def bitsCodesUptoRow : OpenClaim := { program := "ytgjipjnfbpfenaa", sum := "925189aa17b68f1bb5ba0f6c26bd738bbb5546b8926126b8ca0badf68f586cdf", func := "marches/marcheslaw18.BitsCodes", spec := "bitsCodes", unfollowed := true, recurses := true, apart := false, narrowed := true }
def BitsCodesUptoSaid : Prop := bitsCodesUptoRow.holds Try.pinned (OpenSpec.upto bitsCodesSpec)

/-- 'marcheslaw18.BitsPrefix', WHERE WHAT IT READS IS OF BULK AT MOST 1048576: true; the input reads as it did. -/
def bitsPrefixUptoRow : OpenClaim := { program := "ytgjipjnfbpfenaa", sum := "925189aa17b68f1bb5ba0f6c26bd738bbb5546b8926126b8ca0badf68f586cdf", func := "marches/marcheslaw18.BitsPrefix", spec := "bitsPrefix", unfollowed := true, recurses := true, apart := false, narrowed := true }
def BitsPrefixUptoSaid : Prop := bitsPrefixUptoRow.holds Try.pinned (OpenSpec.upto bitsPrefixSpec)

/-- 'marcheslaw18.BitsParts', WHERE WHAT IT READS IS OF BULK AT MOST 1048576: true; the input reads as it did. -/
def bitsPartsUptoRow : OpenClaim := { program := "ytgjipjnfbpfenaa", sum := "925189aa17b68f1bb5ba0f6c26bd738bbb5546b8926126b8ca0badf68f586cdf", func := "marches/marcheslaw18.BitsParts", spec := "bitsParts", unfollowed := true, recurses := true, apart := false, narrowed := true }
def BitsPartsUptoSaid : Prop := bitsPartsUptoRow.holds Try.pinned (OpenSpec.upto bitsPartsSpec)

/-- 'marcheslaw18.BitsInverse', WHERE WHAT IT READS IS OF BULK AT MOST 1048576: true; the input reads as it did. -/
def bitsInverseUptoRow : OpenClaim := { program := "ytgjipjnfbpfenaa", sum := "925189aa17b68f1bb5ba0f6c26bd738bbb5546b8926126b8ca0badf68f586cdf", func := "marches/marcheslaw18.BitsInverse", spec := "bitsInverse", unfollowed := true, recurses := true, apart := false, narrowed := true }
def BitsInverseUptoSaid : Prop := bitsInverseUptoRow.holds Try.pinned (OpenSpec.upto bitsInverseSpec)

/-- 'marcheslaw18.BitsOnly', WHERE WHAT IT READS IS OF BULK AT MOST 1048576: true; the input reads as it did. -/
def bitsOnlyUptoRow : OpenClaim := { program := "ytgjipjnfbpfenaa", sum := "925189aa17b68f1bb5ba0f6c26bd738bbb5546b8926126b8ca0badf68f586cdf", func := "marches/marcheslaw18.BitsOnly", spec := "bitsOnly", unfollowed := true, recurses := true, apart := false, narrowed := true }
def BitsOnlyUptoSaid : Prop := bitsOnlyUptoRow.holds Try.pinned (OpenSpec.upto bitsOnlySpec)

/-- 'marcheslaw18.BitsFails', WHERE WHAT IT READS IS OF BULK AT MOST 1048576: true; the input reads as it did. -/
def bitsFailsUptoRow : OpenClaim := { program := "ytgjipjnfbpfenaa", sum := "925189aa17b68f1bb5ba0f6c26bd738bbb5546b8926126b8ca0badf68f586cdf", func := "marches/marcheslaw18.BitsFails", spec := "bitsFails", unfollowed := true, recurses := true, apart := false, narrowed := true }
def BitsFailsUptoSaid : Prop := bitsFailsUptoRow.holds Try.pinned (OpenSpec.upto bitsFailsSpec)

/-- 'marcheslaw18.BitsNil', WHERE WHAT IT READS IS OF BULK AT MOST 1048576: true; the input reads as it did. -/
def bitsNilUptoRow : OpenClaim := { program := "ytgjipjnfbpfenaa", sum := "925189aa17b68f1bb5ba0f6c26bd738bbb5546b8926126b8ca0badf68f586cdf", func := "marches/marcheslaw18.BitsNil", spec := "bitsNil", unfollowed := true, recurses := true, apart := false, narrowed := true }
def BitsNilUptoSaid : Prop := bitsNilUptoRow.holds Try.pinned (OpenSpec.upto bitsNilSpec)

end Rows
end Go.Proofs.Ytgjipjnfbpfenaa
