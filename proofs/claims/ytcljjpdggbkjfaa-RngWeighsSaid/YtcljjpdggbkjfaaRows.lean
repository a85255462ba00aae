/-
  No cell of these rows narrows 'for every input' (looked for: loops, veiled, ifaces, maps, wideKeys, modest, calm, conditions, laid).
  DERIVED. THE GIVEN ROWS OF THIS SEAT. 7 by the template 'for every input the law returns true; each argument reads behind the call as it read before'; 0 by the template 'total and deterministic' (their statements: YtcljjpdggbkjfaaTotals.lean).
  GIVEN WITH THE SEED: the statements are not yours to turn. If you find one false, say at which input.
  Laid BY PROGRAM, IN A SANDBOX (cutbox-rows.mjs): the forced cells as the released guide's own fill.sh prints them over the translation 5f8a552a06eb7c6d… (all of the seat's roots in one cut). By AI agents, Wed Nov 11 2026. No macro, syntax, notation, axiom, sorry.
-/
import Derived.Test.YtcljjpdggbkjfaaChecked
import GoSem.Claim
import GoSem.ClaimJoined
import GoSem.ClaimMapViews
import Derived.JoinedTies
import Derived.KernelRfl
namespace Go.Proofs.Ytcljjpdggbkjfaa
/- THE CELL 'sum', in the pinned program and in every row, IS THE sha256 OF THE DUMP (.gsa) THAT YtcljjpdggbkjfaaProg.lean LOADS. Nothing in Lean hashes anything: it is a label: what it is worth is what the hold of that sum in a sandbox is worth. -/
noncomputable def Try.pinned : Pinned := { name := "ytcljjpdggbkjfaa", sum := "5f8a552a06eb7c6d68a98165c5a6bc2ef51f3bcacb774c2abbe28d196c1bb1f8", checked := Try.checked }
namespace Rows
def none {H : Type} : Left H := { results := [], args := [] }

/-- 'marcheslaw03.RngFair': WHATEVER THE INPUT: true; the input reads as it did. -/
def rngFairSpec : ChangeSpec := { name := "rngFair", fn := fun _ => fun
  | [d1, d2] => { results := [.lit (.bool true)], args := [d1, d2] }
  | _ => none }
def rngFairRow : OpenClaim := { program := "ytcljjpdggbkjfaa", sum := "5f8a552a06eb7c6d68a98165c5a6bc2ef51f3bcacb774c2abbe28d196c1bb1f8", func := "marches/marcheslaw03.RngFair", spec := "rngFair", unfollowed := true, recurses := true, apart := false }
def RngFairSaid : Prop := rngFairRow.holds Try.pinned (OpenSpec.ofChange rngFairSpec)

/-- ITS FALSE NEIGHBOUR: 'it returns false'. Refute it at one input. -/
def rngFairWrong : ChangeSpec := { name := "rngFair", fn := fun _ => fun
  | [d1, d2] => { results := [.lit (.bool false)], args := [d1, d2] }
  | _ => none }
def RngFairWrongFalsely : Prop := rngFairRow.holds Try.pinned (OpenSpec.ofChange rngFairWrong)

/-- 'marcheslaw03.RngSteps': WHATEVER THE INPUT: true; the input reads as it did. -/
def rngStepsSpec : ChangeSpec := { name := "rngSteps", fn := fun _ => fun
  | [d1, d2, d3, d4] => { results := [.lit (.bool true)], args := [d1, d2, d3, d4] }
  | _ => none }
def rngStepsRow : OpenClaim := { program := "ytcljjpdggbkjfaa", sum := "5f8a552a06eb7c6d68a98165c5a6bc2ef51f3bcacb774c2abbe28d196c1bb1f8", func := "marches/marcheslaw03.RngSteps", spec := "rngSteps", unfollowed := true, recurses := true, apart := false }
def RngStepsSaid : Prop := rngStepsRow.holds Try.pinned (OpenSpec.ofChange rngStepsSpec)

/-- ITS FALSE NEIGHBOUR: 'it returns false'. Refute it at one input. -/
def rngStepsWrong : ChangeSpec := { name := "rngSteps", fn := fun _ => fun
  | [d1, d2, d3, d4] => { results := [.lit (.bool false)], args := [d1, d2, d3, d4] }
  | _ => none }
def RngStepsWrongFalsely : Prop := rngStepsRow.holds Try.pinned (OpenSpec.ofChange rngStepsWrong)

/-- 'marcheslaw03.RngRanges': WHATEVER THE INPUT: true; the input reads as it did. -/
def rngRangesSpec : ChangeSpec := { name := "rngRanges", fn := fun _ => fun
  | [d1, d2, d3, d4, d5, d6] => { results := [.lit (.bool true)], args := [d1, d2, d3, d4, d5, d6] }
  | _ => none }
def rngRangesRow : OpenClaim := { program := "ytcljjpdggbkjfaa", sum := "5f8a552a06eb7c6d68a98165c5a6bc2ef51f3bcacb774c2abbe28d196c1bb1f8", func := "marches/marcheslaw03.RngRanges", spec := "rngRanges", unfollowed := true, recurses := true, apart := false }
def RngRangesSaid : Prop := rngRangesRow.holds Try.pinned (OpenSpec.ofChange rngRangesSpec)

/-- ITS FALSE NEIGHBOUR: 'it returns false'. Refute it at one input. -/
def rngRangesWrong : ChangeSpec := { name := "rngRanges", fn := fun _ => fun
  | [d1, d2, d3, d4, d5, d6] => { results := [.lit (.bool false)], args := [d1, d2, d3, d4, d5, d6] }
  | _ => none }
def RngRangesWrongFalsely : Prop := rngRangesRow.holds Try.pinned (OpenSpec.ofChange rngRangesWrong)

/-- 'marcheslaw03.RngWeighs': WHATEVER THE INPUT: true; the input reads as it did. -/
def rngWeighsSpec : ChangeSpec := { name := "rngWeighs", fn := fun _ => fun
  | [d1, d2, d3, d4] => { results := [.lit (.bool true)], args := [d1, d2, d3, d4] }
  | _ => none }
def rngWeighsRow : OpenClaim := { program := "ytcljjpdggbkjfaa", sum := "5f8a552a06eb7c6d68a98165c5a6bc2ef51f3bcacb774c2abbe28d196c1bb1f8", func := "marches/marcheslaw03.RngWeighs", spec := "rngWeighs", unfollowed := true, recurses := true, apart := false }
def RngWeighsSaid : Prop := rngWeighsRow.holds Try.pinned (OpenSpec.ofChange rngWeighsSpec)

/-- ITS FALSE NEIGHBOUR: 'it returns false'. Refute it at one input. -/
def rngWeighsWrong : ChangeSpec := { name := "rngWeighs", fn := fun _ => fun
  | [d1, d2, d3, d4] => { results := [.lit (.bool false)], args := [d1, d2, d3, d4] }
  | _ => none }
def RngWeighsWrongFalsely : Prop := rngWeighsRow.holds Try.pinned (OpenSpec.ofChange rngWeighsWrong)

/-- 'marcheslaw03.RngPerms': WHATEVER THE INPUT: true; the input reads as it did. -/
def rngPermsSpec : ChangeSpec := { name := "rngPerms", fn := fun _ => fun
  | [d1, d2, d3] => { results := [.lit (.bool true)], args := [d1, d2, d3] }
  | _ => none }
def rngPermsRow : OpenClaim := { program := "ytcljjpdggbkjfaa", sum := "5f8a552a06eb7c6d68a98165c5a6bc2ef51f3bcacb774c2abbe28d196c1bb1f8", func := "marches/marcheslaw03.RngPerms", spec := "rngPerms", unfollowed := true, recurses := true, apart := false }
def RngPermsSaid : Prop := rngPermsRow.holds Try.pinned (OpenSpec.ofChange rngPermsSpec)

/-- ITS FALSE NEIGHBOUR: 'it returns false'. Refute it at one input. -/
def rngPermsWrong : ChangeSpec := { name := "rngPerms", fn := fun _ => fun
  | [d1, d2, d3] => { results := [.lit (.bool false)], args := [d1, d2, d3] }
  | _ => none }
def RngPermsWrongFalsely : Prop := rngPermsRow.holds Try.pinned (OpenSpec.ofChange rngPermsWrong)

/-- 'marcheslaw03.RngWrong': WHATEVER THE INPUT: true; the input reads as it did. -/
def rngWrongSpec : ChangeSpec := { name := "rngWrong", fn := fun _ => fun
  | [d1, d2, d3] => { results := [.lit (.bool true)], args := [d1, d2, d3] }
  | _ => none }
def rngWrongRow : OpenClaim := { program := "ytcljjpdggbkjfaa", sum := "5f8a552a06eb7c6d68a98165c5a6bc2ef51f3bcacb774c2abbe28d196c1bb1f8", func := "marches/marcheslaw03.RngWrong", spec := "rngWrong", unfollowed := true, recurses := true, apart := false }
def RngWrongSaid : Prop := rngWrongRow.holds Try.pinned (OpenSpec.ofChange rngWrongSpec)

/-- ITS FALSE NEIGHBOUR: 'it returns false'. Refute it at one input. -/
def rngWrongWrong : ChangeSpec := { name := "rngWrong", fn := fun _ => fun
  | [d1, d2, d3] => { results := [.lit (.bool false)], args := [d1, d2, d3] }
  | _ => none }
def RngWrongWrongFalsely : Prop := rngWrongRow.holds Try.pinned (OpenSpec.ofChange rngWrongWrong)

/-- 'marcheslaw03.RngApart': WHATEVER THE INPUT: true; the input reads as it did. -/
def rngApartSpec : ChangeSpec := { name := "rngApart", fn := fun _ => fun
  | [d1, d2, d3, d4, d5, d6, d7] => { results := [.lit (.bool true)], args := [d1, d2, d3, d4, d5, d6, d7] }
  | _ => none }
def rngApartRow : OpenClaim := { program := "ytcljjpdggbkjfaa", sum := "5f8a552a06eb7c6d68a98165c5a6bc2ef51f3bcacb774c2abbe28d196c1bb1f8", func := "marches/marcheslaw03.RngApart", spec := "rngApart", unfollowed := true, recurses := true, apart := false }
def RngApartSaid : Prop := rngApartRow.holds Try.pinned (OpenSpec.ofChange rngApartSpec)

/-- ITS FALSE NEIGHBOUR: 'it returns false'. Refute it at one input. -/
def rngApartWrong : ChangeSpec := { name := "rngApart", fn := fun _ => fun
  | [d1, d2, d3, d4, d5, d6, d7] => { results := [.lit (.bool false)], args := [d1, d2, d3, d4, d5, d6, d7] }
  | _ => none }
def RngApartWrongFalsely : Prop := rngApartRow.holds Try.pinned (OpenSpec.ofChange rngApartWrong)

/- THE SECOND FORM. 'bulk': how many values and letters a reading holds, each counted each time it is reached (what is shared counts as often as it is met; a slice's spare places count too). A statement '..UptoSaid' is the law's where the arguments, and the package variables that the reading takes, are together of bulk at most 1048576: NARROWER than '..Said'. Prove '..Said' where nothing that the law and all that it calls make is longer than what came in: it says more and counts as full. Else prove '..UptoSaid'. A law counts once. -/
mutual
def uptoBulk {H : Type} : DataW H → Nat
  | .lit (.string bytes) => bytes.length + 1
  | .lit _ => 1
  | .nil => 1
  | .ptr d => uptoBulk d + 1
  | .slice elems spare => uptoBulkAll elems + uptoBulkAll spare + 1
  | .agg parts => uptoBulkAll parts + 1
  | .iface _ d => uptoBulk d + 1
  | .map entries => uptoBulkEntries entries + 1
  | .held _ => 1
def uptoBulkAll {H : Type} : List (DataW H) → Nat
  | [] => 0
  | d :: r => uptoBulk d + uptoBulkAll r
def uptoBulkEntries {H : Type} : List (Lit × DataW H) → Nat
  | [] => 0
  | x :: r => uptoBulkEntry x + uptoBulkEntries r
def uptoBulkEntry {H : Type} : Lit × DataW H → Nat
  | (.string bytes, d) => bytes.length + uptoBulk d + 1
  | (_, d) => uptoBulk d + 1
 end
def uptoSmall : (H : Type) → List (DataW H) → Bool := fun _ ds => decide (uptoBulkAll ds ≤ 1048576)
def OpenSpec.upto (s : _root_.Go.ChangeSpec) : _root_.Go.OpenSpec := { _root_.Go.OpenSpec.ofChange s with cond := some uptoSmall }

/-- 'marcheslaw03.RngFair', WHERE WHAT IT READS IS OF BULK AT MOST 1048576: true; the input reads as it did. -/
def rngFairUptoRow : OpenClaim := { program := "ytcljjpdggbkjfaa", sum := "5f8a552a06eb7c6d68a98165c5a6bc2ef51f3bcacb774c2abbe28d196c1bb1f8", func := "marches/marcheslaw03.RngFair", spec := "rngFair", unfollowed := true, recurses := true, apart := false, narrowed := true }
def RngFairUptoSaid : Prop := rngFairUptoRow.holds Try.pinned (OpenSpec.upto rngFairSpec)

/-- 'marcheslaw03.RngSteps', WHERE WHAT IT READS IS OF BULK AT MOST 1048576: true; the input reads as it did. -/
def rngStepsUptoRow : OpenClaim := { program := "ytcljjpdggbkjfaa", sum := "5f8a552a06eb7c6d68a98165c5a6bc2ef51f3bcacb774c2abbe28d196c1bb1f8", func := "marches/marcheslaw03.RngSteps", spec := "rngSteps", unfollowed := true, recurses := true, apart := false, narrowed := true }
def RngStepsUptoSaid : Prop := rngStepsUptoRow.holds Try.pinned (OpenSpec.upto rngStepsSpec)

/-- 'marcheslaw03.RngRanges', WHERE WHAT IT READS IS OF BULK AT MOST 1048576: true; the input reads as it did. -/
def rngRangesUptoRow : OpenClaim := { program := "ytcljjpdggbkjfaa", sum := "5f8a552a06eb7c6d68a98165c5a6bc2ef51f3bcacb774c2abbe28d196c1bb1f8", func := "marches/marcheslaw03.RngRanges", spec := "rngRanges", unfollowed := true, recurses := true, apart := false, narrowed := true }
def RngRangesUptoSaid : Prop := rngRangesUptoRow.holds Try.pinned (OpenSpec.upto rngRangesSpec)

/-- 'marcheslaw03.RngWeighs', WHERE WHAT IT READS IS OF BULK AT MOST 1048576: true; the input reads as it did. -/
def rngWeighsUptoRow : OpenClaim := { program := "ytcljjpdggbkjfaa", sum := "5f8a552a06eb7c6d68a98165c5a6bc2ef51f3bcacb774c2abbe28d196c1bb1f8", func := "marches/marcheslaw03.RngWeighs", spec := "rngWeighs", unfollowed := true, recurses := true, apart := false, narrowed := true }
def RngWeighsUptoSaid : Prop := rngWeighsUptoRow.holds Try.pinned (OpenSpec.upto rngWeighsSpec)

/-- 'marcheslaw03.RngPerms', WHERE WHAT IT READS IS OF BULK AT MOST 1048576: true; the input reads as it did. -/
def rngPermsUptoRow : OpenClaim := { program := "ytcljjpdggbkjfaa", sum := "5f8a552a06eb7c6d68a98165c5a6bc2ef51f3bcacb774c2abbe28d196c1bb1f8", func := "marches/marcheslaw03.RngPerms", spec := "rngPerms", unfollowed := true, recurses := true, apart := false, narrowed := true }
def RngPermsUptoSaid : Prop := rngPermsUptoRow.holds Try.pinned (OpenSpec.upto rngPermsSpec)

/-- 'marcheslaw03.RngWrong', WHERE WHAT IT READS IS OF BULK AT MOST 1048576: true; the input reads as it did. -/
def rngWrongUptoRow : OpenClaim := { program := "ytcljjpdggbkjfaa", sum := "5f8a552a06eb7c6d68a98165c5a6bc2ef51f3bcacb774c2abbe28d196c1bb1f8", func := "marches/marcheslaw03.RngWrong", spec := "rngWrong", unfollowed := true, recurses := true, apart := false, narrowed := true }
def RngWrongUptoSaid : Prop := rngWrongUptoRow.holds Try.pinned (OpenSpec.upto rngWrongSpec)

/-- 'marcheslaw03.RngApart', WHERE WHAT IT READS IS OF BULK AT MOST 1048576: true; the input reads as it did. -/
def rngApartUptoRow : OpenClaim := { program := "ytcljjpdggbkjfaa", sum := "5f8a552a06eb7c6d68a98165c5a6bc2ef51f3bcacb774c2abbe28d196c1bb1f8", func := "marches/marcheslaw03.RngApart", spec := "rngApart", unfollowed := true, recurses := true, apart := false, narrowed := true }
def RngApartUptoSaid : Prop := rngApartUptoRow.holds Try.pinned (OpenSpec.upto rngApartSpec)

end Rows
end Go.Proofs.Ytcljjpdggbkjfaa
