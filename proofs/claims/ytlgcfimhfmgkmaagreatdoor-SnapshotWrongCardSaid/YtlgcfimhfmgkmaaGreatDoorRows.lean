/-
  NARROWER THAN 'FOR EVERY INPUT', by the rows' own cells (each row's printed sentence says how): SnapshotWhole: laid · SnapshotLogs: laid · SnapshotWrong: laid · SnapshotBlind: laid · SnapshotAgrees: laid.
  DERIVED. THE GIVEN ROWS OF THIS SEAT. 5 by the template 'for every input the law returns true; each argument reads behind the call as it read before'; 0 by the template 'total and deterministic' (their statements: YtlgcfimhfmgkmaaGreatDoorTotals.lean).
  GIVEN WITH THE SEED: the statements are not yours to turn. If you find one false, say at which input.
  Laid BY PROGRAM, IN A SANDBOX (cutbox-rows.mjs): the forced cells as the released guide's own fill.sh prints them over the translation 3d52cd38ff6cca25… (all of the seat's roots in one cut). By AI agents, Wed Nov 11 2026. No macro, syntax, notation, axiom, sorry.
-/
import Derived.Test.YtlgcfimhfmgkmaaGreatDoorChecked
import GoSem.Claim
import GoSem.ClaimJoined
import GoSem.ClaimMapViews
import Derived.JoinedTies
import Derived.KernelRfl
namespace Go.Proofs.YtlgcfimhfmgkmaaGreatDoor
/- THE CELL 'sum', in the pinned program and in every row, IS THE sha256 OF THE DUMP (.gsa) THAT YtlgcfimhfmgkmaaGreatDoorProg.lean LOADS. Nothing in Lean hashes anything: it is a label: what it is worth is what the hold of that sum in a sandbox is worth. -/
noncomputable def Tryz.pinned : Pinned := { name := "ytlgcfimhfmgkmaagreatdoor", sum := "3d52cd38ff6cca25752db95b8a5aba84af1c1e2508ee2b47c100fffbdc381e41", checked := Tryz.checked }
namespace Rows
def none {H : Type} : Left H := { results := [], args := [] }

/- WHAT THE LISTED PACKAGE-LEVEL VARIABLES READ AS WHEN THE CALL BEGINS. Each datum BY PROGRAM (the guide's laid-datum.mjs) off the statement by which the dump's own 'gosem.cut.vars' lays the variable. In a bare row this is a premise. The card (YtlgcfimhfmgkmaaGreatDoorCards.lean) ties it to the program's text. -/
def laid_marches_store_ranges {H : Type} : DataW H := .agg [.agg [.agg [.lit (.int .i64 0), .lit (.int .i64 0)], .agg [.lit (.int .i64 0), .lit (.int .i64 0)], .agg [.lit (.int .i64 0), .lit (.int .i64 0)], .agg [.lit (.int .i64 0), .lit (.int .i64 0)]], .agg [.agg [.lit (.int .i64 (-1048576)), .lit (.int .i64 1048576)], .agg [.lit (.int .i64 (-1048576)), .lit (.int .i64 1048576)], .agg [.lit (.int .i64 0), .lit (.int .i64 0)], .agg [.lit (.int .i64 0), .lit (.int .i64 0)]], .agg [.agg [.lit (.int .i64 (-4096)), .lit (.int .i64 4096)], .agg [.lit (.int .i64 (-4096)), .lit (.int .i64 4096)], .agg [.lit (.int .i64 0), .lit (.int .i64 0)], .agg [.lit (.int .i64 0), .lit (.int .i64 0)]], .agg [.agg [.lit (.int .i64 1), .lit (.int .i64 16384)], .agg [.lit (.int .i64 1), .lit (.int .i64 16384)], .agg [.lit (.int .i64 0), .lit (.int .i64 1)], .agg [.lit (.int .i64 0), .lit (.int .i64 1)]], .agg [.agg [.lit (.int .i64 1), .lit (.int .i64 8)], .agg [.lit (.int .i64 0), .lit (.int .i64 0)], .agg [.lit (.int .i64 0), .lit (.int .i64 0)], .agg [.lit (.int .i64 0), .lit (.int .i64 0)]], .agg [.agg [.lit (.int .i64 0), .lit (.int .i64 510)], .agg [.lit (.int .i64 0), .lit (.int .i64 0)], .agg [.lit (.int .i64 0), .lit (.int .i64 0)], .agg [.lit (.int .i64 0), .lit (.int .i64 0)]], .agg [.agg [.lit (.int .i64 0), .lit (.int .i64 15)], .agg [.lit (.int .i64 0), .lit (.int .i64 0)], .agg [.lit (.int .i64 0), .lit (.int .i64 0)], .agg [.lit (.int .i64 0), .lit (.int .i64 0)]], .agg [.agg [.lit (.int .i64 (-2147483648)), .lit (.int .i64 2147483647)], .agg [.lit (.int .i64 (-2147483648)), .lit (.int .i64 2147483647)], .agg [.lit (.int .i64 (-2147483648)), .lit (.int .i64 2147483647)], .agg [.lit (.int .i64 (-2147483648)), .lit (.int .i64 2147483647)]], .agg [.agg [.lit (.int .i64 0), .lit (.int .i64 1048576)], .agg [.lit (.int .i64 0), .lit (.int .i64 1048576)], .agg [.lit (.int .i64 0), .lit (.int .i64 0)], .agg [.lit (.int .i64 0), .lit (.int .i64 0)]], .agg [.agg [.lit (.int .i64 0), .lit (.int .i64 2147483647)], .agg [.lit (.int .i64 0), .lit (.int .i64 2147483647)], .agg [.lit (.int .i64 0), .lit (.int .i64 2147483647)], .agg [.lit (.int .i64 0), .lit (.int .i64 2147483647)]], .agg [.agg [.lit (.int .i64 (-2147483648)), .lit (.int .i64 2147483647)], .agg [.lit (.int .i64 (-2147483648)), .lit (.int .i64 2147483647)], .agg [.lit (.int .i64 (-2147483648)), .lit (.int .i64 2147483647)], .agg [.lit (.int .i64 (-2147483648)), .lit (.int .i64 2147483647)]]]
def laid_marches_delta_sizes {H : Type} : DataW H := .agg [.lit (.int .i64 0), .lit (.int .i64 2), .lit (.int .i64 2), .lit (.int .i64 4), .lit (.int .i64 1), .lit (.int .i64 1), .lit (.int .i64 1), .lit (.int .i64 4), .lit (.int .i64 2), .lit (.int .i64 4), .lit (.int .i64 4)]

/-- 'marcheslaw26.SnapshotWhole': WHATEVER THE INPUT: true; the input reads as it did. -/
def snapshotWholeSpec : ChangeSpec := { name := "snapshotWhole", fn := fun _ => fun
  | [d1, d2, d3] => { results := [.lit (.bool true)], args := [d1, d2, d3] }
  | _ => none }
def snapshotWholeRow : OpenClaim := { program := "ytlgcfimhfmgkmaagreatdoor", sum := "3d52cd38ff6cca25752db95b8a5aba84af1c1e2508ee2b47c100fffbdc381e41", func := "marches/marcheslaw26.SnapshotWhole", spec := "snapshotWhole", inPlace := ["slices.overlaps[marches/snapshot.Record]"], unfollowed := true, recurses := true, named := ["marches/store.ranges", "marches/delta.sizes"], apart := false, laid := [("marches/store.ranges", laid_marches_store_ranges), ("marches/delta.sizes", laid_marches_delta_sizes)] }
def SnapshotWholeSaid : Prop := snapshotWholeRow.holds Tryz.pinned (OpenSpec.ofChange snapshotWholeSpec)

/-- ITS FALSE NEIGHBOUR: 'it returns false'. Refute it at one input. -/
def snapshotWholeWrong : ChangeSpec := { name := "snapshotWhole", fn := fun _ => fun
  | [d1, d2, d3] => { results := [.lit (.bool false)], args := [d1, d2, d3] }
  | _ => none }
def SnapshotWholeWrongFalsely : Prop := snapshotWholeRow.holds Tryz.pinned (OpenSpec.ofChange snapshotWholeWrong)

/-- 'marcheslaw26.SnapshotLogs': WHATEVER THE INPUT: true; the input reads as it did. -/
def snapshotLogsSpec : ChangeSpec := { name := "snapshotLogs", fn := fun _ => fun
  | [d] => { results := [.lit (.bool true)], args := [d] }
  | _ => none }
def snapshotLogsRow : OpenClaim := { program := "ytlgcfimhfmgkmaagreatdoor", sum := "3d52cd38ff6cca25752db95b8a5aba84af1c1e2508ee2b47c100fffbdc381e41", func := "marches/marcheslaw26.SnapshotLogs", spec := "snapshotLogs", inPlace := ["slices.overlaps[marches/snapshot.Record]"], unfollowed := true, recurses := true, named := ["marches/store.ranges", "marches/delta.sizes"], apart := false, laid := [("marches/store.ranges", laid_marches_store_ranges), ("marches/delta.sizes", laid_marches_delta_sizes)] }
def SnapshotLogsSaid : Prop := snapshotLogsRow.holds Tryz.pinned (OpenSpec.ofChange snapshotLogsSpec)

/-- ITS FALSE NEIGHBOUR: 'it returns false'. Refute it at one input. -/
def snapshotLogsWrong : ChangeSpec := { name := "snapshotLogs", fn := fun _ => fun
  | [d] => { results := [.lit (.bool false)], args := [d] }
  | _ => none }
def SnapshotLogsWrongFalsely : Prop := snapshotLogsRow.holds Tryz.pinned (OpenSpec.ofChange snapshotLogsWrong)

/-- 'marcheslaw26.SnapshotWrong': WHATEVER THE INPUT: true; the input reads as it did. -/
def snapshotWrongSpec : ChangeSpec := { name := "snapshotWrong", fn := fun _ => fun
  | [d1, d2] => { results := [.lit (.bool true)], args := [d1, d2] }
  | _ => none }
def snapshotWrongRow : OpenClaim := { program := "ytlgcfimhfmgkmaagreatdoor", sum := "3d52cd38ff6cca25752db95b8a5aba84af1c1e2508ee2b47c100fffbdc381e41", func := "marches/marcheslaw26.SnapshotWrong", spec := "snapshotWrong", inPlace := ["slices.overlaps[marches/snapshot.Record]"], unfollowed := true, recurses := true, named := ["marches/store.ranges", "marches/delta.sizes"], apart := false, laid := [("marches/store.ranges", laid_marches_store_ranges), ("marches/delta.sizes", laid_marches_delta_sizes)] }
def SnapshotWrongSaid : Prop := snapshotWrongRow.holds Tryz.pinned (OpenSpec.ofChange snapshotWrongSpec)

/-- ITS FALSE NEIGHBOUR: 'it returns false'. Refute it at one input. -/
def snapshotWrongWrong : ChangeSpec := { name := "snapshotWrong", fn := fun _ => fun
  | [d1, d2] => { results := [.lit (.bool false)], args := [d1, d2] }
  | _ => none }
def SnapshotWrongWrongFalsely : Prop := snapshotWrongRow.holds Tryz.pinned (OpenSpec.ofChange snapshotWrongWrong)

/-- 'marcheslaw26.SnapshotBlind': WHATEVER THE INPUT: true; the input reads as it did. -/
def snapshotBlindSpec : ChangeSpec := { name := "snapshotBlind", fn := fun _ => fun
  | [d1, d2, d3, d4] => { results := [.lit (.bool true)], args := [d1, d2, d3, d4] }
  | _ => none }
def snapshotBlindRow : OpenClaim := { program := "ytlgcfimhfmgkmaagreatdoor", sum := "3d52cd38ff6cca25752db95b8a5aba84af1c1e2508ee2b47c100fffbdc381e41", func := "marches/marcheslaw26.SnapshotBlind", spec := "snapshotBlind", inPlace := ["slices.overlaps[marches/snapshot.Record]", "slices.overlaps[marches/api.Entity]", "slices.overlaps[marches/api.Comp]"], unfollowed := true, recurses := true, named := ["marches/store.ranges", "marches/delta.sizes"], apart := false, laid := [("marches/store.ranges", laid_marches_store_ranges), ("marches/delta.sizes", laid_marches_delta_sizes)] }
def SnapshotBlindSaid : Prop := snapshotBlindRow.holds Tryz.pinned (OpenSpec.ofChange snapshotBlindSpec)

/-- ITS FALSE NEIGHBOUR: 'it returns false'. Refute it at one input. -/
def snapshotBlindWrong : ChangeSpec := { name := "snapshotBlind", fn := fun _ => fun
  | [d1, d2, d3, d4] => { results := [.lit (.bool false)], args := [d1, d2, d3, d4] }
  | _ => none }
def SnapshotBlindWrongFalsely : Prop := snapshotBlindRow.holds Tryz.pinned (OpenSpec.ofChange snapshotBlindWrong)

/-- 'marcheslaw26.SnapshotAgrees': WHATEVER THE INPUT: true; the input reads as it did. -/
def snapshotAgreesSpec : ChangeSpec := { name := "snapshotAgrees", fn := fun _ => fun
  | [d1, d2] => { results := [.lit (.bool true)], args := [d1, d2] }
  | _ => none }
def snapshotAgreesRow : OpenClaim := { program := "ytlgcfimhfmgkmaagreatdoor", sum := "3d52cd38ff6cca25752db95b8a5aba84af1c1e2508ee2b47c100fffbdc381e41", func := "marches/marcheslaw26.SnapshotAgrees", spec := "snapshotAgrees", inPlace := ["slices.overlaps[marches/snapshot.Record]", "slices.overlaps[marches/api.Comp]", "slices.overlaps[marches/api.Entity]"], unfollowed := true, recurses := true, named := ["marches/store.ranges", "marches/delta.sizes"], apart := false, laid := [("marches/store.ranges", laid_marches_store_ranges), ("marches/delta.sizes", laid_marches_delta_sizes)] }
def SnapshotAgreesSaid : Prop := snapshotAgreesRow.holds Tryz.pinned (OpenSpec.ofChange snapshotAgreesSpec)

/-- ITS FALSE NEIGHBOUR: 'it returns false'. Refute it at one input. -/
def snapshotAgreesWrong : ChangeSpec := { name := "snapshotAgrees", fn := fun _ => fun
  | [d1, d2] => { results := [.lit (.bool false)], args := [d1, d2] }
  | _ => none }
def SnapshotAgreesWrongFalsely : Prop := snapshotAgreesRow.holds Tryz.pinned (OpenSpec.ofChange snapshotAgreesWrong)

/- THE SECOND FORM. 'bulk': how many values and letters a reading holds, each counted each time it is reached (what is shared counts as often as it is met; a slice's spare places count too). A statement '..UptoSaid' is the law's where the arguments, and the package variables that the reading takes, are together of bulk at most 1048576: NARROWER than '..Said'. Prove '..Said' where nothing that the law and all that it calls make is longer than what came in: it says more and counts as full. Else prove '..UptoSaid'. A law counts once. -/
mutual
def uptoBulk {H : Type} : DataW H → Nat
  | .lit (.string bytes) => bytes.length + 1
  | .lit _ => 1
  | .nil => 1
  | .ptr d => uptoBulk d + 1
  | .slice elems spare => uptoBulkAll elems + uptoBulkAll spare + 1
  | .agg parts => uptoBulkAll parts + 1
  | .iface _ d => uptoBulk d + 1
  | .map entries => uptoBulkEntries entries + 1
  | .held _ => 1
def uptoBulkAll {H : Type} : List (DataW H) → Nat
  | [] => 0
  | d :: r => uptoBulk d + uptoBulkAll r
def uptoBulkEntries {H : Type} : List (Lit × DataW H) → Nat
  | [] => 0
  | x :: r => uptoBulkEntry x + uptoBulkEntries r
def uptoBulkEntry {H : Type} : Lit × DataW H → Nat
  | (.string bytes, d) => bytes.length + uptoBulk d + 1
  | (_, d) => uptoBulk d + 1
 end
def uptoSmall : (H : Type) → List (DataW H) → Bool := fun _ ds => decide (uptoBulkAll ds ≤ 1048576)
def OpenSpec.upto (s : _root_.Go.ChangeSpec) : _root_.Go.OpenSpec := { _root_.Go.OpenSpec.ofChange s with cond := some uptoSmall }

/-- 'marcheslaw26.SnapshotWhole', WHERE WHAT IT READS IS OF BULK AT MOST 1048576: true; the input reads as it did. -/
def snapshotWholeUptoRow : OpenClaim := { program := "ytlgcfimhfmgkmaagreatdoor", sum := "3d52cd38ff6cca25752db95b8a5aba84af1c1e2508ee2b47c100fffbdc381e41", func := "marches/marcheslaw26.SnapshotWhole", spec := "snapshotWhole", inPlace := ["slices.overlaps[marches/snapshot.Record]"], unfollowed := true, recurses := true, named := ["marches/store.ranges", "marches/delta.sizes"], apart := false, laid := [("marches/store.ranges", laid_marches_store_ranges), ("marches/delta.sizes", laid_marches_delta_sizes)], narrowed := true }
def SnapshotWholeUptoSaid : Prop := snapshotWholeUptoRow.holds Tryz.pinned (OpenSpec.upto snapshotWholeSpec)

/-- 'marcheslaw26.SnapshotLogs', WHERE WHAT IT READS IS OF BULK AT MOST 1048576: true; the input reads as it did. -/
def snapshotLogsUptoRow : OpenClaim := { program := "ytlgcfimhfmgkmaagreatdoor", sum := "3d52cd38ff6cca25752db95b8a5aba84af1c1e2508ee2b47c100fffbdc381e41", func := "marches/marcheslaw26.SnapshotLogs", spec := "snapshotLogs", inPlace := ["slices.overlaps[marches/snapshot.Record]"], unfollowed := true, recurses := true, named := ["marches/store.ranges", "marches/delta.sizes"], apart := false, laid := [("marches/store.ranges", laid_marches_store_ranges), ("marches/delta.sizes", laid_marches_delta_sizes)], narrowed := true }
def SnapshotLogsUptoSaid : Prop := snapshotLogsUptoRow.holds Tryz.pinned (OpenSpec.upto snapshotLogsSpec)

/-- 'marcheslaw26.SnapshotWrong', WHERE WHAT IT READS IS OF BULK AT MOST 1048576: true; the input reads as it did. -/
def snapshotWrongUptoRow : OpenClaim := { program := "ytlgcfimhfmgkmaagreatdoor", sum := "3d52cd38ff6cca25752db95b8a5aba84af1c1e2508ee2b47c100fffbdc381e41", func := "marches/marcheslaw26.SnapshotWrong", spec := "snapshotWrong", inPlace := ["slices.overlaps[marches/snapshot.Record]"], unfollowed := true, recurses := true, named := ["marches/store.ranges", "marches/delta.sizes"], apart := false, laid := [("marches/store.ranges", laid_marches_store_ranges), ("marches/delta.sizes", laid_marches_delta_sizes)], narrowed := true }
def SnapshotWrongUptoSaid : Prop := snapshotWrongUptoRow.holds Tryz.pinned (OpenSpec.upto snapshotWrongSpec)

/-- 'marcheslaw26.SnapshotBlind', WHERE WHAT IT READS IS OF BULK AT MOST 1048576: true; the input reads as it did. -/
def snapshotBlindUptoRow : OpenClaim := { program := "ytlgcfimhfmgkmaagreatdoor", sum := "3d52cd38ff6cca25752db95b8a5aba84af1c1e2508ee2b47c100fffbdc381e41", func := "marches/marcheslaw26.SnapshotBlind", spec := "snapshotBlind", inPlace := ["slices.overlaps[marches/snapshot.Record]", "slices.overlaps[marches/api.Entity]", "slices.overlaps[marches/api.Comp]"], unfollowed := true, recurses := true, named := ["marches/store.ranges", "marches/delta.sizes"], apart := false, laid := [("marches/store.ranges", laid_marches_store_ranges), ("marches/delta.sizes", laid_marches_delta_sizes)], narrowed := true }
def SnapshotBlindUptoSaid : Prop := snapshotBlindUptoRow.holds Tryz.pinned (OpenSpec.upto snapshotBlindSpec)

/-- 'marcheslaw26.SnapshotAgrees', WHERE WHAT IT READS IS OF BULK AT MOST 1048576: true; the input reads as it did. -/
def snapshotAgreesUptoRow : OpenClaim := { program := "ytlgcfimhfmgkmaagreatdoor", sum := "3d52cd38ff6cca25752db95b8a5aba84af1c1e2508ee2b47c100fffbdc381e41", func := "marches/marcheslaw26.SnapshotAgrees", spec := "snapshotAgrees", inPlace := ["slices.overlaps[marches/snapshot.Record]", "slices.overlaps[marches/api.Comp]", "slices.overlaps[marches/api.Entity]"], unfollowed := true, recurses := true, named := ["marches/store.ranges", "marches/delta.sizes"], apart := false, laid := [("marches/store.ranges", laid_marches_store_ranges), ("marches/delta.sizes", laid_marches_delta_sizes)], narrowed := true }
def SnapshotAgreesUptoSaid : Prop := snapshotAgreesUptoRow.holds Tryz.pinned (OpenSpec.upto snapshotAgreesSpec)

end Rows
end Go.Proofs.YtlgcfimhfmgkmaaGreatDoor
