/-
  DERIVED. GIVEN WITH THE SEED: THE CARDS: each row of YtlgcfimhfmgkmaaGreatDoorRows.lean that lists a variable, with what it lists TIED to the program's text (the seventh form; the later family's looks); each row that meets fmt, with fmt's text TOLD by the authors' own Lean function (tested against real Go, not proved from fmt's source: count such statements apart). THE CARD IS WHAT COUNTS. Prove the row's statement (the work); the ties are given (YtlgcfimhfmgkmaaGreatDoorTie.lean); close each card by the builder's one call (the guide's Derived/Test/ToyasCard.lean, 'card_holds'). Laid BY PROGRAM, IN A SANDBOX (cutbox-door.mjs). By AI agents, Wed Nov 11 2026. No macro, syntax, notation, axiom, sorry.
-/
import Derived.Test.YtlgcfimhfmgkmaaGreatDoorRows
import GoSem.ClaimSeven
namespace Go.Proofs.YtlgcfimhfmgkmaaGreatDoor
namespace Rows

/-- THE TIED CARD OF 'marcheslaw26.SnapshotWhole'. -/
def snapshotWholeCard : Claim7 := { stood := { row := snapshotWholeRow, standIns := [], harness := (true, "6f425d9ead7659f3e233f35b97fe2744831e7894f187731f28d3de192de1b11f"), looks := false }, kinds := [], alts := [], laidByText := true, laidKinds := [.data, .data], laidTests := true, laidLooks := .later }
def SnapshotWholeCardSaid : Prop := Claim7.holds Tryz.pinned (.plain (OpenSpec.ofChange snapshotWholeSpec)) snapshotWholeCard

/-- THE TIED CARD OF 'marcheslaw26.SnapshotLogs'. -/
def snapshotLogsCard : Claim7 := { stood := { row := snapshotLogsRow, standIns := [], harness := (true, "6f425d9ead7659f3e233f35b97fe2744831e7894f187731f28d3de192de1b11f"), looks := false }, kinds := [], alts := [], laidByText := true, laidKinds := [.data, .data], laidTests := true, laidLooks := .later }
def SnapshotLogsCardSaid : Prop := Claim7.holds Tryz.pinned (.plain (OpenSpec.ofChange snapshotLogsSpec)) snapshotLogsCard

/-- THE TIED CARD OF 'marcheslaw26.SnapshotWrong'. -/
def snapshotWrongCard : Claim7 := { stood := { row := snapshotWrongRow, standIns := [], harness := (true, "6f425d9ead7659f3e233f35b97fe2744831e7894f187731f28d3de192de1b11f"), looks := false }, kinds := [], alts := [], laidByText := true, laidKinds := [.data, .data], laidTests := true, laidLooks := .later }
def SnapshotWrongCardSaid : Prop := Claim7.holds Tryz.pinned (.plain (OpenSpec.ofChange snapshotWrongSpec)) snapshotWrongCard

/-- THE TIED CARD OF 'marcheslaw26.SnapshotBlind'. -/
def snapshotBlindCard : Claim7 := { stood := { row := snapshotBlindRow, standIns := [], harness := (true, "6f425d9ead7659f3e233f35b97fe2744831e7894f187731f28d3de192de1b11f"), looks := false }, kinds := [], alts := [], laidByText := true, laidKinds := [.data, .data], laidTests := true, laidLooks := .later }
def SnapshotBlindCardSaid : Prop := Claim7.holds Tryz.pinned (.plain (OpenSpec.ofChange snapshotBlindSpec)) snapshotBlindCard

/-- THE TIED CARD OF 'marcheslaw26.SnapshotAgrees'. -/
def snapshotAgreesCard : Claim7 := { stood := { row := snapshotAgreesRow, standIns := [], harness := (true, "6f425d9ead7659f3e233f35b97fe2744831e7894f187731f28d3de192de1b11f"), looks := false }, kinds := [], alts := [], laidByText := true, laidKinds := [.data, .data], laidTests := true, laidLooks := .later }
def SnapshotAgreesCardSaid : Prop := Claim7.holds Tryz.pinned (.plain (OpenSpec.ofChange snapshotAgreesSpec)) snapshotAgreesCard

/-- THE SECOND FORM's CARD OF 'marcheslaw26.SnapshotWhole'. -/
def snapshotWholeUptoCard : Claim7 := { stood := { row := snapshotWholeUptoRow, standIns := [], harness := (true, "6f425d9ead7659f3e233f35b97fe2744831e7894f187731f28d3de192de1b11f"), looks := false }, kinds := [], alts := [], laidByText := true, laidKinds := [.data, .data], laidTests := true, laidLooks := .later }
def SnapshotWholeUptoCardSaid : Prop := Claim7.holds Tryz.pinned (.plain (OpenSpec.upto snapshotWholeSpec)) snapshotWholeUptoCard

/-- THE SECOND FORM's CARD OF 'marcheslaw26.SnapshotLogs'. -/
def snapshotLogsUptoCard : Claim7 := { stood := { row := snapshotLogsUptoRow, standIns := [], harness := (true, "6f425d9ead7659f3e233f35b97fe2744831e7894f187731f28d3de192de1b11f"), looks := false }, kinds := [], alts := [], laidByText := true, laidKinds := [.data, .data], laidTests := true, laidLooks := .later }
def SnapshotLogsUptoCardSaid : Prop := Claim7.holds Tryz.pinned (.plain (OpenSpec.upto snapshotLogsSpec)) snapshotLogsUptoCard

/-- THE SECOND FORM's CARD OF 'marcheslaw26.SnapshotWrong'. -/
def snapshotWrongUptoCard : Claim7 := { stood := { row := snapshotWrongUptoRow, standIns := [], harness := (true, "6f425d9ead7659f3e233f35b97fe2744831e7894f187731f28d3de192de1b11f"), looks := false }, kinds := [], alts := [], laidByText := true, laidKinds := [.data, .data], laidTests := true, laidLooks := .later }
def SnapshotWrongUptoCardSaid : Prop := Claim7.holds Tryz.pinned (.plain (OpenSpec.upto snapshotWrongSpec)) snapshotWrongUptoCard

/-- THE SECOND FORM's CARD OF 'marcheslaw26.SnapshotBlind'. -/
def snapshotBlindUptoCard : Claim7 := { stood := { row := snapshotBlindUptoRow, standIns := [], harness := (true, "6f425d9ead7659f3e233f35b97fe2744831e7894f187731f28d3de192de1b11f"), looks := false }, kinds := [], alts := [], laidByText := true, laidKinds := [.data, .data], laidTests := true, laidLooks := .later }
def SnapshotBlindUptoCardSaid : Prop := Claim7.holds Tryz.pinned (.plain (OpenSpec.upto snapshotBlindSpec)) snapshotBlindUptoCard

/-- THE SECOND FORM's CARD OF 'marcheslaw26.SnapshotAgrees'. -/
def snapshotAgreesUptoCard : Claim7 := { stood := { row := snapshotAgreesUptoRow, standIns := [], harness := (true, "6f425d9ead7659f3e233f35b97fe2744831e7894f187731f28d3de192de1b11f"), looks := false }, kinds := [], alts := [], laidByText := true, laidKinds := [.data, .data], laidTests := true, laidLooks := .later }
def SnapshotAgreesUptoCardSaid : Prop := Claim7.holds Tryz.pinned (.plain (OpenSpec.upto snapshotAgreesSpec)) snapshotAgreesUptoCard
end Rows
end Go.Proofs.YtlgcfimhfmgkmaaGreatDoor
