/-
  DERIVED. GIVEN WITH THE SEED: THE CARDS: each row of YtabgeonlodmpiaaGreatDoorRows.lean that lists a variable, with what it lists TIED to the program's text (the seventh form; the later family's looks); each row that meets fmt, with fmt's text TOLD by the authors' own Lean function (tested against real Go, not proved from fmt's source: count such statements apart). THE CARD IS WHAT COUNTS. Prove the row's statement (the work); the ties are given (YtabgeonlodmpiaaGreatDoorTie.lean); close each card by the builder's one call (the guide's Derived/Test/ToyasCard.lean, 'card_holds'). Laid BY PROGRAM, IN A SANDBOX (cutbox-door.mjs). By AI agents, Wed Nov 11 2026. No macro, syntax, notation, axiom, sorry.
-/
import Derived.Test.YtabgeonlodmpiaaGreatDoorRows
import GoSem.ClaimSeven
namespace Go.Proofs.YtabgeonlodmpiaaGreatDoor
namespace Rows

/-- THE TIED CARD OF 'marcheslaw03.RngWords'. -/
def rngWordsCard : Claim7 := { stood := { row := rngWordsRow, standIns := [], harness := (true, "c0afff6178a928f0d077d5aa7043797d2b560528a3fb63c127497164332d4b66"), looks := true }, kinds := [], alts := [], laidByText := true, laidKinds := [.data, .data, .data, .data, .data, .data, .data], laidTests := true, laidLooks := .later }
def RngWordsCardSaid : Prop := Claim7.holds Tryz.pinned (.plain (OpenSpec.ofChange rngWordsSpec)) rngWordsCard

/-- THE SECOND FORM's CARD OF 'marcheslaw03.RngWords'. -/
def rngWordsUptoCard : Claim7 := { stood := { row := rngWordsUptoRow, standIns := [], harness := (true, "c0afff6178a928f0d077d5aa7043797d2b560528a3fb63c127497164332d4b66"), looks := true }, kinds := [], alts := [], laidByText := true, laidKinds := [.data, .data, .data, .data, .data, .data, .data], laidTests := true, laidLooks := .later }
def RngWordsUptoCardSaid : Prop := Claim7.holds Tryz.pinned (.plain (OpenSpec.upto rngWordsSpec)) rngWordsUptoCard
end Rows
end Go.Proofs.YtabgeonlodmpiaaGreatDoor
