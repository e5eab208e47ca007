/-
  DERIVED. GIVEN WITH THE SEED: THE CARDS: each row of YtknfcfeldncbiaaGreatDoorRows.lean that lists a variable, with what it lists TIED to the program's text (the seventh form; the later family's looks); each row that meets fmt, with fmt's text TOLD by the authors' own Lean function (tested against real Go, not proved from fmt's source: count such statements apart). THE CARD IS WHAT COUNTS. Prove the row's statement (the work); the ties are given (YtknfcfeldncbiaaGreatDoorTie.lean); close each card by the builder's one call (the guide's Derived/Test/ToyasCard.lean, 'card_holds'). Laid BY PROGRAM, IN A SANDBOX (cutbox-door.mjs). By AI agents, Wed Nov 11 2026. No macro, syntax, notation, axiom, sorry.
-/
import Derived.Test.YtknfcfeldncbiaaGreatDoorRows
import GoSem.ClaimSeven
namespace Go.Proofs.YtknfcfeldncbiaaGreatDoor
namespace Rows

/-- THE TIED CARD OF 'blotterlaw15.ClientNobody'. -/
def clientNobodyCard : Claim7 := { stood := { row := clientNobodyRow, standIns := [], harness := (true, "a08a6dc9c781c5050a7d19a12a53774fdd1d9f18f5f686752ac2f295678d8050"), looks := true }, kinds := [], alts := [], laidByText := true, laidKinds := [.data, .data, .data, .handle, .sentinel, .sentinel], laidTests := true, laidLooks := .later }
def ClientNobodyCardSaid : Prop := Claim7.holds Tryz.pinned (.plain (OpenSpec.ofChange clientNobodySpec)) clientNobodyCard

/-- THE SECOND FORM's CARD OF 'blotterlaw15.ClientNobody'. -/
def clientNobodyUptoCard : Claim7 := { stood := { row := clientNobodyUptoRow, standIns := [], harness := (true, "a08a6dc9c781c5050a7d19a12a53774fdd1d9f18f5f686752ac2f295678d8050"), looks := true }, kinds := [], alts := [], laidByText := true, laidKinds := [.data, .data, .data, .handle, .sentinel, .sentinel], laidTests := true, laidLooks := .later }
def ClientNobodyUptoCardSaid : Prop := Claim7.holds Tryz.pinned (.plain (OpenSpec.upto clientNobodySpec)) clientNobodyUptoCard
end Rows
end Go.Proofs.YtknfcfeldncbiaaGreatDoor
