/-
  DERIVED. GIVEN WITH THE SEED: THE CARDS: each row of YtlfbedifolcjcaaGreatDoorRows.lean that lists a variable, with what it lists TIED to the program's text (the seventh form; the later family's looks); each row that meets fmt, with fmt's text TOLD by the authors' own Lean function (tested against real Go, not proved from fmt's source: count such statements apart). THE CARD IS WHAT COUNTS. Prove the row's statement (the work); the ties are given (YtlfbedifolcjcaaGreatDoorTie.lean); close each card by the builder's one call (the guide's Derived/Test/ToyasCard.lean, 'card_holds'). Laid BY PROGRAM, IN A SANDBOX (cutbox-door.mjs). By AI agents, Wed Nov 11 2026. No macro, syntax, notation, axiom, sorry.
-/
import Derived.Test.YtlfbedifolcjcaaGreatDoorRows
import GoSem.ClaimSeven
namespace Go.Proofs.YtlfbedifolcjcaaGreatDoor
namespace Rows

/-- THE TIED CARD OF 'blotterlaw15.ClientWaits'. -/
def clientWaitsCard : Claim7 := { stood := { row := clientWaitsRow, standIns := [], harness := (true, "5e0e938f9e6a7508db46d3412eb9e7a079bbe8fcae72b5a2b8aa60bcaeec3ffa"), looks := true }, kinds := [], alts := [], laidByText := true, laidKinds := [.data, .data, .data, .handle, .sentinel, .sentinel], laidTests := true, laidLooks := .later }
def ClientWaitsCardSaid : Prop := Claim7.holds Tryz.pinned (.plain (OpenSpec.ofChange clientWaitsSpec)) clientWaitsCard

/-- THE SECOND FORM's CARD OF 'blotterlaw15.ClientWaits'. -/
def clientWaitsUptoCard : Claim7 := { stood := { row := clientWaitsUptoRow, standIns := [], harness := (true, "5e0e938f9e6a7508db46d3412eb9e7a079bbe8fcae72b5a2b8aa60bcaeec3ffa"), looks := true }, kinds := [], alts := [], laidByText := true, laidKinds := [.data, .data, .data, .handle, .sentinel, .sentinel], laidTests := true, laidLooks := .later }
def ClientWaitsUptoCardSaid : Prop := Claim7.holds Tryz.pinned (.plain (OpenSpec.upto clientWaitsSpec)) clientWaitsUptoCard
end Rows
end Go.Proofs.YtlfbedifolcjcaaGreatDoor
