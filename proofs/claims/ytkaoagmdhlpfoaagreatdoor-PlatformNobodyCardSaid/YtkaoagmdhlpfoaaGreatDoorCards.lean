/-
  DERIVED. GIVEN WITH THE SEED: THE CARDS: each row of YtkaoagmdhlpfoaaGreatDoorRows.lean that lists a variable, with what it lists TIED to the program's text (the seventh form; the later family's looks); each row that meets fmt, with fmt's text TOLD by the authors' own Lean function (tested against real Go, not proved from fmt's source: count such statements apart). THE CARD IS WHAT COUNTS. Prove the row's statement (the work); the ties are given (YtkaoagmdhlpfoaaGreatDoorTie.lean); close each card by the builder's one call (the guide's Derived/Test/ToyasCard.lean, 'card_holds'). Laid BY PROGRAM, IN A SANDBOX (cutbox-door.mjs). By AI agents, Wed Nov 11 2026. No macro, syntax, notation, axiom, sorry.
-/
import Derived.Test.YtkaoagmdhlpfoaaGreatDoorRows
import GoSem.ClaimSeven
namespace Go.Proofs.YtkaoagmdhlpfoaaGreatDoor
namespace Rows

/-- THE TIED CARD OF 'blotterlaw16.PlatformNobody'. -/
def platformNobodyCard : Claim7 := { stood := { row := platformNobodyRow, standIns := [], harness := (true, "9d12f7e017999f6eb3434da89b236c8e5fbd1aeb0b7f7c399dfaff95a86230c8"), looks := true }, kinds := [], alts := [], laidByText := true, laidKinds := [.sentinel, .sentinel, .data, .data, .data, .handle, .data, .pinned, .data], laidTests := true, laidLooks := .later }
def PlatformNobodyCardSaid : Prop := Claim7.holds Tryz.pinned (.plain (OpenSpec.ofChange platformNobodySpec)) platformNobodyCard

/-- THE SECOND FORM's CARD OF 'blotterlaw16.PlatformNobody'. -/
def platformNobodyUptoCard : Claim7 := { stood := { row := platformNobodyUptoRow, standIns := [], harness := (true, "9d12f7e017999f6eb3434da89b236c8e5fbd1aeb0b7f7c399dfaff95a86230c8"), looks := true }, kinds := [], alts := [], laidByText := true, laidKinds := [.sentinel, .sentinel, .data, .data, .data, .handle, .data, .pinned, .data], laidTests := true, laidLooks := .later }
def PlatformNobodyUptoCardSaid : Prop := Claim7.holds Tryz.pinned (.plain (OpenSpec.upto platformNobodySpec)) platformNobodyUptoCard
end Rows
end Go.Proofs.YtkaoagmdhlpfoaaGreatDoor
