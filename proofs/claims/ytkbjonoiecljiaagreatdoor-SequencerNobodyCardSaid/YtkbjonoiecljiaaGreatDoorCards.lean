/-
  DERIVED. GIVEN WITH THE SEED: THE CARDS: each row of YtkbjonoiecljiaaGreatDoorRows.lean that lists a variable, with what it lists TIED to the program's text (the seventh form; the later family's looks); each row that meets fmt, with fmt's text TOLD by the authors' own Lean function (tested against real Go, not proved from fmt's source: count such statements apart). THE CARD IS WHAT COUNTS. Prove the row's statement (the work); the ties are given (YtkbjonoiecljiaaGreatDoorTie.lean); close each card by the builder's one call (the guide's Derived/Test/ToyasCard.lean, 'card_holds'). Laid BY PROGRAM, IN A SANDBOX (cutbox-door.mjs). By AI agents, Wed Nov 11 2026. No macro, syntax, notation, axiom, sorry.
-/
import Derived.Test.YtkbjonoiecljiaaGreatDoorRows
import GoSem.ClaimSeven
namespace Go.Proofs.YtkbjonoiecljiaaGreatDoor
namespace Rows

/-- THE TIED CARD OF 'blotterlaw14.SequencerNobody'. -/
def sequencerNobodyCard : Claim7 := { stood := { row := sequencerNobodyRow, standIns := [], harness := (true, "4cc25b22e3dcc306cbc14172a48f45002fc8f527522924566f320ff7c087ffb0"), looks := true }, kinds := [], alts := [], laidByText := true, laidKinds := [.data, .data, .data, .data, .handle, .sentinel, .sentinel, .data, .pinned], laidTests := true, laidLooks := .later }
def SequencerNobodyCardSaid : Prop := Claim7.holds Tryz.pinned (.plain (OpenSpec.ofChange sequencerNobodySpec)) sequencerNobodyCard

/-- THE SECOND FORM's CARD OF 'blotterlaw14.SequencerNobody'. -/
def sequencerNobodyUptoCard : Claim7 := { stood := { row := sequencerNobodyUptoRow, standIns := [], harness := (true, "4cc25b22e3dcc306cbc14172a48f45002fc8f527522924566f320ff7c087ffb0"), looks := true }, kinds := [], alts := [], laidByText := true, laidKinds := [.data, .data, .data, .data, .handle, .sentinel, .sentinel, .data, .pinned], laidTests := true, laidLooks := .later }
def SequencerNobodyUptoCardSaid : Prop := Claim7.holds Tryz.pinned (.plain (OpenSpec.upto sequencerNobodySpec)) sequencerNobodyUptoCard
end Rows
end Go.Proofs.YtkbjonoiecljiaaGreatDoor
