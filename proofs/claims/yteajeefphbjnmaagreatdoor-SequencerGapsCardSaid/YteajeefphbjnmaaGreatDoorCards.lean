/-
  DERIVED. GIVEN WITH THE SEED: THE CARDS: each row of YteajeefphbjnmaaGreatDoorRows.lean that lists a variable, with what it lists TIED to the program's text (the seventh form; the later family's looks); each row that meets fmt, with fmt's text TOLD by the authors' own Lean function (tested against real Go, not proved from fmt's source: count such statements apart). THE CARD IS WHAT COUNTS. Prove the row's statement (the work); the ties are given (YteajeefphbjnmaaGreatDoorTie.lean); close each card by the builder's one call (the guide's Derived/Test/ToyasCard.lean, 'card_holds'). Laid BY PROGRAM, IN A SANDBOX (cutbox-door.mjs). By AI agents, Wed Nov 11 2026. No macro, syntax, notation, axiom, sorry.
-/
import Derived.Test.YteajeefphbjnmaaGreatDoorRows
import GoSem.ClaimSeven
namespace Go.Proofs.YteajeefphbjnmaaGreatDoor
namespace Rows

/-- THE TIED CARD OF 'blotterlaw14.SequencerOnce'. -/
def sequencerOnceCard : Claim7 := { stood := { row := sequencerOnceRow, standIns := [], harness := (true, "de65a4d898ac1301e293bb19b79b4d1fe68a35a2315695858bd7244b2e87cd7b"), looks := true }, kinds := [], alts := [], laidByText := true, laidKinds := [.data, .data, .data, .handle, .sentinel, .sentinel], laidTests := true, laidLooks := .later }
def SequencerOnceCardSaid : Prop := Claim7.holds Tryz.pinned (.plain (OpenSpec.ofChange sequencerOnceSpec)) sequencerOnceCard

/-- THE TIED CARD OF 'blotterlaw14.SequencerGaps'. -/
def sequencerGapsCard : Claim7 := { stood := { row := sequencerGapsRow, standIns := [], harness := (true, "de65a4d898ac1301e293bb19b79b4d1fe68a35a2315695858bd7244b2e87cd7b"), looks := true }, kinds := [], alts := [], laidByText := true, laidKinds := [.data, .data, .data, .handle, .sentinel, .sentinel], laidTests := true, laidLooks := .later }
def SequencerGapsCardSaid : Prop := Claim7.holds Tryz.pinned (.plain (OpenSpec.ofChange sequencerGapsSpec)) sequencerGapsCard

/-- THE TIED CARD OF 'blotterlaw14.SequencerAgain'. -/
def sequencerAgainCard : Claim7 := { stood := { row := sequencerAgainRow, standIns := [], harness := (true, "de65a4d898ac1301e293bb19b79b4d1fe68a35a2315695858bd7244b2e87cd7b"), looks := true }, kinds := [], alts := [], laidByText := true, laidKinds := [.data, .data, .data, .handle, .sentinel, .sentinel], laidTests := true, laidLooks := .later }
def SequencerAgainCardSaid : Prop := Claim7.holds Tryz.pinned (.plain (OpenSpec.ofChange sequencerAgainSpec)) sequencerAgainCard

/-- THE TIED CARD OF 'blotterlaw14.SequencerPages'. -/
def sequencerPagesCard : Claim7 := { stood := { row := sequencerPagesRow, standIns := [], harness := (true, "de65a4d898ac1301e293bb19b79b4d1fe68a35a2315695858bd7244b2e87cd7b"), looks := true }, kinds := [], alts := [], laidByText := true, laidKinds := [.data, .data, .data, .handle, .sentinel, .sentinel], laidTests := true, laidLooks := .later }
def SequencerPagesCardSaid : Prop := Claim7.holds Tryz.pinned (.plain (OpenSpec.ofChange sequencerPagesSpec)) sequencerPagesCard

/-- THE SECOND FORM's CARD OF 'blotterlaw14.SequencerOnce'. -/
def sequencerOnceUptoCard : Claim7 := { stood := { row := sequencerOnceUptoRow, standIns := [], harness := (true, "de65a4d898ac1301e293bb19b79b4d1fe68a35a2315695858bd7244b2e87cd7b"), looks := true }, kinds := [], alts := [], laidByText := true, laidKinds := [.data, .data, .data, .handle, .sentinel, .sentinel], laidTests := true, laidLooks := .later }
def SequencerOnceUptoCardSaid : Prop := Claim7.holds Tryz.pinned (.plain (OpenSpec.upto sequencerOnceSpec)) sequencerOnceUptoCard

/-- THE SECOND FORM's CARD OF 'blotterlaw14.SequencerGaps'. -/
def sequencerGapsUptoCard : Claim7 := { stood := { row := sequencerGapsUptoRow, standIns := [], harness := (true, "de65a4d898ac1301e293bb19b79b4d1fe68a35a2315695858bd7244b2e87cd7b"), looks := true }, kinds := [], alts := [], laidByText := true, laidKinds := [.data, .data, .data, .handle, .sentinel, .sentinel], laidTests := true, laidLooks := .later }
def SequencerGapsUptoCardSaid : Prop := Claim7.holds Tryz.pinned (.plain (OpenSpec.upto sequencerGapsSpec)) sequencerGapsUptoCard

/-- THE SECOND FORM's CARD OF 'blotterlaw14.SequencerAgain'. -/
def sequencerAgainUptoCard : Claim7 := { stood := { row := sequencerAgainUptoRow, standIns := [], harness := (true, "de65a4d898ac1301e293bb19b79b4d1fe68a35a2315695858bd7244b2e87cd7b"), looks := true }, kinds := [], alts := [], laidByText := true, laidKinds := [.data, .data, .data, .handle, .sentinel, .sentinel], laidTests := true, laidLooks := .later }
def SequencerAgainUptoCardSaid : Prop := Claim7.holds Tryz.pinned (.plain (OpenSpec.upto sequencerAgainSpec)) sequencerAgainUptoCard

/-- THE SECOND FORM's CARD OF 'blotterlaw14.SequencerPages'. -/
def sequencerPagesUptoCard : Claim7 := { stood := { row := sequencerPagesUptoRow, standIns := [], harness := (true, "de65a4d898ac1301e293bb19b79b4d1fe68a35a2315695858bd7244b2e87cd7b"), looks := true }, kinds := [], alts := [], laidByText := true, laidKinds := [.data, .data, .data, .handle, .sentinel, .sentinel], laidTests := true, laidLooks := .later }
def SequencerPagesUptoCardSaid : Prop := Claim7.holds Tryz.pinned (.plain (OpenSpec.upto sequencerPagesSpec)) sequencerPagesUptoCard
end Rows
end Go.Proofs.YteajeefphbjnmaaGreatDoor
