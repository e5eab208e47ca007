/-
  DERIVED. GIVEN WITH THE SEED: THE CARDS: each row of YtdjlhmmfplhhdaaGreatDoorRows.lean that lists a variable, with what it lists TIED to the program's text (the seventh form; the later family's looks); each row that meets fmt, with fmt's text TOLD by the authors' own Lean function (tested against real Go, not proved from fmt's source: count such statements apart). THE CARD IS WHAT COUNTS. Prove the row's statement (the work); the ties are given (YtdjlhmmfplhhdaaGreatDoorTie.lean); close each card by the builder's one call (the guide's Derived/Test/ToyasCard.lean, 'card_holds'). Laid BY PROGRAM, IN A SANDBOX (cutbox-door.mjs). By AI agents, Wed Nov 11 2026. No macro, syntax, notation, axiom, sorry.
-/
import Derived.Test.YtdjlhmmfplhhdaaGreatDoorRows
import GoSem.ClaimSeven
namespace Go.Proofs.YtdjlhmmfplhhdaaGreatDoor
namespace Rows

/-- THE TIED CARD OF 'blotterlaw15.ClientThere'. -/
def clientThereCard : Claim7 := { stood := { row := clientThereRow, standIns := [], harness := (true, "3382da370bd015123311a0ca8cb0195433074e8547ef1cde58037c4b5e8ac669"), looks := true }, kinds := [], alts := [], laidByText := true, laidKinds := [.data, .data, .data, .handle, .sentinel, .sentinel], laidTests := true, laidLooks := .later }
def ClientThereCardSaid : Prop := Claim7.holds Tryz.pinned (.plain (OpenSpec.ofChange clientThereSpec)) clientThereCard

/-- THE TIED CARD OF 'blotterlaw15.ClientRefused'. -/
def clientRefusedCard : Claim7 := { stood := { row := clientRefusedRow, standIns := [], harness := (true, "3382da370bd015123311a0ca8cb0195433074e8547ef1cde58037c4b5e8ac669"), looks := true }, kinds := [], alts := [], laidByText := true, laidKinds := [.data, .data, .data, .handle, .sentinel, .sentinel], laidTests := true, laidLooks := .later }
def ClientRefusedCardSaid : Prop := Claim7.holds Tryz.pinned (.plain (OpenSpec.ofChange clientRefusedSpec)) clientRefusedCard

/-- THE TIED CARD OF 'blotterlaw15.ClientPulled'. -/
def clientPulledCard : Claim7 := { stood := { row := clientPulledRow, standIns := [], harness := (true, "3382da370bd015123311a0ca8cb0195433074e8547ef1cde58037c4b5e8ac669"), looks := true }, kinds := [], alts := [], laidByText := true, laidKinds := [.data, .data, .data, .handle, .sentinel, .sentinel], laidTests := true, laidLooks := .later }
def ClientPulledCardSaid : Prop := Claim7.holds Tryz.pinned (.plain (OpenSpec.ofChange clientPulledSpec)) clientPulledCard

/-- THE TIED CARD OF 'blotterlaw15.ClientPushes'. -/
def clientPushesCard : Claim7 := { stood := { row := clientPushesRow, standIns := [], harness := (true, "3382da370bd015123311a0ca8cb0195433074e8547ef1cde58037c4b5e8ac669"), looks := true }, kinds := [], alts := [], laidByText := true, laidKinds := [.data, .data, .data, .handle, .sentinel, .sentinel], laidTests := true, laidLooks := .later }
def ClientPushesCardSaid : Prop := Claim7.holds Tryz.pinned (.plain (OpenSpec.ofChange clientPushesSpec)) clientPushesCard

/-- THE SECOND FORM's CARD OF 'blotterlaw15.ClientThere'. -/
def clientThereUptoCard : Claim7 := { stood := { row := clientThereUptoRow, standIns := [], harness := (true, "3382da370bd015123311a0ca8cb0195433074e8547ef1cde58037c4b5e8ac669"), looks := true }, kinds := [], alts := [], laidByText := true, laidKinds := [.data, .data, .data, .handle, .sentinel, .sentinel], laidTests := true, laidLooks := .later }
def ClientThereUptoCardSaid : Prop := Claim7.holds Tryz.pinned (.plain (OpenSpec.upto clientThereSpec)) clientThereUptoCard

/-- THE SECOND FORM's CARD OF 'blotterlaw15.ClientRefused'. -/
def clientRefusedUptoCard : Claim7 := { stood := { row := clientRefusedUptoRow, standIns := [], harness := (true, "3382da370bd015123311a0ca8cb0195433074e8547ef1cde58037c4b5e8ac669"), looks := true }, kinds := [], alts := [], laidByText := true, laidKinds := [.data, .data, .data, .handle, .sentinel, .sentinel], laidTests := true, laidLooks := .later }
def ClientRefusedUptoCardSaid : Prop := Claim7.holds Tryz.pinned (.plain (OpenSpec.upto clientRefusedSpec)) clientRefusedUptoCard

/-- THE SECOND FORM's CARD OF 'blotterlaw15.ClientPulled'. -/
def clientPulledUptoCard : Claim7 := { stood := { row := clientPulledUptoRow, standIns := [], harness := (true, "3382da370bd015123311a0ca8cb0195433074e8547ef1cde58037c4b5e8ac669"), looks := true }, kinds := [], alts := [], laidByText := true, laidKinds := [.data, .data, .data, .handle, .sentinel, .sentinel], laidTests := true, laidLooks := .later }
def ClientPulledUptoCardSaid : Prop := Claim7.holds Tryz.pinned (.plain (OpenSpec.upto clientPulledSpec)) clientPulledUptoCard

/-- THE SECOND FORM's CARD OF 'blotterlaw15.ClientPushes'. -/
def clientPushesUptoCard : Claim7 := { stood := { row := clientPushesUptoRow, standIns := [], harness := (true, "3382da370bd015123311a0ca8cb0195433074e8547ef1cde58037c4b5e8ac669"), looks := true }, kinds := [], alts := [], laidByText := true, laidKinds := [.data, .data, .data, .handle, .sentinel, .sentinel], laidTests := true, laidLooks := .later }
def ClientPushesUptoCardSaid : Prop := Claim7.holds Tryz.pinned (.plain (OpenSpec.upto clientPushesSpec)) clientPushesUptoCard
end Rows
end Go.Proofs.YtdjlhmmfplhhdaaGreatDoor
