/-
  The card of SequencerNobody: the row's form.
-/
import Derived.Test.YtkbjonoiecljiaaGreatDoorRows
import Derived.SevenTiedAt
namespace Go.Proofs.YtkbjonoiecljiaaGreatDoor
open Go
theorem card_wf : Rows.sequencerNobodyRow.wfByText (OpenSpec.ofChange Rows.sequencerNobodySpec) = true := by kernel_rfl
theorem card_main : Tryz.pinned.checked.prog.mainIs = some (true, "4cc25b22e3dcc306cbc14172a48f45002fc8f527522924566f320ff7c087ffb0".toList) := by kernel_rfl
theorem card_params : Tryz.f3.params = #[24, 28] := Tryz.params3
theorem card_named : Tryz.prog.funcNamed "blotter/blotterlaw14.SequencerNobody" = some 3 := by kernel_rfl
end Go.Proofs.YtkbjonoiecljiaaGreatDoor
