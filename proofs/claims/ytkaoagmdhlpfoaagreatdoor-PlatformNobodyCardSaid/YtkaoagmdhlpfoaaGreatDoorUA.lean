/-
  The card of PlatformNobody: the row's form.
-/
import Derived.Test.YtkaoagmdhlpfoaaGreatDoorRows
import Derived.SevenTiedAt
namespace Go.Proofs.YtkaoagmdhlpfoaaGreatDoor
open Go
theorem card_wf : Rows.platformNobodyRow.wfByText (OpenSpec.ofChange Rows.platformNobodySpec) = true := by kernel_rfl
theorem card_main : Tryz.pinned.checked.prog.mainIs = some (true, "9d12f7e017999f6eb3434da89b236c8e5fbd1aeb0b7f7c399dfaff95a86230c8".toList) := by kernel_rfl
theorem card_params : Tryz.f3.params = #[27, 3, 3] := Tryz.params3
theorem card_named : Tryz.prog.funcNamed "blotter/blotterlaw16.PlatformNobody" = some 3 := by kernel_rfl
end Go.Proofs.YtkaoagmdhlpfoaaGreatDoor
