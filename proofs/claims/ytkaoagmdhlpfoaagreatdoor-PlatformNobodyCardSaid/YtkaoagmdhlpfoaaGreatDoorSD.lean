/-
  The closed facts of the row: which variables it names.
-/
import Derived.Test.YtkaoagmdhlpfoaaGreatDoorRows
import Derived.JoinedOf
import Derived.Test.YtkaoagmdhlpfoaaGreatDoorSA
namespace Go.Proofs.YtkaoagmdhlpfoaaGreatDoor
open Go
theorem fact13 : ((Rows.platformNobodyRow.named == Tryz.pinned.checked.prog.varsNamed 3)) = true := by
  show (_ == Tryz.prog.varsNamed 3) = true
  unfold Program.varsNamed
  rw [closure_eq]
  kernel_rfl
end Go.Proofs.YtkaoagmdhlpfoaaGreatDoor
