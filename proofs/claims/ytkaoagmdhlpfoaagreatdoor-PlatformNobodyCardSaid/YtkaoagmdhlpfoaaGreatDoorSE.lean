/-
  The closed facts of the row: what stops the program, what may enter.
-/
import Derived.Test.YtkaoagmdhlpfoaaGreatDoorRows
import Derived.JoinedOf
namespace Go.Proofs.YtkaoagmdhlpfoaaGreatDoor
open Go
theorem fact25 : (Tryz.pinned.checked.prog.stopsHeard) = true := by kernel_rfl
theorem fact26 : (Tryz.pinned.checked.prog.mayEnter) = true := by kernel_rfl
end Go.Proofs.YtkaoagmdhlpfoaaGreatDoor
