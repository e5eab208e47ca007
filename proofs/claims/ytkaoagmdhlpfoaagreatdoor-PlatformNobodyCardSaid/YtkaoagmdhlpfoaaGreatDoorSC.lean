/-
  The closed facts of the row: what the function reaches.
-/
import Derived.Test.YtkaoagmdhlpfoaaGreatDoorRows
import Derived.JoinedOf
import Derived.Test.YtkaoagmdhlpfoaaGreatDoorSA
namespace Go.Proofs.YtkaoagmdhlpfoaaGreatDoor
open Go
theorem fact10 : ((Rows.platformNobodyRow.inPlace == Tryz.pinned.checked.prog.inPlace 3)) = true := by
  show (_ == Tryz.prog.inPlace 3) = true
  unfold Program.inPlace
  rw [closure_eq]
  kernel_rfl
theorem fact11 : ((Rows.platformNobodyRow.unfollowed == Tryz.pinned.checked.prog.unfollowed 3)) = true := by
  show (_ == Tryz.prog.unfollowed 3) = true
  unfold Program.unfollowed
  rw [closure_eq]
  kernel_rfl
theorem fact12 : ((Rows.platformNobodyRow.recurses == Tryz.pinned.checked.prog.recurses 3)) = true := by
  show (_ == Tryz.prog.recurses 3) = true
  unfold Program.recurses Program.unfollowed
  rw [closure_eq]
  kernel_rfl
end Go.Proofs.YtkaoagmdhlpfoaaGreatDoor
