/-
  The tie of the listed variables: the handle.
-/
import Derived.Test.YtkaoagmdhlpfoaaGreatDoorRows
import Derived.LaidByTextLater
import Derived.SevenTiedAt
import Derived.Test.YtkaoagmdhlpfoaaGreatDoorTA
namespace Go.Proofs.YtkaoagmdhlpfoaaGreatDoor
open Go
theorem tie10 (os : Os) (tape : Tape) : (tieLaid.filter fun x => x.2.handleName?.isSome).all (handleAtB Tryz.prog (varsWorld Tryz.prog 400 (varsId Tryz.prog) os tape).memory) = true := by kernel_rfl
end Go.Proofs.YtkaoagmdhlpfoaaGreatDoor
