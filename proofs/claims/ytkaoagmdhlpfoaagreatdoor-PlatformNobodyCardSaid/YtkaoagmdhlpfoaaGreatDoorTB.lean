/-
  The tie of the listed variables: the function that lays them is done.
-/
import Derived.Test.YtkaoagmdhlpfoaaGreatDoorRows
import Derived.LaidByTextLater
import Derived.SevenTiedAt
import Derived.Test.YtkaoagmdhlpfoaaGreatDoorTA
namespace Go.Proofs.YtkaoagmdhlpfoaaGreatDoor
open Go
theorem tie7 (os : Os) (tape : Tape) : varsDone Tryz.prog 400 (varsId Tryz.prog) os tape = true := by kernel_rfl
end Go.Proofs.YtkaoagmdhlpfoaaGreatDoor
