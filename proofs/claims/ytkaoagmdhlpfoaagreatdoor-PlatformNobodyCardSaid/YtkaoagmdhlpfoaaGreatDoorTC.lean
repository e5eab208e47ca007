/-
  The tie of the listed variables: what they read as behind it.
-/
import Derived.Test.YtkaoagmdhlpfoaaGreatDoorRows
import Derived.LaidByTextLater
import Derived.SevenTiedAt
import Derived.Test.YtkaoagmdhlpfoaaGreatDoorTA
namespace Go.Proofs.YtkaoagmdhlpfoaaGreatDoor
open Go
theorem tie8 (os : Os) (tape : Tape) : (DataW.laidRun Tryz.prog (varsWorld Tryz.prog 400 (varsId Tryz.prog) os tape).memory 8 ((tieLaid.filter fun x => x.2.handleName?.isNone).map (·.1))).map (·.1) = some (tieLaid.filter fun x => x.2.handleName?.isNone) := by kernel_rfl
end Go.Proofs.YtkaoagmdhlpfoaaGreatDoor
