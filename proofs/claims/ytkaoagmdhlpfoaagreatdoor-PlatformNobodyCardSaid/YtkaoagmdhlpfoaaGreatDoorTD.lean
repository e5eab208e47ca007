/-
  The tie of the listed variables: where they stand.
-/
import Derived.Test.YtkaoagmdhlpfoaaGreatDoorRows
import Derived.LaidByTextLater
import Derived.SevenTiedAt
import Derived.Test.YtkaoagmdhlpfoaaGreatDoorTA
namespace Go.Proofs.YtkaoagmdhlpfoaaGreatDoor
open Go
theorem tie9 (os : Os) (tape : Tape) : (DataW.laidRun Tryz.prog (varsWorld Tryz.prog 400 (varsId Tryz.prog) os tape).memory 8 ((tieLaid.filter fun x => x.2.handleName?.isNone).map (·.1))).map (fun x => decide x.2.Nodup && laidRowsB Tryz.prog (varsWorld Tryz.prog 400 (varsId Tryz.prog) os tape).memory x.2) = some true := by kernel_rfl
end Go.Proofs.YtkaoagmdhlpfoaaGreatDoor
