/-
  A world in which the law's function may be called: the listed variables read as they are listed.
-/
import Derived.Test.YtkaoagmdhlpfoaaGreatDoorRB
namespace Go.Proofs.YtkaoagmdhlpfoaaGreatDoor
open Go.ChangeShapes Go.WideShapes Go.ChangeAt Go.RowKit
theorem start_ifaces (os : Os) : (start0 os).layIfaces Tryz.prog listed ((start0 os).layVars Tryz.prog listed) = true := by kernel_rfl
theorem start_handle (os : Os) (args : Array Value) : ((Rows.platformNobodyRow.laid.filter fun x => x.2.handleName?.isSome && x.2.funcsIn?.isNone).all (handleAtB Tryz.prog ((start os).forCall (fun _ _ => 0) ⟨#[], args, []⟩).memory)) = true := by kernel_rfl

/-- It meets the condition. -/
theorem door_met (os : Os) (args : Array Value) : laidMetH Tryz.prog Rows.platformNobodyRow.laid ((start os).forCall (fun _ _ => 0) ⟨#[], args, []⟩).memory :=
  laidMetH_of_parts3 (fuel := 8) (laidMet_layAll args (start_fits os) (start_ifaces os)) (start_handle os args) (by kernel_rfl)


end Go.Proofs.YtkaoagmdhlpfoaaGreatDoor
