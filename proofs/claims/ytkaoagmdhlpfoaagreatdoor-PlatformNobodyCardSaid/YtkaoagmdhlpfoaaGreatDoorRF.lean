/-
  The arguments with which the law's function may be called.
-/
import Derived.Test.YtkaoagmdhlpfoaaGreatDoorRB
namespace Go.Proofs.YtkaoagmdhlpfoaaGreatDoor
open Go.ChangeShapes Go.WideShapes Go.ChangeAt Go.RowKit
noncomputable def args0 : Array Value := #[.agg #[.int .i64 0, .int .i64 0, .int .i64 0, .int .i64 0, .int .i64 0, .string ⟨#[]⟩, .string ⟨#[]⟩, .string ⟨#[]⟩, .slice none 0 0, .slice none 0 0, .int .i64 0], .int .i64 0, .int .i64 0]
theorem wit_shaped (os : Os) : ((start os).forCall (fun _ _ => 0) ⟨#[], args0, []⟩).Shaped Tryz.checked.prog := World.shaped_of_ZipB (by kernel_rfl) (by kernel_rfl)
end Go.Proofs.YtkaoagmdhlpfoaaGreatDoor
