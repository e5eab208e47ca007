/-
  The closed facts that run over the type table, out of what the checked program says already.
-/
import Derived.Test.YtkaoagmdhlpfoaaGreatDoorRows
import Derived.ClosedOfChecked
namespace Go.Proofs.YtkaoagmdhlpfoaaGreatDoor
open Go
theorem sameTypes : Tryz.checked.prog.types = Tryz.checked.src.types := by kernel_rfl
theorem restOk : (Tryz.checked.prog.globals.all (fun g => decide (g.type < Tryz.checked.prog.types.size)) && Tryz.checked.prog.funcs.all (fun f => f.params.all fun t => decide (t < Tryz.checked.prog.types.size))) = true := by kernel_rfl
theorem keysOk : ClosedOfChecked.keysListB Tryz.checked.prog = true := by kernel_rfl
theorem three : laidOutB Tryz.checked.prog = true ∧ mapsRowed Tryz.checked.prog = true ∧ Tryz.checked.prog.plainKeys = true := ClosedOfChecked.closed_of_checked Tryz.checked sameTypes restOk keysOk
theorem laidOut : laidOutB Tryz.prog = true := three.1
theorem rowed : mapsRowed Tryz.prog = true := three.2.1
theorem plainK : Tryz.prog.plainKeys = true := three.2.2
end Go.Proofs.YtkaoagmdhlpfoaaGreatDoor
