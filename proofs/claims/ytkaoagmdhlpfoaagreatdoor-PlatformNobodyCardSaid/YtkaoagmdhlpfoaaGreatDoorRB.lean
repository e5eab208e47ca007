/-
  A world in which the law's function may be called: the listed variables fit.
-/
import Derived.Test.YtkaoagmdhlpfoaaGreatDoorRows
import Derived.ProofKit
import Derived.Carry
import Derived.LaidMore
import Derived.LaidHandle
import Derived.LaidLaws
import Derived.OpenShut
import Derived.ChangeSame
import Derived.ChangeVars
import Derived.JoinedOf
import Derived.RowKit
import Derived.RowKitTokens
import Derived.Stop.Joined
import Derived.SizedLaws
import Derived.Deep.Slices
import Derived.DataReads
import Derived.Lay
import Derived.Lib.LaidU8
import Derived.Handed
namespace Go.Proofs.YtkaoagmdhlpfoaaGreatDoor
open Go.ChangeShapes Go.WideShapes Go.ChangeAt Go.RowKit
/-- All the listed variables by the function, over whatever world. -/
theorem laidMet_layAll {P : Program} {w0 : World} {laid : List (String × DataW Unit)} (args : Array Value)
    (hf : w0.layFits P laid [] = true) (hi : w0.layIfaces P laid (w0.layVars P laid) = true) :
    laidMet P laid ((w0.layVars P laid).forCall (fun _ _ => 0) ⟨#[], args, []⟩).memory := by
  have e1 : (laid.filter fun x => (laid.map (·.1)).contains x.1) = laid := List.filter_eq_self.2 fun x hx => List.contains_iff_mem.2 (List.mem_map.2 ⟨x, hx, rfl⟩)
  have e2 : (laid.filter fun x => !(laid.map (·.1)).contains x.1) = [] := List.filter_eq_nil_iff.2 fun x hx => by rw [List.contains_iff_mem.2 (List.mem_map.2 ⟨x, hx, rfl⟩)]; simp
  have h : laidMet P laid (w0.layVars P laid) := laidMet_layVars (w0 := w0) (laid.map (·.1)) [] (by rw [e1]) (by rw [e1]; exact hf) (by rw [e1]; exact hi) (by rw [e2]; exact LaidIn.none)
  exact h.of_heap (by simp [World.memory, World.forCall, Input.heap])

/-- The start: 'error's handle in its variable; the other listed variables as they are listed. -/
noncomputable def start0 (os : Os) : World :=
  let w := World.holding Tryz.prog os ⟨#[], #[], []⟩
  { w with heap := w.heap.modify 0 fun
      | .cells _ t frozen => .cells #[.iface 181 (.agg #[.pointer (some ⟨10, 58, none⟩)])] t frozen
      | o => o }
def listed : List (String × DataW Unit) := Rows.platformNobodyRow.laid.filter fun x => x.2.handleName?.isNone
noncomputable def start (os : Os) : World := (start0 os).layVars Tryz.prog listed
theorem start_fits (os : Os) : (start0 os).layFits Tryz.prog listed [] = true := by kernel_rfl

end Go.Proofs.YtkaoagmdhlpfoaaGreatDoor
