/-
  The card of SequencerNobody: the translator's looks.
-/
import Derived.Test.YtkbjonoiecljiaaGreatDoorRows
import Derived.SevenTiedAt
namespace Go.Proofs.YtkbjonoiecljiaaGreatDoor
open Go
theorem card_looks : true = Tryz.pinned.checked.prog.looks [] := by kernel_rfl
theorem card_stands : ([24, 28].all fun u => !Tryz.prog.wantsStandIn u) = true := by kernel_rfl
end Go.Proofs.YtkbjonoiecljiaaGreatDoor
