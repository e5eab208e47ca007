/-
  SequencerNobody: the row's statement holds (where the listed variables read as listed).
-/
import Derived.Test.YtkbjonoiecljiaaGreatDoorSnLift
import Derived.Test.YtkbjonoiecljiaaGreatDoorSnFacts
namespace Go.Proofs.YtkbjonoiecljiaaGreatDoor
open Go

theorem sequencerNobody_holds : Rows.SequencerNobodySaid :=
  OpenClaim.holds_of_wide 3 Tryz.f3 rfl rfl rfl rfl rfl rfl rfl ⟨rfl, rfl, rfl, rfl, rfl⟩ rfl rfl rfl rfl rfl (by kernel_rfl) Tryz.func3 facts
    (of_decide_eq_true (by kernel_rfl)) (by unfold Func.isWrapper; rw [if_neg (of_decide_eq_false (by kernel_rfl))]; exact ⟨rfl, rfl⟩)
    (fun os started H enc _ => law_lifted os started H enc)

end Go.Proofs.YtkbjonoiecljiaaGreatDoor
