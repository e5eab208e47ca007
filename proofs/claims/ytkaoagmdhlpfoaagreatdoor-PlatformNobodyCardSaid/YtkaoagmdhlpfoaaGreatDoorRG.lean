/-
  The arguments are in order.
  The arguments are read.
  PlatformNobody: the contract in the row's form, of each world that may be.
-/
import Derived.Test.YtkaoagmdhlpfoaaGreatDoorRB
import Derived.Test.YtkaoagmdhlpfoaaGreatDoorRF
import Derived.Test.YtkaoagmdhlpfoaaGreatDoorRE
namespace Go.Proofs.YtkaoagmdhlpfoaaGreatDoor
open Go.ChangeShapes Go.WideShapes Go.ChangeAt Go.RowKit
theorem wit_ok (os : Os) : Input.okWideB Tryz.checked.prog ((start os).forCall (fun _ _ => 0) ⟨#[], args0, []⟩) 3 ⟨#[], args0, []⟩ = true := by kernel_rfl
end Go.Proofs.YtkaoagmdhlpfoaaGreatDoor
namespace Go.Proofs.YtkaoagmdhlpfoaaGreatDoor
open Go.ChangeShapes Go.WideShapes Go.ChangeAt Go.RowKit
theorem wit_pre (os : Os) (H : Type) (enc : TypeId × Value → H) : Rows.platformNobodySpec.preB enc Tryz.checked.prog Tryz.f3 [] false ((start os).forCall (fun _ _ => 0) ⟨#[], args0, []⟩).memory args0 8 = true := by kernel_rfl
theorem wit_sized (os : Os) (H : Type) (enc : TypeId × Value → H) : Rows.platformNobodySpec.sizedB enc Tryz.checked.prog Tryz.f3 false ((start os).forCall (fun _ _ => 0) ⟨#[], args0, []⟩).memory args0 8 = true := by kernel_rfl
end Go.Proofs.YtkaoagmdhlpfoaaGreatDoor
namespace Go.Proofs.YtkaoagmdhlpfoaaGreatDoor
open Go.ChangeShapes Go.WideShapes Go.ChangeAt Go.RowKit

set_option maxRecDepth 100000 in
theorem law_lifted (os : Os) (started : os.Started) (H : Type) (enc : TypeId × Value → H) :
    ReturnsInHanded {} Tryz.checked os 3 .any (fun w args => (Rows.platformNobodySpec.pre enc Tryz.prog Tryz.f3 [] false w args ∧ laidMetH Tryz.prog Rows.platformNobodyRow.laid w) ∧ sizedMet enc Tryz.prog Tryz.f3 (OpenSpec.ofChange Rows.platformNobodySpec) false w args)
      (Rows.platformNobodySpec.post enc Tryz.prog Tryz.f3 false true false false) := by
  refine returnsInHanded_of_calls own started (by kernel_rfl)
    (ChangeSpec.witness_shaped (enc := enc) (C := Tryz.checked) (os := os) (X := fun w _ => laidMetH Tryz.prog Rows.platformNobodyRow.laid w) false (start os) args0 8 (World.layVars_os _ _ _) (wit_shaped os) (wit_ok os) (wit_pre os H enc) (wit_sized os H enc) (door_met os _)) ?_
  intro w tape i _ hS _ hok hpre _
  obtain ⟨_, _, _, fn, hfn, _, _, _, _, hval⟩ := hok
  obtain rfl : fn = Tryz.f3 := Option.some.inj (hfn.symm.trans Tryz.func3)
  obtain ⟨⟨⟨ds, gs, before, hw, _⟩, hx⟩, _⟩ := hpre
  have hw' := DataW.Whole.of_heap (w' := w.forCall tape i) (by rfl) hw
  refine (law_contract (w.forCall tape i) w.heap.size i.args ds gs before hval hw' (hx.of_heap (by rfl)) hS).mono fun e W' ⟨v, he, hp⟩ => ?_
  subst he
  exact ChangeSpec.post_blind hp

end Go.Proofs.YtkaoagmdhlpfoaaGreatDoor
