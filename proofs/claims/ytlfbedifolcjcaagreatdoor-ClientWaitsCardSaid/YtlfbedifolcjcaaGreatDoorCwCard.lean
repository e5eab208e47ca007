/-
  ClientWaits: how long a client waits grows with each failure up to a bound: the law returns true at every two integers; the tied card.
  Its condition: the six listed package-level variables start as the program's text lays them (the card ties them).
-/
import Derived.Test.YtlfbedifolcjcaaGreatDoorCwHolds
import Derived.Test.YtlfbedifolcjcaaGreatDoorCards
import Derived.Test.YtlfbedifolcjcaaGreatDoorTie
import Derived.SevenTiedAt
namespace Go.Proofs.YtlfbedifolcjcaaGreatDoor
open Go

theorem clientWaits_card_holds : Rows.ClientWaitsCardSaid :=
  Claim7.holds_tied_plain_at .later [] [.data, .data, .data, .handle, .sentinel, .sentinel] true (true, "5e0e938f9e6a7508db46d3412eb9e7a079bbe8fcae72b5a2b8aa60bcaeec3ffa") true
    clientWaits_holds (fun _ h => by cases h) (by kernel_rfl) (fun _ h => by cases h) clientWaits_row_tie rfl ⟨rfl, rfl⟩ (by kernel_rfl) rfl
    (fun f fn hf hfn => by
      obtain rfl : f = 3 := Option.some.inj ((show Tryz.prog.funcNamed "blotter/blotterlaw15.ClientWaits" = some 3 by kernel_rfl).symm.trans hf) |>.symm
      obtain rfl : fn = Tryz.f3 := (Option.some.inj (Tryz.func3.symm.trans hfn)).symm
      exact ⟨by kernel_rfl, fun j t ht => by
        rw [Tryz.params3] at ht
        have hm : t ∈ [3, 3] := by simpa using Array.mem_of_getElem? ht
        have hall : ([3, 3].all fun u => !Tryz.prog.wantsStandIn u) = true := by kernel_rfl
        exact (show Tryz.prog.wantsStandIn t = false by simpa using List.all_eq_true.1 hall t hm)⟩)
    (by kernel_rfl)
#print axioms clientWaits_card_holds

end Go.Proofs.YtlfbedifolcjcaaGreatDoor
