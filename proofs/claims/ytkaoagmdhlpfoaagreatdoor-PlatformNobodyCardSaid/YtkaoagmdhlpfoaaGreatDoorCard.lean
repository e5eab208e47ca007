/-
  PlatformNobody: a world that no call made, one that can't be: the law returns true at every step, number of clients and room; the tied card.
  Its condition: the listed package-level variables start as the program's text lays them (the card ties them).
-/
import Derived.Test.YtkaoagmdhlpfoaaGreatDoorSF
import Derived.Test.YtkaoagmdhlpfoaaGreatDoorUA
import Derived.Test.YtkaoagmdhlpfoaaGreatDoorUB
import Derived.Test.YtkaoagmdhlpfoaaGreatDoorCards
import Derived.Test.YtkaoagmdhlpfoaaGreatDoorTF
import Derived.SevenTiedAt
namespace Go.Proofs.YtkaoagmdhlpfoaaGreatDoor
open Go

theorem platformNobody_card_holds : Rows.PlatformNobodyCardSaid :=
  Claim7.holds_tied_plain_at .later [] [.sentinel, .sentinel, .data, .data, .data, .handle, .data, .pinned, .data] true (true, "9d12f7e017999f6eb3434da89b236c8e5fbd1aeb0b7f7c399dfaff95a86230c8") true
    platformNobody_holds (fun _ h => by cases h) card_wf (fun _ h => by cases h) platformNobody_row_tie rfl ⟨rfl, rfl⟩ card_main rfl
    (fun f fn hf hfn => by
      obtain rfl : f = 3 := Option.some.inj (card_named.symm.trans hf) |>.symm
      obtain rfl : fn = Tryz.f3 := (Option.some.inj (Tryz.func3.symm.trans hfn)).symm
      exact ⟨card_looks, fun j t ht => by
        rw [Tryz.params3] at ht
        have hm : t ∈ [27, 3, 3] := by simpa using Array.mem_of_getElem? ht
        exact (show Tryz.prog.wantsStandIn t = false by simpa using List.all_eq_true.1 card_stands t hm)⟩)
    card_goes
#print axioms platformNobody_card_holds

end Go.Proofs.YtkaoagmdhlpfoaaGreatDoor
