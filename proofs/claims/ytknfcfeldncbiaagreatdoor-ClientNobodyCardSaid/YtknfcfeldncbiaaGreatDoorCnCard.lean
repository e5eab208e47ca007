/-
  ClientNobody: a client that no call made, a disk that none made, a name that is none: the law returns true at every mutation, message and text; the tied card.
  Its condition: the six listed package-level variables start as the program's text lays them (the card ties them).
-/
import Derived.Test.YtknfcfeldncbiaaGreatDoorCnHolds
import Derived.Test.YtknfcfeldncbiaaGreatDoorCards
import Derived.Test.YtknfcfeldncbiaaGreatDoorTie
import Derived.SevenTiedAt
namespace Go.Proofs.YtknfcfeldncbiaaGreatDoor
open Go

theorem clientNobody_card_holds : Rows.ClientNobodyCardSaid :=
  Claim7.holds_tied_plain_at .later [] [.data, .data, .data, .handle, .sentinel, .sentinel] true (true, "a08a6dc9c781c5050a7d19a12a53774fdd1d9f18f5f686752ac2f295678d8050") true
    clientNobody_holds (fun _ h => by cases h) (by kernel_rfl) (fun _ h => by cases h) clientNobody_row_tie rfl ⟨rfl, rfl⟩ (by kernel_rfl) rfl
    (fun f fn hf hfn => by
      obtain rfl : f = 3 := Option.some.inj ((show Tryz.prog.funcNamed "blotter/blotterlaw15.ClientNobody" = some 3 by kernel_rfl).symm.trans hf) |>.symm
      obtain rfl : fn = Tryz.f3 := (Option.some.inj (Tryz.func3.symm.trans hfn)).symm
      exact ⟨by kernel_rfl, fun j t ht => by
        rw [Tryz.params3] at ht
        have hm : t ∈ [23, 26, 9] := by simpa using Array.mem_of_getElem? ht
        have hall : ([23, 26, 9].all fun u => !Tryz.prog.wantsStandIn u) = true := by kernel_rfl
        exact (show Tryz.prog.wantsStandIn t = false by simpa using List.all_eq_true.1 hall t hm)⟩)
    (by kernel_rfl)
#print axioms clientNobody_card_holds

end Go.Proofs.YtknfcfeldncbiaaGreatDoor
