/-
  SequencerNobody: a server that no call made, and a disk that none made: the law returns true at every message and request; the tied card.
  Its condition: the listed package-level variables start as the program's text lays them (the card ties them).
-/
import Derived.Test.YtkbjonoiecljiaaGreatDoorSnHolds
import Derived.Test.YtkbjonoiecljiaaGreatDoorSnCardA
import Derived.Test.YtkbjonoiecljiaaGreatDoorSnCardB
import Derived.Test.YtkbjonoiecljiaaGreatDoorSnCardC
import Derived.Test.YtkbjonoiecljiaaGreatDoorCards
import Derived.Test.YtkbjonoiecljiaaGreatDoorTie
import Derived.SevenTiedAt
namespace Go.Proofs.YtkbjonoiecljiaaGreatDoor
open Go

theorem sequencerNobody_card_holds : Rows.SequencerNobodyCardSaid :=
  Claim7.holds_tied_plain_at .later [] [.data, .data, .data, .data, .handle, .sentinel, .sentinel, .data, .pinned] true (true, "4cc25b22e3dcc306cbc14172a48f45002fc8f527522924566f320ff7c087ffb0") true
    sequencerNobody_holds (fun _ h => by cases h) card_wf (fun _ h => by cases h) sequencerNobody_row_tie rfl ⟨rfl, rfl⟩ card_main rfl
    (fun f fn hf hfn => by
      obtain rfl : f = 3 := Option.some.inj (card_named.symm.trans hf) |>.symm
      obtain rfl : fn = Tryz.f3 := (Option.some.inj (Tryz.func3.symm.trans hfn)).symm
      exact ⟨card_looks, fun j t ht => by
        rw [Tryz.params3] at ht
        have hm : t ∈ [24, 28] := by simpa using Array.mem_of_getElem? ht
        exact (show Tryz.prog.wantsStandIn t = false by simpa using List.all_eq_true.1 card_stands t hm)⟩)
    card_goes
#print axioms sequencerNobody_card_holds

end Go.Proofs.YtkbjonoiecljiaaGreatDoor
