/-
  SequencerGaps: a push whose first number is not the next one, nor one that was taken, is refused and changes nothing; so is a pull from ahead of the end: the law returns true at every input; the tied card.
  Its condition: the listed package-level variables start as the program's text lays them (the card ties them).
-/
import Derived.Test.YteajeefphbjnmaaGreatDoorCards
import Derived.Test.YteajeefphbjnmaaGreatDoorTie
import Derived.SevenTiedAt
import Derived.Test.YteajeefphbjnmaaGreatDoorRGaps
namespace Go.Proofs.YteajeefphbjnmaaGreatDoor
open Go
theorem sequencerGaps_card_holds:Rows.SequencerGapsCardSaid:=
 Claim7.holds_tied_plain_at .later [] [.data,.data,.data,.handle,.sentinel,.sentinel] true (true,"de65a4d898ac1301e293bb19b79b4d1fe68a35a2315695858bd7244b2e87cd7b") true
  zI (λ_ h=>by cases h) uh (λ_ h=>by cases h) sequencerGaps_row_tie rfl ⟨rfl,rfl⟩ yX rfl
  (λf fn hf qW=>by
   obtain rfl:f=4:=Option.some.inj (jE.symm.trans hf) |>.symm;obtain rfl:fn=Tryz.f4:=(Option.some.inj (Tryz.func4.symm.trans qW)).symm;exact ⟨ui,λj t ht=>by
    rw [Tryz.params4] at ht;have hm:t∈[22,40,3]:=by simpa using Array.mem_of_getElem? ht
    exact (show Tryz.prog.wantsStandIn t=false by simpa using List.all_eq_true.1 gW t hm)⟩)
  me
#print axioms sequencerGaps_card_holds
end Go.Proofs.YteajeefphbjnmaaGreatDoor
