/-
  SequencerOnce: of each client the log has the numbers 1, 2, 3 and so on, each once, in this order, whatever is pushed how often: the law returns true at every list of calls; the tied card.
  Its condition: the listed package-level variables start as the program's text lays them (the card ties them).
-/
import Derived.Test.YteajeefphbjnmaaGreatDoorCards
import Derived.Test.YteajeefphbjnmaaGreatDoorTie
import Derived.SevenTiedAt
import Derived.Test.YteajeefphbjnmaaGreatDoorROnce
namespace Go.Proofs.YteajeefphbjnmaaGreatDoor
open Go
theorem sequencerOnce_card_holds:Rows.SequencerOnceCardSaid:=
 Claim7.holds_tied_plain_at .later [] [.data,.data,.data,.handle,.sentinel,.sentinel] true (true,"de65a4d898ac1301e293bb19b79b4d1fe68a35a2315695858bd7244b2e87cd7b") true
  zJ (λ_ h=>by cases h) uh (λ_ h=>by cases h) sequencerOnce_row_tie rfl ⟨rfl,rfl⟩ yX rfl
  (λf fn hf qW=>by
   obtain rfl:f=3:=Option.some.inj (jE.symm.trans hf) |>.symm;obtain rfl:fn=Tryz.f3:=(Option.some.inj (Tryz.func3.symm.trans qW)).symm;exact ⟨ui,λj t ht=>by
    rw [Tryz.params3] at ht;have hm:t∈[22]:=by simpa using Array.mem_of_getElem? ht
    exact (show Tryz.prog.wantsStandIn t=false by simpa using List.all_eq_true.1 gW t hm)⟩)
  me
#print axioms sequencerOnce_card_holds
end Go.Proofs.YteajeefphbjnmaaGreatDoor
