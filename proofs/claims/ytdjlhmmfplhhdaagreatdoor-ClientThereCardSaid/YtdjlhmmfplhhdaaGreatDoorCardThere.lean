/-
  ClientThere: its own numbers in the base and those that wait are 1, 2, 3 and so on, each once, and never more wait than may: the law returns true at every list of calls; the tied card.
  Its condition: the listed package-level variables start as the program's text lays them (the card ties them).
-/
import Derived.Test.YtdjlhmmfplhhdaaGreatDoorCards
import Derived.Test.YtdjlhmmfplhhdaaGreatDoorTie
import Derived.SevenTiedAt
import Derived.Test.YtdjlhmmfplhhdaaGreatDoorRThere
namespace Go.Proofs.YtdjlhmmfplhhdaaGreatDoor
open Go
theorem clientThere_card_holds:Rows.ClientThereCardSaid:=
 Claim7.holds_tied_plain_at .later [] [.data,.data,.data,.handle,.sentinel,.sentinel] true (true,"3382da370bd015123311a0ca8cb0195433074e8547ef1cde58037c4b5e8ac669") true
  Dw (λ_ h=>by cases h) Dv (λ_ h=>by cases h) clientThere_row_tie rfl ⟨rfl,rfl⟩ FJ rfl
  (λf fn b Dm=>by
   obtain rfl:f=3:=Option.some.inj (qw.symm.trans b) |>.symm;obtain rfl:fn=Tryz.f3:=(Option.some.inj (Tryz.func3.symm.trans Dm)).symm;exact ⟨B3,λj t a=>by
    rw [Tryz.params3] at a;have c:t∈[22]:=by simpa using Array.mem_of_getElem? a
    exact (show Tryz.prog.wantsStandIn t=false by simpa using List.all_eq_true.1 nF t c)⟩)
  tn
#print axioms clientThere_card_holds
end Go.Proofs.YtdjlhmmfplhhdaaGreatDoor
