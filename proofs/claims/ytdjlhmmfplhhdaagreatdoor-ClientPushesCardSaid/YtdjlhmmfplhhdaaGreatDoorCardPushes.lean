/-
  ClientPushes: what is pushed is the first that wait, as many as may be, and a message that may be: the law returns true at every list of calls; the tied card.
  Its condition: the listed package-level variables start as the program's text lays them (the card ties them).
-/
import Derived.Test.YtdjlhmmfplhhdaaGreatDoorCards
import Derived.Test.YtdjlhmmfplhhdaaGreatDoorTie
import Derived.SevenTiedAt
import Derived.Test.YtdjlhmmfplhhdaaGreatDoorRPushes
namespace Go.Proofs.YtdjlhmmfplhhdaaGreatDoor
open Go
theorem clientPushes_card_holds:Rows.ClientPushesCardSaid:=
 Claim7.holds_tied_plain_at .later [] [.data,.data,.data,.handle,.sentinel,.sentinel] true (true,"3382da370bd015123311a0ca8cb0195433074e8547ef1cde58037c4b5e8ac669") true
  B0 (λ_ h=>by cases h) Dv (λ_ h=>by cases h) clientPushes_row_tie rfl ⟨rfl,rfl⟩ FJ rfl
  (λf fn b Dm=>by
   obtain rfl:f=6:=Option.some.inj (qw.symm.trans b) |>.symm;obtain rfl:fn=Tryz.f6:=(Option.some.inj (Tryz.func6.symm.trans Dm)).symm;exact ⟨B3,λj t a=>by
    rw [Tryz.params6] at a;have c:t∈[22]:=by simpa using Array.mem_of_getElem? a
    exact (show Tryz.prog.wantsStandIn t=false by simpa using List.all_eq_true.1 nF t c)⟩)
  tn
#print axioms clientPushes_card_holds
end Go.Proofs.YtdjlhmmfplhhdaaGreatDoor
