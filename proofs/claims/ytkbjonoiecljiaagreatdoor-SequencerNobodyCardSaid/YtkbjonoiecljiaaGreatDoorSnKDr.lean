/-
  The machine's run of the law at values that came in: it comes to true.
-/
import Derived.Test.YtkbjonoiecljiaaGreatDoorSnKDb
import Derived.Test.YtkbjonoiecljiaaGreatDoorDxK
import Derived.Test.YtkbjonoiecljiaaGreatDoorSnTz181
namespace KD
open Go Go.Dx Go.Proofs

/-- The heap at the start. -/
def h0 : H := { t := .leaf, next := p22 }
/-- The arguments: a message, a request. -/
def inp : List V := [.agg [.sym p11 1, .sym p12 1, .sym p13 1, .sym p14 1, .sym p15 1, .sym p16 1, .sym p17 6], .agg [.sym p18 1, .sym p19 1, .sym p20 1, .sym p21 1]]
noncomputable def runK (n : Nat) (f : FuncId) (args : List V) : Option (V × H) := (K.turnK (envOf Tryz.prog) fns (orcOf Tryz.prog ids) dorc15 n).call f args h0
def isTrue : Option (V × H) → Bool
  | some (.bool true, _) => true
  | _ => false
theorem law_run : isTrue (runK 3000 3 inp) = true := by kernel_rfl
end KD
