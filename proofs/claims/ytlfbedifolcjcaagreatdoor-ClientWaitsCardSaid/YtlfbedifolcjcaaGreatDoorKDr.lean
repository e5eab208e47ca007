/-
  The machine's run of 'awake': it comes to true.
-/
import Derived.Test.YtlfbedifolcjcaaGreatDoorKDb
import Derived.Test.YtlfbedifolcjcaaGreatDoorDxK
import Derived.Test.YtlfbedifolcjcaaGreatDoorTz181
namespace KD
open Go Go.Dx Go.Proofs

/-- The heap at the start: where 'error's handle stands, and no more. 'e': the type of that block's cells. -/
def h0 (e : TypeId) : H := { t := T.set .leaf p0 (some (.cells [.iface 200 (.agg [.ptr p7 30])] e 0 .no)), next := p8 }
noncomputable def runK (e : TypeId) (n : Nat) (f : FuncId) (args : List V) : Option (V × H) := (K.turnK (envOf Tryz.prog) fns (orcOf Tryz.prog ids) dorc15 n).call f args (h0 e)
def isTrue : Option (V × H) → Bool
  | some (.bool true, _) => true
  | _ => false
theorem awake_run (e : TypeId) : isTrue (runK e 3000 6 []) = true := by kernel_rfl
end KD
