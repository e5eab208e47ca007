/-
  The machine's run of the law at values that came in, where the name may be one: it comes to true.
-/
import Derived.Test.YtknfcfeldncbiaaGreatDoorCnKDb
import Derived.Test.YtknfcfeldncbiaaGreatDoorDxK
import Derived.Test.YtknfcfeldncbiaaGreatDoorCnTz181
namespace KD
open Go Go.Dx Go.Proofs

/-- The heap at the start: where 'error's handle stands, and no more. 'e': the type of that block's cells. -/
def h0 (e : TypeId) : H := { t := T.set .leaf p0 (some (.cells [.iface 214 (.agg [.ptr p7 35])] e 0 .no)), next := p20 }
/-- The arguments: a mutation, a message, a text (of the size 3: a name; of the size 2: none). -/
def inp (n : Nat) : List V := [.agg [.sym p8 1, .sym p9 1, .sym p10 1, .sym p11 1], .agg [.sym p12 1, .sym p13 1, .sym p14 1, .sym p15 1, .sym p16 1, .sym p17 1, .sym p18 6], .sym p19 n]
noncomputable def runK (e : TypeId) (n : Nat) (f : FuncId) (args : List V) : Option (V × H) := (K.turnK (envOf Tryz.prog) fns (orcOf Tryz.prog ids) dorc15 n).call f args (h0 e)
def isTrue : Option (V × H) → Bool
  | some (.bool true, _) => true
  | _ => false
theorem law_run_good (e : TypeId) : isTrue (runK e 3000 3 (inp 3)) = true := by kernel_rfl
end KD
