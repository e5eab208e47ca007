/-
  An answer, run.
-/
import Derived.Test.YtkaoagmdhlpfoaaGreatDoorYA
import Derived.Test.YtkaoagmdhlpfoaaGreatDoorXI
namespace PK
open Go Go.Dx Go.Proofs
theorem a50_0 : answerOk t50_0.2 ((K.turnK (envOf Tryz.prog) fns0 orc0 dorc15 3000).call 50 (argsV 11 t50_0.1) (heapT 5 gl50 11 t50_0.1)) = true := by kernel_rfl
end PK
