/-
  The machine's run of the law at values that came in, where the name is none: it comes to true.
-/
import Derived.Test.YtknfcfeldncbiaaGreatDoorCnKDr
namespace KD
open Go Go.Dx Go.Proofs
theorem law_run_bad (e : TypeId) : isTrue (runK e 3000 3 (inp 2)) = true := by kernel_rfl
end KD
