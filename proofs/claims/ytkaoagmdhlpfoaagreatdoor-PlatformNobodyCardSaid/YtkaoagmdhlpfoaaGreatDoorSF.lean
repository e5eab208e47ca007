/-
  The closed facts of the row, joined.
  PlatformNobody: the row's statement holds (where the listed variables read as listed).
-/
import Derived.Test.YtkaoagmdhlpfoaaGreatDoorRows
import Derived.JoinedOf
import Derived.Test.YtkaoagmdhlpfoaaGreatDoorSB
import Derived.Test.YtkaoagmdhlpfoaaGreatDoorSC
import Derived.Test.YtkaoagmdhlpfoaaGreatDoorSD
import Derived.Test.YtkaoagmdhlpfoaaGreatDoorSE
import Derived.Test.YtkaoagmdhlpfoaaGreatDoorRG
namespace Go.Proofs.YtkaoagmdhlpfoaaGreatDoor
open Go
set_option maxRecDepth 100000 in
theorem facts : joinedFacts Tryz.pinned.checked.prog 3 Tryz.f3 Rows.platformNobodySpec Rows.platformNobodyRow = true := by
  unfold joinedFacts
  simp only [Bool.and_eq_true]
  exact ⟨⟨⟨⟨⟨⟨⟨⟨⟨⟨⟨⟨⟨⟨⟨⟨⟨⟨⟨⟨⟨⟨⟨⟨⟨⟨⟨⟨⟨⟨⟨fact1, fact2⟩, fact3⟩, fact4⟩, fact5⟩, fact6⟩, fact7⟩, fact8⟩, fact9⟩, fact10⟩, fact11⟩, fact12⟩, fact13⟩, fact14⟩, fact15⟩, fact16⟩, fact17⟩, fact18⟩, fact19⟩, fact20⟩, fact21⟩, fact22⟩, fact23⟩, fact24⟩, fact25⟩, fact26⟩, fact27⟩, fact28⟩, fact29⟩, fact30⟩, fact31⟩, fact32⟩
end Go.Proofs.YtkaoagmdhlpfoaaGreatDoor
namespace Go.Proofs.YtkaoagmdhlpfoaaGreatDoor
open Go

theorem platformNobody_holds : Rows.PlatformNobodySaid :=
  OpenClaim.holds_of_wide 3 Tryz.f3 rfl rfl rfl rfl rfl rfl rfl ⟨rfl, rfl, rfl, rfl, rfl⟩ rfl rfl rfl rfl rfl (by kernel_rfl) Tryz.func3 facts
    (of_decide_eq_true (by kernel_rfl)) (by unfold Func.isWrapper; rw [if_neg (of_decide_eq_false (by kernel_rfl))]; exact ⟨rfl, rfl⟩)
    (fun os started H enc _ => law_lifted os started H enc)

end Go.Proofs.YtkaoagmdhlpfoaaGreatDoor
