/-
  The closed facts of the row: those that are small.
-/
import Derived.Test.YtkaoagmdhlpfoaaGreatDoorRows
import Derived.JoinedOf
import Derived.Test.YtkaoagmdhlpfoaaGreatDoorRA
namespace Go.Proofs.YtkaoagmdhlpfoaaGreatDoor
open Go
theorem fact1 : (Rows.platformNobodyRow.wf (OpenSpec.ofChange Rows.platformNobodySpec)) = true := by kernel_rfl
theorem fact4 : (Tryz.f3.params.all (Tryz.pinned.checked.prog.readableRec ·)) = true := by kernel_rfl
theorem fact5 : (namedTie Tryz.pinned.checked.prog Rows.platformNobodyRow.named Rows.platformNobodySpec.vars) = true := by kernel_rfl
theorem fact6 : ((Rows.platformNobodyRow.stops == [])) = true := by kernel_rfl
theorem fact7 : ((Tryz.pinned.checked.prog.stops == [])) = true := by kernel_rfl
theorem fact8 : ((Rows.platformNobodyRow.knobs == [])) = true := by kernel_rfl
theorem fact9 : ((Tryz.pinned.checked.prog.stopKnobs == [])) = true := by kernel_rfl
theorem fact14 : ((Rows.platformNobodyRow.maps == (Tryz.f3.params.toList ++ Rows.platformNobodySpec.plain.varTypes Tryz.pinned.checked.prog).any (Tryz.pinned.checked.prog.mapsRec ·))) = true := by kernel_rfl
theorem fact15 : ((Rows.platformNobodyRow.ifaces == (Tryz.f3.params.toList ++ Rows.platformNobodySpec.plain.varTypes Tryz.pinned.checked.prog).any (Tryz.pinned.checked.prog.ifacesRec ·))) = true := by kernel_rfl
theorem fact16 : ((Rows.platformNobodyRow.mapsOut == Tryz.pinned.checked.prog.mapsAmong Tryz.f3.resultTypes.toList)) = true := by kernel_rfl
theorem fact17 : ((Rows.platformNobodyRow.loops == (Tryz.f3.params.toList ++ Rows.platformNobodySpec.plain.varTypes Tryz.pinned.checked.prog).any (Tryz.pinned.checked.prog.loopsFrom ·))) = true := by kernel_rfl
theorem fact18 : ((Rows.platformNobodyRow.wideKeys == (Tryz.f3.params.toList ++ Rows.platformNobodySpec.plain.varTypes Tryz.pinned.checked.prog ++ Tryz.f3.resultTypes.toList).any (Tryz.pinned.checked.prog.wideKeysFrom ·))) = true := by kernel_rfl
theorem fact19 : (Rows.platformNobodySpec.vars.all (Tryz.pinned.checked.prog.varReadable ·)) = true := by kernel_rfl
theorem fact20 : (Tryz.f3.resultTypes.all (fun t => Tryz.pinned.checked.prog.readableRec t && decide (t < Tryz.pinned.checked.prog.types.size))) = true := by kernel_rfl
theorem fact21 : ((Rows.platformNobodyRow.ifacesOut == Tryz.f3.resultTypes.toList.any (Tryz.pinned.checked.prog.ifacesRec ·))) = true := by kernel_rfl
theorem fact22 : ((Rows.platformNobodyRow.loopsOut == Tryz.f3.resultTypes.toList.any (Tryz.pinned.checked.prog.loopsFrom ·))) = true := by kernel_rfl
theorem fact24 : (Rows.platformNobodyRow.shortTexts.isNone) = true := by kernel_rfl
theorem fact27 : ((Rows.platformNobodyRow.lifted == Tryz.pinned.checked.prog.liftsFinal)) = true := by kernel_rfl
theorem fact29 : ((Rows.platformNobodyRow.kinds == (if Rows.platformNobodyRow.domain.isEmpty then [] else Tryz.f3.params.toList.map fun t => match Tryz.pinned.checked.prog.underlying t with | some (.int k) => some k | _ => none))) = true := by kernel_rfl
theorem fact30 : ((Rows.platformNobodyRow.pinned == Rows.platformNobodyRow.pinnedBy)) = true := by kernel_rfl
theorem fact31 : ((Rows.platformNobodyRow.veiled == (Tryz.f3.params.toList ++ Rows.platformNobodySpec.plain.varTypes Tryz.pinned.checked.prog ++ Tryz.f3.resultTypes.toList).any (Tryz.pinned.checked.prog.veiledRec ·))) = true := by kernel_rfl
theorem fact32 : (Rows.platformNobodyRow.veiledFits Tryz.pinned.checked.prog Tryz.f3.params.toList (Tryz.f3.params.toList ++ Rows.platformNobodySpec.plain.varTypes Tryz.pinned.checked.prog ++ Tryz.f3.resultTypes.toList)) = true := by kernel_rfl
theorem fact2 : (laidOutB Tryz.pinned.checked.prog) = true := laidOut
theorem fact3 : (mapsRowed Tryz.pinned.checked.prog) = true := rowed
theorem fact28 : ((Tryz.pinned.checked.prog.make == some Rows.platformNobodyRow.make)) = true := by kernel_rfl
theorem fact23 : ((Rows.platformNobodyRow.plainKeys == Tryz.pinned.checked.prog.plainKeys)) = true := by
  show (_ == Tryz.prog.plainKeys) = true
  rw [plainK]
  rfl
end Go.Proofs.YtkaoagmdhlpfoaaGreatDoor
