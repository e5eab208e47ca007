/-
  The closed facts of the row of SequencerNobody, each by itself.
-/
import Derived.Test.YtkbjonoiecljiaaGreatDoorRows
import Derived.JoinedOf
namespace Go.Proofs.YtkbjonoiecljiaaGreatDoor
open Go
theorem fact1 : (Rows.sequencerNobodyRow.wf (OpenSpec.ofChange Rows.sequencerNobodySpec)) = true := by kernel_rfl
theorem fact2 : (laidOutB Tryz.pinned.checked.prog) = true := by kernel_rfl
theorem fact3 : (mapsRowed Tryz.pinned.checked.prog) = true := by kernel_rfl
theorem fact4 : (Tryz.f3.params.all (Tryz.pinned.checked.prog.readableRec ·)) = true := by kernel_rfl
theorem fact5 : (namedTie Tryz.pinned.checked.prog Rows.sequencerNobodyRow.named Rows.sequencerNobodySpec.vars) = true := by kernel_rfl
theorem fact6 : ((Rows.sequencerNobodyRow.stops == [])) = true := by kernel_rfl
theorem fact7 : ((Tryz.pinned.checked.prog.stops == [])) = true := by kernel_rfl
theorem fact8 : ((Rows.sequencerNobodyRow.knobs == [])) = true := by kernel_rfl
theorem fact9 : ((Tryz.pinned.checked.prog.stopKnobs == [])) = true := by kernel_rfl
theorem fact10 : ((Rows.sequencerNobodyRow.inPlace == Tryz.pinned.checked.prog.inPlace 3)) = true := by kernel_rfl
theorem fact11 : ((Rows.sequencerNobodyRow.unfollowed == Tryz.pinned.checked.prog.unfollowed 3)) = true := by kernel_rfl
theorem fact12 : ((Rows.sequencerNobodyRow.recurses == Tryz.pinned.checked.prog.recurses 3)) = true := by kernel_rfl
theorem fact13 : ((Rows.sequencerNobodyRow.named == Tryz.pinned.checked.prog.varsNamed 3)) = true := by kernel_rfl
theorem fact14 : ((Rows.sequencerNobodyRow.maps == (Tryz.f3.params.toList ++ Rows.sequencerNobodySpec.plain.varTypes Tryz.pinned.checked.prog).any (Tryz.pinned.checked.prog.mapsRec ·))) = true := by kernel_rfl
theorem fact15 : ((Rows.sequencerNobodyRow.ifaces == (Tryz.f3.params.toList ++ Rows.sequencerNobodySpec.plain.varTypes Tryz.pinned.checked.prog).any (Tryz.pinned.checked.prog.ifacesRec ·))) = true := by kernel_rfl
theorem fact16 : ((Rows.sequencerNobodyRow.mapsOut == Tryz.pinned.checked.prog.mapsAmong Tryz.f3.resultTypes.toList)) = true := by kernel_rfl
theorem fact17 : ((Rows.sequencerNobodyRow.loops == (Tryz.f3.params.toList ++ Rows.sequencerNobodySpec.plain.varTypes Tryz.pinned.checked.prog).any (Tryz.pinned.checked.prog.loopsFrom ·))) = true := by kernel_rfl
theorem fact18 : ((Rows.sequencerNobodyRow.wideKeys == (Tryz.f3.params.toList ++ Rows.sequencerNobodySpec.plain.varTypes Tryz.pinned.checked.prog ++ Tryz.f3.resultTypes.toList).any (Tryz.pinned.checked.prog.wideKeysFrom ·))) = true := by kernel_rfl
theorem fact19 : (Rows.sequencerNobodySpec.vars.all (Tryz.pinned.checked.prog.varReadable ·)) = true := by kernel_rfl
theorem fact20 : (Tryz.f3.resultTypes.all (fun t => Tryz.pinned.checked.prog.readableRec t && decide (t < Tryz.pinned.checked.prog.types.size))) = true := by kernel_rfl
theorem fact21 : ((Rows.sequencerNobodyRow.ifacesOut == Tryz.f3.resultTypes.toList.any (Tryz.pinned.checked.prog.ifacesRec ·))) = true := by kernel_rfl
theorem fact22 : ((Rows.sequencerNobodyRow.loopsOut == Tryz.f3.resultTypes.toList.any (Tryz.pinned.checked.prog.loopsFrom ·))) = true := by kernel_rfl
theorem fact23 : ((Rows.sequencerNobodyRow.plainKeys == Tryz.pinned.checked.prog.plainKeys)) = true := by kernel_rfl
theorem fact24 : (Rows.sequencerNobodyRow.shortTexts.isNone) = true := by kernel_rfl
theorem fact25 : (Tryz.pinned.checked.prog.stopsHeard) = true := by kernel_rfl
theorem fact26 : (Tryz.pinned.checked.prog.mayEnter) = true := by kernel_rfl
theorem fact27 : ((Rows.sequencerNobodyRow.lifted == Tryz.pinned.checked.prog.liftsFinal)) = true := by kernel_rfl
theorem fact28 : ((Tryz.pinned.checked.prog.make == some Rows.sequencerNobodyRow.make)) = true := by kernel_rfl
theorem fact29 : ((Rows.sequencerNobodyRow.kinds == (if Rows.sequencerNobodyRow.domain.isEmpty then [] else Tryz.f3.params.toList.map fun t => match Tryz.pinned.checked.prog.underlying t with | some (.int k) => some k | _ => none))) = true := by kernel_rfl
theorem fact30 : ((Rows.sequencerNobodyRow.pinned == Rows.sequencerNobodyRow.pinnedBy)) = true := by kernel_rfl
theorem fact31 : ((Rows.sequencerNobodyRow.veiled == (Tryz.f3.params.toList ++ Rows.sequencerNobodySpec.plain.varTypes Tryz.pinned.checked.prog ++ Tryz.f3.resultTypes.toList).any (Tryz.pinned.checked.prog.veiledRec ·))) = true := by kernel_rfl
theorem fact32 : (Rows.sequencerNobodyRow.veiledFits Tryz.pinned.checked.prog Tryz.f3.params.toList (Tryz.f3.params.toList ++ Rows.sequencerNobodySpec.plain.varTypes Tryz.pinned.checked.prog ++ Tryz.f3.resultTypes.toList)) = true := by kernel_rfl
set_option maxRecDepth 100000 in
theorem facts : joinedFacts Tryz.pinned.checked.prog 3 Tryz.f3 Rows.sequencerNobodySpec Rows.sequencerNobodyRow = true := by
  unfold joinedFacts
  simp only [Bool.and_eq_true]
  exact ⟨⟨⟨⟨⟨⟨⟨⟨⟨⟨⟨⟨⟨⟨⟨⟨⟨⟨⟨⟨⟨⟨⟨⟨⟨⟨⟨⟨⟨⟨⟨fact1, fact2⟩, fact3⟩, fact4⟩, fact5⟩, fact6⟩, fact7⟩, fact8⟩, fact9⟩, fact10⟩, fact11⟩, fact12⟩, fact13⟩, fact14⟩, fact15⟩, fact16⟩, fact17⟩, fact18⟩, fact19⟩, fact20⟩, fact21⟩, fact22⟩, fact23⟩, fact24⟩, fact25⟩, fact26⟩, fact27⟩, fact28⟩, fact29⟩, fact30⟩, fact31⟩, fact32⟩
end Go.Proofs.YtkbjonoiecljiaaGreatDoor

