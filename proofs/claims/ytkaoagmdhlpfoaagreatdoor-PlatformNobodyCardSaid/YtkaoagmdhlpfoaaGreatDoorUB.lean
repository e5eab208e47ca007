/-
  The card of PlatformNobody: the translator's looks.
  The card of PlatformNobody: it starts no goroutine: no function of the program has a go statement.
-/
import Derived.Test.YtkaoagmdhlpfoaaGreatDoorRows
import Derived.SevenTiedAt
namespace Go.Proofs.YtkaoagmdhlpfoaaGreatDoor
open Go
theorem card_looks : true = Tryz.pinned.checked.prog.looks [] := by kernel_rfl
theorem card_stands : ([27, 3, 3].all fun u => !Tryz.prog.wantsStandIn u) = true := by kernel_rfl
end Go.Proofs.YtkaoagmdhlpfoaaGreatDoor
namespace Go.Proofs.YtkaoagmdhlpfoaaGreatDoor
open Go

theorem goes_of_none {P : Program} (h : P.funcs.any Func.goes = false) (f : FuncId) : P.goes f = false := by
  unfold Program.goes
  have h1 : ∀ g : Nat, (P.funcs[g]?).any Func.goes = false := fun g => by
    cases hg : P.funcs[g]? with
    | none => rfl
    | some fn =>
      have hm : fn ∈ P.funcs := Array.mem_of_getElem? hg
      rw [Array.any_eq_false'] at h
      simpa using h fn hm
  have h2 : ((P.closure f).any fun g => (P.funcs[g]?).any Func.goes) = false := by simp [h1]
  rw [h2, h]; simp

theorem goesBy_of_none {P : Program} {c : OpenClaim} (hs : c.start = .entering) (h : P.funcs.any Func.goes = false) : false = c.goesBy P := by
  unfold OpenClaim.goesBy Program.goesAt Program.goesFrom
  rw [hs]
  cases P.funcNamed c.func with
  | none => rfl
  | some f => simp [goes_of_none h f]

theorem none_goes : Tryz.pinned.checked.prog.funcs.any Func.goes = false := by kernel_rfl
theorem card_goes : false = Rows.platformNobodyRow.goesBy Tryz.pinned.checked.prog := goesBy_of_none rfl none_goes
end Go.Proofs.YtkaoagmdhlpfoaaGreatDoor
