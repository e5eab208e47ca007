/-
  PlatformNobody: the law returns true at every input, and leaves its arguments alone, where the listed variables read as listed: the contract in the row's form.
-/
import Derived.Test.YtkaoagmdhlpfoaaGreatDoorQC
import Derived.Test.YtkaoagmdhlpfoaaGreatDoorRA
import Derived.Test.YtkaoagmdhlpfoaaGreatDoorRC
import Derived.Test.YtkaoagmdhlpfoaaGreatDoorRows
import Derived.ProofKit
import Derived.Carry
import Derived.LaidMore
import Derived.LaidHandle
import Derived.LaidLaws
import Derived.OpenShut
import Derived.ChangeSame
import Derived.ChangeVars
import Derived.JoinedOf
import Derived.RowKit
import Derived.RowKitTokens
import Derived.Stop.Joined
import Derived.SizedLaws
import Derived.Deep.Slices
import Derived.DataReads
import Derived.Lay
import Derived.Lib.LaidU8
import Derived.Handed
namespace Go.Proofs.YtkaoagmdhlpfoaaGreatDoor
open Go.ChangeShapes Go.WideShapes Go.ChangeAt Go.RowKit

/-- The cells of a variable that is an array of numbers. -/
theorem nums_of_reads {P : Program} {W : World} {n : String} {g : Nat} {t e : TypeId} {k : IntKind} {m : Nat} {zs : List Int} {cs : Array Value} {u : TypeId} {fr : Nat × Nat} (h : Lib.VarReads P W n (Lib.tabData k zs)) (hn : P.globalNamed n = some g) (hy : (P.globals[g]?).map (·.type) = some t)
    (ht : P.underlying t = some (.array m e)) (he : P.underlying e = some (.int k)) (ce : P.cellsOf e = 1) (ct : P.cellsOf t = m) (hh : W.heap[g]? = some (.cells cs u fr)) : cs.toList = zs.map fun z => Value.int k z := by
  obtain ⟨g', t', cs', fuel, p, hg, hty, hvar, hd⟩ := h
  obtain rfl := Option.some.inj (hn.symm.trans hg)
  obtain rfl := Option.some.inj (hy.symm.trans hty)
  have hv : W.var? P n = some cs := by unfold World.var?; rw [hn]; simp [hh]
  rw [hv] at hvar
  obtain rfl := Option.some.inj hvar
  exact Lib.cells_of_tab ht he ce ct hd

theorem own : ownKnob Tryz.prog.godebug = none := by kernel_rfl
theorem et : Tryz.prog.globalNamed "errors.errorType" = some 0 := by kernel_rfl
theorem gRounds : Tryz.prog.globalNamed "blotter/digest.rounds" = some 1 := by kernel_rfl
theorem gPow : Tryz.prog.globalNamed "internal/strconv.uint64pow10" = some 3 := by kernel_rfl
theorem rt : (Tryz.prog.cutTypes.find? (·.1 == "internal/reflectlite.rtype")).map (·.2) = some 181 := by kernel_rfl
theorem oneRow : ((List.range 688).filter fun t => Tryz.prog.rowNamed t [101, 114, 114, 111, 114]) = [58] := by kernel_rfl
theorem tsize : Tryz.prog.types.size = 688 := by kernel_rfl

/-- What the condition gives the walk: the variable's one cell. -/
theorem handle_of_laid {W : World} (h : laidMetH Tryz.prog Rows.platformNobodyRow.laid W) : W.cell? ⟨0, 0, none⟩ = some (.iface 181 (.agg #[.pointer (some ⟨10, 58, none⟩)])) := by
  have h' : laidMet Tryz.prog (Rows.platformNobodyRow.laid.filter fun x => x.2.handleName?.isNone) W ∧ handlesMet Tryz.prog [("errors.errorType", Rows.laid_errors_errorType)] W := h
  obtain ⟨name, u, ty, e1, e2, e3, e4, e5⟩ := h'.2 _ (List.mem_singleton.2 rfl)
  have en : name = [101, 114, 114, 111, 114] := (Option.some.inj e1).symm
  subst en
  obtain rfl := Option.some.inj (rt.symm.trans e2)
  have hm : ty ∈ (List.range 688).filter fun t => Tryz.prog.rowNamed t [101, 114, 114, 111, 114] := List.mem_filter.2 ⟨List.mem_range.2 (by rw [← tsize]; exact e3), e4⟩
  rw [oneRow] at hm
  obtain rfl := List.mem_singleton.1 hm
  have hh : typeHandle Tryz.prog 58 = .pointer (some ⟨10, 58, none⟩) := by kernel_rfl
  rw [hh] at e5
  simpa using World.var?_cell et e5 0

theorem reads_of_laid {W : World} (h : laidMetH Tryz.prog Rows.platformNobodyRow.laid W) {n : String} {d : DataW Unit} (hm : (n, d) ∈ Rows.platformNobodyRow.laid.filter fun x => x.2.handleName?.isNone) : Lib.VarReads Tryz.prog W n d := by
  have h' : laidMet Tryz.prog (Rows.platformNobodyRow.laid.filter fun x => x.2.handleName?.isNone) W ∧ handlesMet Tryz.prog [("errors.errorType", Rows.laid_errors_errorType)] W := h
  exact Lib.laidMet.reads h'.1 hm

/-! ### what comes in -/

theorem row_of {P : Program} {w : World} {base : Nat} {t : TypeId} {fs : Array Field} {v : Value} (hs : P.underlying t = some (.struct fs)) (hv : Value.okWide P w .any base t v) : ∃ cs, v = .agg cs ∧ cs.size = P.cellsOf t ∧ Row.okWide P w .any base t cs := by
  unfold Value.okWide at hv
  rw [hs] at hv
  exact hv

theorem cell_at {P : Program} {w : World} {base : Nat} {t : TypeId} {cs : Array Value} {ts : List TypeId} (h : Row.okWide P w .any base t cs) (ht : P.cellTypes P.depth t = some ts) {i : Nat} {v : Value} {u : TypeId} (hv : cs[i]? = some v) (hu : ts[i]? = some u) : Cell.okWide P w .any base u v := by
  obtain ⟨ts', h1, _, h2⟩ := h
  rw [ht] at h1
  cases h1
  obtain ⟨u', h3, h4⟩ := h2 i v hv
  have hi := (List.getElem?_eq_some_iff.1 hu).1
  rw [Nat.mod_eq_of_lt hi, hu] at h3
  cases h3
  exact h4

theorem cell_int {P : Program} {w : World} {base : Nat} {t : TypeId} {k : IntKind} {v : Value} (ht : P.underlying t = some (.int k)) (h : Cell.okWide P w .any base t v) : Dx.numOrText v = true := by
  unfold Cell.okWide Cell.ok at h
  rw [ht] at h
  cases v <;> first | rfl | simp at h

theorem cell_str {P : Program} {w : World} {base : Nat} {t : TypeId} {v : Value} (ht : P.underlying t = some .string) (h : Cell.okWide P w .any base t v) : ∃ s : ByteArray, v = .string s ∧ (s.size : Int) ≤ IntKind.i64.max := by
  unfold Cell.okWide Cell.ok at h
  rw [ht] at h
  cases v <;> first | exact ⟨_, rfl, h⟩ | simp at h

theorem cell_slice {P : Program} {w : World} {base : Nat} {t e : TypeId} {v : Value} (ht : P.underlying t = some (.slice e)) (h : Cell.okWide P w .any base t v) : v = .slice none 0 0 ∨ ∃ a n c, v = .slice (some a) n c ∧ n ≤ c ∧ w.has P .any base a e c := by
  unfold Cell.okWide Cell.ok at h
  rw [ht] at h
  cases v with
  | slice a n c =>
    cases a with
    | none =>
      cases n with
      | zero => cases c with
        | zero => exact .inl rfl
        | succ c => simp at h
      | succ n => simp at h
    | some a => exact .inr ⟨a, n, c, rfl, h.1, h.2.2⟩
  | _ => simp at h

theorem types27 : Tryz.prog.cellTypes Tryz.prog.depth 27 = some [3, 3, 3, 3, 3, 9, 9, 9, 24, 25, 3] := by kernel_rfl
theorem types3 : Tryz.prog.cellTypes Tryz.prog.depth 3 = some [3] := by kernel_rfl
theorem cells27 : Tryz.prog.cellsOf 27 = 11 := by kernel_rfl
theorem build3 : Tryz.prog.buildable 3 = true := by kernel_rfl

theorem val_int {P : Program} {w : World} {base : Nat} {t : TypeId} {v : Value} (ht : P.underlying t = some (.int .i64)) (h : Value.okWide P w .any base t v) : ∃ n : Int, v = .int .i64 n ∧ -9223372036854775808 ≤ n ∧ n ≤ 9223372036854775807 := by
  unfold Value.okWide at h
  rw [ht] at h
  have h : Cell.okWide P w .any base t v := h
  unfold Cell.okWide Cell.ok at h
  rw [ht] at h
  cases v with
  | int k n =>
    obtain ⟨rfl, h1, h2⟩ := (show k = .i64 ∧ IntKind.i64.has n from h)
    exact ⟨n, rfl, h1, h2⟩
  | _ => simp at h

end Go.Proofs.YtkaoagmdhlpfoaaGreatDoor
