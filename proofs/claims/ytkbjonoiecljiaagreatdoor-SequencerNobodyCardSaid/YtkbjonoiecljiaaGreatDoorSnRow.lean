/-
  SequencerNobody: the law returns true at every input, and leaves its arguments alone, where the listed variables read as listed: the contract in the row's form.
-/
import Derived.Test.YtkbjonoiecljiaaGreatDoorSnKDw
import Derived.Test.YtkbjonoiecljiaaGreatDoorRows
import Derived.ProofKit
import Derived.Carry
import Derived.LaidMore
import Derived.LaidHandle
import Derived.LaidLaws
import Derived.OpenShut
import Derived.ChangeSame
import Derived.ChangeVars
import Derived.JoinedOf
import Derived.RowKit
import Derived.RowKitTokens
import Derived.Stop.Joined
import Derived.SizedLaws
import Derived.Deep.Slices
import Derived.DataReads
import Derived.Lay
namespace Go.Proofs.YtkbjonoiecljiaaGreatDoor
open Go.ChangeShapes Go.WideShapes Go.ChangeAt Go.RowKit

theorem own : ownKnob Tryz.prog.godebug = none := by kernel_rfl
theorem laidOut : laidOutB Tryz.prog = true := by kernel_rfl

/-- All the listed variables by the function, over whatever world. -/
theorem laidMet_layAll {P : Program} {w0 : World} {laid : List (String × DataW Unit)} (args : Array Value)
    (hf : w0.layFits P laid [] = true) (hi : w0.layIfaces P laid (w0.layVars P laid) = true) :
    laidMet P laid ((w0.layVars P laid).forCall (fun _ _ => 0) ⟨#[], args, []⟩).memory := by
  have e1 : (laid.filter fun x => (laid.map (·.1)).contains x.1) = laid := List.filter_eq_self.2 fun x hx => List.contains_iff_mem.2 (List.mem_map.2 ⟨x, hx, rfl⟩)
  have e2 : (laid.filter fun x => !(laid.map (·.1)).contains x.1) = [] := List.filter_eq_nil_iff.2 fun x hx => by rw [List.contains_iff_mem.2 (List.mem_map.2 ⟨x, hx, rfl⟩)]; simp
  have h : laidMet P laid (w0.layVars P laid) := laidMet_layVars (w0 := w0) (laid.map (·.1)) [] (by rw [e1]) (by rw [e1]; exact hf) (by rw [e1]; exact hi) (by rw [e2]; exact LaidIn.none)
  exact h.of_heap (by simp [World.memory, World.forCall, Input.heap])

/-- The start: 'error's handle in its variable; the other listed variables as they are listed. -/
noncomputable def start0 (os : Os) : World :=
  let w := World.holding Tryz.prog os ⟨#[], #[], []⟩
  { w with heap := w.heap.modify 1 fun
      | .cells _ t frozen => .cells #[.iface 394 (.agg #[.pointer (some ⟨10, 108, none⟩)])] t frozen
      | o => o }
def listed : List (String × DataW Unit) := Rows.sequencerNobodyRow.laid.filter fun x => x.2.handleName?.isNone
noncomputable def start (os : Os) : World := (start0 os).layVars Tryz.prog listed
theorem start_fits (os : Os) : (start0 os).layFits Tryz.prog listed [] = true := by kernel_rfl
theorem start_ifaces (os : Os) : (start0 os).layIfaces Tryz.prog listed ((start0 os).layVars Tryz.prog listed) = true := by kernel_rfl
theorem start_handle (os : Os) (args : Array Value) : ((Rows.sequencerNobodyRow.laid.filter fun x => x.2.handleName?.isSome && x.2.funcsIn?.isNone).all (handleAtB Tryz.prog ((start os).forCall (fun _ _ => 0) ⟨#[], args, []⟩).memory)) = true := by kernel_rfl

/-- It meets the condition. -/
theorem door_met (os : Os) (args : Array Value) : laidMetH Tryz.prog Rows.sequencerNobodyRow.laid ((start os).forCall (fun _ _ => 0) ⟨#[], args, []⟩).memory :=
  laidMetH_of_parts3 (fuel := 8) (laidMet_layAll args (start_fits os) (start_ifaces os)) (start_handle os args) (by kernel_rfl)

/-! ### what comes in -/

theorem row_of {P : Program} {w : World} {base : Nat} {t : TypeId} {fs : Array Field} {v : Value} (hs : P.underlying t = some (.struct fs)) (hv : Value.okWide P w .any base t v) : ∃ cs, v = .agg cs ∧ cs.size = P.cellsOf t ∧ Row.okWide P w .any base t cs := by
  unfold Value.okWide at hv
  rw [hs] at hv
  exact hv

theorem cell_at {P : Program} {w : World} {base : Nat} {t : TypeId} {cs : Array Value} {ts : List TypeId} (h : Row.okWide P w .any base t cs) (ht : P.cellTypes P.depth t = some ts) {i : Nat} {v : Value} {u : TypeId} (hv : cs[i]? = some v) (hu : ts[i]? = some u) : Cell.okWide P w .any base u v := by
  obtain ⟨ts', h1, _, h2⟩ := h
  rw [ht] at h1
  cases h1
  obtain ⟨u', h3, h4⟩ := h2 i v hv
  have hi := (List.getElem?_eq_some_iff.1 hu).1
  rw [Nat.mod_eq_of_lt hi, hu] at h3
  cases h3
  exact h4

theorem cell_int {P : Program} {w : World} {base : Nat} {t : TypeId} {k : IntKind} {v : Value} (ht : P.underlying t = some (.int k)) (h : Cell.okWide P w .any base t v) : Dx.numOrText v = true := by
  unfold Cell.okWide Cell.ok at h
  rw [ht] at h
  cases v <;> first | rfl | simp at h

theorem cell_str {P : Program} {w : World} {base : Nat} {t : TypeId} {v : Value} (ht : P.underlying t = some .string) (h : Cell.okWide P w .any base t v) : ∃ s : ByteArray, v = .string s ∧ (s.size : Int) ≤ IntKind.i64.max := by
  unfold Cell.okWide Cell.ok at h
  rw [ht] at h
  cases v <;> first | exact ⟨_, rfl, h⟩ | simp at h

theorem cell_slice {P : Program} {w : World} {base : Nat} {t e : TypeId} {v : Value} (ht : P.underlying t = some (.slice e)) (h : Cell.okWide P w .any base t v) : v = .slice none 0 0 ∨ ∃ a n c, v = .slice (some a) n c ∧ n ≤ c ∧ w.has P .any base a e c := by
  unfold Cell.okWide Cell.ok at h
  rw [ht] at h
  cases v with
  | slice a n c =>
    cases a with
    | none =>
      cases n with
      | zero => cases c with
        | zero => exact .inl rfl
        | succ c => simp at h
      | succ n => simp at h
    | some a => exact .inr ⟨a, n, c, rfl, h.1, h.2.2⟩
  | _ => simp at h

theorem types24 : Tryz.prog.cellTypes Tryz.prog.depth 24 = some [3, 9, 3, 3, 3, 3, 22] := by kernel_rfl
theorem types28 : Tryz.prog.cellTypes Tryz.prog.depth 28 = some [9, 9, 25, 26] := by kernel_rfl
theorem cells24 : Tryz.prog.cellsOf 24 = 7 := by kernel_rfl
theorem cells28 : Tryz.prog.cellsOf 28 = 4 := by kernel_rfl
theorem cells65 : Tryz.prog.cellsOf 65 = 6 := by kernel_rfl
theorem bytes65 : Tryz.prog.bytesOf 65 = 80 := by kernel_rfl

end Go.Proofs.YtkbjonoiecljiaaGreatDoor
