/-
  A deferred function that looks for a panic, where there is none: it leaves all as it is.
-/
import Derived.Test.YtkbjonoiecljiaaGreatDoorDxOrc
import Derived.Recover
import Derived.Test.YtkbjonoiecljiaaGreatDoorProg
import Derived.WalkKit
import Derived.KernelRfl
namespace Go.Dx
open Go Go.RowKit Go.Proofs

def dorc15 : FuncId → List V → H → Option H := fun f args h => match Nat.beq f 241, args with
  | true, [_, _] => some h
  | _, _ => none

theorem wpS_seq_k {P : Program} {Q : Exit → Act → List Frame → World → Prop} {a : Act} {cs : List Frame} {w : World} {x y : Code} (h : ∀ K : Act → List Frame → World → Prop, (∀ a cs w, y.wpS P Q a cs w → K a cs w) → x.wpS P (Exit.thenS K Q) a cs w) : (Code.seq x y).wpS P Q a cs w :=
  wpS_seq (h _ fun _ _ _ h => h)

set_option maxRecDepth 20000 in
theorem read1_late (x y : Value) (w : World) : CallsD Tryz.prog 241 #[x, y] .returning w fun e u' w' => ∃ v, e = .returned v ∧ u' = .returning ∧ w' = w := by
  refine callsD_of_wpS Tryz.func241 rfl fun c₀ cs hu => ?_
  have hrec : recoverD (c₀ :: cs) = none := by simp [recoverD, hu]
  have hc : ({ c₀ with mode := .returning } : Frame) = c₀ := by rw [← hu]
  have h1 : ∀ w, (eqGuard BinOp.eql 20 (.tmp 6) (.const .nilIface) .nilIface .nilIface).run Tryz.prog w = .ok () w := fun w => by kernel_rfl
  have h2 : ∀ w, (Go.binOp .eql 20 .nilIface .nilIface).run Tryz.prog w = .ok (.bool true) w := fun w => by kernel_rfl
  refine wpS_seq_k fun K hK => ?_
  refine wpS_region ?_
  simp [wpOpsS, List.range_succ, Region.wanted, execOp, resolve, invoke, builtin, hrec, Oper.upon, Act.put, Act.eval, Exit.thenS, Tryz.ntmps241]
  refine hK _ _ _ (wpS_seq_k fun K2 hK2 => ?_)
  refine wpS_seq_k fun K3 hK3 => ?_
  refine wpS_region ?_
  simp [wpOpsS, List.range_succ, Region.wanted, execOp, Oper.upon, Act.put, Act.eval, Exit.thenS, h1, h2]
  refine hK3 _ _ _ (wpS_cond (t := true) ?_ ?_)
  · simp [Act.eval]
  · rw [if_pos rfl]
    refine wpS_of_wp (wp_ret ?_)
    exact ⟨rfl, .returning, by rw [hc], .tuple #[], by kernel_rfl, .tuple #[], rfl, rfl, rfl⟩

theorem dorc15_ok {G : Nat} : LateOk Tryz.prog G dorc15 := by
  intro f args h h' hr B w0 ρ w xs R hG hx
  unfold dorc15 at hr
  split at hr
  · rename_i a b he
    cases hr
    have he : f = 241 := Nat.eq_of_beq_eq_true he
    subst he
    obtain ⟨x, y, rfl, _, _⟩ := hx.two
    refine ⟨by kernel_rfl, (read1_late x y w).mono fun e u' w' hh => ?_⟩
    obtain ⟨v, h1, h2, rfl⟩ := hh
    exact ⟨v, h1, h2, ρ, Step.refl _ _, R⟩
  · cases hr

end Go.Dx
