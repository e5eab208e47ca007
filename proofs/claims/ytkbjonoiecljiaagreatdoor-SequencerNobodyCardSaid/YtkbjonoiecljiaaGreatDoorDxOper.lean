/-
  The deterministic machine over labels against the model: every operation that is compiled; calls.
-/
import Derived.Test.YtkbjonoiecljiaaGreatDoorDxEffC
namespace Go.Dx
open Go Go.RowKit

section
variable {P : Program} {B : Nat} {w0 : World} {ρ ρ' : Rho} {h h' : H} {w : World}

/-- A call: which function, and with which arguments. -/
def CallOk (C : CE) (o : Op) (q : CD) : Prop := ∀ {ρ : Rho} {tm : T V} {A : Act}, TRel ρ C.n tm A.tmps → GRel ρ C.G → ∀ {f : FuncId} {vs : List V}, q.args (envOf C.P) tm = some (f, vs) →
  ∃ xs : List Value, RVs ρ vs xs ∧ ∀ p : Oper, p.op = o → ∀ w, (execOp A.eval p).run C.P w = (callFunc f ⟨xs⟩).run C.P w

/-- A deferred call. -/
def DRel (ρ : Rho) (d : FuncId × List V) (e : Deferred) : Prop := ∃ xs cap : List Value, e.target = .fn (.func d.1) ⟨cap⟩ ∧ e.args = ⟨xs⟩ ∧ RVs ρ d.2 (xs ++ cap)

def DeferOk (C : CE) (o : Op) (q : CD) : Prop := ∀ {ρ : Rho} {tm : T V} {A : Act}, TRel ρ C.n tm A.tmps → GRel ρ C.G → ∀ {f : FuncId} {vs : List V}, q.args (envOf C.P) tm = some (f, vs) →
  ∃ e : Deferred, DRel ρ (f, vs) e ∧ ∀ p : Oper, p.op = o → ∀ w, (execOp A.eval p).run C.P w = .ok (.defer e) w

/-- An effect; a new variable is made by that operation alone. -/
structure EOk (C : CE) (o : Op) (q : ED) : Prop where
  eff : EffOk C o q
  alloc : ∀ t cs, q = .alloc t cs → ∃ z, o = .alloc t ∧ zeroT C.P t = some z ∧ cs = z.cells

theorem EOk.of {C : CE} {o : Op} {q : ED} (h : EffOk C o q) (hn : ∀ t cs, q ≠ .alloc t cs) : EOk C o q := ⟨h, fun t cs e => absurd e (hn t cs)⟩

def OpOk (C : CE) (o : Op) : D → Prop
  | .mov x => MOk C o x
  | .p q => POk C o q
  | .r q => RdOk C o q
  | .e q => EOk C o q
  | .c q => CallOk C o q
  | .defer q => DeferOk C o q
  | .stuck => True

theorem args_map {args : Array Operand} {A : Act} : args.map A.eval = ⟨args.toList.map A.eval⟩ := by apply Array.ext'; simp

theorem func_inv {f : FuncId} {a b : List V} {x : Value} (r : RV ρ (.func f a b) x) : ∃ a' b', x = .func (.func f) ⟨a'⟩ ⟨b'⟩ ∧ RVs ρ a a' ∧ RVs ρ b b' := by
  cases r with | func _ ha hb => exact ⟨_, _, rfl, ha, hb⟩

theorem iface_inv {t : TypeId} {v : V} {x : Value} (r : RV ρ (.iface t v) x) : ∃ y, x = .iface t y ∧ RV ρ v y := by
  cases r with | iface _ h => exact ⟨_, rfl, h⟩

theorem meth_ok {t : TypeId} {name : String} {f : FuncId} (hm : methT P t name = some f) (x : Value) (n : Nat) : (method (n + 1) t x name).run P w = .ok (f, x) w := by
  simp only [methT, ob_some, chk_some] at hm
  obtain ⟨i, hi, m, hf, hp, hm⟩ := hm
  have hf' : i.methods.find? (fun m => m.name == name) = some m := by
    rw [← Array.find?_toList]; exact hf
  have hpl : m.path.toList = [] := by simpa using hp
  unfold method
  simp only [Sem.run_bind, typeInfo, run_program, Result.andThen_ok, hi, Sem.run_pure, hf', hpl, follow]
  split at hm
  · rename_i g u hg hu
    cases hm
    simp [hg, receiverAt, run_underlying hu, Place.get]
  · cases hm
  · rename_i g u hnp hg hu
    cases hm
    simp only [hg, receiverAt, Sem.run_bind, run_underlying hu, Result.andThen_ok]
    cases u <;> first | (simp [Place.get]; done) | (exfalso; exact hnp _ rfl)
  · cases hm

theorem comp_call {C : CE} {c : Call} {q : CD} (h : compCall C c = some q) : CallOk C (.call c) q := by
  intro ρ tm A hT hG f vs hq
  simp only [compCall, ob_some] at h
  obtain ⟨as, has, h⟩ := h
  have ras := compXs_ok hT hG has
  have unf : ∀ (p : Oper), p.op = .call c → execOp A.eval p = (do let d ← resolve A.eval c p.type; invoke d.target d.args) := fun p hp => by unfold execOp; rw [hp]
  cases hc : c.callee with
  | value fx =>
    have key : ∀ {x : X}, compX C fx = some x → q = .value x as → ∃ xs : List Value, RVs ρ vs xs ∧ ∀ p : Oper, p.op = .call c → ∀ w, (execOp A.eval p).run C.P w = (callFunc f ⟨xs⟩).run C.P w := fun {x} hx hqe => by
      subst hqe
      have r := compX_ok hT hG hx
      simp only [CD.args] at hq
      split at hq
      · rename_i g a b e
        cases hq
        rw [e] at r
        obtain ⟨a', b', hy, ra, rb⟩ := func_inv r
        refine ⟨a' ++ c.args.toList.map A.eval ++ b', (ra.append ras).append rb, fun p hp w => ?_⟩
        rw [unf p hp]
        simp [resolve, hc, hy, Deferred.ofValue, invoke, args_map]
      · cases hq
    cases fx with
    | func g =>
      simp only [hc, Option.some.injEq] at h
      subst h
      simp only [CD.args, Option.some.injEq, Prod.mk.injEq] at hq
      obtain ⟨rfl, rfl⟩ := hq
      refine ⟨c.args.toList.map A.eval, ras, fun p hp w => ?_⟩
      rw [unf p hp]
      simp [resolve, hc, Act.eval, Deferred.ofValue, invoke, args_map]
    | tmp t => simp only [hc, ob_some, Option.some.injEq] at h; obtain ⟨x, hx, h⟩ := h; exact key hx h.symm
    | const v => simp only [hc, ob_some, Option.some.injEq] at h; obtain ⟨x, hx, h⟩ := h; exact key hx h.symm
    | global g => simp only [hc, ob_some, Option.some.injEq] at h; obtain ⟨x, hx, h⟩ := h; exact key hx h.symm
  | invoke r name =>
    simp only [hc, ob_some, Option.some.injEq] at h
    obtain ⟨x, hx, rfl⟩ := h
    have rr := compX_ok hT hG hx
    simp only [CD.args] at hq
    split at hq
    · rename_i t v e
      rw [e] at rr
      obtain ⟨y, hy, ry⟩ := iface_inv rr
      simp only [ob_some, Option.some.injEq, Prod.mk.injEq] at hq
      obtain ⟨g, hg, rfl, rfl⟩ := hq
      refine ⟨y :: c.args.toList.map A.eval, .cons ry ras, fun p hp w => ?_⟩
      rw [unf p hp]
      have hd : C.P.types.size + Made.depth = (C.P.types.size + (Made.depth - 1)) + 1 := rfl
      have hm := meth_ok (P := C.P) (w := w) hg y (C.P.types.size + (Made.depth - 1))
      rw [← hd] at hm
      have ht : List.take c.args.size (List.map A.eval c.args.toList) = List.map A.eval c.args.toList := List.take_of_length_le (by simp)
      simp [resolve, hc, hy, invoke, callMethod, hm, args_map, ht]
    · cases hq
  | builtin b => simp only [hc] at h; cases h

theorem comp_defer {C : CE} {c : Call} {q : CD} {fx : Operand} (hc : c.callee = .value fx) (h : compCall C c = some q) : DeferOk C (.defer c) q := by
  intro ρ tm A hT hG f vs hq
  simp only [compCall, ob_some] at h
  obtain ⟨as, has, h⟩ := h
  have ras := compXs_ok hT hG has
  have unf : ∀ (p : Oper), p.op = .defer c → execOp A.eval p = (do pure (.defer (← resolve A.eval c p.type))) := fun p hp => by unfold execOp; rw [hp]
  have key : ∀ {x : X}, compX C fx = some x → q = .value x as → ∃ e : Deferred, DRel ρ (f, vs) e ∧ ∀ p : Oper, p.op = .defer c → ∀ w, (execOp A.eval p).run C.P w = .ok (.defer e) w := fun {x} hx hqe => by
    subst hqe
    have r := compX_ok hT hG hx
    simp only [CD.args] at hq
    split at hq
    · rename_i g a b e
      cases hq
      rw [e] at r
      obtain ⟨a', b', hy, ra, rb⟩ := func_inv r
      refine ⟨{ target := .fn (.func f) ⟨b'⟩, args := ⟨a' ++ c.args.toList.map A.eval⟩ }, ⟨_, _, rfl, rfl, (ra.append ras).append rb⟩, fun p hp w => ?_⟩
      rw [unf p hp]
      simp [resolve, hc, hy, Deferred.ofValue, args_map]
    · cases hq
  cases fx with
  | func g =>
    simp only [hc, Option.some.injEq] at h
    subst h
    simp only [CD.args, Option.some.injEq, Prod.mk.injEq] at hq
    obtain ⟨rfl, rfl⟩ := hq
    refine ⟨{ target := .fn (.func g) #[], args := ⟨c.args.toList.map A.eval⟩ }, ⟨_, [], rfl, rfl, by simpa using ras⟩, fun p hp w => ?_⟩
    rw [unf p hp]
    simp [resolve, hc, Act.eval, Deferred.ofValue, args_map]
  | tmp t => simp only [hc, ob_some, Option.some.injEq] at h; obtain ⟨x, hx, h⟩ := h; exact key hx h.symm
  | const v => simp only [hc, ob_some, Option.some.injEq] at h; obtain ⟨x, hx, h⟩ := h; exact key hx h.symm
  | global g => simp only [hc, ob_some, Option.some.injEq] at h; obtain ⟨x, hx, h⟩ := h; exact key hx h.symm

end
end Go.Dx
