/-
  The deterministic machine over labels against the model: calls; every turn of the wheel.
-/
import Derived.Test.YtkbjonoiecljiaaGreatDoorDxExec
namespace Go.Dx
open Go Go.RowKit

/-- What a deferred call does. -/
def LateGood (P : Program) (f : FuncId) (xs : List Value) (w : World) (R : World → Prop) : Prop :=
  (callFunc f ⟨xs⟩).run P w = .ok (.enter f ⟨xs⟩) w ∧ CallsD P f ⟨xs⟩ .returning w fun e u' w' => ∃ v, e = .returned v ∧ u' = .returning ∧ R w'

def LateOk (P : Program) (G : Nat) (late : FuncId → List V → H → Option H) : Prop := ∀ {f : FuncId} {args : List V} {h h' : H}, late f args h = some h' → ∀ {B : Nat} {w0 : World} {ρ : Rho} {w : World} {xs : List Value}, HRel B w0 ρ h w → GRel ρ G → RVs ρ args xs →
  LateGood P f xs w fun w' => ∃ ρ', Step ρ ρ' h h' ∧ HRel B w0 ρ' h' w'

def FnsOk (P : Program) (G : Nat) (fns : T DFn) : Prop := ∀ f fn, fnAt fns f = some fn → ∃ func, P.funcs[f]? = some func ∧ compFn P G func = some fn

section
variable {P : Program} {G : Nat} {exec : Exec} {call : Orc} {orc : Orc} {late dorc : FuncId → List V → H → Option H} {fns : T DFn}

structure Comp (P : Program) (G : Nat) (func : Func) (fn : DFn) (c : Code) : Prop where
  body : func.body = some c
  small : func.ntmps ≤ 65536
  name : (func.name == "runtime.NumGoroutine") = false
  ntmps : fn.ntmps = func.ntmps
  code : fn.code = compC ⟨P, G, func.ntmps⟩ c
  results : compRess ⟨P, G, func.ntmps⟩ func.results.toList = some fn.results

theorem compFn_some {func : Func} {fn : DFn} (h : compFn P G func = some fn) : ∃ c, Comp P G func fn c := by
  unfold compFn at h
  simp only [chk_some, ob_some, Option.some.injEq, Bool.and_eq_true, Bool.not_eq_true'] at h
  obtain ⟨⟨⟨h1, h2⟩, h3⟩, c, h4, rs, h5, rfl⟩ := h
  exact ⟨c, h4, Nat.le_of_ble_eq_true h1, h3, rfl, rfl, h5⟩

theorem callFunc_enter {func : Func} {fn : DFn} {c : Code} (k : Comp P G func fn c) {f : FuncId} (hf : P.funcs[f]? = some func) (xs : Array Value) (w : World) : (callFunc f xs).run P w = .ok (.enter f xs) w := by
  have hn : ¬ func.name = "runtime.NumGoroutine" := fun e => by have := k.name; rw [e] at this; simp at this
  unfold callFunc
  simp [hf, hn, k.body]

theorem enter_wp (hE : ExecOk P G exec) {func : Func} {fn : DFn} {c : Code} (k : Comp P G func fn c) {args : List V} {h : H} {e : Ex} {a' : A} {h' : H} (hr : enterD exec fn args h = some (e, a', h')) {B : Nat} {w0 : World} {ρ : Rho} {w : World} {xs : List Value}
    (R : HRel B w0 ρ h w) (hG : GRel ρ G) (hx : RVs ρ args xs) {Q : Exit → Act → World → Prop} (hQ : Post B w0 func.ntmps ρ h e a' h' Q) : c.wp P Q { tmps := (⟨xs⟩ : Array Value) ++ Array.replicate (func.ntmps - (⟨xs⟩ : Array Value).size) Go.undef, defers := [] } w := by
  unfold enterD at hr
  rw [chk_some] at hr
  obtain ⟨h1, h2⟩ := hr
  have h1 := Nat.le_of_ble_eq_true h1
  rw [k.ntmps] at h1
  rw [k.code] at h2
  exact hE.code h2 ⟨args_rel hx k.small h1, .nil⟩ hG R hQ

theorem late_ok (hE : ExecOk P G exec) (hd : LateOk P G dorc) (hfns : FnsOk P G fns) : LateOk P G (lateD fns dorc exec) := by
  intro f args h h' hr B w0 ρ w xs R hG hx
  unfold lateD at hr
  split at hr
  · rename_i h'' hdo
    cases hr
    exact hd hdo R hG hx
  · simp only [ob_some] at hr
    obtain ⟨fn, hfn, ⟨e, a', h1⟩, hen, hr⟩ := hr
    obtain ⟨func, hf, hc⟩ := hfns f fn hfn
    obtain ⟨c, k⟩ := compFn_some hc
    refine ⟨callFunc_enter k hf _ w, ?_⟩
    have fin : a'.defers = [] ∧ (∃ vs, resultsD h1 a'.tmps fn.results = some vs) ∧ h1 = h' ∧ (e = .normal ∨ e = .ret) := by
      split at hr
      · cases hr
      · rename_i hdef hne
        simp only [ob_some, Option.some.injEq] at hr
        obtain ⟨vs, hvs, rfl⟩ := hr
        refine ⟨hdef, ⟨vs, hvs⟩, rfl, ?_⟩
        cases e with
        | normal => exact .inl rfl
        | ret => exact .inr rfl
        | exit id => exact absurd rfl (hne id)
      · cases hr
    obtain ⟨f1, ⟨vs, f2⟩, rfl, f4⟩ := fin
    have Q := callsD_of_wp (P := P) (f := f) (fn := func) (c := c) (args := ⟨xs⟩) (u := .returning) (w := w) (R := fun e w' => ∃ v, e = .returned v ∧ ∃ ρ', Step ρ ρ' h h1 ∧ HRel B w0 ρ' h1 w') hf k.body
      (enter_wp hE k hen R hG hx fun ρ' A' w' s hA R' => by
        have hds : A'.defers = [] := by
          have := hA.defers
          rw [f1] at this
          generalize A'.defers = es at this
          cases this; rfl
        obtain ⟨v, v1, v2⟩ := fn_results (C := ⟨P, G, func.ntmps⟩) k.results hA.tmps R' f2
        rcases f4 with rfl | rfl <;> exact ⟨hds, v, v2, v, rfl, ρ', s, R'⟩)
    exact Q.mono fun e u' w' ⟨hu, v, hv, ρ', s, R'⟩ => ⟨v, hv, hu, ρ', s, R'⟩

theorem leave_ok (hl : LateOk P G late) {func : Func} {fn : DFn} {c : Code} (k : Comp P G func fn c) {B : Nat} {w0 : World} {tm : T V} {tmps : Array Value} {vs : List V} {h' : H} {Rt : Ending → World → Prop} :
    ∀ {ds : List (FuncId × List V)} {es : List Deferred} {ρ : Rho} {h : H} {w : World}, leaveD late ds h = some h' → DRels ρ ds es → TRel ρ func.ntmps tm tmps → GRel ρ G → HRel B w0 ρ h w → resultsD h' tm fn.results = some vs →
    (∀ ρ' w' x, Step ρ ρ' h h' → RV ρ' (packD vs) x → HRel B w0 ρ' h' w' → Rt (.returned x) w') → Leaves P func tmps Rt es .returning w
  | [], es, ρ, h, w, hr, hd, hT, hG, R, hv, hq => by
    cases hd
    simp only [leaveD, Option.some.injEq] at hr
    subst hr
    obtain ⟨x, x1, x2⟩ := fn_results (C := ⟨P, G, func.ntmps⟩) k.results hT R hv
    exact ⟨x, x2, hq ρ w x (Step.refl _ _) x1 R⟩
  | (f, args) :: ds, es, ρ, h, w, hr, hd, hT, hG, R, hv, hq => by
    cases hd with
    | @cons _ e _ es' h1 h2 =>
      obtain ⟨xs, cap, t1, t2, t3⟩ := h1
      simp only [leaveD, ob_some] at hr
      obtain ⟨h1', hl1, hr⟩ := hr
      obtain ⟨g1, g2⟩ := hl hl1 R hG t3
      refine ⟨by simp, .func f, ⟨cap⟩, f, ⟨xs ++ cap⟩, t1, ?_, ?_⟩
      · rw [t1, t2]
        show (callFunc f ((⟨xs⟩ : Array Value) ++ ⟨cap⟩)).run P w = _
        have : ((⟨xs⟩ : Array Value) ++ ⟨cap⟩) = ⟨xs ++ cap⟩ := by simp
        rw [this]; exact g1
      · refine g2.mono fun e' u' w' ⟨v, hv', hu, ρ', s, R'⟩ => ?_
        subst hv'; subst hu
        have E := s.ext R
        exact leave_ok hl k hr (h2.mono E) (hT.mono E) (hG.mono E) R' hv fun ρ'' w'' x s' => hq ρ'' w'' x (s.trans s')

theorem call_ok (hE : ExecOk P G exec) (horc : OrcOk P G orc) (hd : LateOk P G dorc) (hfns : FnsOk P G fns) : OrcOk P G (callD fns orc dorc exec) := by
  intro f args h v h' hr B w0 ρ w xs R hG hx
  unfold callD at hr
  split at hr
  · rename_i r ho
    cases hr
    exact horc ho R hG hx
  · simp only [ob_some] at hr
    obtain ⟨fn, hfn, ⟨e, a', h1⟩, hen, hr⟩ := hr
    obtain ⟨func, hf, hc⟩ := hfns f fn hfn
    obtain ⟨c, k⟩ := compFn_some hc
    have fin : (∃ vs, leaveD (lateD fns dorc exec) a'.defers h1 = some h' ∧ resultsD h' a'.tmps fn.results = some vs ∧ v = packD vs) ∧ (e = .normal ∨ e = .ret) := by
      split at hr
      · cases hr
      · rename_i hne
        simp only [ob_some, Option.some.injEq, Prod.mk.injEq] at hr
        obtain ⟨h2, hl, vs, hvs, rfl, rfl⟩ := hr
        refine ⟨⟨vs, hl, hvs, rfl⟩, ?_⟩
        cases e with
        | normal => exact .inl rfl
        | ret => exact .inr rfl
        | exit id => exact absurd rfl (hne id)
    obtain ⟨⟨vs, f1, f2, rfl⟩, f4⟩ := fin
    refine .inr ⟨callFunc_enter k hf _ w, ?_⟩
    refine calls_of_wp_defers (P := P) (f := f) (fn := func) (c := c) hf k.body (enter_wp hE k hen R hG hx fun ρ' A' w' s hA R' => ?_)
    have L : Leaves P func A'.tmps (fun e w' => ∃ x, e = .returned x ∧ ∃ ρ', Step ρ ρ' h h' ∧ RV ρ' (packD vs) x ∧ HRel B w0 ρ' h' w') A'.defers .returning w' :=
      leave_ok (late_ok hE hd hfns) k f1 hA.defers hA.tmps (hG.mono (s.ext R)) R' f2 fun ρ'' w'' x s' hx' R'' => ⟨x, rfl, ρ'', s.trans s', hx', R''⟩
    rcases f4 with rfl | rfl <;> exact L

theorem turn_ok (hdraw : ∀ {call : Orc}, OrcOk P G call → DrawOk P G call) (horc : OrcOk P G orc) (hd : LateOk P G dorc) (hfns : FnsOk P G fns) : ∀ n, ExecOk P G (turn (envOf P) fns orc dorc n).exec ∧ OrcOk P G (turn (envOf P) fns orc dorc n).call
  | 0 => by
    refine ⟨⟨?_, ?_⟩, ?_⟩
    · intro n c a h e a' h' hr; cases hr
    · intro n c a h e a' h' hr; cases hr
    · intro f args h v h' hr; cases hr
  | n + 1 => by
    obtain ⟨h1, h2⟩ := turn_ok hdraw horc hd hfns n
    exact ⟨execStep_ok h1 h2 (hdraw h2), call_ok h1 horc hd hfns⟩

end
end Go.Dx
