/-
  The deterministic machine over labels against the model: a frame's state; one operation.
-/
import Derived.Test.YtkbjonoiecljiaaGreatDoorDxMaster
namespace Go.Dx
open Go Go.RowKit

section
variable {P : Program} {B : Nat} {w0 : World} {ρ ρ' : Rho} {h h' : H} {w : World}

theorem DRel.mono (e : Ext' ρ ρ') {d : FuncId × List V} {x : Deferred} (r : DRel ρ d x) : DRel ρ' d x :=
  let ⟨xs, cap, h1, h2, h3⟩ := r; ⟨xs, cap, h1, h2, h3.mono e⟩

inductive DRels (ρ : Rho) : List (FuncId × List V) → List Deferred → Prop
  | nil : DRels ρ [] []
  | cons {d : FuncId × List V} {x : Deferred} {ds : List (FuncId × List V)} {xs : List Deferred} (h : DRel ρ d x) (hs : DRels ρ ds xs) : DRels ρ (d :: ds) (x :: xs)

theorem DRels.mono (e : Ext' ρ ρ') {ds : List (FuncId × List V)} {xs : List Deferred} (r : DRels ρ ds xs) : DRels ρ' ds xs := by
  induction r with
  | nil => exact .nil
  | cons h _ ih => exact .cons (h.mono e) ih

structure ARel (ρ : Rho) (n : Nat) (a : A) (x : Act) : Prop where
  tmps : TRel ρ n a.tmps x.tmps
  defers : DRels ρ a.defers x.defers

theorem ARel.mono (e : Ext' ρ ρ') {n : Nat} {a : A} {x : Act} (r : ARel ρ n a x) : ARel ρ' n a x := ⟨r.tmps.mono e, r.defers.mono e⟩

theorem getT_set_self (tm : T V) (p : Lb) (v : V) : getT (tm.set p (some v)) p = v := by unfold getT; rw [T.get_set_self]
theorem getT_set_ne (tm : T V) {p q : Lb} (v : V) (h : p ≠ q) : getT (tm.set p (some v)) q = getT tm q := by unfold getT; rw [T.get_set_ne _ _ _ _ h]

theorem TRel.put {n : Nat} {tm : T V} {tmps : Array Value} (r : TRel ρ n tm tmps) {d : Nat} (hd : d < n) {v : V} {x : Value} (hv : RV ρ v x) : TRel ρ n (tm.set (pathOf d) (some v)) (tmps.setIfInBounds d x) := by
  have hs := r.small
  refine ⟨by simp [r.size], hs, fun t ht => ?_⟩
  by_cases e : d = t
  · subst e
    rw [getT_set_self]
    have : (tmps.setIfInBounds d x).getD d Go.undef = x := by simp [r.size, hd]
    rw [this]; exact hv
  · rw [getT_set_ne _ _ (fun e' => e (pathOf_inj (by omega) (by omega) e'))]
    have : (tmps.setIfInBounds d x).getD t Go.undef = tmps.getD t Go.undef := by simp [Array.getElem?_setIfInBounds_ne e]
    rw [this]; exact r.get t ht

theorem compDst_ok {C : CE} {d : Option Tmp} {d' : Option Lb} (h : compDst C d = some d') : (d = none ∧ d' = none) ∨ ∃ t, d = some t ∧ d' = some (pathOf t) ∧ t < C.n := by
  cases d with
  | none => simp only [compDst, Option.some.injEq] at h; exact .inl ⟨rfl, h.symm⟩
  | some t =>
    simp only [compDst, chk_some, Option.some.injEq] at h
    exact .inr ⟨t, rfl, h.2.symm, by simpa using h.1⟩

theorem ARel.put {C : CE} {a : A} {x : Act} (r : ARel ρ C.n a x) {d : Option Tmp} {d' : Option Lb} (hd : compDst C d = some d') {v : V} {y : Value} (hv : RV ρ v y) : ARel ρ C.n (a.put d' v) (x.put d y) := by
  rcases compDst_ok hd with ⟨rfl, rfl⟩ | ⟨t, rfl, rfl, ht⟩
  · exact r
  · exact ⟨r.tmps.put ht hv, r.defers⟩

theorem bool_iff {v : V} {x : Value} (r : RV ρ v x) (b : Bool) : v = .bool b ↔ x = .bool b := by
  constructor
  · intro e; subst e; cases r; rfl
  · intro e
    generalize x = y at r e
    cases r with
    | bool b' => cases e; rfl
    | sym _ _ hv => rw [e] at hv; simp [symOk] at hv
    | any h => rw [e] at h; simp [symOk] at h
    | _ => cases e

theorem wants_ok {C : CE} {ops : Array Oper} {o : Oper} {g : Option (Lb × Bool)} (hg : compGuard C ops o.guard = some g) {tm : T V} {tmps : Array Value} (r : TRel ρ C.n tm tmps) : Region.wanted o (yielded ops tmps) = wants tm g := by
  unfold Region.wanted
  cases ho : o.guard with
  | none => rw [ho] at hg; simp only [compGuard, Option.some.injEq] at hg; subst hg; rfl
  | some p =>
    obtain ⟨j, want⟩ := p
    rw [ho] at hg
    simp only [compGuard, ob_some, chk_some, Option.some.injEq] at hg
    obtain ⟨q, hq, d, hd, hlt, rfl⟩ := hg
    have hlt : d < C.n := by simpa using hlt
    have hq' : ops[j]? = some q := by simpa using hq
    have hx := r.get d hlt
    have hsz : d < tmps.size := by rw [r.size]; exact hlt
    simp only [yielded, hq', Option.bind_some, hd, wants]
    have e1 : tmps[d]? = some (tmps.getD d Go.undef) := by simp [hsz]
    rw [e1]
    generalize tmps.getD d Go.undef = y at hx
    generalize getT tm (pathOf d) = v at hx
    cases hx with
    | bool b => cases want <;> cases b <;> simp
    | sym _ _ hv => rename_i bb _ _ _; revert hv; generalize bb.val = z; intro hv; cases z <;> first | (simp [symOk] at hv; done) | (cases want <;> simp)
    | any hv => revert hv; generalize y = z; intro hv; cases z <;> first | (simp [symOk] at hv; done) | (cases want <;> simp)
    | _ => cases want <;> simp

/-- What a call does: it yields at once, or enters a function that returns. -/
def Good (P : Program) (f : FuncId) (xs : List Value) (w : World) (R : Value → World → Prop) : Prop :=
  (∃ v w', (callFunc f ⟨xs⟩).run P w = .ok (.value v) w' ∧ R v w') ∨
  ((callFunc f ⟨xs⟩).run P w = .ok (.enter f ⟨xs⟩) w ∧ Calls P f ⟨xs⟩ w fun e w' => ∃ v, e = .returned v ∧ R v w')

def OrcOk (P : Program) (G : Nat) (orc : Orc) : Prop := ∀ {f : FuncId} {args : List V} {h : H} {v : V} {h' : H}, orc f args h = some (v, h') → ∀ {B : Nat} {w0 : World} {ρ : Rho} {w : World} {xs : List Value}, HRel B w0 ρ h w → GRel ρ G → RVs ρ args xs →
  Good P f xs w fun x w' => ∃ ρ', Step ρ ρ' h h' ∧ RV ρ' v x ∧ HRel B w0 ρ' h' w'

theorem Good.upon {f : FuncId} {xs : List Value} {R : Value → World → Prop} (g : Good P f xs w R) {o : Oper} {A : Act} {K : Act → World → Prop} {Q : Exit → Act → World → Prop} (hk : ∀ v w', R v w' → K (A.put o.dst v) w') :
    o.upon P A K Q ((callFunc f ⟨xs⟩).run P w) := by
  rcases g with ⟨v, w', hr, hR⟩ | ⟨hr, hc⟩
  · rw [hr]; exact hk v w' hR
  · rw [hr]
    show Calls P f _ w _
    refine hc.mono fun e w' he => ?_
    obtain ⟨v, rfl, hR⟩ := he
    exact hk v w' hR

/-- One operation. -/
theorem oper_ok {C : CE} {call : Orc} (hcall : OrcOk C.P C.G call) {ops : Array Oper} {o : Oper} {d : DO} (hd : compDO C ops o = some d) {a a' : A} {A : Act} (hA : ARel ρ C.n a A) (hG : GRel ρ C.G) (R : HRel B w0 ρ h w)
    (hrun : stepD (envOf C.P) call d a h = some (a', h')) {K : Act → World → Prop} {Q : Exit → Act → World → Prop} (hK : ∀ ρ' A' w', Step ρ ρ' h h' → ARel ρ' C.n a' A' → HRel B w0 ρ' h' w' → K A' w') : o.wp C.P A w K Q := by
  simp only [compDO, ob_some, Option.some.injEq] at hd
  obtain ⟨dst, hdst, g, hg, rfl⟩ := hd
  unfold Oper.wp
  unfold stepD at hrun
  simp only at hrun
  cases hop : compOp? C o.op with
  | none => simp only [hop, Option.getD_none] at hrun; cases hrun
  | some op =>
    have ok := compOp_ok hop
    simp only [hop, Option.getD_some] at hrun
    cases op with
    | mov x =>
      simp only [Option.some.injEq, Prod.mk.injEq] at hrun
      obtain ⟨rfl, rfl⟩ := hrun
      obtain ⟨y, hy, hr⟩ := ok hA.tmps hG
      rw [hr o rfl w, Oper.upon_value]
      exact hK ρ _ _ (Step.refl _ _) (hA.put hdst hy) R
    | p q =>
      simp only [ob_some, Option.some.injEq, Prod.mk.injEq] at hrun
      obtain ⟨v, hv, rfl, rfl⟩ := hrun
      obtain ⟨y, hy, hr⟩ := ok hA.tmps hG v hv
      rw [hr o rfl w, Oper.upon_value]
      exact hK ρ _ _ (Step.refl _ _) (hA.put hdst hy) R
    | r q =>
      simp only [ob_some, Option.some.injEq, Prod.mk.injEq] at hrun
      obtain ⟨q', hq, v, hv, rfl, rfl⟩ := hrun
      obtain ⟨y, hy, hr⟩ := ok hA.tmps hG q' hq v R hv
      rw [hr o rfl, Oper.upon_value]
      exact hK ρ _ _ (Step.refl _ _) (hA.put hdst hy) R
    | e q =>
      simp only [ob_some, Option.some.injEq, Prod.mk.injEq] at hrun
      obtain ⟨⟨v, h''⟩, hv, rfl, rfl⟩ := hrun
      obtain ⟨ρ', y, w', s1, s2, s3, s4⟩ := ok.eff hA.tmps hG R hv
      have E := s1.ext R
      rcases s4 o rfl with hr | ⟨hr, rfl⟩
      · rw [hr, Oper.upon_value]
        exact hK ρ' _ _ s1 ((hA.mono E).put hdst s2) s3
      · rw [hr, Oper.upon_skip]
        exact hK ρ' _ _ s1 ((hA.mono E).put hdst s2) s3
    | c q =>
      simp only [ob_some, Option.some.injEq, Prod.mk.injEq] at hrun
      obtain ⟨⟨f, vs⟩, hf, ⟨v, h''⟩, hv, rfl, rfl⟩ := hrun
      obtain ⟨xs, hxs, hr⟩ := ok hA.tmps hG hf
      rw [hr o rfl w]
      refine (hcall hv R hG hxs).upon fun y w' hR => ?_
      obtain ⟨ρ', s1, s2, s3⟩ := hR
      exact hK ρ' _ _ s1 ((hA.mono (s1.ext R)).put hdst s2) s3
    | defer q =>
      simp only [ob_some, Option.some.injEq, Prod.mk.injEq] at hrun
      obtain ⟨⟨f, vs⟩, hf, rfl, rfl⟩ := hrun
      obtain ⟨e, he, hr⟩ := ok hA.tmps hG hf
      rw [hr o rfl w, Oper.upon_defer]
      have hA2 : ARel ρ C.n { tmps := a.tmps, defers := (f, vs) :: a.defers } { A with defers := e :: A.defers } := ⟨hA.tmps, .cons he hA.defers⟩
      exact hK ρ _ _ (Step.refl _ _) (hA2.put hdst (.tuple .nil)) R
    | stuck => cases hrun

/-- Operations in their order. -/
theorem runOps_ok {C : CE} {call : Orc} (hcall : OrcOk C.P C.G call) {ops : Array Oper} : ∀ {l : List Oper} {dl : List DO}, compDOs C ops l = some dl → ∀ {a a' : A} {A : Act} {ρ : Rho} {h h' : H} {w : World}, ARel ρ C.n a A → GRel ρ C.G → HRel B w0 ρ h w →
    runOps (envOf C.P) call dl a h = some (a', h') → ∀ {Q : Exit → Act → World → Prop}, (∀ ρ' A' w', Step ρ ρ' h h' → ARel ρ' C.n a' A' → HRel B w0 ρ' h' w' → Q .normal A' w') → wpList C.P ops Q l A w
  | [], dl, hc, a, a', A, ρ, h, h', w, hA, hG, R, hrun, Q, hQ => by
    simp only [compDOs, Option.some.injEq] at hc
    subst hc
    simp only [runOps, Option.some.injEq, Prod.mk.injEq] at hrun
    obtain ⟨rfl, rfl⟩ := hrun
    exact hQ ρ A w (Step.refl _ _) hA R
  | o :: l, dl, hc, a, a', A, ρ, h, h', w, hA, hG, R, hrun, Q, hQ => by
    simp only [compDOs, ob_some, Option.some.injEq] at hc
    obtain ⟨d, hd, ds, hds, rfl⟩ := hc
    have hd' := hd
    simp only [compDO, ob_some, Option.some.injEq] at hd'
    obtain ⟨dst, hdst, g, hg, hdd⟩ := hd'
    have hw := wants_ok hg hA.tmps
    simp only [runOps] at hrun
    simp only [wpList]
    have hgd : d.guard = g := by rw [← hdd]
    have hdst' : d.dst = dst := by rw [← hdd]
    split at hrun
    · rename_i hwt
      rw [hgd] at hwt
      rw [if_pos (hw.trans hwt)]
      simp only [ob_some] at hrun
      obtain ⟨⟨a1, h1⟩, hs, hrun⟩ := hrun
      refine .inl (oper_ok hcall hd hA hG R hs fun ρ1 A1 w1 s1 hA1 R1 => ?_)
      exact runOps_ok hcall hds hA1 (hG.mono (s1.ext R)) R1 hrun fun ρ2 A2 w2 s2 => hQ ρ2 A2 w2 (s1.trans s2)
    · rename_i hwt
      rw [hgd] at hwt
      rw [if_neg (by rw [hw, hwt]; exact Bool.false_ne_true)]
      rw [hdst'] at hrun
      exact runOps_ok hcall hds (hA.put hdst (.tuple .nil)) hG R hrun hQ

end
end Go.Dx
