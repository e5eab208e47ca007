/-
  The deterministic machine over labels against the model: code, calls.
-/
import Derived.Test.YtkbjonoiecljiaaGreatDoorDxSteps
import Derived.Defers
namespace Go.Dx
open Go Go.RowKit

/-! ### loops -/

def LoopWp (P : Program) (c : Code) (Q : Exit → Act → World → Prop) (a : Act) (w : World) : Prop := ∀ (b : Frame) (k : List Item) (cs : List Frame),
  ∃ e a' w', Q e a' w' ∧ Arrives P (lone (b.at a (.code c :: .inLoop c :: k)) cs w) b k cs e a' w'

theorem LoopWp.wp {P : Program} {c : Code} {Q : Exit → Act → World → Prop} {a : Act} {w : World} (h : LoopWp P c Q a w) : (Code.loop c).wp P Q a w := fun b k cs =>
  let ⟨e, a', w', q, r⟩ := h b k cs; ⟨e, a', w', q, .of_steps (.one step_loop) r⟩

theorem LoopWp.of {P : Program} {c : Code} {Q : Exit → Act → World → Prop} {a : Act} {w : World} (h : c.wp P (Exit.then (LoopWp P c Q) Q) a w) : LoopWp P c Q a w := by
  intro b k cs
  obtain ⟨e, a₁, w₁, hq, harr⟩ := h b (.inLoop c :: k) cs
  cases e with
  | normal =>
    obtain ⟨e₂, a₂, w₂, hq₂, harr₂⟩ := hq b k cs
    exact ⟨e₂, a₂, w₂, hq₂, .of_steps (Steps.trans harr (.one step_inLoop)) harr₂⟩
  | exit id => exact ⟨_, a₁, w₁, hq, .pass (x := .inLoop c) rfl (fun _ _ => .inl (by simp)) harr⟩
  | goto l => exact ⟨_, a₁, w₁, hq, .pass (x := .inLoop c) rfl (fun _ _ => .inl (by simp)) harr⟩
  | ret => exact ⟨_, a₁, w₁, hq, .pass (x := .inLoop c) rfl (fun _ _ => .inl (by simp)) harr⟩
  | panic ch => exact ⟨_, a₁, w₁, hq, .pass (x := .inLoop c) rfl (fun _ _ => .inl (by simp)) harr⟩
  | outgrown => exact ⟨_, a₁, w₁, hq, .pass (x := .inLoop c) rfl (fun _ _ => .inl (by simp)) harr⟩

def toExit : Ex → Exit
  | .normal => .normal
  | .exit id => .exit id
  | .ret => .ret

/-- What a machine's state comes to. -/
def Post (B : Nat) (w0 : World) (n : Nat) (ρ : Rho) (h : H) (e : Ex) (a' : A) (h' : H) (Q : Exit → Act → World → Prop) : Prop := ∀ ρ' A' w', Step ρ ρ' h h' → ARel ρ' n a' A' → HRel B w0 ρ' h' w' → Q (toExit e) A' w'

abbrev Exec := DC → A → H → Option (Ex × A × H)

structure ExecOk (P : Program) (G : Nat) (exec : Exec) : Prop where
  code : ∀ {n : Nat} {c : Code} {a : A} {h : H} {e : Ex} {a' : A} {h' : H}, exec (compC ⟨P, G, n⟩ c) a h = some (e, a', h') → ∀ {B : Nat} {w0 : World} {ρ : Rho} {w : World} {x : Act} {Q : Exit → Act → World → Prop}, ARel ρ n a x → GRel ρ G → HRel B w0 ρ h w →
    Post B w0 n ρ h e a' h' Q → c.wp P Q x w
  loop : ∀ {n : Nat} {c : Code} {a : A} {h : H} {e : Ex} {a' : A} {h' : H}, exec (.loop (compC ⟨P, G, n⟩ c)) a h = some (e, a', h') → ∀ {B : Nat} {w0 : World} {ρ : Rho} {w : World} {x : Act} {Q : Exit → Act → World → Prop}, ARel ρ n a x → GRel ρ G → HRel B w0 ρ h w →
    Post B w0 n ρ h e a' h' Q → LoopWp P c Q x w

/-- What is to be shown of a region whose order is open. -/
def DrawOk (P : Program) (G : Nat) (call : Orc) : Prop := ∀ {n id : Nat} {ops : Array Oper} {l : List DO} {m : List (Lb × TypeId × List V)} {dl : List (DO × Nat × Nat)}, compDOs ⟨P, G, n⟩ ops ops.toList = some l → compDraw ⟨P, G, n⟩ ops l = .draw m dl →
  ∀ {a a' : A} {x : Act} {ρ : Rho} {h h' : H} {w : World} {B : Nat} {w0 : World}, ARel ρ n a x → GRel ρ G → HRel B w0 ρ h w →
  runDraw (envOf P) call dl { tmps := (makeAll m a.tmps h).1, defers := a.defers } (makeAll m a.tmps h).2 0 [] [] = some (a', h') → ∀ {Q : Exit → Act → World → Prop}, Post B w0 n ρ h .normal a' h' Q → (Code.region id ops true).wp P Q x w

section
variable {P : Program} {G : Nat} {exec : Exec} {call : Orc}

theorem Post.trans {B : Nat} {w0 : World} {n : Nat} {ρ ρ1 : Rho} {h h1 h' : H} {e : Ex} {a' : A} {Q : Exit → Act → World → Prop} (p : Post B w0 n ρ h e a' h' Q) (s : Step ρ ρ1 h h1) : Post B w0 n ρ1 h1 e a' h' Q :=
  fun ρ' A' w' s' => p ρ' A' w' (s.trans s')

/-- The operand of a condition. -/
theorem cond_ok {C : CE} {c : Operand} {x : X} (hx : compX C c = some x) {ρ : Rho} {a : A} {A' : Act} (hA : ARel ρ C.n a A') (hG : GRel ρ C.G) {b : Bool} (e : x.ev a.tmps = .bool b) : A'.eval c = .bool b := by
  have r := compX_ok hA.tmps hG hx
  rw [e] at r
  generalize A'.eval c = y at r
  cases r; rfl

theorem loop_step (hE : ExecOk P G exec) {n : Nat} {c : Code} {a : A} {h : H} {e : Ex} {a' : A} {h' : H}
    (hr : (ob (exec (compC ⟨P, G, n⟩ c) a h) fun r => match r.1 with
    | .normal => exec (.loop (compC ⟨P, G, n⟩ c)) r.2.1 r.2.2
    | e => some (e, r.2.1, r.2.2)) = some (e, a', h')) {B : Nat} {w0 : World} {ρ : Rho} {w : World} {x : Act} {Q : Exit → Act → World → Prop} (hA : ARel ρ n a x) (hG : GRel ρ G) (R : HRel B w0 ρ h w) (hQ : Post B w0 n ρ h e a' h' Q) : LoopWp P c Q x w := by
  rw [ob_some] at hr
  obtain ⟨⟨e1, a1, h1⟩, h2, h3⟩ := hr
  refine LoopWp.of (hE.code h2 hA hG R fun ρ1 A1 w1 s1 hA1 R1 => ?_)
  cases e1 with
  | normal => exact hE.loop h3 hA1 (hG.mono (s1.ext R)) R1 (hQ.trans s1)
  | exit id => simp only [Option.some.injEq, Prod.mk.injEq] at h3; obtain ⟨rfl, rfl, rfl⟩ := h3; exact hQ ρ1 A1 w1 s1 hA1 R1
  | ret => simp only [Option.some.injEq, Prod.mk.injEq] at h3; obtain ⟨rfl, rfl, rfl⟩ := h3; exact hQ ρ1 A1 w1 s1 hA1 R1

theorem execStep_ok (hE : ExecOk P G exec) (hcall : OrcOk P G call) (hdraw : DrawOk P G call) : ExecOk P G (execStep (envOf P) call exec) := by
  refine ⟨fun {n c a h e a' h'} hr {B w0 ρ w x Q} hA hG R hQ => ?_, fun {n c a h e a' h'} hr {B w0 ρ w x Q} hA hG R hQ => loop_step hE hr hA hG R hQ⟩
  cases c with
  | skip =>
    simp only [compC, execStep, Option.some.injEq, Prod.mk.injEq] at hr
    obtain ⟨rfl, rfl, rfl⟩ := hr
    exact wp_skip (hQ ρ x w (Step.refl _ _) hA R)
  | label l =>
    simp only [compC, execStep, Option.some.injEq, Prod.mk.injEq] at hr
    obtain ⟨rfl, rfl, rfl⟩ := hr
    exact wp_label (hQ ρ x w (Step.refl _ _) hA R)
  | region id ops draw =>
    simp only [compC] at hr
    split at hr
    · rename_i l hl
      cases draw with
      | false =>
        simp only [execStep, ob_some, Option.some.injEq, Prod.mk.injEq] at hr
        obtain ⟨⟨a1, h1⟩, h2, rfl, rfl, rfl⟩ := hr
        exact wp_region_list (runOps_ok hcall hl hA hG R h2 hQ)
      | true =>
        simp only at hr
        cases hd : compDraw ⟨P, G, n⟩ ops l with
        | draw m dl =>
          rw [hd] at hr
          simp only [execStep, ob_some, Option.some.injEq, Prod.mk.injEq] at hr
          obtain ⟨⟨a1, h1⟩, h2, rfl, rfl, rfl⟩ := hr
          exact hdraw hl hd hA hG R h2 hQ
        | stuck => rw [hd] at hr; simp [execStep] at hr
        | _ => unfold compDraw at hd; simp only at hd; split at hd <;> cases hd
    · simp [execStep] at hr
  | seq c1 c2 =>
    simp only [compC, execStep, ob_some] at hr
    obtain ⟨⟨e1, a1, h1⟩, h2, h3⟩ := hr
    refine wp_seq (hE.code h2 hA hG R fun ρ1 A1 w1 s1 hA1 R1 => ?_)
    cases e1 with
    | normal => exact hE.code h3 hA1 (hG.mono (s1.ext R)) R1 (hQ.trans s1)
    | exit id => simp only [Option.some.injEq, Prod.mk.injEq] at h3; obtain ⟨rfl, rfl, rfl⟩ := h3; exact hQ ρ1 A1 w1 s1 hA1 R1
    | ret => simp only [Option.some.injEq, Prod.mk.injEq] at h3; obtain ⟨rfl, rfl, rfl⟩ := h3; exact hQ ρ1 A1 w1 s1 hA1 R1
  | cond c c1 c2 =>
    simp only [compC] at hr
    split at hr
    · rename_i y hy
      simp only [execStep] at hr
      split at hr
      · rename_i hb
        exact wp_cond_true (cond_ok (C := ⟨P, G, n⟩) hy hA hG hb) (hE.code hr hA hG R hQ)
      · rename_i hb
        exact wp_cond_false (cond_ok (C := ⟨P, G, n⟩) hy hA hG hb) (hE.code hr hA hG R hQ)
      · cases hr
    · simp [execStep] at hr
  | block id c =>
    simp only [compC, execStep, ob_some] at hr
    obtain ⟨⟨e1, a1, h1⟩, h2, h3⟩ := hr
    refine wp_block (hE.code h2 hA hG R fun ρ1 A1 w1 s1 hA1 R1 => ?_)
    cases e1 with
    | normal => simp only [Option.some.injEq, Prod.mk.injEq] at h3; obtain ⟨rfl, rfl, rfl⟩ := h3; exact hQ ρ1 A1 w1 s1 hA1 R1
    | exit i =>
      simp only [Option.some.injEq, Prod.mk.injEq] at h3
      obtain ⟨he, rfl, rfl⟩ := h3
      show if i = id then Q .normal A1 w1 else Q (.exit i) A1 w1
      cases hb : Nat.beq i id with
      | true =>
        simp only [hb] at he
        subst he
        rw [if_pos (Nat.eq_of_beq_eq_true hb)]
        exact hQ ρ1 A1 w1 s1 hA1 R1
      | false =>
        simp only [hb] at he
        subst he
        rw [if_neg (fun e => by rw [e, Nat.beq_refl] at hb; cases hb)]
        exact hQ ρ1 A1 w1 s1 hA1 R1
    | ret => simp only [Option.some.injEq, Prod.mk.injEq] at h3; obtain ⟨rfl, rfl, rfl⟩ := h3; exact hQ ρ1 A1 w1 s1 hA1 R1
  | loop c =>
    simp only [compC, execStep] at hr
    exact (loop_step hE hr hA hG R hQ).wp
  | exit id =>
    simp only [compC, execStep, Option.some.injEq, Prod.mk.injEq] at hr
    obtain ⟨rfl, rfl, rfl⟩ := hr
    exact wp_exit (hQ ρ x w (Step.refl _ _) hA R)
  | ret =>
    simp only [compC, execStep, Option.some.injEq, Prod.mk.injEq] at hr
    obtain ⟨rfl, rfl, rfl⟩ := hr
    exact wp_ret (hQ ρ x w (Step.refl _ _) hA R)
  | _ => simp [compC, execStep] at hr

/-! ### calls -/

theorem inc_pathGo : ∀ (f n : Nat), n + 1 < 2 ^ f → pathGo f (n + 1) = inc (pathGo f n)
  | 0, n, h => by simp at h
  | f + 1, n, h => by
    have z : ∀ g, pathGo g 0 = [] := fun g => by cases g <;> rfl
    by_cases h0 : n = 0
    · subst h0
      show (if (0 + 1 == 0) = true then [] else ((0 + 1) % 2 == 1) :: pathGo f ((0 + 1) / 2)) = inc []
      simp [z, inc]
    · have e1 : (n == 0) = false := by simpa using h0
      have e2 : (n + 1 == 0) = false := by simp
      have hn : pathGo (f + 1) n = (n % 2 == 1) :: pathGo f (n / 2) := by simp [pathGo, e1]
      have hn' : pathGo (f + 1) (n + 1) = ((n + 1) % 2 == 1) :: pathGo f ((n + 1) / 2) := by simp [pathGo]
      rw [hn, hn']
      rw [Nat.pow_succ] at h
      rcases Nat.mod_two_eq_zero_or_one n with h2 | h2
      · have a1 : (n + 1) % 2 = 1 := by omega
        have a2 : (n + 1) / 2 = n / 2 := by omega
        simp [h2, a1, a2, inc]
      · have a1 : (n + 1) % 2 = 0 := by omega
        have a2 : (n + 1) / 2 = n / 2 + 1 := by omega
        have ih := inc_pathGo f (n / 2) (by omega)
        simp [h2, a1, a2, inc, ih]

theorem inc_pathOf {n : Nat} (h : n + 1 < 2 ^ 64) : inc (pathOf n) = pathOf (n + 1) := (inc_pathGo 64 n h).symm

theorem argsIn_get : ∀ (vs : List V) (k : Nat) (t : T V) (j : Nat), k + vs.length < 131072 → j < 131072 → getT (argsIn vs (pathOf k) t) (pathOf j) = if k ≤ j then (match vs[j - k]? with | some v => v | none => getT t (pathOf j)) else getT t (pathOf j)
  | [], k, t, j, hk, hj => by simp [argsIn]
  | v :: vs, k, t, j, hk, hj => by
    simp only [List.length_cons] at hk
    rw [argsIn, inc_pathOf (by omega), argsIn_get vs (k + 1) _ j (by omega) hj]
    by_cases h1 : k + 1 ≤ j
    · rw [if_pos h1, if_pos (by omega)]
      have e : j - k = (j - (k + 1)) + 1 := by omega
      rw [e, List.getElem?_cons_succ]
      rw [getT_set_ne _ _ (fun e' => by have := pathOf_inj (by omega) (by omega) e'; omega)]
    · rw [if_neg h1]
      by_cases h2 : k = j
      · subst h2
        rw [getT_set_self, if_pos (Nat.le_refl _)]; simp
      · rw [getT_set_ne _ _ (fun e' => h2 (pathOf_inj (by omega) (by omega) e')), if_neg (by omega)]

theorem args_rel {ρ : Rho} {args : List V} {xs : List Value} (r : RVs ρ args xs) {n : Nat} (hn : n ≤ 65536) (hl : args.length ≤ n) : TRel ρ n (argsIn args [] .leaf) (xs.toArray ++ Array.replicate (n - xs.toArray.size) Go.undef) := by
  have hlen := r.length
  refine ⟨by simp; omega, hn, fun t ht => ?_⟩
  have e0 : ([] : Lb) = pathOf 0 := rfl
  have := argsIn_get args 0 .leaf t (by omega) (by omega)
  rw [← e0] at this
  rw [this, if_pos (Nat.zero_le _), Nat.sub_zero]
  have hleaf : getT (T.leaf : T V) (pathOf t) = undef := by unfold getT; rw [T.get_leaf]
  cases h : args[t]? with
  | some v =>
    obtain ⟨y, hy, ry⟩ := r.get h
    have hlt := (List.getElem?_eq_some_iff.1 hy).1
    have e : (xs.toArray ++ Array.replicate (n - xs.toArray.size) Go.undef).getD t Go.undef = y := by
      rw [Array.getD_eq_getD_getElem?, Array.getElem?_append_left (by simpa using hlt)]
      simp [hy]
    rw [e]; exact ry
  | none =>
    have hge : args.length ≤ t := List.getElem?_eq_none_iff.1 h
    have e : (xs.toArray ++ Array.replicate (n - xs.toArray.size) Go.undef).getD t Go.undef = Go.undef := by
      rw [Array.getD_eq_getD_getElem?, Array.getElem?_append_right (by simp; omega)]
      simp [Array.getElem?_replicate]
      split <;> rfl
    rw [e]
    simp only [hleaf]
    exact .tuple .nil

def resSem (tmps : Array Value) : ResultVar → Sem Value
  | .tmp t => pure (tmps.getD t Go.undef)
  | .cell a t => do loadVar t (← asAddr (tmps.getD a Go.undef))

theorem result_ok {C : CE} {r : ResultVar} {d : Res} (hd : compRes C r = some d) {ρ : Rho} {tm : T V} {tmps : Array Value} (hT : TRel ρ C.n tm tmps) {B : Nat} {w0 : World} {h : H} {w : World} (R : HRel B w0 ρ h w) {v : V} (hv : resultD h tm d = some v) :
    ∃ x, RV ρ v x ∧ (resSem tmps r).run C.P w = .ok x w := by
  cases r with
  | tmp t =>
    simp only [compRes, chk_some, Option.some.injEq] at hd
    obtain ⟨h1, rfl⟩ := hd
    simp only [resultD, Option.some.injEq] at hv
    subst hv
    exact ⟨_, hT.get t (by simpa using h1), rfl⟩
  | cell a t =>
    simp only [compRes, chk_some, ob_some, Option.some.injEq] at hd
    obtain ⟨h1, rd, hrd, rfl⟩ := hd
    simp only [resultD] at hv
    split at hv
    · rename_i l off e
      have ra := hT.get a (by simpa using h1)
      rw [e] at ra
      obtain ⟨b, hb, hy⟩ := ptr_inv ra
      simp only [Q.ask] at hv
      split at hv
      · rename_i vs el fz own hg
        obtain ⟨z, z1, z2⟩ := load_ok hrd (R.obj l b _ hb hg) hv
        refine ⟨z, z1, ?_⟩
        unfold resSem
        simp only [hy, asAddr]
        simpa using z2
      · cases hv
    · cases hv

theorem results_ok {C : CE} {ρ : Rho} {tm : T V} {tmps : Array Value} (hT : TRel ρ C.n tm tmps) {B : Nat} {w0 : World} {h : H} {w : World} (R : HRel B w0 ρ h w) : ∀ {rs : List ResultVar} {ds : List Res}, compRess C rs = some ds → ∀ {vs : List V}, resultsD h tm ds = some vs →
    ∃ xs : List Value, RVs ρ vs xs ∧ (rs.mapM (resSem tmps)).run C.P w = .ok xs w
  | [], ds, hd, vs, hv => by
    simp only [compRess, Option.some.injEq] at hd
    subst hd
    simp only [resultsD, Option.some.injEq] at hv
    subst hv
    exact ⟨[], .nil, rfl⟩
  | r :: rs, ds, hd, vs, hv => by
    simp only [compRess, ob_some, Option.some.injEq] at hd
    obtain ⟨d, h1, ds', h2, rfl⟩ := hd
    simp only [resultsD, ob_some, Option.some.injEq] at hv
    obtain ⟨v, h3, vs', h4, rfl⟩ := hv
    obtain ⟨x, x1, x2⟩ := result_ok h1 hT R h3
    obtain ⟨xs, y1, y2⟩ := results_ok hT R h2 h4
    refine ⟨x :: xs, .cons x1 y1, ?_⟩
    rw [List.mapM_cons]
    simp only [Sem.run_bind, x2, Result.andThen_ok, y2, Sem.run_pure]

theorem pack_ok {ρ : Rho} {vs : List V} {xs : List Value} (r : RVs ρ vs xs) : RV ρ (packD vs) (if h : (⟨xs⟩ : Array Value).size = 1 then (⟨xs⟩ : Array Value)[0] else .tuple ⟨xs⟩) := by
  cases r with
  | nil => exact .tuple .nil
  | cons h hs =>
    cases hs with
    | nil => exact h
    | cons h2 hs2 => exact .tuple (.cons h (.cons h2 hs2))

theorem fn_results {C : CE} {fn : Func} {ds : List Res} (hd : compRess C fn.results.toList = some ds) {ρ : Rho} {tm : T V} {tmps : Array Value} (hT : TRel ρ C.n tm tmps) {B : Nat} {w0 : World} {h : H} {w : World} (R : HRel B w0 ρ h w) {vs : List V} (hv : resultsD h tm ds = some vs) :
    ∃ x, RV ρ (packD vs) x ∧ (results fn tmps).run C.P w = .ok x w := by
  obtain ⟨xs, x1, x2⟩ := results_ok hT R hd hv
  refine ⟨_, pack_ok x1, ?_⟩
  have e : results fn tmps = (do let vs ← fn.results.mapM (resSem tmps); pure (if h : vs.size = 1 then vs[0] else .tuple vs)) := rfl
  rw [e, Sem.run_bind, mapM_array _ _ _ x2]
  rfl

end
end Go.Dx
