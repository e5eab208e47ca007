/-
  The deterministic machine over labels: an operation hangs on its operands' temporaries alone.
-/
import Derived.Test.YtkbjonoiecljiaaGreatDoorDxCalls
namespace Go.Dx
open Go Go.RowKit

/-- It does the same with both temporaries. -/
def SameD (E : Env) (tm tm' : T V) : D → Prop
  | .mov x => x.ev tm = x.ev tm'
  | .p q => q.eval E tm = q.eval E tm'
  | .r q => q.req tm = q.req tm'
  | .e q => ∀ h, q.run tm h = q.run tm' h
  | .c q => q.args E tm = q.args E tm'
  | .defer q => q.args E tm = q.args E tm'
  | .stuck => True

section
variable {C : CE} {tm tm' : T V} {E : Env}

/-- An operand's value is the same. -/
def SameX (C : CE) (tm tm' : T V) (y : Operand) : Prop := ∀ x, compX C y = some x → x.ev tm = x.ev tm'

theorem sameX_of {y : Operand} (h : ∀ t, y = .tmp t → t < C.n → getT tm (pathOf t) = getT tm' (pathOf t)) : SameX C tm tm' y := by
  intro x hx
  cases y with
  | tmp t =>
    simp only [compX, chk_some, Option.some.injEq] at hx
    obtain ⟨h1, rfl⟩ := hx
    exact h t rfl (by simpa using h1)
  | const v => simp only [compX, ob_some, Option.some.injEq] at hx; obtain ⟨d, _, rfl⟩ := hx; rfl
  | global g => simp only [compX, chk_some, Option.some.injEq] at hx; obtain ⟨_, rfl⟩ := hx; rfl
  | func f => simp only [compX, Option.some.injEq] at hx; subst hx; rfl

theorem same_evs : ∀ {ys : List Operand} {xs : List X}, compXs C ys = some xs → (∀ y ∈ ys, SameX C tm tm' y) → evs tm xs = evs tm' xs
  | [], xs, h, _ => by simp only [compXs, Option.some.injEq] at h; subst h; rfl
  | y :: ys, xs, h, H => by
    simp only [compXs, ob_some, Option.some.injEq] at h
    obtain ⟨x, hx, r, hr, rfl⟩ := h
    simp only [evs, H y (List.mem_cons_self ..) x hx, same_evs hr fun z hz => H z (List.mem_cons_of_mem _ hz)]

theorem same_x1 {ys : List Operand} {x : X} (h : compXs C ys = some [x]) (H : ∀ y ∈ ys, SameX C tm tm' y) : x.ev tm = x.ev tm' := by
  have := same_evs h H
  simp only [evs, List.cons.injEq, and_true] at this
  exact this

theorem same_x2 {ys : List Operand} {x u : X} (h : compXs C ys = some [x, u]) (H : ∀ y ∈ ys, SameX C tm tm' y) : x.ev tm = x.ev tm' ∧ u.ev tm = u.ev tm' := by
  have := same_evs h H
  simp only [evs, List.cons.injEq, and_true] at this
  exact this

theorem same_evo {y : Option Operand} {x : Option X} (h : compXo C y = some x) (H : ∀ z, y = some z → SameX C tm tm' z) : evo tm x = evo tm' x := by
  cases y with
  | none => simp only [compXo, Option.some.injEq] at h; subst h; rfl
  | some y =>
    simp only [compXo, ob_some, Option.some.injEq] at h
    obtain ⟨d, hd, rfl⟩ := h
    simp only [evo, H y rfl d hd]

theorem same_fill {place : Nat → Option (Nat × Nat)} : ∀ {ps : List (Nat × Operand)} {l : List (Nat × Nat × X)}, compParts C place ps = some l → (∀ p ∈ ps, SameX C tm tm' p.2) → ∀ cells, fillIn tm l cells = fillIn tm' l cells
  | [], l, h, _, cells => by simp only [compParts, Option.some.injEq] at h; subst h; rfl
  | (i, y) :: ps, l, h, H, cells => by
    simp only [compParts, ob_some, Option.some.injEq] at h
    obtain ⟨p, hp, d, hd, ds, hds, rfl⟩ := h
    have e := H (i, y) (List.mem_cons_self ..) d hd
    simp only [fillIn, e]
    congr 1
    cases putFrom cells p.1 (d.ev tm').cells with
    | none => rfl
    | some c => exact same_fill hds (fun q hq => H q (List.mem_cons_of_mem _ hq)) c

theorem same_fillParts {size : Nat} : ∀ {ps : List (Nat × Operand)} {l : List (Nat × X)}, compPairs C ps = some l → (∀ p ∈ ps, SameX C tm tm' p.2) → ∀ cells, fillParts tm size l cells = fillParts tm' size l cells
  | [], l, h, _, cells => by simp only [compPairs, Option.some.injEq] at h; subst h; rfl
  | (i, y) :: ps, l, h, H, cells => by
    simp only [compPairs, ob_some, Option.some.injEq] at h
    obtain ⟨d, hd, ds, hds, rfl⟩ := h
    have e := H (i, y) (List.mem_cons_self ..) d hd
    simp only [fillParts, e]
    congr 1
    cases putFrom cells (i * size) (d.ev tm').cells with
    | none => rfl
    | some c => exact same_fillParts hds (fun q hq => H q (List.mem_cons_of_mem _ hq)) c

theorem same_convert {s t : TypeId} {y : Operand} {x : X} {d : D} (e : x.ev tm = x.ev tm') (h : compConvert C s t x = some d) : SameD E tm tm' d := by
  unfold compConvert at h
  split at h
  · cases h; simp only [SameD, PD.eval, e]
  · cases h; simp only [SameD, PD.eval, e]
  · cases h; simp only [SameD, PD.eval, e]
  · split at h
    · cases h; intro h; simp only [ED.run, e]
    · cases h
  · split at h
    · cases h; simp only [SameD, RD.req, e]
    · cases h
  · split at h
    · cases h; simp only [SameD, RD.req, e]
    · cases h
  · split at h
    · cases h; simp only [SameD, RD.req, e]
    · cases h
  · cases h

theorem same_builtin {b : Builtin} {ys : List Operand} {tl : List TypeId} {xs : List X} {d : D} (hx : compXs C ys = some xs) (H : ∀ y ∈ ys, SameX C tm tm' y) (h : compBuiltin C b tl xs = some d) : SameD E tm tm' d := by
  unfold compBuiltin at h
  split at h
  · have e := same_x1 hx H
    split at h
    · cases h; simp only [SameD, PD.eval, e]
    · cases h; simp only [SameD, PD.eval, e]
    · cases h; simp only [SameD, PD.eval]
    · cases h; simp only [SameD, RD.req, e]
    · cases h
  · have e := same_x1 hx H
    split at h
    · cases h; simp only [SameD, PD.eval, e]
    · cases h
  · obtain ⟨e1, e2⟩ := same_x2 hx H; cases h; simp only [SameD, PD.eval, e1, e2]
  · obtain ⟨e1, e2⟩ := same_x2 hx H; cases h; simp only [SameD, PD.eval, e1, e2]
  · have e := same_x1 hx H; cases h; simp only [SameD, PD.eval, e]
  · obtain ⟨e1, e2⟩ := same_x2 hx H
    split at h
    · split at h
      · cases h; intro h; simp only [ED.run, e1, e2]
      · cases h
    · cases h
  · obtain ⟨e1, e2⟩ := same_x2 hx H
    split at h
    · simp only [ob_some, chk_some] at h
      obtain ⟨_, _, _, _, _, _, _, h⟩ := h
      split at h
      · cases h; intro h; simp only [ED.run, e1, e2]
      · cases h; intro h; simp only [ED.run, e1, e2]
      · cases h; intro h; simp only [ED.run, e1, e2]
      · cases h
    · cases h
  · obtain ⟨e1, e2⟩ := same_x2 hx H
    split at h
    · simp only [ob_some, Option.some.injEq] at h
      obtain ⟨size, hs, rfl⟩ := h
      intro h; simp only [ED.run, e1, e2]
    · cases h
  · have e := same_x1 hx H
    split at h
    · cases h; intro h; simp only [ED.run, e]
    · cases h
  · obtain ⟨e1, e2⟩ := same_x2 hx H
    split at h
    · cases h; intro h; simp only [ED.run, e1, e2]
    · cases h
  · cases h

theorem same_call {c : Call} {q : CD} (h : compCall C c = some q) (H : ∀ y ∈ c.operands, SameX C tm tm' y) : q.args E tm = q.args E tm' := by
  simp only [compCall, ob_some] at h
  obtain ⟨as, has, h⟩ := h
  have e := same_evs has fun y hy => H y (by simp only [Call.operands, Array.mem_append]; right; simpa using hy)
  cases hc : c.callee with
  | value fx =>
    have hm : fx ∈ c.operands := by simp [Call.operands, hc]
    have key : ∀ {x : X}, compX C fx = some x → q = .value x as → q.args E tm = q.args E tm' := fun {x} hx hqe => by
      subst hqe
      simp only [CD.args, H _ hm x hx, e]
    cases fx with
    | func g => simp only [hc, Option.some.injEq] at h; subst h; simp only [CD.args, e]
    | tmp t => simp only [hc, ob_some, Option.some.injEq] at h; obtain ⟨x, hx, h⟩ := h; exact key hx h.symm
    | const v => simp only [hc, ob_some, Option.some.injEq] at h; obtain ⟨x, hx, h⟩ := h; exact key hx h.symm
    | global g => simp only [hc, ob_some, Option.some.injEq] at h; obtain ⟨x, hx, h⟩ := h; exact key hx h.symm
  | invoke r name =>
    have hm : r ∈ c.operands := by simp [Call.operands, hc]
    simp only [hc, ob_some, Option.some.injEq] at h
    obtain ⟨x, hx, rfl⟩ := h
    simp only [CD.args, H _ hm x hx, e]
  | builtin b => simp only [hc] at h; cases h

theorem same_op {o : Op} {d : D} (h : compOp? C o = some d) (H : ∀ y ∈ o.operands, SameX C tm tm' y) : SameD E tm tm' d := by
  cases o with
  | move y => simp only [compOp?, ob_some, Option.some.injEq] at h; obtain ⟨x, hx, rfl⟩ := h; exact H y (by simp [Op.operands]) x hx
  | assign y => simp only [compOp?, ob_some, Option.some.injEq] at h; obtain ⟨x, hx, rfl⟩ := h; exact H y (by simp [Op.operands]) x hx
  | pick c a b =>
    simp only [compOp?, ob_some, Option.some.injEq] at h; obtain ⟨x, hx, y, hy, z, hz, rfl⟩ := h
    simp only [SameD, PD.eval, H c (by simp [Op.operands]) x hx, H a (by simp [Op.operands]) y hy, H b (by simp [Op.operands]) z hz]
  | build t ps =>
    have H' : ∀ p ∈ ps.toList, SameX C tm tm' p.2 := fun p hp => H p.2 (by simp only [Op.operands, List.mem_toArray, List.mem_map]; exact ⟨p, hp, rfl⟩)
    simp only [compOp?, ob_some] at h
    obtain ⟨z, hz, h⟩ := h
    split at h
    · simp only [ob_some, Option.some.injEq] at h
      obtain ⟨pl, hp, l, hl, rfl⟩ := h
      simp only [SameD, PD.eval, same_fill hl H']
    · simp only [ob_some, Option.some.injEq] at h
      obtain ⟨n, hn, l, hl, rfl⟩ := h
      simp only [SameD, PD.eval, same_fill hl H']
    · cases h
  | nilCheck y => simp only [compOp?, ob_some, Option.some.injEq] at h; obtain ⟨x, hx, rfl⟩ := h; simp only [SameD, PD.eval, H y (by simp [Op.operands]) x hx]
  | binOp op t y z u => simp only [compOp?, ob_some, Option.some.injEq] at h; obtain ⟨x, hx, x2, hx2, rfl⟩ := h; simp only [SameD, PD.eval, H y (by simp [Op.operands]) x hx, H z (by simp [Op.operands]) x2 hx2]
  | unOp op t y => simp only [compOp?, ob_some, Option.some.injEq] at h; obtain ⟨x, hx, rfl⟩ := h; simp only [SameD, PD.eval, H y (by simp [Op.operands]) x hx]
  | convert s t y => simp only [compOp?, ob_some] at h; obtain ⟨x, hx, h⟩ := h; exact same_convert (y := y) (H y (by simp [Op.operands]) x hx) h
  | makeInterface t y =>
    simp only [compOp?] at h
    split at h
    · cases h
    · simp only [ob_some, Option.some.injEq] at h
      obtain ⟨x, hx, rfl⟩ := h
      simp only [SameD, PD.eval, H y (by simp [Op.operands]) x hx]
    · cases h
  | makeFunc f a b =>
    cases f with
    | func f =>
      simp only [compOp?, ob_some, Option.some.injEq] at h; obtain ⟨x, hx, x2, hx2, rfl⟩ := h
      have e1 := same_evs hx fun y hy => H y (by simp only [Op.operands, Array.mem_append]; left; simpa using hy)
      have e2 := same_evs hx2 fun y hy => H y (by simp only [Op.operands, Array.mem_append]; right; simpa using hy)
      simp only [SameD, PD.eval, e1, e2]
    | _ => simp [compOp?] at h
  | slice t y lo hi mx =>
    simp only [compOp?, ob_some] at h
    obtain ⟨x, hx, l, hl, hh, hhi, m, hm, h⟩ := h
    have e := H y (by simp [Op.operands]) x hx
    have e1 := same_evo hl fun z hz => H z (by subst hz; simp [Op.operands])
    have e2 := same_evo hhi fun z hz => H z (by subst hz; simp [Op.operands])
    have e3 := same_evo hm fun z hz => H z (by subst hz; simp [Op.operands])
    split at h
    · split at h
      · cases h; simp only [SameD, PD.eval, e, e1, e2]
      · cases h
    · simp only [ob_some, chk_some, Option.some.injEq] at h
      obtain ⟨n, hn, hd, rfl⟩ := h
      simp only [SameD, PD.eval, e, e1, e2, e3]
    · simp only [ob_some, chk_some, Option.some.injEq] at h
      obtain ⟨size, hn, hd, rfl⟩ := h
      simp only [SameD, PD.eval, e, e1, e2, e3]
    · cases h
  | fieldAddr t y f =>
    simp only [compOp?] at h
    split at h
    · simp only [ob_some, chk_some, Option.some.injEq] at h
      obtain ⟨fd, hf, n, hn, h0, x, hx, rfl⟩ := h
      simp only [SameD, PD.eval, H y (by simp [Op.operands]) x hx]
    · cases h
  | field t y f =>
    simp only [compOp?] at h
    split at h
    · simp only [ob_some, Option.some.injEq] at h
      obtain ⟨fd, hf, rd, hrd, x, hx, rfl⟩ := h
      simp only [SameD, PD.eval, H y (by simp [Op.operands]) x hx]
    · cases h
  | indexAddr t y i =>
    simp only [compOp?, ob_some] at h
    obtain ⟨x, hx, j, hj, h⟩ := h
    have e1 := H y (by simp [Op.operands]) x hx
    have e2 := H i (by simp [Op.operands]) j hj
    split at h
    · simp only [ob_some, Option.some.injEq] at h
      obtain ⟨n, hn, rfl⟩ := h
      simp only [SameD, PD.eval, e1, e2]
    · simp only [ob_some, Option.some.injEq] at h
      obtain ⟨size, hn, rfl⟩ := h
      simp only [SameD, PD.eval, e1, e2]
    · cases h
  | index t y i =>
    simp only [compOp?, ob_some] at h
    obtain ⟨x, hx, j, hj, h⟩ := h
    have e1 := H y (by simp [Op.operands]) x hx
    have e2 := H i (by simp [Op.operands]) j hj
    split at h
    · cases h; simp only [SameD, PD.eval, e1, e2]
    · simp only [ob_some, Option.some.injEq] at h
      obtain ⟨size, hn, rd, hrd, rfl⟩ := h
      simp only [SameD, PD.eval, e1, e2]
    · cases h
  | typeAssert y xt t ok =>
    simp only [compOp?, ob_some] at h
    obtain ⟨x, hx, z, hz, h⟩ := h
    have e := H y (by simp [Op.operands]) x hx
    split at h
    · cases h; simp only [SameD, PD.eval, e]
    · cases h; simp only [SameD, PD.eval, e]
    · cases h
  | extract y i => simp only [compOp?, ob_some, Option.some.injEq] at h; obtain ⟨x, hx, rfl⟩ := h; simp only [SameD, PD.eval, H y (by simp [Op.operands]) x hx]
  | load t y => simp only [compOp?, ob_some, Option.some.injEq] at h; obtain ⟨rd, hrd, x, hx, rfl⟩ := h; simp only [SameD, RD.req, H y (by simp [Op.operands]) x hx]
  | lookup t m k ok =>
    simp only [compOp?, ob_some] at h
    obtain ⟨x, hx, j, hj, h⟩ := h
    split at h
    · simp only [ob_some, Option.some.injEq] at h
      obtain ⟨z, hz, rfl⟩ := h
      simp only [SameD, RD.req, H m (by simp [Op.operands]) x hx, H k (by simp [Op.operands]) j hj]
    · cases h
  | alloc t => simp only [compOp?, ob_some, Option.some.injEq] at h; obtain ⟨z, hz, rfl⟩ := h; intro h; rfl
  | box t y => simp only [compOp?, ob_some, Option.some.injEq] at h; obtain ⟨x, hx, rfl⟩ := h; intro h; simp only [ED.run, H y (by simp [Op.operands]) x hx]
  | buildSlice t n ps =>
    have H' : ∀ p ∈ ps.toList, SameX C tm tm' p.2 := fun p hp => H p.2 (by simp only [Op.operands, List.mem_toArray, List.mem_map]; exact ⟨p, hp, rfl⟩)
    simp only [compOp?] at h
    split at h
    · simp only [ob_some, chk_some, Option.some.injEq] at h
      obtain ⟨size, hs, z, hz, _, l, hl, rfl⟩ := h
      intro h; simp only [ED.run, same_fillParts hl H']
    · cases h
  | store t a y => simp only [compOp?, ob_some, Option.some.injEq] at h; obtain ⟨n, hn, x, hx, x2, hx2, rfl⟩ := h; intro h; simp only [ED.run, H a (by simp [Op.operands]) x hx, H y (by simp [Op.operands]) x2 hx2]
  | makeMap t r =>
    cases r with
    | none => simp only [compOp?, Option.some.injEq] at h; subst h; intro h; rfl
    | some r => simp [compOp?] at h
  | makeSlice t n c =>
    simp only [compOp?] at h
    split at h
    · simp only [ob_some, Option.some.injEq] at h
      obtain ⟨size, hs, bytes, hb, z, hz, x, hx, x2, hx2, rfl⟩ := h
      intro h; simp only [ED.run, H n (by simp [Op.operands]) x hx, H c (by simp [Op.operands]) x2 hx2]
    · cases h
  | mapUpdate t m k x =>
    simp only [compOp?] at h
    split at h
    · simp only [ob_some, Option.some.injEq] at h
      obtain ⟨m', hm, k', hk, x', hx, rfl⟩ := h
      intro h; simp only [ED.run, H m (by simp [Op.operands]) m' hm, H k (by simp [Op.operands]) k' hk, H x (by simp [Op.operands]) x' hx]
    · cases h
  | insert t m k x =>
    simp only [compOp?] at h
    split at h
    · simp only [ob_some, Option.some.injEq] at h
      obtain ⟨m', hm, k', hk, x', hx, rfl⟩ := h
      intro h; simp only [ED.run, H m (by simp [Op.operands]) m' hm, H k (by simp [Op.operands]) k' hk, H x (by simp [Op.operands]) x' hx]
    · cases h
  | mapEntry t m k =>
    simp only [compOp?] at h
    split at h
    · simp only [ob_some, Option.some.injEq] at h
      obtain ⟨z, hz, m', hm, k', hk, rfl⟩ := h
      intro h; simp only [ED.run, H m (by simp [Op.operands]) m' hm, H k (by simp [Op.operands]) k' hk]
    · cases h
  | entryStore t m s x =>
    simp only [compOp?, ob_some, Option.some.injEq] at h; obtain ⟨m', hm, s', hs, x', hx, rfl⟩ := h
    intro h; simp only [ED.run, H m (by simp [Op.operands]) m' hm, H s (by simp [Op.operands]) s' hs, H x (by simp [Op.operands]) x' hx]
  | range t y =>
    simp only [compOp?, ob_some] at h
    obtain ⟨x, hx, h⟩ := h
    have e := H y (by simp [Op.operands]) x hx
    split at h
    · cases h; intro h; simp only [ED.run, e]
    · cases h; intro h; simp only [ED.run, e]
    · cases h
  | next y s =>
    cases s with
    | false => simp only [compOp?, ob_some, Option.some.injEq] at h; obtain ⟨x, hx, rfl⟩ := h; intro h; simp only [ED.run, H y (by simp [Op.operands]) x hx]
    | true => simp [compOp?] at h
  | call c =>
    simp only [compOp?] at h
    split at h
    · rename_i b hc
      simp only [ob_some] at h
      obtain ⟨xs, hxs, h⟩ := h
      exact same_builtin hxs (fun y hy => H y (by simp only [Op.operands, Call.operands, Array.mem_append]; right; simpa using hy)) h
    · simp only [ob_some, Option.some.injEq] at h
      obtain ⟨q, hq, rfl⟩ := h
      exact same_call hq H
  | defer c =>
    simp only [compOp?] at h
    split at h
    · simp only [ob_some, Option.some.injEq] at h
      obtain ⟨q, hq, rfl⟩ := h
      exact same_call hq H
    · cases h
  | _ => simp [compOp?] at h

end
end Go.Dx
