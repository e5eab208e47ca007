/-
  The deterministic machine over labels: how code runs on it.
-/
import Derived.Test.YtkbjonoiecljiaaGreatDoorDxDefs
namespace Go.Dx
open Go

/-- A region's code. 'draw': its operations may run in more than one order; 'made': the variables that it makes, each with a place where its address is kept till then; its operations, each with: how many effects come before it in every order, and how many may come before it in some order. -/
inductive DC where
  | skip
  | ops (l : List DO)
  | draw (made : List (Lb × TypeId × List V)) (l : List (DO × Nat × Nat))
  | seq (a b : DC)
  | cond (c : X) (a b : DC)
  | block (id : Nat) (c : DC)
  | loop (c : DC)
  | exit (id : Nat)
  | ret
  | stuck

inductive Res where
  | tmp (p : Lb)
  | cell (p : Lb) (rd : Rd)

structure DFn where
  ntmps : Nat
  code : DC
  results : List Res

inductive Ex where
  | normal
  | exit (id : Nat)
  | ret

abbrev Orc := FuncId → List V → H → Option (V × H)

def wants (tm : T V) : Option (Lb × Bool) → Bool
  | none => true
  | some (p, want) => match getT tm p with
    | .bool b => match want with
      | true => b
      | false => !b
    | _ => false

def stepD (E : Env) (call : Orc) (d : DO) (a : A) (h : H) : Option (A × H) :=
  match d.op with
  | .mov x => some (a.put d.dst (x.ev a.tmps), h)
  | .p q => ob (q.eval E a.tmps) fun v => some (a.put d.dst v, h)
  | .r q => ob (q.req a.tmps) fun q => ob (q.ask h) fun v => some (a.put d.dst v, h)
  | .e q => ob (q.run a.tmps h) fun r => some (a.put d.dst r.1, r.2)
  | .c q => ob (q.args E a.tmps) fun f => ob (call f.1 f.2 h) fun r => some (a.put d.dst r.1, r.2)
  | .defer q => ob (q.args E a.tmps) fun f => some ({ tmps := a.tmps, defers := f :: a.defers : A }.put d.dst undef, h)
  | .stuck => none

def runOps (E : Env) (call : Orc) : List DO → A → H → Option (A × H)
  | [], a, h => some (a, h)
  | d :: r, a, h => match wants a.tmps d.guard with
    | true => ob (stepD E call d a h) fun s => runOps E call r s.1 s.2
    | false => runOps E call r (a.put d.dst undef) h

/-! ### regions whose order is open -/

/-- A read that was done: its question, its answer, and up to how many effects it may come behind. -/
abbrev Pend := Q × V × Nat

/-- Do the reads stand that may come behind this effect, too? 'n': how many effects have been. -/
def stillStand (h : H) (n : Nat) : List Pend → Bool
  | [] => true
  | (q, v, hi) :: r => (match Nat.ble n hi with
    | true => match q.ask h with
      | some u => vEq u v
      | none => false
    | false => true) && stillStand h n r

/-- Did the read stand in the heaps ahead of the last effects, too? 'hs': the heaps ahead of this one, the youngest first; 'k': how many of them. -/
def stoodBefore (q : Q) (v : V) : Nat → List H → Bool
  | 0, _ => true
  | k + 1, h :: hs => (match q.ask h with
    | some u => vEq u v
    | none => false) && stoodBefore q v k hs
  | _ + 1, [] => false

def isEff : DO → Bool
  | ⟨_, .e _, _⟩ | ⟨_, .c _, _⟩ => true
  | _ => false

/-- 'n': how many effects have been; 'hs': the heaps ahead of each of them. -/
def runDraw (E : Env) (call : Orc) : List (DO × Nat × Nat) → A → H → Nat → List H → List Pend → Option (A × H)
  | [], a, h, _, _, _ => some (a, h)
  | (d, lo, hi) :: r, a, h, n, hs, ps => match wants a.tmps d.guard with
    | false => match isEff d with
      | true => runDraw E call r (a.put d.dst undef) h (n + 1) (h :: hs) ps
      | false => runDraw E call r (a.put d.dst undef) h n hs ps
    | true => match d.op with
      | .mov x => runDraw E call r (a.put d.dst (x.ev a.tmps)) h n hs ps
      | .p q => ob (q.eval E a.tmps) fun v => runDraw E call r (a.put d.dst v) h n hs ps
      | .r q => ob (q.req a.tmps) fun q => ob (q.ask h) fun v => chk (stoodBefore q v (n - lo) hs) (runDraw E call r (a.put d.dst v) h n hs ((q, v, hi) :: ps))
      | .e q => ob (q.run a.tmps h) fun s => chk (stillStand s.2 (n + 1) ps) (runDraw E call r (a.put d.dst s.1) s.2 (n + 1) (h :: hs) ps)
      | .c q => ob (q.args E a.tmps) fun f => ob (call f.1 f.2 h) fun s => chk (stillStand s.2 (n + 1) ps) (runDraw E call r (a.put d.dst s.1) s.2 (n + 1) (h :: hs) ps)
      | .defer _ => none
      | .stuck => none

def makeAll : List (Lb × TypeId × List V) → T V → H → T V × H
  | [], tm, h => (tm, h)
  | (p, t, cs) :: r, tm, h => makeAll r (tm.set p (some (.ptr h.next 0))) (h.add (.cells cs t 0 .yes))

/-! ### code -/

def resultD (h : H) (tm : T V) : Res → Option V
  | .tmp p => some (getT tm p)
  | .cell p rd => match getT tm p with
    | .ptr l off => Q.ask h (.load rd l off)
    | _ => none

def resultsD (h : H) (tm : T V) : List Res → Option (List V)
  | [] => some []
  | r :: rs => ob (resultD h tm r) fun v => ob (resultsD h tm rs) fun vs => some (v :: vs)

def packD : List V → V
  | [v] => v
  | vs => .tuple vs

def argsIn : List V → Lb → T V → T V
  | [], _, t => t
  | v :: vs, p, t => argsIn vs (inc p) (t.set p (some v))

def fnAt (fns : T DFn) (f : FuncId) : Option DFn := chk (Nat.blt f 65536) (fns.get (pathOf f))

/-- A function's code is run. -/
def enterD (exec : DC → A → H → Option (Ex × A × H)) (fn : DFn) (args : List V) (h : H) : Option (Ex × A × H) :=
  chk (Nat.ble args.length fn.ntmps) (exec fn.code { tmps := argsIn args [] .leaf, defers := [] } h)

/-- The deferred calls; one by one. -/
def leaveD (call : FuncId → List V → H → Option H) : List (FuncId × List V) → H → Option H
  | [], h => some h
  | (f, args) :: ds, h => ob (call f args h) fun h' => leaveD call ds h'

/-- A deferred call: of a function that defers nothing. -/
def lateD (fns : T DFn) (dorc : FuncId → List V → H → Option H) (exec : DC → A → H → Option (Ex × A × H)) (f : FuncId) (args : List V) (h : H) : Option H :=
  match dorc f args h with
  | some h' => some h'
  | none => ob (fnAt fns f) fun fn => ob (enterD exec fn args h) fun r => match r.1, r.2.1.defers with
    | .exit _, _ => none
    | _, [] => ob (resultsD r.2.2 r.2.1.tmps fn.results) fun _ => some r.2.2
    | _, _ :: _ => none

/-- A call, where code is run by 'exec'. -/
def callD (fns : T DFn) (orc : Orc) (dorc : FuncId → List V → H → Option H) (exec : DC → A → H → Option (Ex × A × H)) : Orc := fun f args h =>
  match orc f args h with
  | some r => some r
  | none => ob (fnAt fns f) fun fn => ob (enterD exec fn args h) fun r => match r.1 with
    | .exit _ => none
    | _ => ob (leaveD (lateD fns dorc exec) r.2.1.defers r.2.2) fun h' => ob (resultsD h' r.2.1.tmps fn.results) fun vs => some (packD vs, h')

def execStep (E : Env) (call : Orc) (exec : DC → A → H → Option (Ex × A × H)) (c : DC) (a : A) (h : H) : Option (Ex × A × H) :=
  match c with
  | .skip => some (.normal, a, h)
  | .ops l => ob (runOps E call l a h) fun r => some (.normal, r.1, r.2)
  | .draw m l => ob (runDraw E call l { tmps := (makeAll m a.tmps h).1, defers := a.defers } (makeAll m a.tmps h).2 0 [] []) fun r => some (.normal, r.1, r.2)
  | .seq x y => ob (exec x a h) fun r => match r.1 with
    | .normal => exec y r.2.1 r.2.2
    | e => some (e, r.2.1, r.2.2)
  | .cond c x y => match c.ev a.tmps with
    | .bool true => exec x a h
    | .bool false => exec y a h
    | _ => none
  | .block id b => ob (exec b a h) fun r => match r.1 with
    | .exit i => some (match Nat.beq i id with | true => .normal | false => .exit i, r.2.1, r.2.2)
    | e => some (e, r.2.1, r.2.2)
  | .loop b => ob (exec b a h) fun r => match r.1 with
    | .normal => exec (.loop b) r.2.1 r.2.2
    | e => some (e, r.2.1, r.2.2)
  | .exit id => some (.exit id, a, h)
  | .ret => some (.ret, a, h)
  | .stuck => none

/-- Two turns of one wheel: running code, and calling. -/
structure Turn where
  exec : DC → A → H → Option (Ex × A × H)
  call : Orc

def turn0 : Turn := { exec := fun _ _ _ => none, call := fun _ _ _ => none }

def turnS (E : Env) (fns : T DFn) (orc : Orc) (dorc : FuncId → List V → H → Option H) (t : Turn) : Turn :=
  { exec := fun c a h => execStep E t.call t.exec c a h, call := fun f args h => callD fns orc dorc t.exec f args h }

def turn (E : Env) (fns : T DFn) (orc : Orc) (dorc : FuncId → List V → H → Option H) : Nat → Turn
  | 0 => turn0
  | n + 1 => turnS E fns orc dorc (turn E fns orc dorc n)

end Go.Dx
