/-
  The deterministic machine over labels: functions that are taken by what they do (body-less ones, and a few of the library's).
-/
import Derived.Test.YtkbjonoiecljiaaGreatDoorDxComp
namespace Go.Dx
open Go

inductive Ext where
  | nop
  | mark
  | same
  | cas32
  | add32
  | clone
  | noZero (et : TypeId)
  | indexByte
  | compare
  /-- errors.As: where 'error's handle stands; rtype; the handles' block; 'error'; which types, into pointers of which type, of how many cells -/
  | as (at_ : Lb) (rt : TypeId) (g : Lb) (err : TypeId) (ps : List (TypeId × TypeId × Nat))
  | typeOf (rt : TypeId) (g : Lb) (ts : List TypeId)
  | comparable (g : Lb) (ts : List TypeId)
  /-- a test of a text that came in, of which the answer is known -/
  | nameIs
  /-- a copy of a slice that came in -/
  | cloneAny (size : Nat)
  /-- slices.AppendSeq(nil, a map's keys | values): by which function values; of a map that holds nothing (g0), or one entry (g1) -/
  | seq (keys : Bool) (e : TypeId) (size bytes : Nat) (g0 g1 : List FuncId)

def cmpNats (a b : List Nat) : Int := match natsLess a b with
  | true => Int.negSucc 0
  | false => match natsEq a b with
    | true => Int.ofNat 0
    | false => Int.ofNat 1

def indexNat (c : Nat) : List Nat → Nat → Int
  | [], _ => Int.negSucc 0
  | b :: r, i => match Nat.beq b c with
    | true => Int.ofNat i
    | false => indexNat c r (i + 1)

def cellAt (h : H) (l : Lb) (off : Nat) : Option V := Q.ask h (.load .one l off)

/-- One value put behind a slice. -/
def push1 (h : H) (e : TypeId) (size bytes : Nat) (s x : V) : Option (V × H) :=
  chk (Nat.beq x.cells.length size && Nat.blt 0 size && Nat.blt 0 bytes && flats x.cells) (appendV h e size bytes s 1 x.cells)

def seqMap (h : H) (l : Lb) : Option (List (V × V × Nat)) := match cellAt h l 0 with
  | some (.map r) => match h.get r with
    | some (.map [] _) => some []
    | some (.map [x] c) => chk (Nat.blt x.2.2 c) (some [x])
    | _ => none
  | some .nilMap => some []
  | _ => none

def hasPair (t tp n : Nat) : List (TypeId × TypeId × Nat) → Bool
  | [] => false
  | (a, b, c) :: r => (Nat.beq a t && Nat.beq b tp && Nat.beq c n) || hasPair t tp n r

def extRun (P : Program) (k : Ext) (args : List V) (h : H) : Option (V × H) :=
  match k with
  | .nop => match args with
    | [] => some (.tuple [], h)
    | _ => none
  | .mark => match args with
    | [.ptr _ _] => some (.tuple [], h)
    | _ => none
  | .same => match args with
    | [x] => some (x, h)
    | _ => none
  | .cas32 => match args with
    | [.ptr l off, .int .i32 x, .int .i32 y] => match cellAt h l off with
      | some (.int .i32 v) => chk (intEq v x) (ob (storeV h l off [.int .i32 y]) fun h' => some (.bool true, h'))
      | _ => none
    | _ => none
  | .add32 => match args with
    | [.ptr l off, .int .i32 y] => match cellAt h l off with
      | some (.int .i32 v) => ob (storeV h l off [.int .i32 (wrapD .i32 (v + y))]) fun h' => some (.int .i32 (wrapD .i32 (v + y)), h')
      | _ => none
    | _ => none
  | .clone => match args with
    | [.iface t (.map r)] => match h.get r with
      | some (.map es c) => some (.iface t (.map h.next), h.add (.map es c))
      | _ => none
    | _ => none
  | .noZero et => match args with
    | [.int .i64 (.ofNat n)] => chk (Nat.ble n 1048576) (some (.slice h.next 0 n (.toEnd 1), h.add (.cells [] et 0 .yes)))
    | _ => none
  | .indexByte => match args with
    | [.str s, .int .u8 (.ofNat c)] => chk (Nat.blt c 256) (some (.int .i64 (indexNat c s 0), h))
    | _ => none
  | .compare => match args with
    | [.str a, .str b] => some (.int .i64 (cmpNats a b), h)
    | _ => none
  | .as at_ rt g err ps => match args with
    | [.nilIface, _] => some (.bool false, h)
    | [.iface t (.agg cs), .iface tp (.ptr l off)] => match cellAt h at_ 0 with
      | some (.iface r (.agg [.ptr l2 e])) => chk (Nat.beq r rt && lbEq l2 g && Nat.beq e err && hasPair t tp cs.length ps) (ob (storeV h l off cs) fun h' => some (.bool true, h'))
      | _ => none
    | _ => none
  | .typeOf rt g ts => match args with
    | [.iface t _] => chk (hasNat t ts) (some (.iface rt (.agg [.ptr g t]), h))
    | _ => none
  | .comparable g ts => match args with
    | [.agg [.ptr l t]] => chk (lbEq l g && hasNat t ts) (ob (P.info? t) fun i => some (.bool i.comparable, h))
    | _ => none
  | .nameIs => match args with
    | [.sym _ 3] => some (.bool true, h)
    | [.sym _ 2] => some (.bool false, h)
    | _ => none
  | .cloneAny size => match args with
    | [.sym _ n] => chk (Nat.beq n size) (some (.any, h))
    | _ => none
  | .seq keys e size bytes g0 g1 => match args with
    | [.nilSlice 0, .func g [] [.ptr l 0]] => match seqMap h l with
      | some [] => chk (hasNat g g0) (some (.nilSlice 0, h))
      | some [x] => chk (hasNat g g1) (push1 h e size bytes (.nilSlice 0) (match keys with | true => x.1 | false => x.2.1))
      | _ => none
    | _ => none

def findExt : List (FuncId × Ext) → FuncId → Option Ext
  | [], _ => none
  | (g, k) :: r, f => match Nat.beq g f with
    | true => some k
    | false => findExt r f

def orcOf (P : Program) (ids : List (FuncId × Ext)) : Orc := fun f args h => ob (findExt ids f) fun k => extRun P k args h

end Go.Dx
