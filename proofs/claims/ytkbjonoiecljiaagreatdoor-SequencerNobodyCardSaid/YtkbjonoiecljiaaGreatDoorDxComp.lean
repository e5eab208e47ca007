/-
  The deterministic machine over labels: how the model's code is compiled to it.
-/
import Derived.Test.YtkbjonoiecljiaaGreatDoorDxRun
import Derived.Orders
namespace Go.Dx
open Go

structure CE where
  P : Program
  /-- how many package-level variables there are -/
  G : Nat
  /-- how many temporaries -/
  n : Nat

def undefX : X := .c undef

def compX (C : CE) : Operand → Option X
  | .tmp t => chk (Nat.blt t C.n) (some (.t (pathOf t)))
  | .const v => ob (ofConst v) fun d => some (.c d)
  | .global g => chk (Nat.blt g C.G) (some (.c (.ptr (pathOf g) 0)))
  | .func f => some (.c (.func f [] []))

def compXs (C : CE) : List Operand → Option (List X)
  | [] => some []
  | x :: xs => ob (compX C x) fun d => ob (compXs C xs) fun ds => some (d :: ds)

def compXo (C : CE) : Option Operand → Option (Option X)
  | none => some none
  | some x => ob (compX C x) fun d => some (some d)

def sizeT (P : Program) (t : TypeId) : Option Nat := ob (P.info? t) fun i => some i.size
def bytesT (P : Program) (t : TypeId) : Option Nat := ob (P.info? t) fun i => some i.bytes
def zeroT (P : Program) (t : TypeId) : Option V := ob (P.info? t) fun i => ob i.zero ofConst

def rdT (P : Program) (t : TypeId) : Option Rd := match P.underlying t with
  | some (.struct _) | some (.array _ _) => ob (sizeT P t) fun n => some (.many n)
  | some _ => some .one
  | none => none

/-- Each field's place and size. -/
def placesT (P : Program) : List Field → Option (List (Nat × Nat))
  | [] => some []
  | f :: fs => ob (sizeT P f.type) fun n => ob (placesT P fs) fun r => some ((f.offset, n) :: r)

def compParts (C : CE) (place : Nat → Option (Nat × Nat)) : List (Nat × Operand) → Option (List (Nat × Nat × X))
  | [] => some []
  | (i, x) :: r => ob (place i) fun p => ob (compX C x) fun d => ob (compParts C place r) fun ds => some ((p.1, p.2, d) :: ds)

def compPairs (C : CE) : List (Nat × Operand) → Option (List (Nat × X))
  | [] => some []
  | (i, x) :: r => ob (compX C x) fun d => ob (compPairs C r) fun ds => some ((i, d) :: ds)

def isLitNil : Operand → Bool
  | .const _ => true
  | _ => false

def eqKind (P : Program) (t : TypeId) (x y : Operand) : EK := match P.underlying t with
  | some .bool => .bool
  | some (.pointer e) => match sizeT P e with
    | some 0 => .none
    | some _ => .ptr
    | none => .none
  | some (.interface _) => .iface (isLitNil x || isLitNil y)
  | some (.slice _) => .slice
  | some (.map _ _) => .map
  | some (.func _ _ _) => .func
  | _ => .none

/-- Keys that may be asked for as they stand. -/
def keyT (P : Program) (t : TypeId) : PK := match P.underlying t with
  | some .string => .str
  | some (.int _) => .int
  | _ => .no

def compCall (C : CE) (c : Call) : Option CD := ob (compXs C c.args.toList) fun as => match c.callee with
  | .value (.func f) => some (.func f as)
  | .value f => ob (compX C f) fun x => some (.value x as)
  | .invoke r name => ob (compX C r) fun x => some (.invoke x name as)
  | .builtin _ => none

def compBuiltin (C : CE) (b : Builtin) (ts : List TypeId) (xs : List X) : Option D :=
  match b, xs, ts with
  | .len, [x], t :: _ => match C.P.underlying t with
    | some .string => some (.p (.lenStr x))
    | some (.slice _) => some (.p (.lenSlice x))
    | some (.array n _) => some (.p (.lenArr n))
    | some (.map _ _) => some (.r (.mapLen x))
    | _ => none
  | .cap, [x], t :: _ => match C.P.underlying t with
    | some (.slice _) => some (.p (.cap x))
    | _ => none
  | .max, [x, y], _ => some (.p (.maxI x y))
  | .min, [x, y], _ => some (.p (.minI x y))
  | .unsafeSliceData, [x], _ => some (.p (.sliceData x))
  | .unsafeString, [x, n], [t, _] => match C.P.underlying t with
    | some (.pointer e) => match C.P.underlying e, sizeT C.P e with
      | some (.int .u8), some 1 => some (.e (.unsafeStr e x n))
      | _, _ => none
    | _ => none
  | .append, [s, x], [t, u] => match C.P.underlying t, C.P.underlying u with
    | some (.slice e), some ud => ob (sizeT C.P e) fun size => ob (bytesT C.P e) fun bytes => ob (zeroT C.P e) fun z => chk (Nat.blt 0 size && Nat.blt 0 bytes && Nat.beq z.cells.length size) (match ud with
      | .int _ => some (.e (.appendZeros e size bytes z.cells s x))
      | .slice _ => some (.e (.append e size bytes s x))
      | .string => some (.e (.append e size bytes s x))
      | _ => none)
    | _, _ => none
  | .copy, [d, s], t :: _ => match C.P.underlying t with
    | some (.slice e) => ob (sizeT C.P e) fun size => some (.e (.copy size d s))
    | _ => none
  | .clear, [x], t :: _ => match C.P.underlying t with
    | some (.map _ _) => some (.e (.clearMap x))
    | _ => none
  | .delete, [m, k], t :: _ => match C.P.underlying t with
    | some (.map kt _) => some (.e (.delete (keyT C.P kt) m k))
    | _ => none
  | _, _, _ => none

def compConvert (C : CE) (src dst : TypeId) (x : X) : Option D :=
  match C.P.underlying src, C.P.underlying dst with
  | some (.int _), some (.int k) => some (.p (.toInt k x))
  | some (.int _), some .string => some (.p (.runeStr x))
  | some .string, some .string => some (.p (.strSame x))
  | some .string, some (.slice e) => match C.P.underlying e, sizeT C.P e with
    | some (.int .u8), some 1 => some (.e (.strBytes e x))
    | _, _ => none
  | some (.slice e), some .string => match C.P.underlying e, sizeT C.P e with
    | some (.int .u8), some 1 => some (.r (.bytesStr x))
    | _, _ => none
  | some (.pointer e), some .unsafePointer => match sizeT C.P e with
    | some (_ + 1) => some (.r (.ptrUnsafe x))
    | _ => none
  | some .unsafePointer, some (.pointer u) => match sizeT C.P u with
    | some (n + 1) => some (.r (.unsafePtr u (n + 1) x))
    | _ => none
  | _, _ => none

def compOp? (C : CE) (o : Op) : Option D :=
  match o with
  | .move x | .assign x => ob (compX C x) fun x => some (.mov x)
  | .pick c a b => ob (compX C c) fun c => ob (compX C a) fun a => ob (compX C b) fun b => some (.p (.pick c a b))
  | .build t ps => ob (zeroT C.P t) fun z => match C.P.underlying t with
    | some (.struct fs) => ob (placesT C.P fs.toList) fun pl => ob (compParts C (fun i => pl[i]?) ps.toList) fun l => some (.p (.build z.cells l))
    | some (.array _ e) => ob (sizeT C.P e) fun n => ob (compParts C (fun i => some (i * n, n)) ps.toList) fun l => some (.p (.build z.cells l))
    | _ => none
  | .nilCheck x => ob (compX C x) fun x => some (.p (.nilCheck x))
  | .binOp op t x y _ => ob (compX C x) fun a => ob (compX C y) fun b => some (.p (.bin op (eqKind C.P t x y) a b))
  | .unOp op _ x => ob (compX C x) fun x => some (.p (.un op x))
  | .convert s d x => ob (compX C x) (compConvert C s d)
  | .makeInterface t x => match C.P.underlying t with
    | some (.interface _) => none
    | some _ => ob (compX C x) fun x => some (.p (.mkIface t x))
    | none => none
  | .makeFunc (.func f) a b => ob (compXs C a.toList) fun a => ob (compXs C b.toList) fun b => some (.p (.mkFunc f a b))
  | .slice t x lo hi mx => ob (compX C x) fun x => ob (compXo C lo) fun lo => ob (compXo C hi) fun hi => ob (compXo C mx) fun mx => match C.P.underlying t with
    | some .string => match mx with
      | none => some (.p (.sliceStr x lo hi))
      | some _ => none
    | some (.slice e) => ob (sizeT C.P e) fun n => chk (mx.isNone || hi.isSome) (some (.p (.slice n x lo hi mx)))
    | some (.array n e) => ob (sizeT C.P e) fun size => chk (mx.isNone || hi.isSome) (some (.p (.sliceArr n size x lo hi mx)))
    | _ => none
  | .fieldAddr t x f => match C.P.underlying t with
    | some (.struct fs) => ob fs[f]? fun fd => ob (sizeT C.P fd.type) fun n => chk (Nat.blt 0 n) (ob (compX C x) fun x => some (.p (.fieldAddr fd.offset x)))
    | _ => none
  | .field t x f => match C.P.underlying t with
    | some (.struct fs) => ob fs[f]? fun fd => ob (rdT C.P fd.type) fun rd => ob (compX C x) fun x => some (.p (.field rd fd.offset x))
    | _ => none
  | .indexAddr t x i => ob (compX C x) fun x => ob (compX C i) fun i => match C.P.underlying t with
    | some (.slice e) => ob (sizeT C.P e) fun n => some (.p (.indexAddr n x i))
    | some (.array n e) => ob (sizeT C.P e) fun size => some (.p (.indexAddrArr n size x i))
    | _ => none
  | .index t x i => ob (compX C x) fun x => ob (compX C i) fun i => match C.P.underlying t with
    | some .string => some (.p (.indexStr x i))
    | some (.array n e) => ob (sizeT C.P e) fun size => ob (rdT C.P e) fun rd => some (.p (.indexAgg rd n size x i))
    | _ => none
  | .typeAssert x _ t ok => ob (compX C x) fun x => ob (zeroT C.P t) fun z => match C.P.underlying t with
    | some (.interface want) => some (.p (.assertI want z ok x))
    | some _ => some (.p (.assertT t z ok x))
    | none => none
  | .extract x i => ob (compX C x) fun x => some (.p (.extract i x))
  | .load t x => ob (rdT C.P t) fun rd => ob (compX C x) fun x => some (.r (.load rd x))
  | .lookup t m k ok => ob (compX C m) fun m => ob (compX C k) fun k => match C.P.underlying t with
    | some (.map kt et) => ob (zeroT C.P et) fun z => some (.r (.lookup (keyT C.P kt) z ok m k))
    | _ => none
  | .alloc t => ob (zeroT C.P t) fun z => some (.e (.alloc t z.cells))
  | .box t x => ob (compX C x) fun x => some (.e (.box t x))
  | .buildSlice t n ps => match C.P.underlying t with
    | some (.slice e) => ob (sizeT C.P e) fun size => ob (zeroT C.P e) fun z => chk (Nat.ble (n * size) 65536 && Nat.beq z.cells.length size && Nat.blt 0 size) (ob (compPairs C ps.toList) fun l => some (.e (.buildSlice e size n (repeatCells z.cells n) l)))
    | _ => none
  | .store t a x => ob (sizeT C.P t) fun n => ob (compX C a) fun a => ob (compX C x) fun x => some (.e (.store n a x))
  | .makeMap _ none => some (.e .makeMap)
  | .makeSlice t n c => match C.P.underlying t with
    | some (.slice e) => ob (sizeT C.P e) fun size => ob (bytesT C.P e) fun bytes => ob (zeroT C.P e) fun z => ob (compX C n) fun n => ob (compX C c) fun c => some (.e (.makeSlice e size bytes z.cells n c))
    | _ => none
  | .mapUpdate t m k x | .insert t m k x => match C.P.underlying t with
    | some (.map kt _) => ob (compX C m) fun m => ob (compX C k) fun k => ob (compX C x) fun x => some (.e (.mapUpdate (keyT C.P kt) m k x))
    | _ => none
  | .mapEntry t m k => match C.P.underlying t with
    | some (.map kt et) => ob (zeroT C.P et) fun z => ob (compX C m) fun m => ob (compX C k) fun k => some (.e (.mapEntry (keyT C.P kt) z m k))
    | _ => none
  | .entryStore _ m s x => ob (compX C m) fun m => ob (compX C s) fun s => ob (compX C x) fun x => some (.e (.entryStore m s x))
  | .range t x => ob (compX C x) fun x => match C.P.underlying t with
    | some .string => some (.e (.rangeStr x))
    | some (.map _ _) => some (.e (.rangeMap x))
    | _ => none
  | .next x false => ob (compX C x) fun x => some (.e (.next x))
  | .call c => match c.callee with
    | .builtin b => ob (compXs C c.args.toList) (compBuiltin C b c.argTypes.toList)
    | _ => ob (compCall C c) fun d => some (.c d)
  | .defer c => match c.callee with
    | .value _ => ob (compCall C c) fun d => some (.defer d)
    | _ => none
  | _ => none

def compDst (C : CE) : Option Tmp → Option (Option Lb)
  | none => some none
  | some t => chk (Nat.blt t C.n) (some (some (pathOf t)))

def compGuard (C : CE) (ops : Array Oper) : Option (Nat × Bool) → Option (Option (Lb × Bool))
  | none => some none
  | some (j, w) => ob (ops.toList[j]?) fun o => ob o.dst fun d => chk (Nat.blt d C.n) (some (some (pathOf d, w)))

/-- An operation; what can't be compiled is 'stuck'. -/
def compDO (C : CE) (ops : Array Oper) (o : Oper) : Option DO :=
  ob (compDst C o.dst) fun d => ob (compGuard C ops o.guard) fun g => some { dst := d, op := (compOp? C o.op).getD .stuck, guard := g }

def compDOs (C : CE) (ops : Array Oper) : List Oper → Option (List DO)
  | [] => some []
  | o :: r => ob (compDO C ops o) fun d => ob (compDOs C ops r) fun ds => some (d :: ds)

/-! ### a region whose order is open -/

/-- Which operations come ahead of an operation in every order (a bit each). -/
def aheadOf (acc : List Nat) : List Edge → Nat
  | [] => 0
  | e :: r => Nat.lor (match Region.binds .any e with
    | true => Nat.lor (Nat.shiftLeft 1 e.on) ((acc[e.on]?).getD 0)
    | false => 0) (aheadOf acc r)

def aheads : List Oper → List Nat → List Nat
  | [], acc => acc
  | o :: r, acc => aheads r (acc ++ [aheadOf acc o.after.toList])

/-- The places of the effects. -/
def effsAt : List DO → Nat → List Nat
  | [], _ => []
  | d :: r, i => match isEff d with
    | true => i :: effsAt r (i + 1)
    | false => effsAt r (i + 1)

def chainOk (ah : List Nat) : List Nat → Bool
  | i :: j :: r => ((ah[j]?).getD 0).testBit i && chainOk ah (j :: r)
  | _ => true

def countB (f : Nat → Bool) : List Nat → Nat
  | [] => 0
  | i :: r => match f i with
    | true => countB f r + 1
    | false => countB f r

/-- Whatever two operations have no fixed order, they do not meet in a temporary. -/
def apartOk (ops : Array Oper) (ah : List Nat) : Bool :=
  (List.range ops.size).all fun j => (List.range j).all fun i => ((ah[j]?).getD 0).testBit i || (match ops.toList[i]?, ops.toList[j]? with
    | some x, some y => Oper.apart ops x y
    | _, _ => false)

def edgesOk (ops : Array Oper) : Bool :=
  (List.range ops.size).all fun j => match ops.toList[j]? with
    | some o => o.after.toList.all fun e => !Region.binds .any e || Nat.blt e.on j
    | none => false

def noDefer : List DO → Bool
  | [] => true
  | d :: r => (match d.op with | .defer _ => false | _ => true) && noDefer r

def tagAll (ah effs : List Nat) : List DO → Nat → List (DO × Nat × Nat)
  | [], _ => []
  | d :: r, i => (d, countB (fun e => ((ah[i]?).getD 0).testBit e) effs, countB (fun e => !((ah[e]?).getD 0).testBit i) effs) :: tagAll ah effs r (i + 1)

/-- The variables that a region makes are made ahead of it: each operation that makes one becomes a look at it. 'k': the next place. -/
def reserve : List DO → Nat → List DO × List (Lb × TypeId × List V)
  | [], _ => ([], [])
  | ⟨d, .e (.alloc t cs), g⟩ :: r, k => (⟨d, .r (.fresh t cs (.t (pathOf k))), g⟩ :: (reserve r (k + 1)).1, (pathOf k, t, cs) :: (reserve r (k + 1)).2)
  | d :: r, k => (d :: (reserve r k).1, (reserve r k).2)

def compDraw (C : CE) (ops : Array Oper) (l : List DO) : DC :=
  let ah := aheads ops.toList []
  let effs := effsAt (reserve l C.n).1 0
  match chainOk ah effs && apartOk ops ah && edgesOk ops && noDefer l && Nat.ble ops.size 65536 with
  | true => .draw (reserve l C.n).2 (tagAll ah effs (reserve l C.n).1 0)
  | false => .stuck

def compC (C : CE) : Code → DC
  | .skip => .skip
  | .label _ => .skip
  | .region _ ops draw => match compDOs C ops ops.toList with
    | some l => match draw with
      | true => compDraw C ops l
      | false => .ops l
    | none => .stuck
  | .seq a b => .seq (compC C a) (compC C b)
  | .cond c a b => match compX C c with
    | some x => .cond x (compC C a) (compC C b)
    | none => .stuck
  | .block id b => .block id (compC C b)
  | .loop b => .loop (compC C b)
  | .exit id => .exit id
  | .ret => .ret
  | _ => .stuck

def compRes (C : CE) : ResultVar → Option Res
  | .tmp t => chk (Nat.blt t C.n) (some (.tmp (pathOf t)))
  | .cell a t => chk (Nat.blt a C.n) (ob (rdT C.P t) fun rd => some (.cell (pathOf a) rd))

def compRess (C : CE) : List ResultVar → Option (List Res)
  | [] => some []
  | r :: rs => ob (compRes C r) fun d => ob (compRess C rs) fun ds => some (d :: ds)

def compFn (P : Program) (G : Nat) (f : Func) : Option DFn :=
  let C : CE := { P := P, G := G, n := f.ntmps }
  chk (Nat.ble f.ntmps 65536 && Nat.ble G 65536 && !(f.name == "runtime.NumGoroutine")) (ob f.body fun c => ob (compRess C f.results.toList) fun rs => some { ntmps := f.ntmps, code := compC C c, results := rs })

/-! ### what is asked of the program while it runs -/

def plainT (P : Program) (t : TypeId) : PK := match P.info? t with
  | some i => match i.comparable with
    | true => match P.underlying t with
      | some (.int _) => .int
      | some .string => .str
      | some .bool => .bool
      | _ => .no
    | false => .no
  | none => .no

def hasT (P : Program) (want : Array (String × TypeId)) (t : TypeId) : Option Bool :=
  ob (P.info? t) fun i => some (want.toList.all fun w => i.methods.toList.any fun m => m.sig == w.2 && m.name == w.1)

def methT (P : Program) (t : TypeId) (name : String) : Option FuncId :=
  ob (P.info? t) fun i => ob (i.methods.toList.find? fun m => m.name == name) fun m => chk m.path.isEmpty (match m.func, P.underlying t with
    | some (f, true), some (.pointer _) => some f
    | some (_, false), some (.pointer _) => none
    | some (f, false), some _ => some f
    | _, _ => none)

def envOf (P : Program) : Env := { plain := plainT P, has := hasT P, meth := methT P }

end Go.Dx
