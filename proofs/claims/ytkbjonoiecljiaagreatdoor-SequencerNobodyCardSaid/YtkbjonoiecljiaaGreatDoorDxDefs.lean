/-
  A deterministic machine over labels: the definitions. Its values, its heap, its operations.
  Nothing hangs on the tape: where the model draws (a capacity, an order), the machine keeps what holds for every draw, or gives up ('none').
-/
import Derived.Calls
import GoSem.Dispatch
namespace Go.Dx
open Go

def ob {α β : Type} (x : Option α) (f : α → Option β) : Option β :=
  match x with
  | some v => f v
  | none => none

/-- A test that must hold. -/
def chk {β : Type} (b : Bool) (k : Option β) : Option β := match b with
  | true => k
  | false => none

/-- A place in a tree: the figures of a number, the lowest first. -/
abbrev Lb := List Bool

def pathGo : Nat → Nat → Lb
  | 0, _ => []
  | f + 1, n => if n == 0 then [] else (n % 2 == 1) :: pathGo f (n / 2)
def pathOf (n : Nat) : Lb := pathGo 64 n

def inc : Lb → Lb
  | [] => [true]
  | false :: r => true :: r
  | true :: r => false :: inc r

def lbEq : Lb → Lb → Bool
  | [], [] => true
  | true :: a, true :: b => lbEq a b
  | false :: a, false :: b => lbEq a b
  | _, _ => false

inductive T (α : Type) where
  | leaf
  | node (l : T α) (v : Option α) (r : T α)

def T.get {α : Type} : T α → Lb → Option α
  | .leaf, _ => none
  | .node _ v _, [] => v
  | .node l _ _, false :: p => l.get p
  | .node _ _ r, true :: p => r.get p

def T.set {α : Type} : T α → Lb → Option α → T α
  | .leaf, [], x => .node .leaf x .leaf
  | .leaf, false :: p, x => .node (T.set .leaf p x) none .leaf
  | .leaf, true :: p, x => .node .leaf none (T.set .leaf p x)
  | .node l _ r, [], x => .node l x r
  | .node l v r, false :: p, x => .node (l.set p x) v r
  | .node l v r, true :: p, x => .node l v (r.set p x)

inductive Cap where
  | exact (c : Nat)
  /-- to the end of its block, elements of so many cells -/
  | toEnd (size : Nat)

inductive V where
  | bool (b : Bool)
  | int (k : IntKind) (n : Int)
  | str (s : List Nat)
  | nilPtr
  | ptr (l : Lb) (off : Nat)
  | nilSlice (cap : Nat)
  | slice (l : Lb) (off : Nat) (len : Nat) (cap : Cap)
  | nilMap
  | map (r : Lb)
  | func (f : FuncId) (first captured : List V)
  | nilFunc
  | iface (t : TypeId) (v : V)
  | nilIface
  | agg (cells : List V)
  | tuple (vs : List V)
  /-- a value that came in: of which is known that it is one cell -/
  | sym (l : Lb) (size : Nat)
  /-- any value of one cell -/
  | any
  deriving Inhabited

def undef : V := .tuple []

def V.cells : V → List V
  | .agg cs => cs
  | v => [v]

/-- The machine's value of a constant. -/
def ofFlat : Value → Option V
  | .bool b => some (.bool b)
  | .int k n => some (.int k n)
  | .string s => some (.str (s.data.toList.map (·.toNat)))
  | .pointer none => some .nilPtr
  | .slice none 0 0 => some (.nilSlice 0)
  | .map none => some .nilMap
  | .func (.func f) ⟨[]⟩ ⟨[]⟩ => some (.func f [] [])
  | .nilFunc => some .nilFunc
  | .nilIface => some .nilIface
  | .tuple ⟨[]⟩ => some (.tuple [])
  | _ => none

def ofFlats : List Value → Option (List V)
  | [] => some []
  | v :: vs => ob (ofFlat v) fun d => ob (ofFlats vs) fun ds => some (d :: ds)

def ofConst : Value → Option V
  | .agg cs => ob (ofFlats cs.toList) fun ds => some (.agg ds)
  | v => ofFlat v

/-! ### the heap -/

/-- May a row be written? 'marked': yes, and behind its last cell it bears a mark. -/
inductive Own where
  | no
  | yes
  | marked

def Own.may : Own → Bool
  | .no => false
  | _ => true

inductive Obj where
  /-- a row: its first so many cells; the first 'fz' of them may be frozen; 'own': may it be written? -/
  | cells (vs : List V) (elem : TypeId) (fz : Nat) (own : Own)
  | map (es : List (V × V × Nat)) (clock : Nat)
  | strIter (s : List Nat) (pos : Nat)
  | mapIter (m : Option Lb) (since : Nat) (seen : List Nat) (stepped : Nat)

structure H where
  t : T Obj
  next : Lb

def H.get (h : H) (l : Lb) : Option Obj := h.t.get l
def H.set (h : H) (l : Lb) (o : Obj) : H := { t := h.t.set l (some o), next := h.next }
def H.del (h : H) (l : Lb) : H := { t := h.t.set l none, next := h.next }
def H.add (h : H) (o : Obj) : H := { t := h.t.set h.next (some o), next := inc h.next }

/-! ### lists -/

/-- n cells from i on; none: they are not all there. -/
def takeN : Nat → List V → Option (List V)
  | 0, _ => some []
  | n + 1, v :: vs => ob (takeN n vs) fun r => some (v :: r)
  | _ + 1, [] => none

def dropN : Nat → List V → List V
  | 0, vs => vs
  | n + 1, _ :: vs => dropN n vs
  | _ + 1, [] => []

def rowFrom (vs : List V) (i n : Nat) : Option (List V) := takeN n (dropN i vs)

/-- Cells put over a list's, from i on; none: they do not all fit. -/
def putFrom : List V → Nat → List V → Option (List V)
  | vs, 0, [] => some vs
  | _ :: vs, 0, x :: xs => ob (putFrom vs 0 xs) fun r => some (x :: r)
  | [], 0, _ :: _ => none
  | v :: vs, i + 1, xs => ob (putFrom vs i xs) fun r => some (v :: r)
  | [], _ + 1, _ => none

def repeatCells (z : List V) : Nat → List V
  | 0 => []
  | n + 1 => z ++ repeatCells z n

def natsLess : List Nat → List Nat → Bool
  | _, [] => false
  | [], _ :: _ => true
  | a :: x, b :: y => Nat.blt a b || (Nat.beq a b && natsLess x y)

def natsEq : List Nat → List Nat → Bool
  | [], [] => true
  | a :: x, b :: y => Nat.beq a b && natsEq x y
  | _, _ => false

/-! ### numbers -/

/-- 2 ^ bits, as literals. -/
def IK.top : IntKind → Nat
  | .i8 | .u8 => 256
  | .i16 | .u16 => 65536
  | .i32 | .u32 => 4294967296
  | .i64 | .u64 => 18446744073709551616

def IK.half : IntKind → Nat
  | .i8 | .u8 => 128
  | .i16 | .u16 => 32768
  | .i32 | .u32 => 2147483648
  | .i64 | .u64 => 9223372036854775808

def IK.sgn : IntKind → Bool
  | .i8 | .i16 | .i32 | .i64 => true
  | _ => false

/-- The least number that is not below zero and equal but for tops. -/
def lowNat (top : Nat) : Int → Nat
  | .ofNat m => m % top
  | .negSucc m => top - 1 - m % top

def backInt (sgn : Bool) (half top m : Nat) : Int := match sgn && Nat.ble half m with
  | true => Int.negSucc (top - 1 - m)
  | false => Int.ofNat m

def wrapD (k : IntKind) (n : Int) : Int := backInt (IK.sgn k) (IK.half k) (IK.top k) (lowNat (IK.top k) n)

def bitsD (f : Nat → Nat → Nat) (k : IntKind) (x y : Int) : V :=
  .int k (backInt (IK.sgn k) (IK.half k) (IK.top k) (f (lowNat (IK.top k) x) (lowNat (IK.top k) y)))

def intLt : Int → Int → Bool
  | .ofNat a, .ofNat b => Nat.blt a b
  | .ofNat _, .negSucc _ => false
  | .negSucc _, .ofNat _ => true
  | .negSucc a, .negSucc b => Nat.blt b a

def intEq : Int → Int → Bool
  | .ofNat a, .ofNat b => Nat.beq a b
  | .negSucc a, .negSucc b => Nat.beq a b
  | _, _ => false

def kindEq : IntKind → IntKind → Bool
  | .i8, .i8 | .i16, .i16 | .i32, .i32 | .i64, .i64 | .u8, .u8 | .u16, .u16 | .u32, .u32 | .u64, .u64 => true
  | _, _ => false

def intOp (op : BinOp) (k : IntKind) (x y : Int) : Option V :=
  match op with
  | .add => some (.int k (wrapD k (x + y)))
  | .sub => some (.int k (wrapD k (x - y)))
  | .mul => some (.int k (wrapD k (x * y)))
  | .quo => chk (!intEq y 0) (some (.int k (wrapD k (x.tdiv y))))
  | .rem => chk (!intEq y 0) (some (.int k (x.tmod y)))
  | .and => some (bitsD Nat.land k x y)
  | .or => some (bitsD Nat.lor k x y)
  | .xor => some (bitsD Nat.xor k x y)
  | .andNot => some (bitsD (fun a b => Nat.xor a (Nat.land a b)) k x y)
  | .eql => some (.bool (intEq x y))
  | .neq => some (.bool (!intEq x y))
  | .lss => some (.bool (intLt x y))
  | .leq => some (.bool (!intLt y x))
  | .gtr => some (.bool (intLt y x))
  | .geq => some (.bool (!intLt x y))
  | _ => none

def bitsOf : IntKind → Nat
  | .i8 | .u8 => 8
  | .i16 | .u16 => 16
  | .i32 | .u32 => 32
  | .i64 | .u64 => 64

/-- A shift of a number that is not below zero. -/
def shiftOp (op : BinOp) (k : IntKind) (x y : Int) : Option V :=
  match y with
  | .ofNat n => match op, x with
    | .shl, .ofNat m => some (.int k (wrapD k (Int.ofNat (Nat.shiftLeft m (Nat.min n (bitsOf k))))))
    | .shr, .ofNat m => some (.int k (Int.ofNat (Nat.shiftRight m (Nat.min n (bitsOf k)))))
    | _, _ => none
  | .negSucc _ => none

def strOp : BinOp → List Nat → List Nat → Option V
  | .add, x, y => chk (Nat.blt (x.length + y.length) 9223372036854775807) (some (.str (x ++ y)))
  | .eql, x, y => some (.bool (natsEq x y))
  | .neq, x, y => some (.bool (!natsEq x y))
  | .lss, x, y => some (.bool (natsLess x y))
  | .leq, x, y => some (.bool (natsLess x y || natsEq x y))
  | .gtr, x, y => some (.bool (!(natsLess x y || natsEq x y)))
  | .geq, x, y => some (.bool (!natsLess x y))
  | _, _, _ => none

/-! ### operations, as they are compiled -/

/-- An operand. -/
inductive X where
  | t (p : Lb)
  | c (v : V)

/-- A plain type's kind. -/
inductive PK where
  | bool
  | int
  | str
  | no

/-- What kind of type a comparison is of, where that is no number and no text. -/
inductive EK where
  | bool
  | ptr
  | iface (lit : Bool)
  | slice
  | map
  | func
  | none

/-- What is read of memory: a cell, or a struct or an array of so many cells. -/
inductive Rd where
  | one
  | many (n : Nat)

/-- Operations that hang on their operands alone. -/
inductive PD where
  | pick (c a b : X)
  | build (zero : List V) (parts : List (Nat × Nat × X))
  | nilCheck (x : X)
  | bin (op : BinOp) (ek : EK) (x y : X)
  | un (op : UnOp) (x : X)
  | toInt (k : IntKind) (x : X)
  | runeStr (x : X)
  | strSame (x : X)
  | mkIface (t : TypeId) (x : X)
  | mkFunc (f : FuncId) (first captured : List X)
  | sliceStr (x : X) (lo hi : Option X)
  | slice (size : Nat) (x : X) (lo hi mx : Option X)
  | sliceArr (n size : Nat) (x : X) (lo hi mx : Option X)
  | fieldAddr (off : Nat) (x : X)
  | field (rd : Rd) (off : Nat) (x : X)
  | indexAddr (size : Nat) (x i : X)
  | indexAddrArr (n size : Nat) (x i : X)
  | indexStr (x i : X)
  | indexAgg (rd : Rd) (n size : Nat) (x i : X)
  | assertI (want : Array (String × TypeId)) (zero : V) (ok : Bool) (x : X)
  | assertT (t : TypeId) (zero : V) (ok : Bool) (x : X)
  | extract (i : Nat) (x : X)
  | lenStr (x : X)
  | lenSlice (x : X)
  | lenArr (n : Nat)
  | cap (x : X)
  | maxI (x y : X)
  | minI (x y : X)
  | sliceData (x : X)

/-- Operations that read memory. -/
inductive RD where
  | load (rd : Rd) (x : X)
  | lookup (pk : PK) (zero : V) (ok : Bool) (m k : X)
  | bytesStr (x : X)
  | ptrUnsafe (x : X)
  | unsafePtr (u : TypeId) (n : Nat) (x : X)
  | mapLen (x : X)
  | fresh (t : TypeId) (cells : List V) (x : X)

/-- Operations that write memory, or make some. -/
inductive ED where
  | store (n : Nat) (a x : X)
  | alloc (t : TypeId) (cells : List V)
  | box (t : TypeId) (x : X)
  | buildSlice (e : TypeId) (size n : Nat) (cells : List V) (parts : List (Nat × X))
  | strBytes (e : TypeId) (x : X)
  | unsafeStr (e : TypeId) (x n : X)
  | makeMap
  | makeSlice (e : TypeId) (size bytes : Nat) (zero : List V) (n c : X)
  | mapUpdate (pk : PK) (m k x : X)
  | mapEntry (pk : PK) (zero : V) (m k : X)
  | entryStore (m s x : X)
  | rangeStr (x : X)
  | rangeMap (x : X)
  | next (x : X)
  | append (e : TypeId) (size bytes : Nat) (s x : X)
  | appendZeros (e : TypeId) (size bytes : Nat) (zero : List V) (s n : X)
  | copy (size : Nat) (d s : X)
  | clearMap (x : X)
  | delete (pk : PK) (m k : X)

inductive CD where
  | func (f : FuncId) (args : List X)
  | value (f : X) (args : List X)
  | invoke (r : X) (name : String) (args : List X)

inductive D where
  | mov (x : X)
  | p (d : PD)
  | r (d : RD)
  | e (d : ED)
  | c (d : CD)
  | defer (d : CD)
  | stuck

/-- An operation with the place of its result, and its guard. -/
structure DO where
  dst : Option Lb
  op : D
  guard : Option (Lb × Bool)

structure A where
  tmps : T V
  defers : List (FuncId × List V)

def A.put (a : A) : Option Lb → V → A
  | some d, v => { tmps := a.tmps.set d (some v), defers := a.defers }
  | none, _ => a

def getT (tm : T V) (p : Lb) : V := match tm.get p with
  | some v => v
  | none => undef

def X.ev (tm : T V) : X → V
  | .t p => getT tm p
  | .c v => v

def evs (tm : T V) : List X → List V
  | [] => []
  | x :: xs => x.ev tm :: evs tm xs

def evo (tm : T V) : Option X → Option V
  | none => none
  | some x => some (x.ev tm)

/-! ### what hangs on operands alone -/

def rdPart (rd : Rd) (cs : List V) (off : Nat) : Option V := match rd with
  | .one => (dropN off cs).head?
  | .many n => ob (rowFrom cs off n) fun r => some (.agg r)

def fillIn (tm : T V) : List (Nat × Nat × X) → List V → Option (List V)
  | [], cells => some cells
  | (off, size, x) :: r, cells =>
    let cs := (x.ev tm).cells
    chk (Nat.beq cs.length size) (ob (putFrom cells off cs) (fillIn tm r))

def boolEqD (a b : Bool) : Bool := match a with
  | true => b
  | false => !b

/-- Are two values of a plain type the same? -/
def cellEq (k : PK) (x y : V) : Option Bool := match k with
  | .bool => match x, y with
    | .bool a, .bool b => some (boolEqD a b)
    | _, _ => none
  | .int => match x, y with
    | .int j a, .int k b => chk (kindEq j k) (some (intEq a b))
    | _, _ => none
  | .str => match x, y with
    | .str a, .str b => some (natsEq a b)
    | _, _ => none
  | .no => none

def eqBool : V → V → Option Bool
  | .bool a, .bool b => some (boolEqD a b)
  | _, _ => none

def eqPtr : V → V → Option Bool
  | .nilPtr, .nilPtr => some true
  | .nilPtr, .ptr _ _ => some false
  | .ptr _ _, .nilPtr => some false
  | .ptr l a, .ptr m b => chk (lbEq l m) (some (Nat.beq a b))
  | _, _ => none

/-- Two interface values: by their types and values, where both are of one plain type ('plain'). 'lit': one of them is written out. -/
def eqIface (plain : TypeId → PK) (lit : Bool) : V → V → Option Bool
  | .nilIface, .nilIface => chk lit (some true)
  | .nilIface, .iface _ _ => some false
  | .iface _ _, .nilIface => some false
  | .iface a x, .iface b y => match Nat.beq a b with
    | false => some false
    | true => cellEq (plain a) x y
  | _, _ => none

def eqSlice : V → V → Option Bool
  | .nilSlice _, .nilSlice _ => some true
  | .nilSlice _, .slice _ _ _ _ => some false
  | .slice _ _ _ _, .nilSlice _ => some false
  | _, _ => none

def eqMap : V → V → Option Bool
  | .nilMap, .nilMap => some true
  | .nilMap, .map _ => some false
  | .map _, .nilMap => some false
  | _, _ => none

def eqFunc : V → V → Option Bool
  | .nilFunc, .nilFunc => some true
  | .nilFunc, .func _ _ _ => some false
  | .func _ _ _, .nilFunc => some false
  | _, _ => none

/-- == of what is no number and no text. -/
def eqOp (plain : TypeId → PK) (k : EK) (x y : V) : Option Bool := match k with
  | .bool => eqBool x y
  | .ptr => eqPtr x y
  | .iface lit => eqIface plain lit x y
  | .slice => eqSlice x y
  | .map => eqMap x y
  | .func => eqFunc x y
  | .none => none

def binOp (plain : TypeId → PK) (op : BinOp) (ek : EK) : V → V → Option V
  | .int j a, .int k b => match op with
    | .shl => shiftOp .shl j a b
    | .shr => shiftOp .shr j a b
    | op => chk (kindEq j k) (intOp op j a b)
  | .str a, .str b => strOp op a b
  | x, y => match op with
    | .eql => ob (eqOp plain ek x y) fun b => some (.bool b)
    | .neq => ob (eqOp plain ek x y) fun b => some (.bool (!b))
    | _ => none

def maxOf (k : IntKind) : Int := match IK.sgn k with
  | true => Int.ofNat (IK.half k - 1)
  | false => Int.ofNat (IK.top k - 1)

def allOnes (k : IntKind) : Int := match IK.sgn k with
  | true => Int.negSucc 0
  | false => maxOf k

def unOp (op : UnOp) (x : V) : Option V :=
  match op, x with
  | .neg, .int k n => intOp .sub k 0 n
  | .xor, .int k n => intOp .xor k (allOnes k) n
  | .not, .bool b => some (.bool (!b))
  | _, _ => none

/-- A bound of a slice expression, from 0 to y. -/
def bound (v : V) (y : Nat) : Option Nat := match v with
  | .int _ (.ofNat i) => chk (Nat.ble i y) (some i)
  | _ => none

def boundO (o : Option V) (y dflt : Nat) : Option Nat := match o with
  | some v => bound v y
  | none => some dflt

def sliceStrOp (s : List Nat) (lo hi : Option V) : Option V :=
  ob (boundO hi s.length s.length) fun h => ob (boundO lo h 0) fun l => some (.str ((s.take h).drop l))

def sliceEnd (a : Lb) (off size l h m : Nat) : V :=
  .slice a (match Nat.beq m l with | true => off | false => off + l * size) (h - l) (.exact (m - l))

def sliceOp (size : Nat) (x : V) (lo hi mx : Option V) : Option V := match x with
  | .nilSlice c => ob (boundO mx c c) fun m => ob (boundO hi m 0) fun h => ob (boundO lo h 0) fun l => chk (Nat.beq h 0) (some (.nilSlice (m - l)))
  | .slice a off len (.exact c) => ob (boundO mx c c) fun m => ob (boundO hi m len) fun h => ob (boundO lo h 0) fun l => some (sliceEnd a off size l h m)
  | .slice a off len (.toEnd es) => chk (Nat.beq es size) (match mx with
    | some v => ob (bound v len) fun m => ob (boundO hi m m) fun h => ob (boundO lo h 0) fun l => some (sliceEnd a off size l h m)
    | none => ob (boundO hi len len) fun h => ob (boundO lo h 0) fun l => chk (Nat.blt l len || Nat.beq l 0) (some (.slice a (off + l * size) (h - l) (.toEnd size))))
  | _ => none

def sliceArrOp (n size : Nat) (x : V) (lo hi mx : Option V) : Option V := match x with
  | .ptr a off => ob (boundO mx n n) fun m => ob (boundO hi m n) fun h => ob (boundO lo h 0) fun l => some (sliceEnd a off size l h m)
  | _ => none

def idxNat (v : V) (n : Nat) : Option Nat := match v with
  | .int _ (.ofNat i) => chk (Nat.blt i n) (some i)
  | _ => none

def indexAddrOp (size : Nat) (x i : V) : Option V := match x with
  | .slice a off len _ => ob (idxNat i len) fun i => some (.ptr a (off + i * size))
  | _ => none

def indexArrOp (n size : Nat) (x i : V) : Option V := match x with
  | .ptr a off => ob (idxNat i n) fun i => some (.ptr a (off + i * size))
  | _ => none

def indexStrOp (x i : V) : Option V := match x, i with
  | .str s, .int _ (.ofNat i) => ob (s[i]?) fun b => some (.int .u8 (Int.ofNat b))
  | _, _ => none

def indexAggOp (rd : Rd) (n size : Nat) (x i : V) : Option V := match x with
  | .agg cs => ob (idxNat i n) fun i => rdPart rd cs (i * size)
  | _ => none

def okV (ok : Bool) (v : V) (b : Bool) : V := match ok with
  | true => .tuple [v, .bool b]
  | false => v

def assertTOp (t : TypeId) (zero : V) (ok : Bool) (x : V) : Option V := match x with
  | .nilIface => chk ok (some (okV true zero false))
  | .iface u v => match Nat.beq u t with
    | true => some (okV ok v true)
    | false => chk ok (some (okV true zero false))
  | _ => none

/-- 'has': has a type all these methods? none: there is no such type. -/
def assertIOp (has : TypeId → Option Bool) (zero : V) (ok : Bool) (x : V) : Option V := match x with
  | .nilIface => chk ok (some (okV true zero false))
  | .iface u v => ob (has u) fun b => match b with
    | true => some (okV ok (.iface u v) true)
    | false => chk ok (some (okV true zero false))
  | _ => none

def lenStrOp : V → Option V
  | .str s => some (.int .i64 (Int.ofNat s.length))
  | _ => none

def lenSliceOp : V → Option V
  | .slice _ _ n _ => some (.int .i64 (Int.ofNat n))
  | .nilSlice _ => some (.int .i64 (Int.ofNat 0))
  | _ => none

def capOp : V → Option V
  | .slice _ _ _ (.exact c) => some (.int .i64 (Int.ofNat c))
  | .nilSlice c => some (.int .i64 (Int.ofNat c))
  | _ => none

def pickI (b : Bool) (x y : Int) : Int := match b with
  | true => x
  | false => y

def maxOp : V → V → Option V
  | .int k x, .int _ y => some (.int k (pickI (intLt x y) y x))
  | _, _ => none

def minOp : V → V → Option V
  | .int k x, .int _ y => some (.int k (pickI (intLt y x) y x))
  | _, _ => none

def sliceDataOp : V → Option V
  | .nilSlice _ => some .nilPtr
  | .slice a off _ (.exact (_ + 1)) => some (.ptr a off)
  | .slice a off (_ + 1) (.toEnd _) => some (.ptr a off)
  | _ => none

def nilCheckOp : V → Option V
  | .ptr a off => some (.ptr a off)
  | .func f a b => some (.func f a b)
  | _ => none

def strSameOp : V → Option V
  | .str s => some (.str s)
  | _ => none

def extractOp (i : Nat) : V → Option V
  | .tuple vs => vs[i]?
  | _ => none

mutual
def vEq : V → V → Bool
  | .bool a, .bool b => match a with | true => b | false => !b
  | .int j a, .int k b => kindEq j k && intEq a b
  | .str a, .str b => natsEq a b
  | .nilPtr, .nilPtr => true
  | .ptr l a, .ptr m b => lbEq l m && Nat.beq a b
  | .nilSlice a, .nilSlice b => Nat.beq a b
  | .slice l a n c, .slice m b k d => lbEq l m && Nat.beq a b && Nat.beq n k && (match c, d with
    | .exact c, .exact d => Nat.beq c d
    | .toEnd c, .toEnd d => Nat.beq c d
    | _, _ => false)
  | .nilMap, .nilMap => true
  | .map a, .map b => lbEq a b
  | .func f a b, .func g c d => Nat.beq f g && vsEq a c && vsEq b d
  | .nilFunc, .nilFunc => true
  | .iface t a, .iface u b => Nat.beq t u && vEq a b
  | .nilIface, .nilIface => true
  | .agg a, .agg b => vsEq a b
  | .tuple a, .tuple b => vsEq a b
  | .sym a n, .sym b m => lbEq a b && Nat.beq n m
  | _, _ => false
def vsEq : List V → List V → Bool
  | [], [] => true
  | a :: x, b :: y => vEq a b && vsEq x y
  | _, _ => false
end

/-! ### what reads memory -/

/-- A question to memory. -/
inductive Q where
  | load (rd : Rd) (l : Lb) (off : Nat)
  | lookup (pk : PK) (zero : V) (ok : Bool) (m k : V)
  | bytes (x : V)
  | row (l : Lb) (off : Nat)
  | whole (u : TypeId) (n : Nat) (l : Lb) (off : Nat)
  | mapLen (m : V)
  /-- is it as it was made? -/
  | fresh (t : TypeId) (cells : List V) (l : Lb) (off : Nat)

def findK (pk : PK) (k : V) : List (V × V × Nat) → Option (Option (Nat × V))
  | [] => some none
  | (x, v, _) :: es => ob (cellEq pk k x) fun b => match b with
    | true => some (some (0, v))
    | false => ob (findK pk k es) fun r => some (match r with | some (i, v) => some (i + 1, v) | none => none)

def bytesIn : List V → Option (List Nat)
  | [] => some []
  | .int .u8 (.ofNat n) :: r => chk (Nat.blt n 256) (ob (bytesIn r) fun l => some (n :: l))
  | _ :: _ => none

def Q.ask (h : H) : Q → Option V
  | .load rd l off => match h.get l with
    | some (.cells vs _ _ _) => rdPart rd vs off
    | _ => none
  | .lookup pk z ok m k => match m with
    | .nilMap => some (match ok with | true => .tuple [z, .bool false] | false => z)
    | .map r => match h.get r with
      | some (.map es _) => ob (findK pk k es) fun r => some (match r with
        | some (_, v) => okV ok v true
        | none => okV ok z false)
      | _ => none
    | _ => none
  | .bytes x => match x with
    | .nilSlice _ => some (.str [])
    | .slice l off n _ => match h.get l with
      | some (.cells vs _ _ _) => ob (rowFrom vs off n) fun r => ob (bytesIn r) fun b => some (.str b)
      | _ => none
    | _ => none
  | .row l off => match h.get l with
    | some (.cells vs _ _ _) => chk (Nat.blt off vs.length) (some (.ptr l off))
    | _ => none
  | .whole u n l off => match h.get l with
    | some (.cells vs e _ _) => chk (Nat.beq e u && Nat.beq vs.length n && Nat.beq off 0) (some (.ptr l off))
    | _ => none
  | .mapLen m => match m with
    | .nilMap => some (.int .i64 (Int.ofNat 0))
    | .map m => match h.get m with
      | some (.map es _) => some (.int .i64 (Int.ofNat es.length))
      | _ => none
    | _ => none
  | .fresh t cs l off => match h.get l with
    | some (.cells vs e 0 .yes) => chk (Nat.beq e t && vsEq vs cs && Nat.beq off 0) (some (.ptr l 0))
    | _ => none

def reqPtr (f : Lb → Nat → Q) : V → Option Q
  | .ptr a off => some (f a off)
  | _ => none

/-- Is it a key of a plain type? -/
def plainKey : PK → V → Bool
  | .str, .str _ => true
  | .int, .int _ _ => true
  | _, _ => false

/-! ### what writes memory, or makes some -/

def flatV : V → Bool
  | .agg _ => false
  | .tuple _ => false
  | _ => true

def flats : List V → Bool
  | [] => true
  | v :: vs => flatV v && flats vs

/-- Cells of an address are stored anew. -/
def storeV (h : H) (l : Lb) (off : Nat) (cs : List V) : Option H :=
  match h.get l with
  | some (.cells vs e fz own) => chk (own.may && Nat.ble fz off && flats cs) (ob (putFrom vs off cs) fun vs' => some (h.set l (.cells vs' e fz own)))
  | _ => none

def natCells : List Nat → List V
  | [] => []
  | b :: r => .int .u8 (Int.ofNat b) :: natCells r

/-- The cells of a slice's or a text's elements, and how many elements these are. -/
def elemsV (h : H) (size : Nat) : V → Option (Nat × List V)
  | .nilSlice _ => some (0, [])
  | .slice l off n _ => match h.get l with
    | some (.cells vs _ _ _) => ob (rowFrom vs off (n * size)) fun r => some (n, r)
    | _ => none
  | .str s => chk (Nat.beq size 1) (some (s.length, natCells s))
  | _ => none

/-- The greatest size of memory that is asked for here, in bytes. -/
def mostBytes : Nat := 1099511627776

/-- n elements are put behind a slice. -/
def appendV (h : H) (e : TypeId) (size bytes : Nat) (s : V) (n : Nat) (new : List V) : Option (V × H) :=
  match s with
  | .nilSlice c => match Nat.ble n c with
    | true => chk (Nat.beq n 0) (some (.nilSlice c, h))
    | false => chk (Nat.ble (4 * n * bytes) mostBytes) (some (.slice h.next 0 n (.toEnd size), h.add (.cells new e 0 .yes)))
  | .slice l off len cap => chk (Nat.ble (4 * (len + n) * bytes) mostBytes) (match cap with
    | .exact c => match Nat.ble (len + n) c with
      | true => ob (storeV h l (off + len * size) new) fun h' => some (.slice l off (len + n) (.exact c), h')
      | false => match h.get l with
        | some (.cells vs _ _ _) => chk (Nat.blt 0 n) <| ob (rowFrom vs off (len * size)) fun old => some (.slice h.next 0 (len + n) (.toEnd size), h.add (.cells (old ++ new) e 0 .yes))
        | _ => none
    | .toEnd es => chk (Nat.beq es size) (match h.get l with
      | some (.cells vs el fz own) => chk (own.may && Nat.beq el e) (match Nat.ble (off + (len + n) * size) vs.length with
        | true => ob (storeV h l (off + len * size) new) fun h' => some (.slice l off (len + n) (.toEnd size), h')
        | false => chk (Nat.beq off 0 && Nat.beq (off + len * size) vs.length && Nat.ble fz vs.length && flats new)
            (some (.slice h.next 0 (len + n) (.toEnd size), (h.del l).add (.cells (dropN off vs ++ new) e (fz - off) own))))
      | _ => none))
  | _ => none

def setNth : List (V × V × Nat) → Nat → V → V → List (V × V × Nat)
  | [], _, _, _ => []
  | (_, _, b) :: es, 0, k, v => (k, v, b) :: es
  | e :: es, i + 1, k, v => e :: setNth es i k v

def bornAt : List (V × V × Nat) → Nat → Nat
  | [], _ => 0
  | (_, _, b) :: _, 0 => b
  | _ :: es, i + 1 => bornAt es i

def mapSet (pk : PK) (k v : V) (es : List (V × V × Nat)) (clock : Nat) : Option Obj :=
  ob (findK pk k es) fun r => match r with
    | some (i, _) => some (.map (setNth es i k v) clock)
    | none => some (.map (es ++ [(k, v, clock)]) (clock + 1))

def setBorn : List (V × V × Nat) → Nat → V → Option (List (V × V × Nat))
  | [], _, _ => none
  | (k, w, b) :: es, born, v => match Nat.beq b born with
    | true => some ((k, v, b) :: es)
    | false => ob (setBorn es born v) fun r => some ((k, w, b) :: r)

def withMap (h : H) (m : V) (f : Lb → List (V × V × Nat) → Nat → Option (V × H)) : Option (V × H) := match m with
  | .map r => match h.get r with
    | some (.map es clock) => f r es clock
    | _ => none
  | _ => none

def fillParts (tm : T V) (size : Nat) : List (Nat × X) → List V → Option (List V)
  | [], cells => some cells
  | (i, x) :: r, cells =>
    let cs := (x.ev tm).cells
    chk (Nat.beq cs.length size) (ob (putFrom cells (i * size) cs) (fillParts tm size r))

def makeSliceV (h : H) (e : TypeId) (size bytes : Nat) (zero : List V) (n c : V) : Option (V × H) := match n, c with
  | .int .i64 (.ofNat n), .int .i64 (.ofNat c) =>
    chk (Nat.ble n c && Nat.ble (c * bytes) mostBytes && Nat.ble c 1048576 && Nat.beq zero.length size && Nat.blt 0 size) (some (.slice h.next 0 n (.exact c), h.add (.cells (repeatCells zero c) e 0 .yes)))
  | _, _ => none

def eraseNth : List (V × V × Nat) → Nat → List (V × V × Nat)
  | [], _ => []
  | _ :: es, 0 => es
  | e :: es, i + 1 => e :: eraseNth es i

def bornsOf : List (V × V × Nat) → List Nat
  | [] => []
  | (_, _, b) :: es => b :: bornsOf es

def allFrom (n : Nat) : List (V × V × Nat) → Bool
  | [] => true
  | (_, _, b) :: es => Nat.ble n b && allFrom n es

def hasNat (n : Nat) : List Nat → Bool
  | [] => false
  | m :: l => Nat.beq n m || hasNat n l

def leftOf (seen : List Nat) : List (V × V × Nat) → List (V × V × Nat)
  | [] => []
  | (k, v, b) :: es => match hasNat b seen with
    | true => leftOf seen es
    | false => (k, v, b) :: leftOf seen es

/-- A step over a map: where there is one way alone. -/
def nextV (h : H) (l : Lb) : Option (V × H) := match h.get l with
  | some (.mapIter none _ _ _) => some (.tuple [.bool false], h)
  | some (.mapIter (some m) since seen last) => match h.get m with
    | some (.map es clock) => chk (seen.isEmpty || es.isEmpty || !allFrom last es) (match leftOf seen es with
      | [] => some (.tuple [.bool false], h)
      | [(k, v, b)] => chk (Nat.blt b since) (some (.tuple [.bool true, k, v], h.set l (.mapIter (some m) since (seen ++ [b]) clock)))
      | _ => none)
    | _ => none
  | _ => none

/-- A text that shares a row's first bytes: these are frozen. -/
def unsafeStrV (h : H) (e : TypeId) (x n : V) : Option (V × H) := match x, n with
  | .nilPtr, .int .i64 (.ofNat 0) => some (.str [], h)
  | .ptr _ _, .int .i64 (.ofNat 0) => some (.str [], h)
  | .ptr l 0, .int .i64 (.ofNat (n + 1)) => match h.get l with
    | some (.cells vs el fz .yes) => chk (Nat.beq el e && Nat.ble n 1048576) (ob (takeN (n + 1) vs) fun r => ob (bytesIn r) fun b => some (.str b, h.set l (.cells vs el (Nat.max fz (n + 1)) .yes)))
    | _ => none
  | _, _ => none

/-- So many elements are put over a slice's first ones. -/
def copyV (h : H) (size : Nat) (d s : V) : Option (V × H) := ob (elemsV h size s) fun r => match d with
  | .nilSlice _ => some (.int .i64 0, h)
  | .slice l off len _ => ob (takeN (Nat.min r.1 len * size) r.2) fun cs => match cs with
    | [] => some (.int .i64 (Int.ofNat (Nat.min r.1 len)), h)
    | c :: cs => ob (storeV h l off (c :: cs)) fun h' => some (.int .i64 (Int.ofNat (Nat.min r.1 len)), h')
  | _ => none

/-! ### the operations -/

/-- What is asked of the program while it runs. -/
structure Env where
  /-- an integer type, a text's, a bool's: comparable as it stands -/
  plain : TypeId → PK
  /-- has a type these methods? -/
  has : Array (String × TypeId) → TypeId → Option Bool
  /-- a type's method: its function -/
  meth : TypeId → String → Option FuncId

def PD.eval (E : Env) (tm : T V) : PD → Option V
  | .pick c a b => match c.ev tm with
    | .bool true => some (a.ev tm)
    | .bool false => some (b.ev tm)
    | _ => none
  | .build z ps => ob (fillIn tm ps z) fun cs => some (.agg cs)
  | .nilCheck x => nilCheckOp (x.ev tm)
  | .bin op ek x y => binOp E.plain op ek (x.ev tm) (y.ev tm)
  | .un op x => unOp op (x.ev tm)
  | .toInt k x => match x.ev tm with
    | .int _ n => some (.int k (wrapD k n))
    | _ => none
  | .runeStr x => match x.ev tm with
    | .int _ n => some (.str ((Utf8.encode n).data.toList.map (·.toNat)))
    | _ => none
  | .strSame x => strSameOp (x.ev tm)
  | .mkIface t x => some (.iface t (x.ev tm))
  | .mkFunc f a b => some (.func f (evs tm a) (evs tm b))
  | .sliceStr x lo hi => match x.ev tm with
    | .str s => sliceStrOp s (evo tm lo) (evo tm hi)
    | _ => none
  | .slice size x lo hi mx => sliceOp size (x.ev tm) (evo tm lo) (evo tm hi) (evo tm mx)
  | .sliceArr n size x lo hi mx => sliceArrOp n size (x.ev tm) (evo tm lo) (evo tm hi) (evo tm mx)
  | .fieldAddr o x => match x.ev tm with
    | .ptr a off => some (.ptr a (off + o))
    | _ => none
  | .field rd o x => match x.ev tm with
    | .agg cs => rdPart rd cs o
    | _ => none
  | .indexAddr size x i => indexAddrOp size (x.ev tm) (i.ev tm)
  | .indexAddrArr n size x i => indexArrOp n size (x.ev tm) (i.ev tm)
  | .indexStr x i => indexStrOp (x.ev tm) (i.ev tm)
  | .indexAgg rd n size x i => indexAggOp rd n size (x.ev tm) (i.ev tm)
  | .assertI w z ok x => assertIOp (E.has w) z ok (x.ev tm)
  | .assertT t z ok x => assertTOp t z ok (x.ev tm)
  | .extract i x => extractOp i (x.ev tm)
  | .lenStr x => lenStrOp (x.ev tm)
  | .lenSlice x => lenSliceOp (x.ev tm)
  | .lenArr n => some (.int .i64 (Int.ofNat n))
  | .cap x => capOp (x.ev tm)
  | .maxI x y => maxOp (x.ev tm) (y.ev tm)
  | .minI x y => minOp (x.ev tm) (y.ev tm)
  | .sliceData x => sliceDataOp (x.ev tm)

def RD.req (tm : T V) : RD → Option Q
  | .load rd x => reqPtr (.load rd) (x.ev tm)
  | .lookup pk z ok m k => chk (plainKey pk (k.ev tm)) (some (.lookup pk z ok (m.ev tm) (k.ev tm)))
  | .bytesStr x => some (.bytes (x.ev tm))
  | .ptrUnsafe x => reqPtr .row (x.ev tm)
  | .unsafePtr u n x => reqPtr (.whole u n) (x.ev tm)
  | .mapLen x => some (.mapLen (x.ev tm))
  | .fresh t cs x => reqPtr (.fresh t cs) (x.ev tm)

def ED.run (tm : T V) (h : H) : ED → Option (V × H)
  | .store n a x => match a.ev tm with
    | .ptr l off => let cs := (x.ev tm).cells; chk (Nat.beq cs.length n) (ob (storeV h l off cs) fun h' => some (undef, h'))
    | _ => none
  | .alloc t cs => some (.ptr h.next 0, h.add (.cells cs t 0 .yes))
  | .box t x => some (.ptr h.next 0, h.add (.cells (x.ev tm).cells t 0 .yes))
  | .buildSlice e size n cs ps => ob (fillParts tm size ps cs) fun cs => some (.slice h.next 0 n (.exact n), h.add (.cells cs e 0 .yes))
  | .strBytes e x => match x.ev tm with
    | .str b => chk (Nat.ble b.length 1048576) (some (.slice h.next 0 b.length (.toEnd 1), h.add (.cells (natCells b) e 0 .marked)))
    | _ => none
  | .unsafeStr e x n => unsafeStrV h e (x.ev tm) (n.ev tm)
  | .makeMap => some (.map h.next, h.add (.map [] 0))
  | .makeSlice e size bytes z n c => makeSliceV h e size bytes z (n.ev tm) (c.ev tm)
  | .mapUpdate pk m k x => chk (plainKey pk (k.ev tm)) (withMap h (m.ev tm) fun r es clock => ob (mapSet pk (k.ev tm) (x.ev tm) es clock) fun o => some (undef, h.set r o))
  | .mapEntry pk z m k => chk (plainKey pk (k.ev tm)) (withMap h (m.ev tm) fun r es clock => ob (findK pk (k.ev tm) es) fun f => match f with
    | some (i, v) => some (.tuple [v, .int .i64 (Int.ofNat (bornAt es i))], h.set r (.map (setNth es i (k.ev tm) v) clock))
    | none => some (.tuple [z, .int .i64 (Int.ofNat clock)], h.set r (.map (es ++ [(k.ev tm, z, clock)]) (clock + 1))))
  | .entryStore m s x => withMap h (m.ev tm) fun r es clock => match s.ev tm with
    | .int _ (.ofNat b) => ob (setBorn es b (x.ev tm)) fun es' => some (undef, h.set r (.map es' clock))
    | _ => none
  | .rangeStr x => match x.ev tm with
    | .str s => some (.ptr h.next 0, h.add (.strIter s 0))
    | _ => none
  | .rangeMap x => match x.ev tm with
    | .nilMap => some (.ptr h.next 0, h.add (.mapIter none 0 [] 0))
    | .map m => match h.get m with
      | some (.map _ clock) => some (.ptr h.next 0, h.add (.mapIter (some m) clock [] clock))
      | _ => none
    | _ => none
  | .next x => match x.ev tm with
    | .ptr l 0 => nextV h l
    | _ => none
  | .append e size bytes s x => ob (elemsV h size (x.ev tm)) fun r => appendV h e size bytes (s.ev tm) r.1 r.2
  | .appendZeros e size bytes z s n => match n.ev tm with
    | .int .i64 (.ofNat n) => chk (Nat.ble n 1048576 && Nat.ble (n * bytes) mostBytes) (appendV h e size bytes (s.ev tm) n (repeatCells z n))
    | _ => none
  | .copy size d s => copyV h size (d.ev tm) (s.ev tm)
  | .clearMap x => match x.ev tm with
    | .nilMap => some (undef, h)
    | m => withMap h m fun r _ clock => some (undef, h.set r (.map [] clock))
  | .delete pk m k => chk (plainKey pk (k.ev tm)) (withMap h (m.ev tm) fun r es clock => ob (findK pk (k.ev tm) es) fun f => match f with
    | some (i, _) => some (undef, h.set r (.map (eraseNth es i) clock))
    | none => some (undef, h))

def CD.args (E : Env) (tm : T V) : CD → Option (FuncId × List V)
  | .func f args => some (f, evs tm args)
  | .value f args => match f.ev tm with
    | .func f a b => some (f, a ++ evs tm args ++ b)
    | _ => none
  | .invoke r name args => match r.ev tm with
    | .iface t v => ob (E.meth t name) fun f => some (f, v :: evs tm args)
    | _ => none

end Go.Dx
