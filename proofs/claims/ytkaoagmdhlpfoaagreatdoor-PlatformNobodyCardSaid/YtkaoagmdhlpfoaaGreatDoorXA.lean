/-
  A deterministic machine over labels: the definitions. Its values, its heap, its operations.
  Nothing hangs on the tape: where the model draws (a capacity, an order), the machine keeps what holds for every draw, or gives up ('none').
  The deterministic machine over labels: how code runs on it.
  The deterministic machine over labels: how the model's code is compiled to it.
  The deterministic machine over labels: functions that are taken by what they do (body-less ones, and a few of the library's).
  The deterministic machine once more, in words that the kernel works off fast (recursors, tables of constants): each equals the plain one.
-/
import Derived.Calls
import GoSem.Dispatch
import Derived.Orders
namespace Go.Dx
open Go

def ob {α β : Type} (x : Option α) (f : α → Option β) : Option β :=
  match x with
  | some v => f v
  | none => none

/-- A test that must hold. -/
def chk {β : Type} (b : Bool) (k : Option β) : Option β := match b with
  | true => k
  | false => none

/-- A place in a tree: the figures of a number, the lowest first. -/
abbrev Lb := List Bool

def pathGo : Nat → Nat → Lb
  | 0, _ => []
  | f + 1, n => if n == 0 then [] else (n % 2 == 1) :: pathGo f (n / 2)
def pathOf (n : Nat) : Lb := pathGo 64 n

def inc : Lb → Lb
  | [] => [true]
  | false :: r => true :: r
  | true :: r => false :: inc r

def lbEq : Lb → Lb → Bool
  | [], [] => true
  | true :: a, true :: b => lbEq a b
  | false :: a, false :: b => lbEq a b
  | _, _ => false

inductive T (α : Type) where
  | leaf
  | node (l : T α) (v : Option α) (r : T α)

def T.get {α : Type} : T α → Lb → Option α
  | .leaf, _ => none
  | .node _ v _, [] => v
  | .node l _ _, false :: p => l.get p
  | .node _ _ r, true :: p => r.get p

def T.set {α : Type} : T α → Lb → Option α → T α
  | .leaf, [], x => .node .leaf x .leaf
  | .leaf, false :: p, x => .node (T.set .leaf p x) none .leaf
  | .leaf, true :: p, x => .node .leaf none (T.set .leaf p x)
  | .node l _ r, [], x => .node l x r
  | .node l v r, false :: p, x => .node (l.set p x) v r
  | .node l v r, true :: p, x => .node l v (r.set p x)

inductive Cap where
  | exact (c : Nat)
  /-- to the end of its block, elements of so many cells -/
  | toEnd (size : Nat)

inductive V where
  | bool (b : Bool)
  | int (k : IntKind) (n : Int)
  | str (s : List Nat)
  | nilPtr
  | ptr (l : Lb) (off : Nat)
  | nilSlice (cap : Nat)
  | slice (l : Lb) (off : Nat) (len : Nat) (cap : Cap)
  | nilMap
  | map (r : Lb)
  | func (f : FuncId) (first captured : List V)
  | nilFunc
  | iface (t : TypeId) (v : V)
  | nilIface
  | agg (cells : List V)
  | tuple (vs : List V)
  /-- a value that came in: of which is known that it is one cell -/
  | sym (l : Lb) (size : Nat)
  /-- any value of one cell -/
  | any
  /-- a slice that holds nothing and is not nil -/
  | empty
  /-- a number that came in: from lo to hi -/
  | rng (lo hi : Int)
  deriving Inhabited

def undef : V := .tuple []

def V.cells : V → List V
  | .agg cs => cs
  | v => [v]

/-- The machine's value of a constant. -/
def ofFlat : Value → Option V
  | .bool b => some (.bool b)
  | .int k n => some (.int k n)
  | .string s => some (.str (s.data.toList.map (·.toNat)))
  | .pointer none => some .nilPtr
  | .slice none 0 0 => some (.nilSlice 0)
  | .map none => some .nilMap
  | .func (.func f) ⟨[]⟩ ⟨[]⟩ => some (.func f [] [])
  | .nilFunc => some .nilFunc
  | .nilIface => some .nilIface
  | .tuple ⟨[]⟩ => some (.tuple [])
  | _ => none

def ofFlats : List Value → Option (List V)
  | [] => some []
  | v :: vs => ob (ofFlat v) fun d => ob (ofFlats vs) fun ds => some (d :: ds)

def ofConst : Value → Option V
  | .agg cs => ob (ofFlats cs.toList) fun ds => some (.agg ds)
  | v => ofFlat v

/-! ### the heap -/

/-- May a row be written? 'marked': yes, and behind its last cell it bears a mark. -/
inductive Own where
  | no
  | yes
  | marked

def Own.may : Own → Bool
  | .no => false
  | _ => true

inductive Obj where
  /-- a row: its first so many cells; the first 'fz' of them may be frozen; 'own': may it be written? -/
  | cells (vs : List V) (elem : TypeId) (fz : Nat) (own : Own)
  | map (es : List (V × V × Nat)) (clock : Nat)
  | strIter (s : List Nat) (pos : Nat)
  | mapIter (m : Option Lb) (since : Nat) (seen : List Nat) (stepped : Nat)

structure H where
  t : T Obj
  next : Lb

def H.get (h : H) (l : Lb) : Option Obj := h.t.get l
def H.set (h : H) (l : Lb) (o : Obj) : H := { t := h.t.set l (some o), next := h.next }
def H.del (h : H) (l : Lb) : H := { t := h.t.set l none, next := h.next }
def H.add (h : H) (o : Obj) : H := { t := h.t.set h.next (some o), next := inc h.next }

/-! ### lists -/

/-- n cells from i on; none: they are not all there. -/
def takeN : Nat → List V → Option (List V)
  | 0, _ => some []
  | n + 1, v :: vs => ob (takeN n vs) fun r => some (v :: r)
  | _ + 1, [] => none

def dropN : Nat → List V → List V
  | 0, vs => vs
  | n + 1, _ :: vs => dropN n vs
  | _ + 1, [] => []

def rowFrom (vs : List V) (i n : Nat) : Option (List V) := takeN n (dropN i vs)

/-- Cells put over a list's, from i on; none: they do not all fit. -/
def putFrom : List V → Nat → List V → Option (List V)
  | vs, 0, [] => some vs
  | _ :: vs, 0, x :: xs => ob (putFrom vs 0 xs) fun r => some (x :: r)
  | [], 0, _ :: _ => none
  | v :: vs, i + 1, xs => ob (putFrom vs i xs) fun r => some (v :: r)
  | [], _ + 1, _ => none

def repeatCells (z : List V) : Nat → List V
  | 0 => []
  | n + 1 => z ++ repeatCells z n

def natsLess : List Nat → List Nat → Bool
  | _, [] => false
  | [], _ :: _ => true
  | a :: x, b :: y => Nat.blt a b || (Nat.beq a b && natsLess x y)

def natsEq : List Nat → List Nat → Bool
  | [], [] => true
  | a :: x, b :: y => Nat.beq a b && natsEq x y
  | _, _ => false

/-! ### numbers -/

/-- 2 ^ bits, as literals. -/
def IK.top : IntKind → Nat
  | .i8 | .u8 => 256
  | .i16 | .u16 => 65536
  | .i32 | .u32 => 4294967296
  | .i64 | .u64 => 18446744073709551616

def IK.half : IntKind → Nat
  | .i8 | .u8 => 128
  | .i16 | .u16 => 32768
  | .i32 | .u32 => 2147483648
  | .i64 | .u64 => 9223372036854775808

def IK.sgn : IntKind → Bool
  | .i8 | .i16 | .i32 | .i64 => true
  | _ => false

/-- The least number that is not below zero and equal but for tops. -/
def lowNat (top : Nat) : Int → Nat
  | .ofNat m => m % top
  | .negSucc m => top - 1 - m % top

def backInt (sgn : Bool) (half top m : Nat) : Int := match sgn && Nat.ble half m with
  | true => Int.negSucc (top - 1 - m)
  | false => Int.ofNat m

def wrapD (k : IntKind) (n : Int) : Int := backInt (IK.sgn k) (IK.half k) (IK.top k) (lowNat (IK.top k) n)

def bitsD (f : Nat → Nat → Nat) (k : IntKind) (x y : Int) : V :=
  .int k (backInt (IK.sgn k) (IK.half k) (IK.top k) (f (lowNat (IK.top k) x) (lowNat (IK.top k) y)))

def intLt : Int → Int → Bool
  | .ofNat a, .ofNat b => Nat.blt a b
  | .ofNat _, .negSucc _ => false
  | .negSucc _, .ofNat _ => true
  | .negSucc a, .negSucc b => Nat.blt b a

def intEq : Int → Int → Bool
  | .ofNat a, .ofNat b => Nat.beq a b
  | .negSucc a, .negSucc b => Nat.beq a b
  | _, _ => false

def kindEq : IntKind → IntKind → Bool
  | .i8, .i8 | .i16, .i16 | .i32, .i32 | .i64, .i64 | .u8, .u8 | .u16, .u16 | .u32, .u32 | .u64, .u64 => true
  | _, _ => false

def intOp (op : BinOp) (k : IntKind) (x y : Int) : Option V :=
  match op with
  | .add => some (.int k (wrapD k (x + y)))
  | .sub => some (.int k (wrapD k (x - y)))
  | .mul => some (.int k (wrapD k (x * y)))
  | .quo => chk (!intEq y 0) (some (.int k (wrapD k (x.tdiv y))))
  | .rem => chk (!intEq y 0) (some (.int k (x.tmod y)))
  | .and => some (bitsD Nat.land k x y)
  | .or => some (bitsD Nat.lor k x y)
  | .xor => some (bitsD Nat.xor k x y)
  | .andNot => some (bitsD (fun a b => Nat.xor a (Nat.land a b)) k x y)
  | .eql => some (.bool (intEq x y))
  | .neq => some (.bool (!intEq x y))
  | .lss => some (.bool (intLt x y))
  | .leq => some (.bool (!intLt y x))
  | .gtr => some (.bool (intLt y x))
  | .geq => some (.bool (!intLt x y))
  | _ => none

def bitsOf : IntKind → Nat
  | .i8 | .u8 => 8
  | .i16 | .u16 => 16
  | .i32 | .u32 => 32
  | .i64 | .u64 => 64

/-- A shift of a number that is not below zero. -/
def shiftOp (op : BinOp) (k : IntKind) (x y : Int) : Option V :=
  match y with
  | .ofNat n => match op, x with
    | .shl, .ofNat m => some (.int k (wrapD k (Int.ofNat (Nat.shiftLeft m (Nat.min n (bitsOf k))))))
    | .shr, .ofNat m => some (.int k (Int.ofNat (Nat.shiftRight m (Nat.min n (bitsOf k)))))
    | _, _ => none
  | .negSucc _ => none

def strOp : BinOp → List Nat → List Nat → Option V
  | .add, x, y => chk (Nat.blt (x.length + y.length) 9223372036854775807) (some (.str (x ++ y)))
  | .eql, x, y => some (.bool (natsEq x y))
  | .neq, x, y => some (.bool (!natsEq x y))
  | .lss, x, y => some (.bool (natsLess x y))
  | .leq, x, y => some (.bool (natsLess x y || natsEq x y))
  | .gtr, x, y => some (.bool (!(natsLess x y || natsEq x y)))
  | .geq, x, y => some (.bool (!natsLess x y))
  | _, _, _ => none

/-! ### operations, as they are compiled -/

/-- An operand. -/
inductive X where
  | t (p : Lb)
  | c (v : V)

/-- A plain type's kind. -/
inductive PK where
  | bool
  | int
  | str
  | no

/-- What kind of type a comparison is of, where that is no number and no text. -/
inductive EK where
  | bool
  | ptr
  | iface (lit : Bool)
  | slice
  | map
  | func
  /-- a struct, by its cells' kinds -/
  | agg (ks : List PK)
  | none

/-- What is read of memory: a cell, or a struct or an array of so many cells. -/
inductive Rd where
  | one
  | many (n : Nat)

/-- Operations that hang on their operands alone. -/
inductive PD where
  | pick (c a b : X)
  | build (zero : List V) (parts : List (Nat × Nat × X))
  | nilCheck (x : X)
  | bin (op : BinOp) (ek : EK) (x y : X)
  | un (op : UnOp) (x : X)
  | toInt (k : IntKind) (x : X)
  | runeStr (x : X)
  | strSame (x : X)
  | mkIface (t : TypeId) (x : X)
  | mkFunc (f : FuncId) (first captured : List X)
  | sliceStr (x : X) (lo hi : Option X)
  | slice (size : Nat) (x : X) (lo hi mx : Option X)
  | sliceArr (n size : Nat) (x : X) (lo hi mx : Option X)
  | fieldAddr (off : Nat) (x : X)
  | field (rd : Rd) (off : Nat) (x : X)
  | indexAddr (size : Nat) (x i : X)
  | indexAddrArr (n size : Nat) (x i : X)
  | indexStr (x i : X)
  | indexAgg (rd : Rd) (n size : Nat) (x i : X)
  | assertI (want : Array (String × TypeId)) (zero : V) (ok : Bool) (x : X)
  | assertT (t : TypeId) (zero : V) (ok : Bool) (x : X)
  | extract (i : Nat) (x : X)
  | lenStr (x : X)
  | lenSlice (x : X)
  | lenArr (n : Nat)
  | cap (x : X)
  | maxI (x y : X)
  | minI (x y : X)
  | sliceData (x : X)
  | arrPtr (n : Nat) (x : X)

/-- Operations that read memory. -/
inductive RD where
  | load (rd : Rd) (x : X)
  | lookup (pk : PK) (zero : V) (ok : Bool) (m k : X)
  | bytesStr (x : X)
  | ptrUnsafe (x : X)
  | unsafePtr (u : TypeId) (n : Nat) (x : X)
  | mapLen (x : X)
  | fresh (t : TypeId) (cells : List V) (x : X)
  | freshS (e : TypeId) (cells : List V) (n : Nat) (x : X)
  | entry (x : X)
  /-- a text's bytes in memory that was made for them ahead -/
  | freshB (e : TypeId) (x s : X)

/-- Operations that write memory, or make some. -/
inductive ED where
  | store (n : Nat) (a x : X)
  | alloc (t : TypeId) (cells : List V)
  | box (t : TypeId) (x : X)
  | buildSlice (e : TypeId) (size n : Nat) (cells : List V) (parts : List (Nat × X))
  | allocRow (e : TypeId) (cells : List V) (n : Nat)
  | strBytes (e : TypeId) (x : X)
  /-- a slice of bytes as one of the same type: a mark behind its last cell -/
  | sameBytes (x : X)
  | unsafeStr (e : TypeId) (x n : X)
  | makeMap
  | makeSlice (e : TypeId) (size bytes : Nat) (zero : List V) (n c : X)
  | mapUpdate (pk : PK) (m k x : X)
  | mapEntry (pk : PK) (zero : V) (m k : X)
  | entryStore (m s x : X)
  | rangeStr (x : X)
  | rangeMap (x : X)
  | next (x : X)
  | append (e : TypeId) (size bytes : Nat) (s x : X)
  | appendZeros (e : TypeId) (size bytes : Nat) (zero : List V) (s n : X)
  | copy (size : Nat) (d s : X)
  | clearMap (x : X)
  | delete (pk : PK) (m k : X)

inductive CD where
  | func (f : FuncId) (args : List X)
  | value (f : X) (args : List X)
  | invoke (r : X) (name : String) (args : List X)

inductive D where
  | mov (x : X)
  | p (d : PD)
  | r (d : RD)
  | e (d : ED)
  | c (d : CD)
  | defer (d : CD)
  | stuck

/-- An operation with the place of its result, and its guard. -/
structure DO where
  dst : Option Lb
  op : D
  guard : Option (Lb × Bool)

structure A where
  tmps : T V
  defers : List (FuncId × List V)

def A.put (a : A) : Option Lb → V → A
  | some d, v => { tmps := a.tmps.set d (some v), defers := a.defers }
  | none, _ => a

def getT (tm : T V) (p : Lb) : V := match tm.get p with
  | some v => v
  | none => undef

def X.ev (tm : T V) : X → V
  | .t p => getT tm p
  | .c v => v

def evs (tm : T V) : List X → List V
  | [] => []
  | x :: xs => x.ev tm :: evs tm xs

def evo (tm : T V) : Option X → Option V
  | none => none
  | some x => some (x.ev tm)

/-! ### what hangs on operands alone -/

def rdPart (rd : Rd) (cs : List V) (off : Nat) : Option V := match rd with
  | .one => (dropN off cs).head?
  | .many n => ob (rowFrom cs off n) fun r => some (.agg r)

def fillIn (tm : T V) : List (Nat × Nat × X) → List V → Option (List V)
  | [], cells => some cells
  | (off, size, x) :: r, cells =>
    let cs := (x.ev tm).cells
    chk (Nat.beq cs.length size) (ob (putFrom cells off cs) (fillIn tm r))

def boolEqD (a b : Bool) : Bool := match a with
  | true => b
  | false => !b

/-- Are two values of a plain type the same? -/
def cellEq (k : PK) (x y : V) : Option Bool := match k with
  | .bool => match x, y with
    | .bool a, .bool b => some (boolEqD a b)
    | _, _ => none
  | .int => match x, y with
    | .int j a, .int k b => chk (kindEq j k) (some (intEq a b))
    | _, _ => none
  | .str => match x, y with
    | .str a, .str b => some (natsEq a b)
    | _, _ => none
  | .no => none

def eqBool : V → V → Option Bool
  | .bool a, .bool b => some (boolEqD a b)
  | _, _ => none

def eqPtr : V → V → Option Bool
  | .nilPtr, .nilPtr => some true
  | .nilPtr, .ptr _ _ => some false
  | .ptr _ _, .nilPtr => some false
  | .ptr l a, .ptr m b => chk (lbEq l m) (some (Nat.beq a b))
  | _, _ => none

/-- Two interface values: by their types and values, where both are of one plain type ('plain'). 'lit': one of them is written out. -/
def eqIface (plain : TypeId → PK) (lit : Bool) : V → V → Option Bool
  | .nilIface, .nilIface => chk lit (some true)
  | .nilIface, .iface _ _ => some false
  | .iface _ _, .nilIface => some false
  | .iface a x, .iface b y => match Nat.beq a b with
    | false => some false
    | true => cellEq (plain a) x y
  | _, _ => none

def eqSlice : V → V → Option Bool
  | .nilSlice _, .nilSlice _ => some true
  | .nilSlice _, .empty => some false
  | .empty, .nilSlice _ => some false
  | .nilSlice _, .slice _ _ _ _ => some false
  | .slice _ _ _ _, .nilSlice _ => some false
  | _, _ => none

def eqMap : V → V → Option Bool
  | .nilMap, .nilMap => some true
  | .nilMap, .map _ => some false
  | .map _, .nilMap => some false
  | _, _ => none

def eqFunc : V → V → Option Bool
  | .nilFunc, .nilFunc => some true
  | .nilFunc, .func _ _ _ => some false
  | .func _ _ _, .nilFunc => some false
  | _, _ => none

def eqCells : List PK → List V → List V → Option Bool
  | [], [], [] => some true
  | k :: ks, a :: x, b :: y => ob (cellEq k a b) fun r => ob (eqCells ks x y) fun q => some (match r with | true => q | false => false)
  | _, _, _ => none

def eqAgg (ks : List PK) : V → V → Option Bool
  | .agg x, .agg y => eqCells ks x y
  | _, _ => none

/-- == of what is no number and no text. -/
def eqOp (plain : TypeId → PK) (k : EK) (x y : V) : Option Bool := match k with
  | .bool => eqBool x y
  | .ptr => eqPtr x y
  | .iface lit => eqIface plain lit x y
  | .slice => eqSlice x y
  | .map => eqMap x y
  | .func => eqFunc x y
  | .agg ks => eqAgg ks x y
  | .none => none

/-- How a number stands to one that came in, where that is known. -/
def rngOp (op : BinOp) (a lo hi : Int) : Option V := match op with
  | .lss => match intLt a lo with
    | true => some (.bool true)
    | false => chk (!intLt a hi) (some (.bool false))
  | .leq => match intLt hi a with
    | true => some (.bool false)
    | false => chk (!intLt lo a) (some (.bool true))
  | .gtr => match intLt hi a with
    | true => some (.bool true)
    | false => chk (!intLt lo a) (some (.bool false))
  | .geq => match intLt a lo with
    | true => some (.bool false)
    | false => chk (!intLt a hi) (some (.bool true))
  | _ => none

def binOp (plain : TypeId → PK) (op : BinOp) (ek : EK) : V → V → Option V
  | .int j a, .int k b => match op with
    | .shl => shiftOp .shl j a b
    | .shr => shiftOp .shr j a b
    | op => chk (kindEq j k) (intOp op j a b)
  | .str a, .str b => strOp op a b
  | .int .i64 a, .rng lo hi => rngOp op a lo hi
  | .rng lo hi, .int .i64 a => match op with
    | .lss => rngOp .gtr a lo hi
    | .leq => rngOp .geq a lo hi
    | .gtr => rngOp .lss a lo hi
    | .geq => rngOp .leq a lo hi
    | _ => none
  | x, y => match op with
    | .eql => ob (eqOp plain ek x y) fun b => some (.bool b)
    | .neq => ob (eqOp plain ek x y) fun b => some (.bool (!b))
    | _ => none

def maxOf (k : IntKind) : Int := match IK.sgn k with
  | true => Int.ofNat (IK.half k - 1)
  | false => Int.ofNat (IK.top k - 1)

def allOnes (k : IntKind) : Int := match IK.sgn k with
  | true => Int.negSucc 0
  | false => maxOf k

def unOp (op : UnOp) (x : V) : Option V :=
  match op, x with
  | .neg, .int k n => intOp .sub k 0 n
  | .xor, .int k n => intOp .xor k (allOnes k) n
  | .not, .bool b => some (.bool (!b))
  | _, _ => none

/-- A bound of a slice expression, from 0 to y. -/
def bound (v : V) (y : Nat) : Option Nat := match v with
  | .int _ (.ofNat i) => chk (Nat.ble i y) (some i)
  | _ => none

def boundO (o : Option V) (y dflt : Nat) : Option Nat := match o with
  | some v => bound v y
  | none => some dflt

def sliceStrOp (s : List Nat) (lo hi : Option V) : Option V :=
  ob (boundO hi s.length s.length) fun h => ob (boundO lo h 0) fun l => some (.str ((s.take h).drop l))

def sliceEnd (a : Lb) (off size l h m : Nat) : V :=
  .slice a (match Nat.beq m l with | true => off | false => off + l * size) (h - l) (.exact (m - l))

def sliceOp (size : Nat) (x : V) (lo hi mx : Option V) : Option V := match x with
  | .nilSlice c => ob (boundO mx c c) fun m => ob (boundO hi m 0) fun h => ob (boundO lo h 0) fun l => chk (Nat.beq h 0) (some (.nilSlice (m - l)))
  | .slice a off len (.exact c) => ob (boundO mx c c) fun m => ob (boundO hi m len) fun h => ob (boundO lo h 0) fun l => some (sliceEnd a off size l h m)
  | .slice a off len (.toEnd es) => chk (Nat.beq es size) (match mx with
    | some v => ob (bound v len) fun m => ob (boundO hi m m) fun h => ob (boundO lo h 0) fun l => some (sliceEnd a off size l h m)
    | none => ob (boundO hi len len) fun h => ob (boundO lo h 0) fun l => match Nat.blt l len || Nat.beq l 0 with
      | true => some (.slice a (off + l * size) (h - l) (.toEnd size))
      | false => some .empty)
  | _ => none

def sliceArrOp (n size : Nat) (x : V) (lo hi mx : Option V) : Option V := match x with
  | .ptr a off => ob (boundO mx n n) fun m => ob (boundO hi m n) fun h => ob (boundO lo h 0) fun l => some (sliceEnd a off size l h m)
  | _ => none

def idxNat (v : V) (n : Nat) : Option Nat := match v with
  | .int _ (.ofNat i) => chk (Nat.blt i n) (some i)
  | _ => none

def indexAddrOp (size : Nat) (x i : V) : Option V := match x with
  | .slice a off len _ => ob (idxNat i len) fun i => some (.ptr a (off + i * size))
  | _ => none

def indexArrOp (n size : Nat) (x i : V) : Option V := match x with
  | .ptr a off => ob (idxNat i n) fun i => some (.ptr a (off + i * size))
  | _ => none

def indexStrOp (x i : V) : Option V := match x, i with
  | .str s, .int _ (.ofNat i) => ob (s[i]?) fun b => some (.int .u8 (Int.ofNat b))
  | _, _ => none

def indexAggOp (rd : Rd) (n size : Nat) (x i : V) : Option V := match x with
  | .agg cs => ob (idxNat i n) fun i => rdPart rd cs (i * size)
  | _ => none

def okV (ok : Bool) (v : V) (b : Bool) : V := match ok with
  | true => .tuple [v, .bool b]
  | false => v

def assertTOp (t : TypeId) (zero : V) (ok : Bool) (x : V) : Option V := match x with
  | .nilIface => chk ok (some (okV true zero false))
  | .iface u v => match Nat.beq u t with
    | true => some (okV ok v true)
    | false => chk ok (some (okV true zero false))
  | _ => none

/-- 'has': has a type all these methods? none: there is no such type. -/
def assertIOp (has : TypeId → Option Bool) (zero : V) (ok : Bool) (x : V) : Option V := match x with
  | .nilIface => chk ok (some (okV true zero false))
  | .iface u v => ob (has u) fun b => match b with
    | true => some (okV ok (.iface u v) true)
    | false => chk ok (some (okV true zero false))
  | _ => none

def lenStrOp : V → Option V
  | .str s => some (.int .i64 (Int.ofNat s.length))
  | _ => none

def lenSliceOp : V → Option V
  | .slice _ _ n _ => some (.int .i64 (Int.ofNat n))
  | .nilSlice _ => some (.int .i64 (Int.ofNat 0))
  | .empty => some (.int .i64 (Int.ofNat 0))
  | _ => none

def capOp : V → Option V
  | .slice _ _ _ (.exact c) => some (.int .i64 (Int.ofNat c))
  | .nilSlice c => some (.int .i64 (Int.ofNat c))
  | _ => none

def pickI (b : Bool) (x y : Int) : Int := match b with
  | true => x
  | false => y

def maxOp : V → V → Option V
  | .int k x, .int _ y => some (.int k (pickI (intLt x y) y x))
  | _, _ => none

def minOp : V → V → Option V
  | .int k x, .int _ y => some (.int k (pickI (intLt y x) y x))
  | _, _ => none

def sliceDataOp : V → Option V
  | .nilSlice _ => some .nilPtr
  | .slice a off _ (.exact (_ + 1)) => some (.ptr a off)
  | .slice a off (_ + 1) (.toEnd _) => some (.ptr a off)
  | _ => none

/-- A slice as a pointer to an array of n elements. -/
def arrPtrOp (n : Nat) : V → Option V
  | .slice a off len _ => chk (Nat.ble n len) (some (.ptr a off))
  | _ => none

def nilCheckOp : V → Option V
  | .ptr a off => some (.ptr a off)
  | .func f a b => some (.func f a b)
  | _ => none

def strSameOp : V → Option V
  | .str s => some (.str s)
  | _ => none

def extractOp (i : Nat) : V → Option V
  | .tuple vs => vs[i]?
  | _ => none

mutual
def vEq : V → V → Bool
  | .bool a, .bool b => match a with | true => b | false => !b
  | .int j a, .int k b => kindEq j k && intEq a b
  | .str a, .str b => natsEq a b
  | .nilPtr, .nilPtr => true
  | .ptr l a, .ptr m b => lbEq l m && Nat.beq a b
  | .nilSlice a, .nilSlice b => Nat.beq a b
  | .slice l a n c, .slice m b k d => lbEq l m && Nat.beq a b && Nat.beq n k && (match c, d with
    | .exact c, .exact d => Nat.beq c d
    | .toEnd c, .toEnd d => Nat.beq c d
    | _, _ => false)
  | .nilMap, .nilMap => true
  | .map a, .map b => lbEq a b
  | .func f a b, .func g c d => Nat.beq f g && vsEq a c && vsEq b d
  | .nilFunc, .nilFunc => true
  | .iface t a, .iface u b => Nat.beq t u && vEq a b
  | .nilIface, .nilIface => true
  | .agg a, .agg b => vsEq a b
  | .tuple a, .tuple b => vsEq a b
  | .sym a n, .sym b m => lbEq a b && Nat.beq n m
  | .empty, .empty => true
  | .any, .any => true
  | .rng a b, .rng c d => intEq a c && intEq b d
  | _, _ => false
def vsEq : List V → List V → Bool
  | [], [] => true
  | a :: x, b :: y => vEq a b && vsEq x y
  | _, _ => false
end

/-! ### what reads memory -/

/-- A question to memory. -/
inductive Q where
  | load (rd : Rd) (l : Lb) (off : Nat)
  | lookup (pk : PK) (zero : V) (ok : Bool) (m k : V)
  | bytes (x : V)
  | row (l : Lb) (off : Nat)
  | whole (u : TypeId) (n : Nat) (l : Lb) (off : Nat)
  | mapLen (m : V)
  /-- is it as it was made? -/
  | fresh (t : TypeId) (cells : List V) (l : Lb) (off : Nat)
  | freshS (t : TypeId) (cells : List V) (n : Nat) (l : Lb) (off : Nat)
  /-- are these bytes as they were made? -/
  | freshB (e : TypeId) (cells : List V) (n : Nat) (l : Lb) (off : Nat)
  | entry (l : Lb) (off : Nat)

def bornK (b : Nat) : List (V × V × Nat) → Option (V × V)
  | [] => none
  | (k, v, c) :: es => match Nat.beq c b with
    | true => some (k, v)
    | false => bornK b es

def lastN : List Nat → Option Nat
  | [] => none
  | [x] => some x
  | _ :: r => lastN r

def findK (pk : PK) (k : V) : List (V × V × Nat) → Option (Option (Nat × V))
  | [] => some none
  | (x, v, _) :: es => ob (cellEq pk k x) fun b => match b with
    | true => some (some (0, v))
    | false => ob (findK pk k es) fun r => some (match r with | some (i, v) => some (i + 1, v) | none => none)

def bytesIn : List V → Option (List Nat)
  | [] => some []
  | .int .u8 (.ofNat n) :: r => chk (Nat.blt n 256) (ob (bytesIn r) fun l => some (n :: l))
  | _ :: _ => none

def Q.ask (h : H) : Q → Option V
  | .load rd l off => match h.get l with
    | some (.cells vs _ _ _) => rdPart rd vs off
    | _ => none
  | .lookup pk z ok m k => match m with
    | .nilMap => some (match ok with | true => .tuple [z, .bool false] | false => z)
    | .map r => match h.get r with
      | some (.map es _) => ob (findK pk k es) fun r => some (match r with
        | some (_, v) => okV ok v true
        | none => okV ok z false)
      | _ => none
    | _ => none
  | .bytes x => match x with
    | .nilSlice _ => some (.str [])
    | .slice l off n _ => match h.get l with
      | some (.cells vs _ _ _) => ob (rowFrom vs off n) fun r => ob (bytesIn r) fun b => some (.str b)
      | _ => none
    | .empty => some (.str [])
    | _ => none
  | .row l off => match h.get l with
    | some (.cells vs _ _ _) => chk (Nat.blt off vs.length) (some (.ptr l off))
    | _ => none
  | .whole u n l off => match h.get l with
    | some (.cells vs e _ _) => chk (Nat.beq e u && Nat.beq vs.length n && Nat.beq off 0) (some (.ptr l off))
    | _ => none
  | .mapLen m => match m with
    | .nilMap => some (.int .i64 (Int.ofNat 0))
    | .map m => match h.get m with
      | some (.map es _) => some (.int .i64 (Int.ofNat es.length))
      | _ => none
    | _ => none
  | .fresh t cs l off => match h.get l with
    | some (.cells vs e 0 .yes) => chk (Nat.beq e t && vsEq vs cs && Nat.beq off 0) (some (.ptr l 0))
    | _ => none
  | .freshS t cs n l off => match h.get l with
    | some (.cells vs e 0 .yes) => chk (Nat.beq e t && vsEq vs cs && Nat.beq off 0) (some (.slice l 0 n (.exact n)))
    | _ => none
  | .freshB t cs n l off => match h.get l with
    | some (.cells vs e 0 .marked) => chk (Nat.beq e t && vsEq vs cs && Nat.beq off 0) (some (.slice l 0 n (.toEnd 1)))
    | _ => none
  | .entry l off => match h.get l with
    | some (.mapIter (some m) _ seen last) => match h.get m with
      | some (.map es clock) => chk (Nat.beq off 0 && Nat.beq clock last) (ob (lastN seen) fun b => ob (bornK b es) fun e => some (.tuple [e.1, e.2]))
      | _ => none
    | _ => none

def reqPtr (f : Lb → Nat → Q) : V → Option Q
  | .ptr a off => some (f a off)
  | _ => none

/-- Is it a key of a plain type? -/
def plainKey : PK → V → Bool
  | .str, .str _ => true
  | .int, .int _ _ => true
  | _, _ => false

/-! ### what writes memory, or makes some -/

def flatV : V → Bool
  | .agg _ => false
  | .tuple _ => false
  | _ => true

def flats : List V → Bool
  | [] => true
  | v :: vs => flatV v && flats vs

/-- Cells of an address are stored anew. -/
def storeV (h : H) (l : Lb) (off : Nat) (cs : List V) : Option H :=
  match h.get l with
  | some (.cells vs e fz own) => chk (own.may && Nat.ble fz off && flats cs) (ob (putFrom vs off cs) fun vs' => some (h.set l (.cells vs' e fz own)))
  | _ => none

def natCells : List Nat → List V
  | [] => []
  | b :: r => .int .u8 (Int.ofNat b) :: natCells r

/-- The cells of a slice's or a text's elements, and how many elements these are. -/
def elemsV (h : H) (size : Nat) : V → Option (Nat × List V)
  | .nilSlice _ => some (0, [])
  | .slice l off n _ => match h.get l with
    | some (.cells vs _ _ _) => ob (rowFrom vs off (n * size)) fun r => some (n, r)
    | _ => none
  | .str s => chk (Nat.beq size 1) (some (s.length, natCells s))
  | .empty => some (0, [])
  | _ => none

/-- The greatest size of memory that is asked for here, in bytes. -/
def mostBytes : Nat := 1099511627776

/-- n elements are put behind a slice. -/
def appendV (h : H) (e : TypeId) (size bytes : Nat) (s : V) (n : Nat) (new : List V) : Option (V × H) :=
  match s with
  | .nilSlice c => match Nat.ble n c with
    | true => chk (Nat.beq n 0) (some (.nilSlice c, h))
    | false => chk (Nat.ble (4 * n * bytes) mostBytes) (some (.slice h.next 0 n (.toEnd size), h.add (.cells new e 0 .yes)))
  | .slice l off len cap => chk (Nat.ble (4 * (len + n) * bytes) mostBytes) (match cap with
    | .exact c => match Nat.ble (len + n) c with
      | true => ob (storeV h l (off + len * size) new) fun h' => some (.slice l off (len + n) (.exact c), h')
      | false => match h.get l with
        | some (.cells vs _ _ _) => chk (Nat.blt 0 n) <| ob (rowFrom vs off (len * size)) fun old => some (.slice h.next 0 (len + n) (.toEnd size), h.add (.cells (old ++ new) e 0 .yes))
        | _ => none
    | .toEnd es => chk (Nat.beq es size) (match h.get l with
      | some (.cells vs el fz own) => chk (own.may && Nat.beq el e) (match Nat.ble (off + (len + n) * size) vs.length with
        | true => ob (storeV h l (off + len * size) new) fun h' => some (.slice l off (len + n) (.toEnd size), h')
        | false => chk (Nat.beq off 0 && Nat.beq (off + len * size) vs.length && Nat.ble fz vs.length && flats new)
            (some (.slice h.next 0 (len + n) (.toEnd size), (h.del l).add (.cells (dropN off vs ++ new) e (fz - off) own))))
      | _ => none))
  | _ => none

def setNth : List (V × V × Nat) → Nat → V → V → List (V × V × Nat)
  | [], _, _, _ => []
  | (_, _, b) :: es, 0, k, v => (k, v, b) :: es
  | e :: es, i + 1, k, v => e :: setNth es i k v

def bornAt : List (V × V × Nat) → Nat → Nat
  | [], _ => 0
  | (_, _, b) :: _, 0 => b
  | _ :: es, i + 1 => bornAt es i

def mapSet (pk : PK) (k v : V) (es : List (V × V × Nat)) (clock : Nat) : Option Obj :=
  ob (findK pk k es) fun r => match r with
    | some (i, _) => some (.map (setNth es i k v) clock)
    | none => some (.map (es ++ [(k, v, clock)]) (clock + 1))

def setBorn : List (V × V × Nat) → Nat → V → Option (List (V × V × Nat))
  | [], _, _ => none
  | (k, w, b) :: es, born, v => match Nat.beq b born with
    | true => some ((k, v, b) :: es)
    | false => ob (setBorn es born v) fun r => some ((k, w, b) :: r)

def withMap (h : H) (m : V) (f : Lb → List (V × V × Nat) → Nat → Option (V × H)) : Option (V × H) := match m with
  | .map r => match h.get r with
    | some (.map es clock) => f r es clock
    | _ => none
  | _ => none

def fillParts (tm : T V) (size : Nat) : List (Nat × X) → List V → Option (List V)
  | [], cells => some cells
  | (i, x) :: r, cells =>
    let cs := (x.ev tm).cells
    chk (Nat.beq cs.length size) (ob (putFrom cells (i * size) cs) (fillParts tm size r))

def makeSliceV (h : H) (e : TypeId) (size bytes : Nat) (zero : List V) (n c : V) : Option (V × H) := match n, c with
  | .int .i64 (.ofNat n), .int .i64 (.ofNat c) =>
    chk (Nat.ble n c && Nat.ble (c * bytes) mostBytes && Nat.ble c 1048576 && Nat.beq zero.length size && Nat.blt 0 size) (some (.slice h.next 0 n (.exact c), h.add (.cells (repeatCells zero c) e 0 .yes)))
  | _, _ => none

def eraseNth : List (V × V × Nat) → Nat → List (V × V × Nat)
  | [], _ => []
  | _ :: es, 0 => es
  | e :: es, i + 1 => e :: eraseNth es i

def bornsOf : List (V × V × Nat) → List Nat
  | [] => []
  | (_, _, b) :: es => b :: bornsOf es

def allFrom (n : Nat) : List (V × V × Nat) → Bool
  | [] => true
  | (_, _, b) :: es => Nat.ble n b && allFrom n es

def hasNat (n : Nat) : List Nat → Bool
  | [] => false
  | m :: l => Nat.beq n m || hasNat n l

def leftOf (seen : List Nat) : List (V × V × Nat) → List (V × V × Nat)
  | [] => []
  | (k, v, b) :: es => match hasNat b seen with
    | true => leftOf seen es
    | false => (k, v, b) :: leftOf seen es

/-- A step over a map: where there is one way alone. -/
def nextV (h : H) (l : Lb) : Option (V × H) := match h.get l with
  | some (.mapIter none _ _ _) => some (.tuple [.bool false], h)
  | some (.mapIter (some m) since seen last) => match h.get m with
    | some (.map es clock) => chk (seen.isEmpty || es.isEmpty || !allFrom last es) (match leftOf seen es with
      | [] => some (.tuple [.bool false], h)
      | [(k, v, b)] => chk (Nat.blt b since) (some (.tuple [.bool true, k, v], h.set l (.mapIter (some m) since (seen ++ [b]) clock)))
      | _ => none)
    | _ => none
  | _ => none

/-- A text that shares a row's first bytes: these are frozen. -/
def unsafeStrV (h : H) (e : TypeId) (x n : V) : Option (V × H) := match x, n with
  | .nilPtr, .int .i64 (.ofNat 0) => some (.str [], h)
  | .ptr _ _, .int .i64 (.ofNat 0) => some (.str [], h)
  | .ptr l 0, .int .i64 (.ofNat (n + 1)) => match h.get l with
    | some (.cells vs el fz .yes) => chk (Nat.beq el e && Nat.ble n 1048576) (ob (takeN (n + 1) vs) fun r => ob (bytesIn r) fun b => some (.str b, h.set l (.cells vs el (Nat.max fz (n + 1)) .yes)))
    | _ => none
  | _, _ => none

/-- So many elements are put over a slice's first ones. -/
def copyV (h : H) (size : Nat) (d s : V) : Option (V × H) := ob (elemsV h size s) fun r => match d with
  | .nilSlice _ => some (.int .i64 0, h)
  | .slice l off len _ => ob (takeN (Nat.min r.1 len * size) r.2) fun cs => match cs with
    | [] => some (.int .i64 (Int.ofNat (Nat.min r.1 len)), h)
    | c :: cs => ob (storeV h l off (c :: cs)) fun h' => some (.int .i64 (Int.ofNat (Nat.min r.1 len)), h')
  | _ => none

/-! ### the operations -/

/-- What is asked of the program while it runs. -/
structure Env where
  /-- an integer type, a text's, a bool's: comparable as it stands -/
  plain : TypeId → PK
  /-- has a type these methods? -/
  has : Array (String × TypeId) → TypeId → Option Bool
  /-- a type's method: its function -/
  meth : TypeId → String → Option FuncId

def PD.eval (E : Env) (tm : T V) : PD → Option V
  | .pick c a b => match c.ev tm with
    | .bool true => some (a.ev tm)
    | .bool false => some (b.ev tm)
    | _ => none
  | .build z ps => ob (fillIn tm ps z) fun cs => some (.agg cs)
  | .nilCheck x => nilCheckOp (x.ev tm)
  | .bin op ek x y => binOp E.plain op ek (x.ev tm) (y.ev tm)
  | .un op x => unOp op (x.ev tm)
  | .toInt k x => match x.ev tm with
    | .int _ n => some (.int k (wrapD k n))
    | _ => none
  | .runeStr x => match x.ev tm with
    | .int _ n => some (.str ((Utf8.encode n).data.toList.map (·.toNat)))
    | _ => none
  | .strSame x => strSameOp (x.ev tm)
  | .mkIface t x => some (.iface t (x.ev tm))
  | .mkFunc f a b => some (.func f (evs tm a) (evs tm b))
  | .sliceStr x lo hi => match x.ev tm with
    | .str s => sliceStrOp s (evo tm lo) (evo tm hi)
    | _ => none
  | .slice size x lo hi mx => sliceOp size (x.ev tm) (evo tm lo) (evo tm hi) (evo tm mx)
  | .sliceArr n size x lo hi mx => sliceArrOp n size (x.ev tm) (evo tm lo) (evo tm hi) (evo tm mx)
  | .fieldAddr o x => match x.ev tm with
    | .ptr a off => some (.ptr a (off + o))
    | _ => none
  | .field rd o x => match x.ev tm with
    | .agg cs => rdPart rd cs o
    | _ => none
  | .indexAddr size x i => indexAddrOp size (x.ev tm) (i.ev tm)
  | .indexAddrArr n size x i => indexArrOp n size (x.ev tm) (i.ev tm)
  | .indexStr x i => indexStrOp (x.ev tm) (i.ev tm)
  | .indexAgg rd n size x i => indexAggOp rd n size (x.ev tm) (i.ev tm)
  | .assertI w z ok x => assertIOp (E.has w) z ok (x.ev tm)
  | .assertT t z ok x => assertTOp t z ok (x.ev tm)
  | .extract i x => extractOp i (x.ev tm)
  | .lenStr x => lenStrOp (x.ev tm)
  | .lenSlice x => lenSliceOp (x.ev tm)
  | .lenArr n => some (.int .i64 (Int.ofNat n))
  | .cap x => capOp (x.ev tm)
  | .maxI x y => maxOp (x.ev tm) (y.ev tm)
  | .minI x y => minOp (x.ev tm) (y.ev tm)
  | .sliceData x => sliceDataOp (x.ev tm)
  | .arrPtr n x => arrPtrOp n (x.ev tm)

def RD.req (tm : T V) : RD → Option Q
  | .load rd x => reqPtr (.load rd) (x.ev tm)
  | .lookup pk z ok m k => chk (plainKey pk (k.ev tm)) (some (.lookup pk z ok (m.ev tm) (k.ev tm)))
  | .bytesStr x => some (.bytes (x.ev tm))
  | .ptrUnsafe x => reqPtr .row (x.ev tm)
  | .unsafePtr u n x => reqPtr (.whole u n) (x.ev tm)
  | .mapLen x => some (.mapLen (x.ev tm))
  | .fresh t cs x => reqPtr (.fresh t cs) (x.ev tm)
  | .freshS t cs n x => reqPtr (.freshS t cs n) (x.ev tm)
  | .entry x => reqPtr .entry (x.ev tm)
  | .freshB e x s => match x.ev tm with
    | .str b => chk (Nat.ble b.length 1048576) (reqPtr (fun l off => .freshB e (natCells b) b.length l off) (s.ev tm))
    | _ => none

def ED.run (tm : T V) (h : H) : ED → Option (V × H)
  | .store n a x => match a.ev tm with
    | .ptr l off => let cs := (x.ev tm).cells; chk (Nat.beq cs.length n) (ob (storeV h l off cs) fun h' => some (undef, h'))
    | _ => none
  | .alloc t cs => some (.ptr h.next 0, h.add (.cells cs t 0 .yes))
  | .box t x => some (.ptr h.next 0, h.add (.cells (x.ev tm).cells t 0 .yes))
  | .buildSlice e size n cs ps => ob (fillParts tm size ps cs) fun cs => some (.slice h.next 0 n (.exact n), h.add (.cells cs e 0 .yes))
  | .allocRow e cs n => some (.slice h.next 0 n (.exact n), h.add (.cells cs e 0 .yes))
  | .strBytes e x => match x.ev tm with
    | .str b => chk (Nat.ble b.length 1048576) (some (.slice h.next 0 b.length (.toEnd 1), h.add (.cells (natCells b) e 0 .marked)))
    | _ => none
  | .sameBytes x => match x.ev tm with
    | .slice l off n c => match h.get l with
      | some (.cells vs e 0 .yes) => some (.slice l off n c, h.set l (.cells vs e 0 .marked))
      | _ => none
    | _ => none
  | .unsafeStr e x n => unsafeStrV h e (x.ev tm) (n.ev tm)
  | .makeMap => some (.map h.next, h.add (.map [] 0))
  | .makeSlice e size bytes z n c => makeSliceV h e size bytes z (n.ev tm) (c.ev tm)
  | .mapUpdate pk m k x => chk (plainKey pk (k.ev tm)) (withMap h (m.ev tm) fun r es clock => ob (mapSet pk (k.ev tm) (x.ev tm) es clock) fun o => some (undef, h.set r o))
  | .mapEntry pk z m k => chk (plainKey pk (k.ev tm)) (withMap h (m.ev tm) fun r es clock => ob (findK pk (k.ev tm) es) fun f => match f with
    | some (i, v) => some (.tuple [v, .int .i64 (Int.ofNat (bornAt es i))], h.set r (.map (setNth es i (k.ev tm) v) clock))
    | none => some (.tuple [z, .int .i64 (Int.ofNat clock)], h.set r (.map (es ++ [(k.ev tm, z, clock)]) (clock + 1))))
  | .entryStore m s x => withMap h (m.ev tm) fun r es clock => match s.ev tm with
    | .int _ (.ofNat b) => ob (setBorn es b (x.ev tm)) fun es' => some (undef, h.set r (.map es' clock))
    | _ => none
  | .rangeStr x => match x.ev tm with
    | .str s => some (.ptr h.next 0, h.add (.strIter s 0))
    | _ => none
  | .rangeMap x => match x.ev tm with
    | .nilMap => some (.ptr h.next 0, h.add (.mapIter none 0 [] 0))
    | .map m => match h.get m with
      | some (.map _ clock) => some (.ptr h.next 0, h.add (.mapIter (some m) clock [] clock))
      | _ => none
    | _ => none
  | .next x => match x.ev tm with
    | .ptr l 0 => nextV h l
    | _ => none
  | .append e size bytes s x => ob (elemsV h size (x.ev tm)) fun r => appendV h e size bytes (s.ev tm) r.1 r.2
  | .appendZeros e size bytes z s n => match n.ev tm with
    | .int .i64 (.ofNat n) => chk (Nat.ble n 1048576 && Nat.ble (n * bytes) mostBytes) (appendV h e size bytes (s.ev tm) n (repeatCells z n))
    | _ => none
  | .copy size d s => copyV h size (d.ev tm) (s.ev tm)
  | .clearMap x => match x.ev tm with
    | .nilMap => some (undef, h)
    | m => withMap h m fun r _ clock => some (undef, h.set r (.map [] clock))
  | .delete pk m k => chk (plainKey pk (k.ev tm)) (withMap h (m.ev tm) fun r es clock => ob (findK pk (k.ev tm) es) fun f => match f with
    | some (i, _) => some (undef, h.set r (.map (eraseNth es i) clock))
    | none => some (undef, h))

def CD.args (E : Env) (tm : T V) : CD → Option (FuncId × List V)
  | .func f args => some (f, evs tm args)
  | .value f args => match f.ev tm with
    | .func f a b => some (f, a ++ evs tm args ++ b)
    | _ => none
  | .invoke r name args => match r.ev tm with
    | .iface t v => ob (E.meth t name) fun f => some (f, v :: evs tm args)
    | _ => none

end Go.Dx
namespace Go.Dx
open Go

/-- A region's code. 'draw': its operations may run in more than one order; 'made': the variables that it makes, each with a place where its address is kept till then; its operations, each with: how many effects come before it in every order, and how many may come before it in some order. -/
inductive DC where
  | skip
  | ops (l : List DO)
  | draw (made : List (Lb × TypeId × List V × Own)) (l : List (DO × Nat × Nat))
  | seq (a b : DC)
  | cond (c : X) (a b : DC)
  | block (id : Nat) (c : DC)
  | loop (c : DC)
  | exit (id : Nat)
  | ret
  | stuck

inductive Res where
  | tmp (p : Lb)
  | cell (p : Lb) (rd : Rd)

structure DFn where
  ntmps : Nat
  code : DC
  results : List Res

inductive Ex where
  | normal
  | exit (id : Nat)
  | ret

abbrev Orc := FuncId → List V → H → Option (V × H)

def wants (tm : T V) : Option (Lb × Bool) → Bool
  | none => true
  | some (p, want) => match getT tm p with
    | .bool b => match want with
      | true => b
      | false => !b
    | _ => false

def stepD (E : Env) (call : Orc) (d : DO) (a : A) (h : H) : Option (A × H) :=
  match d.op with
  | .mov x => some (a.put d.dst (x.ev a.tmps), h)
  | .p q => ob (q.eval E a.tmps) fun v => some (a.put d.dst v, h)
  | .r q => ob (q.req a.tmps) fun q => ob (q.ask h) fun v => some (a.put d.dst v, h)
  | .e q => ob (q.run a.tmps h) fun r => some (a.put d.dst r.1, r.2)
  | .c q => ob (q.args E a.tmps) fun f => ob (call f.1 f.2 h) fun r => some (a.put d.dst r.1, r.2)
  | .defer q => ob (q.args E a.tmps) fun f => some ({ tmps := a.tmps, defers := f :: a.defers : A }.put d.dst undef, h)
  | .stuck => none

def runOps (E : Env) (call : Orc) : List DO → A → H → Option (A × H)
  | [], a, h => some (a, h)
  | d :: r, a, h => match wants a.tmps d.guard with
    | true => ob (stepD E call d a h) fun s => runOps E call r s.1 s.2
    | false => runOps E call r (a.put d.dst undef) h

/-! ### regions whose order is open -/

/-- A read that was done: its question, its answer, and up to how many effects it may come behind. -/
abbrev Pend := Q × V × Nat

/-- Do the reads stand that may come behind this effect, too? 'n': how many effects have been. -/
def stillStand (h : H) (n : Nat) : List Pend → Bool
  | [] => true
  | (q, v, hi) :: r => (match Nat.ble n hi with
    | true => match q.ask h with
      | some u => vEq u v
      | none => false
    | false => true) && stillStand h n r

/-- Did the read stand in the heaps ahead of the last effects, too? 'hs': the heaps ahead of this one, the youngest first; 'k': how many of them. -/
def stoodBefore (q : Q) (v : V) : Nat → List H → Bool
  | 0, _ => true
  | k + 1, h :: hs => (match q.ask h with
    | some u => vEq u v
    | none => false) && stoodBefore q v k hs
  | _ + 1, [] => false

def isEff : DO → Bool
  | ⟨_, .e _, _⟩ | ⟨_, .c _, _⟩ => true
  | _ => false

/-- 'n': how many effects have been; 'hs': the heaps ahead of each of them. -/
def runDraw (E : Env) (call : Orc) : List (DO × Nat × Nat) → A → H → Nat → List H → List Pend → Option (A × H)
  | [], a, h, _, _, _ => some (a, h)
  | (d, lo, hi) :: r, a, h, n, hs, ps => match wants a.tmps d.guard with
    | false => match isEff d with
      | true => runDraw E call r (a.put d.dst undef) h (n + 1) (h :: hs) ps
      | false => runDraw E call r (a.put d.dst undef) h n hs ps
    | true => match d.op with
      | .mov x => runDraw E call r (a.put d.dst (x.ev a.tmps)) h n hs ps
      | .p q => ob (q.eval E a.tmps) fun v => runDraw E call r (a.put d.dst v) h n hs ps
      | .r q => ob (q.req a.tmps) fun q => ob (q.ask h) fun v => chk (stoodBefore q v (n - lo) hs) (runDraw E call r (a.put d.dst v) h n hs ((q, v, hi) :: ps))
      | .e q => ob (q.run a.tmps h) fun s => chk (stillStand s.2 (n + 1) ps) (runDraw E call r (a.put d.dst s.1) s.2 (n + 1) (h :: hs) ps)
      | .c q => ob (q.args E a.tmps) fun f => ob (call f.1 f.2 h) fun s => chk (stillStand s.2 (n + 1) ps) (runDraw E call r (a.put d.dst s.1) s.2 (n + 1) (h :: hs) ps)
      | .defer _ => none
      | .stuck => none

/-- What is made ahead: where its address is kept, of which type, its cells, and how it may be written. -/
abbrev Made := Lb × TypeId × List V × Own

def makeAll : List Made → T V → H → T V × H
  | [], tm, h => (tm, h)
  | (p, t, cs, o) :: r, tm, h => makeAll r (tm.set p (some (.ptr h.next 0))) (h.add (.cells cs t 0 o))

def setMade (q : Lb) (cs : List V) : List Made → List Made
  | [] => []
  | (p, t, c, o) :: r => match lbEq p q with
    | true => (p, t, cs, o) :: r
    | false => (p, t, c, o) :: setMade q cs r

def isMarked : Own → Bool
  | .marked => true
  | _ => false

def anyMarked : List Made → Bool
  | [] => false
  | (_, _, _, o) :: r => isMarked o || anyMarked r

def putT (tm : T V) : Option Lb → V → T V
  | some d, v => tm.set d (some v)
  | none, _ => tm

/-- The text's bytes that are made ahead: the region's first operations are run for them. -/
def guess (E : Env) : List (DO × Nat × Nat) → T V → H → List Made → Option (List Made)
  | [], _, _, m => some m
  | (d, _, _) :: r, tm, h, m => match wants tm d.guard with
    | false => guess E r (putT tm d.dst undef) h m
    | true => match d.op with
      | .mov x => guess E r (putT tm d.dst (x.ev tm)) h m
      | .p q => ob (q.eval E tm) fun v => guess E r (putT tm d.dst v) h m
      | .r (.freshB _ x s) => match x.ev tm, s with
        | .str b, .t p => some (setMade p (natCells b) m)
        | _, _ => none
      | .r q => ob (q.req tm) fun q => ob (q.ask h) fun v => guess E r (putT tm d.dst v) h m
      | _ => some m

/-- What is made ahead, with the text's bytes. -/
def guessed (E : Env) (l : List (DO × Nat × Nat)) (m : List Made) (tm : T V) (h : H) : Option (List Made) := match anyMarked m with
  | true => guess E l (makeAll m tm h).1 (makeAll m tm h).2 m
  | false => some m

/-! ### code -/

def resultD (h : H) (tm : T V) : Res → Option V
  | .tmp p => some (getT tm p)
  | .cell p rd => match getT tm p with
    | .ptr l off => Q.ask h (.load rd l off)
    | _ => none

def resultsD (h : H) (tm : T V) : List Res → Option (List V)
  | [] => some []
  | r :: rs => ob (resultD h tm r) fun v => ob (resultsD h tm rs) fun vs => some (v :: vs)

def packD : List V → V
  | [v] => v
  | vs => .tuple vs

def argsIn : List V → Lb → T V → T V
  | [], _, t => t
  | v :: vs, p, t => argsIn vs (inc p) (t.set p (some v))

def fnAt (fns : T DFn) (f : FuncId) : Option DFn := chk (Nat.blt f 65536) (fns.get (pathOf f))

/-- A function's code is run. -/
def enterD (exec : DC → A → H → Option (Ex × A × H)) (fn : DFn) (args : List V) (h : H) : Option (Ex × A × H) :=
  chk (Nat.ble args.length fn.ntmps) (exec fn.code { tmps := argsIn args [] .leaf, defers := [] } h)

/-- The deferred calls; one by one. -/
def leaveD (call : FuncId → List V → H → Option H) : List (FuncId × List V) → H → Option H
  | [], h => some h
  | (f, args) :: ds, h => ob (call f args h) fun h' => leaveD call ds h'

/-- A deferred call: of a function that defers nothing. -/
def lateD (fns : T DFn) (dorc : FuncId → List V → H → Option H) (exec : DC → A → H → Option (Ex × A × H)) (f : FuncId) (args : List V) (h : H) : Option H :=
  match dorc f args h with
  | some h' => some h'
  | none => ob (fnAt fns f) fun fn => ob (enterD exec fn args h) fun r => match r.1, r.2.1.defers with
    | .exit _, _ => none
    | _, [] => ob (resultsD r.2.2 r.2.1.tmps fn.results) fun _ => some r.2.2
    | _, _ :: _ => none

/-- A call, where code is run by 'exec'. -/
def callD (fns : T DFn) (orc : Orc) (dorc : FuncId → List V → H → Option H) (exec : DC → A → H → Option (Ex × A × H)) : Orc := fun f args h =>
  match orc f args h with
  | some r => some r
  | none => ob (fnAt fns f) fun fn => ob (enterD exec fn args h) fun r => match r.1 with
    | .exit _ => none
    | _ => ob (leaveD (lateD fns dorc exec) r.2.1.defers r.2.2) fun h' => ob (resultsD h' r.2.1.tmps fn.results) fun vs => some (packD vs, h')

def execStep (E : Env) (call : Orc) (exec : DC → A → H → Option (Ex × A × H)) (c : DC) (a : A) (h : H) : Option (Ex × A × H) :=
  match c with
  | .skip => some (.normal, a, h)
  | .ops l => ob (runOps E call l a h) fun r => some (.normal, r.1, r.2)
  | .draw m l => ob (guessed E l m a.tmps h) fun m => ob (runDraw E call l { tmps := (makeAll m a.tmps h).1, defers := a.defers } (makeAll m a.tmps h).2 0 [] []) fun r => some (.normal, r.1, r.2)
  | .seq x y => ob (exec x a h) fun r => match r.1 with
    | .normal => exec y r.2.1 r.2.2
    | e => some (e, r.2.1, r.2.2)
  | .cond c x y => match c.ev a.tmps with
    | .bool true => exec x a h
    | .bool false => exec y a h
    | _ => none
  | .block id b => ob (exec b a h) fun r => match r.1 with
    | .exit i => some (match Nat.beq i id with | true => .normal | false => .exit i, r.2.1, r.2.2)
    | e => some (e, r.2.1, r.2.2)
  | .loop b => ob (exec b a h) fun r => match r.1 with
    | .normal => exec (.loop b) r.2.1 r.2.2
    | e => some (e, r.2.1, r.2.2)
  | .exit id => some (.exit id, a, h)
  | .ret => some (.ret, a, h)
  | .stuck => none

/-- Two turns of one wheel: running code, and calling. -/
structure Turn where
  exec : DC → A → H → Option (Ex × A × H)
  call : Orc

def turn0 : Turn := { exec := fun _ _ _ => none, call := fun _ _ _ => none }

def turnS (E : Env) (fns : T DFn) (orc : Orc) (dorc : FuncId → List V → H → Option H) (t : Turn) : Turn :=
  { exec := fun c a h => execStep E t.call t.exec c a h, call := fun f args h => callD fns orc dorc t.exec f args h }

def turn (E : Env) (fns : T DFn) (orc : Orc) (dorc : FuncId → List V → H → Option H) : Nat → Turn
  | 0 => turn0
  | n + 1 => turnS E fns orc dorc (turn E fns orc dorc n)

end Go.Dx
namespace Go.Dx
open Go

structure CE where
  P : Program
  /-- how many package-level variables there are -/
  G : Nat
  /-- how many temporaries -/
  n : Nat

def undefX : X := .c undef

def compX (C : CE) : Operand → Option X
  | .tmp t => chk (Nat.blt t C.n) (some (.t (pathOf t)))
  | .const v => ob (ofConst v) fun d => some (.c d)
  | .global g => chk (Nat.blt g C.G) (some (.c (.ptr (pathOf g) 0)))
  | .func f => some (.c (.func f [] []))

def compXs (C : CE) : List Operand → Option (List X)
  | [] => some []
  | x :: xs => ob (compX C x) fun d => ob (compXs C xs) fun ds => some (d :: ds)

def compXo (C : CE) : Option Operand → Option (Option X)
  | none => some none
  | some x => ob (compX C x) fun d => some (some d)

def sizeT (P : Program) (t : TypeId) : Option Nat := ob (P.info? t) fun i => some i.size
def bytesT (P : Program) (t : TypeId) : Option Nat := ob (P.info? t) fun i => some i.bytes
def zeroT (P : Program) (t : TypeId) : Option V := ob (P.info? t) fun i => ob i.zero ofConst

def rdT (P : Program) (t : TypeId) : Option Rd := match P.underlying t with
  | some (.struct _) | some (.array _ _) => ob (sizeT P t) fun n => some (.many n)
  | some _ => some .one
  | none => none

/-- Each field's place and size. -/
def placesT (P : Program) : List Field → Option (List (Nat × Nat))
  | [] => some []
  | f :: fs => ob (sizeT P f.type) fun n => ob (placesT P fs) fun r => some ((f.offset, n) :: r)

def compParts (C : CE) (place : Nat → Option (Nat × Nat)) : List (Nat × Operand) → Option (List (Nat × Nat × X))
  | [] => some []
  | (i, x) :: r => ob (place i) fun p => ob (compX C x) fun d => ob (compParts C place r) fun ds => some ((p.1, p.2, d) :: ds)

def compPairs (C : CE) : List (Nat × Operand) → Option (List (Nat × X))
  | [] => some []
  | (i, x) :: r => ob (compX C x) fun d => ob (compPairs C r) fun ds => some ((i, d) :: ds)

def isLitNil : Operand → Bool
  | .const _ => true
  | _ => false

/-- A struct's cells, by their kinds (so many levels deep). -/
def aggKinds (P : Program) : Nat → TypeId → Option (List PK)
  | 0, _ => none
  | d + 1, t => match P.underlying t with
    | some .bool => some [.bool]
    | some (.int _) => some [.int]
    | some .string => some [.str]
    | some (.struct fs) => chk (!P.stoodInHeld t && (sizeT P t).isSome) (fieldKinds P (aggKinds P d) 0 fs.toList)
    | _ => none
  where
  fieldKinds (P : Program) (k : TypeId → Option (List PK)) : Nat → List Field → Option (List PK)
    | _, [] => some []
    | at_, f :: fs => ob (k f.type) fun a => ob (sizeT P f.type) fun n => chk (Nat.beq f.offset at_ && Nat.beq n a.length && !(f.name == "_")) (ob (fieldKinds P k (at_ + n) fs) fun r => some (a ++ r))

def eqKind (P : Program) (t : TypeId) (x y : Operand) : EK := match P.underlying t with
  | some .bool => .bool
  | some (.pointer e) => match sizeT P e with
    | some 0 => .none
    | some _ => .ptr
    | none => .none
  | some (.interface _) => .iface (isLitNil x || isLitNil y)
  | some (.slice _) => .slice
  | some (.map _ _) => .map
  | some (.func _ _ _) => .func
  | some (.struct _) => match chk (!P.eqGuardType P.depth t) (aggKinds P 8 t) with
    | some ks => .agg ks
    | none => .none
  | _ => .none

/-- Keys that may be asked for as they stand. -/
def keyT (P : Program) (t : TypeId) : PK := match P.underlying t with
  | some .string => .str
  | some (.int _) => .int
  | _ => .no

def compCall (C : CE) (c : Call) : Option CD := ob (compXs C c.args.toList) fun as => match c.callee with
  | .value (.func f) => some (.func f as)
  | .value f => ob (compX C f) fun x => some (.value x as)
  | .invoke r name => ob (compX C r) fun x => some (.invoke x name as)
  | .builtin _ => none

def compBuiltin (C : CE) (b : Builtin) (ts : List TypeId) (xs : List X) : Option D :=
  match b, xs, ts with
  | .len, [x], t :: _ => match C.P.underlying t with
    | some .string => some (.p (.lenStr x))
    | some (.slice _) => some (.p (.lenSlice x))
    | some (.array n _) => some (.p (.lenArr n))
    | some (.map _ _) => some (.r (.mapLen x))
    | _ => none
  | .cap, [x], t :: _ => match C.P.underlying t with
    | some (.slice _) => some (.p (.cap x))
    | _ => none
  | .max, [x, y], _ => some (.p (.maxI x y))
  | .min, [x, y], _ => some (.p (.minI x y))
  | .unsafeSliceData, [x], _ => some (.p (.sliceData x))
  | .unsafeString, [x, n], [t, _] => match C.P.underlying t with
    | some (.pointer e) => match C.P.underlying e, sizeT C.P e with
      | some (.int .u8), some 1 => some (.e (.unsafeStr e x n))
      | _, _ => none
    | _ => none
  | .append, [s, x], [t, u] => match C.P.underlying t, C.P.underlying u with
    | some (.slice e), some ud => ob (sizeT C.P e) fun size => ob (bytesT C.P e) fun bytes => ob (zeroT C.P e) fun z => chk (Nat.blt 0 size && Nat.blt 0 bytes && Nat.beq z.cells.length size) (match ud with
      | .int _ => some (.e (.appendZeros e size bytes z.cells s x))
      | .slice _ => some (.e (.append e size bytes s x))
      | .string => some (.e (.append e size bytes s x))
      | _ => none)
    | _, _ => none
  | .copy, [d, s], t :: _ => match C.P.underlying t with
    | some (.slice e) => ob (sizeT C.P e) fun size => some (.e (.copy size d s))
    | _ => none
  | .clear, [x], t :: _ => match C.P.underlying t with
    | some (.map _ _) => some (.e (.clearMap x))
    | _ => none
  | .delete, [m, k], t :: _ => match C.P.underlying t with
    | some (.map kt _) => some (.e (.delete (keyT C.P kt) m k))
    | _ => none
  | _, _, _ => none

def compConvert (C : CE) (src dst : TypeId) (x : X) : Option D :=
  match C.P.underlying src, C.P.underlying dst with
  | some (.int _), some (.int k) => some (.p (.toInt k x))
  | some (.int _), some .string => some (.p (.runeStr x))
  | some .string, some .string => some (.p (.strSame x))
  | some .string, some (.slice e) => match C.P.underlying e, sizeT C.P e with
    | some (.int .u8), some 1 => some (.e (.strBytes e x))
    | _, _ => none
  | some (.slice _), some (.slice e) => match C.P.underlying e with
    | some (.int .u8) => chk (Nat.beq src dst) (some (.e (.sameBytes x)))
    | _ => none
  | some (.slice e), some .string => match C.P.underlying e, sizeT C.P e with
    | some (.int .u8), some 1 => some (.r (.bytesStr x))
    | _, _ => none
  | some (.pointer e), some .unsafePointer => match sizeT C.P e with
    | some (_ + 1) => some (.r (.ptrUnsafe x))
    | _ => none
  | some .unsafePointer, some (.pointer u) => match sizeT C.P u with
    | some (n + 1) => some (.r (.unsafePtr u (n + 1) x))
    | _ => none
  | _, _ => none

/-- Parts that are constants. -/
def constParts (size : Nat) : List (Nat × X) → List V → Option (List V)
  | [], cells => some cells
  | (i, .c v) :: r, cells => chk (Nat.beq v.cells.length size) (ob (putFrom cells (i * size) v.cells) (constParts size r))
  | (_, .t _) :: _, _ => none

def compOp? (C : CE) (o : Op) : Option D :=
  match o with
  | .move x | .assign x => ob (compX C x) fun x => some (.mov x)
  | .pick c a b => ob (compX C c) fun c => ob (compX C a) fun a => ob (compX C b) fun b => some (.p (.pick c a b))
  | .build t ps => ob (zeroT C.P t) fun z => match C.P.underlying t with
    | some (.struct fs) => ob (placesT C.P fs.toList) fun pl => ob (compParts C (fun i => pl[i]?) ps.toList) fun l => some (.p (.build z.cells l))
    | some (.array _ e) => ob (sizeT C.P e) fun n => ob (compParts C (fun i => some (i * n, n)) ps.toList) fun l => some (.p (.build z.cells l))
    | _ => none
  | .nilCheck x => ob (compX C x) fun x => some (.p (.nilCheck x))
  | .binOp op t x y _ => ob (compX C x) fun a => ob (compX C y) fun b => some (.p (.bin op (eqKind C.P t x y) a b))
  | .unOp op _ x => ob (compX C x) fun x => some (.p (.un op x))
  | .convert s d x => ob (compX C x) (compConvert C s d)
  | .makeInterface t x => match C.P.underlying t with
    | some (.interface _) => none
    | some _ => ob (compX C x) fun x => some (.p (.mkIface t x))
    | none => none
  | .makeFunc (.func f) a b => ob (compXs C a.toList) fun a => ob (compXs C b.toList) fun b => some (.p (.mkFunc f a b))
  | .slice t x lo hi mx => ob (compX C x) fun x => ob (compXo C lo) fun lo => ob (compXo C hi) fun hi => ob (compXo C mx) fun mx => match C.P.underlying t with
    | some .string => match mx with
      | none => some (.p (.sliceStr x lo hi))
      | some _ => none
    | some (.slice e) => ob (sizeT C.P e) fun n => chk (mx.isNone || hi.isSome) (some (.p (.slice n x lo hi mx)))
    | some (.array n e) => ob (sizeT C.P e) fun size => chk (mx.isNone || hi.isSome) (some (.p (.sliceArr n size x lo hi mx)))
    | _ => none
  | .fieldAddr t x f => match C.P.underlying t with
    | some (.struct fs) => ob fs[f]? fun fd => ob (sizeT C.P fd.type) fun n => chk (Nat.blt 0 n) (ob (compX C x) fun x => some (.p (.fieldAddr fd.offset x)))
    | _ => none
  | .field t x f => match C.P.underlying t with
    | some (.struct fs) => ob fs[f]? fun fd => ob (rdT C.P fd.type) fun rd => ob (compX C x) fun x => some (.p (.field rd fd.offset x))
    | _ => none
  | .indexAddr t x i => ob (compX C x) fun x => ob (compX C i) fun i => match C.P.underlying t with
    | some (.slice e) => ob (sizeT C.P e) fun n => some (.p (.indexAddr n x i))
    | some (.array n e) => ob (sizeT C.P e) fun size => some (.p (.indexAddrArr n size x i))
    | _ => none
  | .index t x i => ob (compX C x) fun x => ob (compX C i) fun i => match C.P.underlying t with
    | some .string => some (.p (.indexStr x i))
    | some (.array n e) => ob (sizeT C.P e) fun size => ob (rdT C.P e) fun rd => some (.p (.indexAgg rd n size x i))
    | _ => none
  | .typeAssert x _ t ok => ob (compX C x) fun x => ob (zeroT C.P t) fun z => match C.P.underlying t with
    | some (.interface want) => some (.p (.assertI want z ok x))
    | some _ => some (.p (.assertT t z ok x))
    | none => none
  | .extract x i => ob (compX C x) fun x => some (.p (.extract i x))
  | .load t x => ob (rdT C.P t) fun rd => ob (compX C x) fun x => some (.r (.load rd x))
  | .lookup t m k ok => ob (compX C m) fun m => ob (compX C k) fun k => match C.P.underlying t with
    | some (.map kt et) => ob (zeroT C.P et) fun z => some (.r (.lookup (keyT C.P kt) z ok m k))
    | _ => none
  | .alloc t => ob (zeroT C.P t) fun z => some (.e (.alloc t z.cells))
  | .box t x => ob (compX C x) fun x => some (.e (.box t x))
  | .entry x => ob (compX C x) fun x => some (.r (.entry x))
  | .buildSlice t n ps => match C.P.underlying t with
    | some (.slice e) => ob (sizeT C.P e) fun size => ob (zeroT C.P e) fun z => chk (Nat.ble (n * size) 65536 && Nat.beq z.cells.length size && Nat.blt 0 size) (ob (compPairs C ps.toList) fun l => some (.e (match constParts size l (repeatCells z.cells n) with
      | some cs => .allocRow e cs n
      | none => .buildSlice e size n (repeatCells z.cells n) l)))
    | _ => none
  | .store t a x => ob (sizeT C.P t) fun n => ob (compX C a) fun a => ob (compX C x) fun x => some (.e (.store n a x))
  | .makeMap _ none => some (.e .makeMap)
  | .makeSlice t n c => match C.P.underlying t with
    | some (.slice e) => ob (sizeT C.P e) fun size => ob (bytesT C.P e) fun bytes => ob (zeroT C.P e) fun z => ob (compX C n) fun n => ob (compX C c) fun c => some (.e (.makeSlice e size bytes z.cells n c))
    | _ => none
  | .mapUpdate t m k x | .insert t m k x => match C.P.underlying t with
    | some (.map kt _) => ob (compX C m) fun m => ob (compX C k) fun k => ob (compX C x) fun x => some (.e (.mapUpdate (keyT C.P kt) m k x))
    | _ => none
  | .mapEntry t m k => match C.P.underlying t with
    | some (.map kt et) => ob (zeroT C.P et) fun z => ob (compX C m) fun m => ob (compX C k) fun k => some (.e (.mapEntry (keyT C.P kt) z m k))
    | _ => none
  | .entryStore _ m s x => ob (compX C m) fun m => ob (compX C s) fun s => ob (compX C x) fun x => some (.e (.entryStore m s x))
  | .range t x => ob (compX C x) fun x => match C.P.underlying t with
    | some .string => some (.e (.rangeStr x))
    | some (.map _ _) => some (.e (.rangeMap x))
    | _ => none
  | .next x false => ob (compX C x) fun x => some (.e (.next x))
  | .call c => match c.callee with
    | .builtin b => ob (compXs C c.args.toList) (compBuiltin C b c.argTypes.toList)
    | _ => ob (compCall C c) fun d => some (.c d)
  | .defer c => match c.callee with
    | .value _ => ob (compCall C c) fun d => some (.defer d)
    | _ => none
  | _ => none

def compDst (C : CE) : Option Tmp → Option (Option Lb)
  | none => some none
  | some t => chk (Nat.blt t C.n) (some (some (pathOf t)))

def compGuard (C : CE) (ops : Array Oper) : Option (Nat × Bool) → Option (Option (Lb × Bool))
  | none => some none
  | some (j, w) => ob (ops.toList[j]?) fun o => ob o.dst fun d => chk (Nat.blt d C.n) (some (some (pathOf d, w)))

/-- An operation; what can't be compiled is 'stuck'. -/
def compDO (C : CE) (ops : Array Oper) (o : Oper) : Option DO :=
  ob (compDst C o.dst) fun d => ob (compGuard C ops o.guard) fun g => some { dst := d, op := (compOp? C o.op).getD .stuck, guard := g }

def compDOs (C : CE) (ops : Array Oper) : List Oper → Option (List DO)
  | [] => some []
  | o :: r => ob (compDO C ops o) fun d => ob (compDOs C ops r) fun ds => some (d :: ds)

/-! ### a region whose order is open -/

/-- Which operations come ahead of an operation in every order (a bit each). -/
def aheadOf (acc : List Nat) : List Edge → Nat
  | [] => 0
  | e :: r => Nat.lor (match Region.binds .any e with
    | true => Nat.lor (Nat.shiftLeft 1 e.on) ((acc[e.on]?).getD 0)
    | false => 0) (aheadOf acc r)

def aheads : List Oper → List Nat → List Nat
  | [], acc => acc
  | o :: r, acc => aheads r (acc ++ [aheadOf acc o.after.toList])

/-- The places of the effects. -/
def effsAt : List DO → Nat → List Nat
  | [], _ => []
  | d :: r, i => match isEff d with
    | true => i :: effsAt r (i + 1)
    | false => effsAt r (i + 1)

def chainOk (ah : List Nat) : List Nat → Bool
  | i :: j :: r => ((ah[j]?).getD 0).testBit i && chainOk ah (j :: r)
  | _ => true

def countB (f : Nat → Bool) : List Nat → Nat
  | [] => 0
  | i :: r => match f i with
    | true => countB f r + 1
    | false => countB f r

/-- Whatever two operations have no fixed order, they do not meet in a temporary. -/
def apartOk (ops : Array Oper) (ah : List Nat) : Bool :=
  (List.range ops.size).all fun j => (List.range j).all fun i => ((ah[j]?).getD 0).testBit i || (match ops.toList[i]?, ops.toList[j]? with
    | some x, some y => Oper.apart ops x y
    | _, _ => false)

def edgesOk (ops : Array Oper) : Bool :=
  (List.range ops.size).all fun j => match ops.toList[j]? with
    | some o => o.after.toList.all fun e => !Region.binds .any e || Nat.blt e.on j
    | none => false

def noDefer : List DO → Bool
  | [] => true
  | d :: r => (match d.op with | .defer _ => false | _ => true) && noDefer r

def tagAll (ah effs : List Nat) : List DO → Nat → List (DO × Nat × Nat)
  | [], _ => []
  | d :: r, i => (d, countB (fun e => ((ah[i]?).getD 0).testBit e) effs, countB (fun e => !((ah[e]?).getD 0).testBit i) effs) :: tagAll ah effs r (i + 1)

/-- The variables that a region makes are made ahead of it: each operation that makes one becomes a look at it. So does the first text whose bytes are put in memory, where that stands ahead of all effects ('q': till now there was none). 'k': the next place. -/
def reserve : List DO → Nat → Bool → List DO × List (Lb × TypeId × List V × Own)
  | [], _, _ => ([], [])
  | ⟨d, .e (.allocRow t cs n), g⟩ :: r, k, q => (⟨d, .r (.freshS t cs n (.t (pathOf k))), g⟩ :: (reserve r (k + 1) q).1, (pathOf k, t, cs, .yes) :: (reserve r (k + 1) q).2)
  | ⟨d, .e (.alloc t cs), g⟩ :: r, k, q => (⟨d, .r (.fresh t cs (.t (pathOf k))), g⟩ :: (reserve r (k + 1) q).1, (pathOf k, t, cs, .yes) :: (reserve r (k + 1) q).2)
  | ⟨d, .e (.strBytes e x), g⟩ :: r, k, true => (⟨d, .r (.freshB e x (.t (pathOf k))), g⟩ :: (reserve r (k + 1) false).1, (pathOf k, e, [], .marked) :: (reserve r (k + 1) false).2)
  | d :: r, k, q => (d :: (reserve r k (q && !isEff d)).1, (reserve r k (q && !isEff d)).2)

def compDraw (C : CE) (ops : Array Oper) (l : List DO) : DC :=
  let ah := aheads ops.toList []
  let effs := effsAt (reserve l C.n true).1 0
  match chainOk ah effs && apartOk ops ah && edgesOk ops && noDefer l && Nat.ble ops.size 65536 with
  | true => .draw (reserve l C.n true).2 (tagAll ah effs (reserve l C.n true).1 0)
  | false => .stuck

def compC (C : CE) : Code → DC
  | .skip => .skip
  | .label _ => .skip
  | .region _ ops draw => match compDOs C ops ops.toList with
    | some l => match draw with
      | true => compDraw C ops l
      | false => .ops l
    | none => .stuck
  | .seq a b => .seq (compC C a) (compC C b)
  | .cond c a b => match compX C c with
    | some x => .cond x (compC C a) (compC C b)
    | none => .stuck
  | .block id b => .block id (compC C b)
  | .loop b => .loop (compC C b)
  | .exit id => .exit id
  | .ret => .ret
  | _ => .stuck

def compRes (C : CE) : ResultVar → Option Res
  | .tmp t => chk (Nat.blt t C.n) (some (.tmp (pathOf t)))
  | .cell a t => chk (Nat.blt a C.n) (ob (rdT C.P t) fun rd => some (.cell (pathOf a) rd))

def compRess (C : CE) : List ResultVar → Option (List Res)
  | [] => some []
  | r :: rs => ob (compRes C r) fun d => ob (compRess C rs) fun ds => some (d :: ds)

def compFn (P : Program) (G : Nat) (f : Func) : Option DFn :=
  let C : CE := { P := P, G := G, n := f.ntmps }
  chk (Nat.ble f.ntmps 65536 && Nat.ble G 65536 && !(f.name == "runtime.NumGoroutine")) (ob f.body fun c => ob (compRess C f.results.toList) fun rs => some { ntmps := f.ntmps, code := compC C c, results := rs })

/-! ### what is asked of the program while it runs -/

def plainT (P : Program) (t : TypeId) : PK := match P.info? t with
  | some i => match i.comparable with
    | true => match P.underlying t with
      | some (.int _) => .int
      | some .string => .str
      | some .bool => .bool
      | _ => .no
    | false => .no
  | none => .no

def hasT (P : Program) (want : Array (String × TypeId)) (t : TypeId) : Option Bool :=
  ob (P.info? t) fun i => some (want.toList.all fun w => i.methods.toList.any fun m => m.sig == w.2 && m.name == w.1)

def methT (P : Program) (t : TypeId) (name : String) : Option FuncId :=
  ob (P.info? t) fun i => ob (i.methods.toList.find? fun m => m.name == name) fun m => chk m.path.isEmpty (match m.func, P.underlying t with
    | some (f, true), some (.pointer _) => some f
    | some (_, false), some (.pointer _) => none
    | some (f, false), some _ => some f
    | _, _ => none)

def envOf (P : Program) : Env := { plain := plainT P, has := hasT P, meth := methT P }

end Go.Dx
namespace Go.Dx
open Go

/-! ### objects that are the same -/

def esEq : List (V × V × Nat) → List (V × V × Nat) → Bool
  | [], [] => true
  | (a, b, c) :: r, (x, y, z) :: s => vEq a x && vEq b y && Nat.beq c z && esEq r s
  | _, _ => false

def ownEq : Own → Own → Bool
  | .no, .no => true
  | .yes, .yes => true
  | .marked, .marked => true
  | _, _ => false

def lboEq : Option Lb → Option Lb → Bool
  | none, none => true
  | some a, some b => lbEq a b
  | _, _ => false

def objEq : Obj → Obj → Bool
  | .cells a e f o, .cells b e' f' o' => vsEq a b && Nat.beq e e' && Nat.beq f f' && ownEq o o'
  | .map a c, .map b d => esEq a b && Nat.beq c d
  | .strIter s p, .strIter t q => natsEq s t && Nat.beq p q
  | .mapIter m a s b, .mapIter n c t d => lboEq m n && Nat.beq a c && natsEq s t && Nat.beq b d
  | _, _ => false

def holds (h : H) (l : Lb) (o : Obj) : Bool := match h.get l with
  | some x => objEq x o
  | none => false

def hasAll (h : H) : List (Lb × Obj) → Bool
  | [] => true
  | (l, o) :: r => match holds h l o with
    | true => hasAll h r
    | false => false

/-! ### calls of bytes alone, of which the answers are listed -/

def capEq : Cap → Cap → Bool
  | .exact a, .exact b => Nat.beq a b
  | .toEnd a, .toEnd b => Nat.beq a b
  | _, _ => false

/-- An argument, by what it holds. -/
inductive Key where
  | s (b : List Nat)
  | b (b : List Nat) (c : Cap)
  | nil (c : Nat)
  | emp

def inDomL (l : Lb) : List (Lb × Obj) → Bool
  | [] => false
  | (m, _) :: r => lbEq l m || inDomL l r

/-- A text; a slice of bytes from its row's first one on, with its label; a slice that holds nothing. -/
def keyOf (et : TypeId) (gl : List (Lb × Obj)) (h : H) : V → Option (Lb × Key)
  | .slice l off n cap => match h.get l with
    | some (.cells vs e _ _) => chk (Nat.beq off 0 && Nat.beq e et && !inDomL l gl) (ob (takeN n vs) fun r => ob (bytesIn r) fun b => some (l, .b b cap))
    | _ => none
  | .str b => some ([], .s b)
  | .nilSlice c => some ([], .nil c)
  | .empty => some ([], .emp)
  | _ => none

def keysOf (et : TypeId) (gl : List (Lb × Obj)) (h : H) : List V → Option (List (Lb × Key))
  | [] => some []
  | v :: vs => ob (keyOf et gl h v) fun k => ob (keysOf et gl h vs) fun ks => some (k :: ks)

def inKeys (l : Lb) : List (Lb × Key) → Bool
  | [] => false
  | (m, .b _ _) :: r => lbEq l m || inKeys l r
  | _ :: r => inKeys l r

def apartK : List (Lb × Key) → Bool
  | [] => true
  | (l, .b _ _) :: r => !inKeys l r && apartK r
  | _ :: r => apartK r

def keyEq : Key → Key → Bool
  | .s a, .s b => natsEq a b
  | .b a c, .b b d => natsEq a b && capEq c d
  | .nil c, .nil d => Nat.beq c d
  | .emp, .emp => true
  | _, _ => false

def keysEq : List (Lb × Key) → List Key → Bool
  | [], [] => true
  | (_, k) :: r, k' :: s => keyEq k k' && keysEq r s
  | _, _ => false

/-- A variable that holds a number from lo to hi. -/
def hasRng (h : H) : Option (Lb × Int × Int × TypeId) → Bool
  | none => true
  | some (l, lo, hi, t) => match h.get l with
    | some (.cells (.rng a b :: _) e _ _) => Nat.beq e t && intEq a lo && intEq b hi
    | _ => false

/-- With that variable, of which nothing more is said. -/
def rgGl (rg : Option (Lb × Int × Int × TypeId)) (gl : List (Lb × Obj)) : List (Lb × Obj) := match rg with
  | none => gl
  | some (l, lo, hi, t) => (l, .cells [.rng lo hi] t 0 .no) :: gl

def tabFind (ks : List (Lb × Key)) : List (List Key × V) → Option V
  | [] => none
  | (k, v) :: r => match keysEq ks k with
    | true => some v
    | false => tabFind ks r

inductive Ext where
  | nop
  | mark
  | same
  | cas32
  | add32
  | clone
  | noZero (et : TypeId)
  | indexByte
  /-- internal/bytealg.IndexByte, of a slice -/
  | indexByteB (et : TypeId)
  | compare
  /-- errors.As: where 'error's handle stands; rtype; the handles' block; 'error'; which types, into pointers of which type, of how many cells; which numbers' types go into which, which do not -/
  | as (at_ : Lb) (rt : TypeId) (g : Lb) (err : TypeId) (ps : List (TypeId × TypeId × Nat)) (hs ms : List (TypeId × TypeId))
  | typeOf (rt : TypeId) (g : Lb) (ts : List TypeId)
  | comparable (g : Lb) (ts : List TypeId)
  /-- a test of a text that came in, of which the answer is known -/
  | nameIs
  /-- a copy of a slice that came in -/
  | cloneAny (size : Nat)
  /-- internal/bytealg.Index | IndexString, where that variable (MaxLen) holds enough -/
  | index (mg : Lb) (et : TypeId)
  /-- a function of slices of bytes, that reads these variables besides: its answers -/
  | tab (et : TypeId) (gl : List (Lb × Obj)) (rg : Option (Lb × Int × Int × TypeId)) (ts : List (List Key × V))
  /-- slices.AppendSeq(nil, a map's keys | values): by which function values; of a map that holds nothing (g0), or one entry (g1) -/
  | seq (keys : Bool) (e : TypeId) (size bytes : Nat) (g0 g1 : List FuncId)

def cmpNats (a b : List Nat) : Int := match natsLess a b with
  | true => Int.negSucc 0
  | false => match natsEq a b with
    | true => Int.ofNat 0
    | false => Int.ofNat 1

def indexNat (c : Nat) : List Nat → Nat → Int
  | [], _ => Int.negSucc 0
  | b :: r, i => match Nat.beq b c with
    | true => Int.ofNat i
    | false => indexNat c r (i + 1)

def cellAt (h : H) (l : Lb) (off : Nat) : Option V := Q.ask h (.load .one l off)

/-- One value put behind a slice. -/
def push1 (h : H) (e : TypeId) (size bytes : Nat) (s x : V) : Option (V × H) :=
  chk (Nat.beq x.cells.length size && Nat.blt 0 size && Nat.blt 0 bytes && flats x.cells) (appendV h e size bytes s 1 x.cells)

def isIntV : V → Bool
  | .int .i64 _ => true
  | _ => false

def seqMap (h : H) (l : Lb) : Option (List (V × V × Nat)) := match cellAt h l 0 with
  | some (.map r) => match h.get r with
    | some (.map [] _) => some []
    | some (.map [x] c) => chk (Nat.blt x.2.2 c) (some [x])
    | _ => none
  | some .nilMap => some []
  | _ => none

/-- Where a text begins in another one. -/
def prefixN : List Nat → List Nat → Bool
  | [], _ => true
  | _ :: _, [] => false
  | a :: x, b :: y => match Nat.beq a b with
    | true => prefixN x y
    | false => false

def indexOfN (t : List Nat) : List Nat → Nat → Int
  | [], i => match t with
    | [] => Int.ofNat i
    | _ :: _ => Int.negSucc 0
  | b :: r, i => match prefixN t (b :: r) with
    | true => Int.ofNat i
    | false => indexOfN t r (i + 1)

/-- A text's bytes, or a slice's. -/
def bytesAt (et : TypeId) (h : H) : V → Option (List Nat)
  | .str b => some b
  | .slice l off n _ => match h.get l with
    | some (.cells vs e _ _) => chk (Nat.beq e et) (ob (rowFrom vs off n) bytesIn)
    | _ => none
  | _ => none

/-- Are both texts, or both slices? -/
def sameSort : V → V → Bool
  | .str _, .str _ => true
  | .slice _ _ _ _, .slice _ _ _ _ => true
  | _, _ => false

/-- Is what that variable holds no less? -/
def atLeast (h : H) (l : Lb) (n : Nat) : Bool := match h.get l with
  | some (.cells (.rng a _ :: _) _ _ _) => !intLt a (Int.ofNat n)
  | _ => false

def hasPair (t tp n : Nat) : List (TypeId × TypeId × Nat) → Bool
  | [] => false
  | (a, b, c) :: r => (Nat.beq a t && Nat.beq b tp && Nat.beq c n) || hasPair t tp n r

def hasTwo (t tp : Nat) : List (TypeId × TypeId) → Bool
  | [] => false
  | (a, b) :: r => (Nat.beq a t && Nat.beq b tp) || hasTwo t tp r

def extRun (P : Program) (k : Ext) (args : List V) (h : H) : Option (V × H) :=
  match k with
  | .nop => match args with
    | [] => some (.tuple [], h)
    | _ => none
  | .mark => match args with
    | [.ptr _ _] => some (.tuple [], h)
    | _ => none
  | .same => match args with
    | [x] => some (x, h)
    | _ => none
  | .cas32 => match args with
    | [.ptr l off, .int .i32 x, .int .i32 y] => match cellAt h l off with
      | some (.int .i32 v) => chk (intEq v x) (ob (storeV h l off [.int .i32 y]) fun h' => some (.bool true, h'))
      | _ => none
    | _ => none
  | .add32 => match args with
    | [.ptr l off, .int .i32 y] => match cellAt h l off with
      | some (.int .i32 v) => ob (storeV h l off [.int .i32 (wrapD .i32 (v + y))]) fun h' => some (.int .i32 (wrapD .i32 (v + y)), h')
      | _ => none
    | _ => none
  | .clone => match args with
    | [.iface t (.map r)] => match h.get r with
      | some (.map es c) => some (.iface t (.map h.next), h.add (.map es c))
      | _ => none
    | _ => none
  | .noZero et => match args with
    | [.int .i64 (.ofNat n)] => chk (Nat.ble n 1048576) (some (.slice h.next 0 n (.toEnd 1), h.add (.cells [] et 0 .yes)))
    | _ => none
  | .indexByte => match args with
    | [.str s, .int .u8 (.ofNat c)] => chk (Nat.blt c 256) (some (.int .i64 (indexNat c s 0), h))
    | _ => none
  | .indexByteB et => match args with
    | [.slice l off n cap, .int .u8 (.ofNat c)] => chk (Nat.blt c 256) (ob (bytesAt et h (.slice l off n cap)) fun s => some (.int .i64 (indexNat c s 0), h))
    | _ => none
  | .compare => match args with
    | [.str a, .str b] => some (.int .i64 (cmpNats a b), h)
    | _ => none
  | .as at_ rt g err ps hs ms => match args with
    | [.nilIface, _] => some (.bool false, h)
    | [.iface t (.agg cs), .iface tp (.ptr l off)] => match cellAt h at_ 0 with
      | some (.iface r (.agg [.ptr l2 e])) => chk (Nat.beq r rt && lbEq l2 g && Nat.beq e err && hasPair t tp cs.length ps) (ob (storeV h l off cs) fun h' => some (.bool true, h'))
      | _ => none
    | [.iface t (.int .i64 n), .iface tp (.ptr l off)] => match cellAt h at_ 0 with
      | some (.iface r (.agg [.ptr l2 e])) => chk (Nat.beq r rt && lbEq l2 g && Nat.beq e err) (match hasTwo t tp ms with
        | true => some (.bool false, h)
        | false => chk (hasTwo t tp hs) (ob (storeV h l off [.int .i64 n]) fun h' => some (.bool true, h')))
      | _ => none
    | _ => none
  | .typeOf rt g ts => match args with
    | [.iface t _] => chk (hasNat t ts) (some (.iface rt (.agg [.ptr g t]), h))
    | _ => none
  | .comparable g ts => match args with
    | [.agg [.ptr l t]] => chk (lbEq l g && hasNat t ts) (ob (P.info? t) fun i => some (.bool i.comparable, h))
    | _ => none
  | .nameIs => match args with
    | [.sym _ 3] => some (.bool true, h)
    | [.sym _ 2] => some (.bool false, h)
    | _ => none
  | .cloneAny size => match args with
    | [.sym _ n] => chk (Nat.beq n size) (some (.any, h))
    | _ => none
  | .index mg et => match args with
    | [x, y] => ob (bytesAt et h x) fun a => ob (bytesAt et h y) fun b => chk (sameSort x y && Nat.ble 2 b.length && Nat.blt a.length 4294967281 && atLeast h mg b.length) (some (.int .i64 (indexOfN b a 0), h))
    | _ => none
  | .tab et gl rg ts => ob (keysOf et (rgGl rg gl) h args) fun ks => chk (apartK ks && hasAll h gl && hasRng h rg) (ob (tabFind ks ts) fun v => some (v, h))
  | .seq keys e size bytes g0 g1 => match args with
    | [.nilSlice 0, .func g [] [.ptr l 0]] => match seqMap h l with
      | some [] => chk (hasNat g g0) (some (.nilSlice 0, h))
      | some [x] => chk (hasNat g g1 && (match keys with | true => isIntV x.1 | false => true)) (push1 h e size bytes (.nilSlice 0) (match keys with | true => x.1 | false => x.2.1))
      | _ => none
    | _ => none

def findExt : List (FuncId × Ext) → FuncId → Option Ext
  | [], _ => none
  | (g, k) :: r, f => match Nat.beq g f with
    | true => some k
    | false => findExt r f

def orcOf (P : Program) (ids : List (FuncId × Ext)) : Orc := fun f args h => ob (findExt ids f) fun k => extRun P k args h

end Go.Dx
namespace Go.Dx
open Go
namespace K

noncomputable section

def obK {α β : Type} (x : Option α) (f : α → Option β) : Option β := Option.rec (motive := fun _ => Option β) none f x
def chkK {β : Type} (b : Bool) (k : Option β) : Option β := Bool.rec (motive := fun _ => Option β) none k b

def getRow {α : Type} (_l : T α) (v : Option α) (_r : T α) (ihl ihr : Lb → Option α) (p : Lb) : Option α :=
  List.rec (motive := fun _ => Option α) v (fun b p' _ => Bool.rec (motive := fun _ => Option α) (ihl p') (ihr p') b) p
def getK {α : Type} (t : T α) : Lb → Option α := T.rec (motive := fun _ => Lb → Option α) (fun _ => none) getRow t

def setLeafK {α : Type} (p : Lb) (x : Option α) : T α :=
  List.rec (motive := fun _ => T α) (.node .leaf x .leaf) (fun b _ ih => Bool.rec (motive := fun _ => T α) (.node ih none .leaf) (.node .leaf none ih) b) p
def setRow {α : Type} (l : T α) (v : Option α) (r : T α) (ihl ihr : Lb → Option α → T α) (p : Lb) (x : Option α) : T α :=
  List.rec (motive := fun _ => T α) (.node l x r) (fun b p' _ => Bool.rec (motive := fun _ => T α) (.node (ihl p' x) v r) (.node l v (ihr p' x)) b) p
def setK {α : Type} (t : T α) : Lb → Option α → T α := T.rec (motive := fun _ => Lb → Option α → T α) setLeafK setRow t

theorem getK_eq {α : Type} (t : T α) : ∀ p, getK t p = t.get p := by
  induction t with
  | leaf => intro p; rfl
  | node l v r ihl ihr =>
    intro p
    cases p with
    | nil => rfl
    | cons b p => cases b
                  · exact ihl p
                  · exact ihr p

theorem setLeafK_eq {α : Type} (x : Option α) : ∀ p, setLeafK p x = T.set (.leaf : T α) p x := by
  intro p
  induction p with
  | nil => rfl
  | cons b p ih => cases b <;> (simp only [T.set, ← ih]; rfl)

theorem setK_eq {α : Type} (t : T α) : ∀ p x, setK t p x = t.set p x := by
  induction t with
  | leaf => intro p x; exact setLeafK_eq x p
  | node l v r ihl ihr =>
    intro p x
    cases p with
    | nil => rfl
    | cons b p => cases b
                  · simp only [T.set, ← ihl]; rfl
                  · simp only [T.set, ← ihr]; rfl

def getTK (tm : T V) (p : Lb) : V := Option.rec (motive := fun _ => V) undef (fun v => v) (getK tm p)
def evK (x : X) (tm : T V) : V := X.rec (motive := fun _ => T V → V) (fun p tm => getTK tm p) (fun v _ => v) x tm
def evsK (l : List X) (tm : T V) : List V := List.rec (motive := fun _ => T V → List V) (fun _ => []) (fun x _ ih tm => evK x tm :: ih tm) l tm

theorem getTK_eq (tm : T V) (p : Lb) : getTK tm p = getT tm p := by
  unfold getTK getT; rw [getK_eq]; cases tm.get p <;> rfl
theorem evK_eq (x : X) (tm : T V) : evK x tm = x.ev tm := by
  cases x with
  | t p => exact getTK_eq tm p
  | c v => rfl
theorem evsK_eq (l : List X) (tm : T V) : evsK l tm = evs tm l := by
  induction l with
  | nil => rfl
  | cons x l ih => simp only [evs, ← ih, ← evK_eq]; rfl

def evoK (x : Option X) (tm : T V) : Option V := Option.rec (motive := fun _ => T V → Option V) (fun _ => none) (fun x tm => some (evK x tm)) x tm
theorem evoK_eq (x : Option X) (tm : T V) : evoK x tm = evo tm x := by
  cases x with
  | none => rfl
  | some x => simp only [evo, ← evK_eq]; rfl

/-! ### what hangs on operands alone -/

def isTrue (v : V) : Option Bool := match v with
  | .bool b => some b
  | _ => none

def pPick (c a b : X) (_ : Env) (tm : T V) : Option V := obK (isTrue (evK c tm)) fun x => Bool.rec (motive := fun _ => Option V) (some (evK b tm)) (some (evK a tm)) x
def pBuild (z : List V) (ps : List (Nat × Nat × X)) (_ : Env) (tm : T V) : Option V := obK (fillIn tm ps z) fun cs => some (.agg cs)
def pNil (x : X) (_ : Env) (tm : T V) : Option V := nilCheckOp (evK x tm)
def pBin (op : BinOp) (ek : EK) (x y : X) (E : Env) (tm : T V) : Option V := binOp E.plain op ek (evK x tm) (evK y tm)
def pUn (op : UnOp) (x : X) (_ : Env) (tm : T V) : Option V := unOp op (evK x tm)
def pToInt (k : IntKind) (x : X) (_ : Env) (tm : T V) : Option V := match evK x tm with
  | .int _ n => some (.int k (wrapD k n))
  | _ => none
def pRune (x : X) (_ : Env) (tm : T V) : Option V := match evK x tm with
  | .int _ n => some (.str ((Utf8.encode n).data.toList.map (·.toNat)))
  | _ => none
def pStrSame (x : X) (_ : Env) (tm : T V) : Option V := strSameOp (evK x tm)
def pIface (t : TypeId) (x : X) (_ : Env) (tm : T V) : Option V := some (.iface t (evK x tm))
def pFunc (f : FuncId) (a b : List X) (_ : Env) (tm : T V) : Option V := some (.func f (evsK a tm) (evsK b tm))
def pSliceStr (x : X) (lo hi : Option X) (_ : Env) (tm : T V) : Option V := match evK x tm with
  | .str s => sliceStrOp s (evoK lo tm) (evoK hi tm)
  | _ => none
def pSlice (size : Nat) (x : X) (lo hi mx : Option X) (_ : Env) (tm : T V) : Option V := sliceOp size (evK x tm) (evoK lo tm) (evoK hi tm) (evoK mx tm)
def pSliceArr (n size : Nat) (x : X) (lo hi mx : Option X) (_ : Env) (tm : T V) : Option V := sliceArrOp n size (evK x tm) (evoK lo tm) (evoK hi tm) (evoK mx tm)
def pFieldAddr (o : Nat) (x : X) (_ : Env) (tm : T V) : Option V := match evK x tm with
  | .ptr a off => some (.ptr a (off + o))
  | _ => none
def pField (rd : Rd) (o : Nat) (x : X) (_ : Env) (tm : T V) : Option V := match evK x tm with
  | .agg cs => rdPart rd cs o
  | _ => none
def pIndexAddr (size : Nat) (x i : X) (_ : Env) (tm : T V) : Option V := indexAddrOp size (evK x tm) (evK i tm)
def pIndexArr (n size : Nat) (x i : X) (_ : Env) (tm : T V) : Option V := indexArrOp n size (evK x tm) (evK i tm)
def pIndexStr (x i : X) (_ : Env) (tm : T V) : Option V := indexStrOp (evK x tm) (evK i tm)
def pIndexAgg (rd : Rd) (n size : Nat) (x i : X) (_ : Env) (tm : T V) : Option V := indexAggOp rd n size (evK x tm) (evK i tm)
def pAssertI (w : Array (String × TypeId)) (z : V) (ok : Bool) (x : X) (E : Env) (tm : T V) : Option V := assertIOp (E.has w) z ok (evK x tm)
def pAssertT (t : TypeId) (z : V) (ok : Bool) (x : X) (_ : Env) (tm : T V) : Option V := assertTOp t z ok (evK x tm)
def pExtract (i : Nat) (x : X) (_ : Env) (tm : T V) : Option V := extractOp i (evK x tm)
def pLenStr (x : X) (_ : Env) (tm : T V) : Option V := lenStrOp (evK x tm)
def pLenSlice (x : X) (_ : Env) (tm : T V) : Option V := lenSliceOp (evK x tm)
def pLenArr (n : Nat) (_ : Env) (_ : T V) : Option V := some (.int .i64 (Int.ofNat n))
def pCap (x : X) (_ : Env) (tm : T V) : Option V := capOp (evK x tm)
def pMax (x y : X) (_ : Env) (tm : T V) : Option V := maxOp (evK x tm) (evK y tm)
def pMin (x y : X) (_ : Env) (tm : T V) : Option V := minOp (evK x tm) (evK y tm)
def pData (x : X) (_ : Env) (tm : T V) : Option V := sliceDataOp (evK x tm)

def pArrPtr (n : Nat) (x : X) (_ : Env) (tm : T V) : Option V := arrPtrOp n (evK x tm)

def PDK (d : PD) (E : Env) (tm : T V) : Option V :=
  PD.rec (motive := fun _ => Env → T V → Option V) pPick pBuild pNil pBin pUn pToInt pRune pStrSame pIface pFunc pSliceStr pSlice pSliceArr pFieldAddr pField pIndexAddr pIndexArr pIndexStr pIndexAgg pAssertI pAssertT pExtract pLenStr pLenSlice pLenArr pCap pMax pMin pData pArrPtr d E tm

theorem PDK_eq (d : PD) (E : Env) (tm : T V) : PDK d E tm = d.eval E tm := by
  cases d <;> (simp only [PD.eval, ← evK_eq, ← evsK_eq, ← evoK_eq]; try rfl)
  case pick c a b =>
    show pPick c a b E tm = _
    unfold pPick isTrue
    cases evK c tm <;> try rfl
    rename_i x; cases x <;> rfl
  case build z ps => show pBuild z ps E tm = _; unfold pBuild; cases fillIn tm ps z <;> rfl

/-! ### what reads memory -/

def ptrOf (v : V) : Option (Lb × Nat) := match v with
  | .ptr l o => some (l, o)
  | _ => none

def rLoad (rd : Rd) (x : X) (tm : T V) : Option Q := obK (ptrOf (evK x tm)) fun p => some (.load rd p.1 p.2)
def rLookup (pk : PK) (z : V) (ok : Bool) (m k : X) (tm : T V) : Option Q := chkK (plainKey pk (evK k tm)) (some (.lookup pk z ok (evK m tm) (evK k tm)))
def rBytes (x : X) (tm : T V) : Option Q := some (.bytes (evK x tm))
def rPtr (x : X) (tm : T V) : Option Q := obK (ptrOf (evK x tm)) fun p => some (.row p.1 p.2)
def rUnsafe (u : TypeId) (n : Nat) (x : X) (tm : T V) : Option Q := obK (ptrOf (evK x tm)) fun p => some (.whole u n p.1 p.2)
def rMapLen (x : X) (tm : T V) : Option Q := some (.mapLen (evK x tm))
def rFresh (t : TypeId) (cs : List V) (x : X) (tm : T V) : Option Q := obK (ptrOf (evK x tm)) fun p => some (.fresh t cs p.1 p.2)

def rFreshS (t : TypeId) (cs : List V) (n : Nat) (x : X) (tm : T V) : Option Q := obK (ptrOf (evK x tm)) fun p => some (.freshS t cs n p.1 p.2)
def rEntry (x : X) (tm : T V) : Option Q := obK (ptrOf (evK x tm)) fun p => some (.entry p.1 p.2)

def rFreshB (e : TypeId) (x s : X) (tm : T V) : Option Q := RD.req tm (.freshB e x s)

def RDK (d : RD) (tm : T V) : Option Q := RD.rec (motive := fun _ => T V → Option Q) rLoad rLookup rBytes rPtr rUnsafe rMapLen rFresh rFreshS rEntry rFreshB d tm

theorem RDK_eq (d : RD) (tm : T V) : RDK d tm = d.req tm := by
  cases d <;> simp only [RD.req, ← evK_eq]
  case load rd x => show rLoad rd x tm = _; unfold rLoad ptrOf reqPtr; cases evK x tm <;> rfl
  case lookup pk z ok m k => show rLookup pk z ok m k tm = _; unfold rLookup; cases plainKey pk (evK k tm) <;> rfl
  case bytesStr x => rfl
  case ptrUnsafe x => show rPtr x tm = _; unfold rPtr ptrOf reqPtr; cases evK x tm <;> rfl
  case unsafePtr u n x => show rUnsafe u n x tm = _; unfold rUnsafe ptrOf reqPtr; cases evK x tm <;> rfl
  case mapLen x => rfl
  case freshS t cs n x => show rFreshS t cs n x tm = _; unfold rFreshS ptrOf reqPtr; cases evK x tm <;> rfl
  case entry x => show rEntry x tm = _; unfold rEntry ptrOf reqPtr; cases evK x tm <;> rfl
  case freshB e x s => show RD.req tm (.freshB e x s) = _; simp only [RD.req, ← evK_eq]
  case fresh t cs x => show rFresh t cs x tm = _; unfold rFresh ptrOf reqPtr; cases evK x tm <;> rfl

/-! ### running -/

def boolEq (want b : Bool) : Bool := Bool.rec (motive := fun _ => Bool) (!b) b want
def wantsG (g : Lb × Bool) (tm : T V) : Bool := Option.rec (motive := fun _ => Bool) false (boolEq g.2) (isTrue (getTK tm g.1))
def wantsK (g : Option (Lb × Bool)) (tm : T V) : Bool := Option.rec (motive := fun _ => T V → Bool) (fun _ => true) wantsG g tm

def putD (d : Lb) (v : V) (tm : T V) : T V := setK tm d (some v)
def putK (d : Option Lb) (v : V) (tm : T V) : T V := Option.rec (motive := fun _ => V → T V → T V) (fun _ tm => tm) putD d v tm

abbrev St := T V → List (FuncId × List V) → H → Option (A × H)

/-- One operation, then what follows ('k'). -/
def sMov (x : X) (dst : Option Lb) (_ : Env) (_ : Orc) (tm : T V) (ds : List (FuncId × List V)) (h : H) (k : T V → List (FuncId × List V) → H → Option (A × H)) : Option (A × H) := k (putK dst (evK x tm) tm) ds h
def sP (q : PD) (dst : Option Lb) (E : Env) (_ : Orc) (tm : T V) (ds : List (FuncId × List V)) (h : H) (k : T V → List (FuncId × List V) → H → Option (A × H)) : Option (A × H) := obK (PDK q E tm) fun v => k (putK dst v tm) ds h
def sR (q : RD) (dst : Option Lb) (_ : Env) (_ : Orc) (tm : T V) (ds : List (FuncId × List V)) (h : H) (k : T V → List (FuncId × List V) → H → Option (A × H)) : Option (A × H) := obK (RDK q tm) fun q => obK (q.ask h) fun v => k (putK dst v tm) ds h
def sE (q : ED) (dst : Option Lb) (_ : Env) (_ : Orc) (tm : T V) (ds : List (FuncId × List V)) (h : H) (k : T V → List (FuncId × List V) → H → Option (A × H)) : Option (A × H) := obK (q.run tm h) fun r => k (putK dst r.1 tm) ds r.2
def sC (q : CD) (dst : Option Lb) (E : Env) (call : Orc) (tm : T V) (ds : List (FuncId × List V)) (h : H) (k : T V → List (FuncId × List V) → H → Option (A × H)) : Option (A × H) := obK (q.args E tm) fun f => obK (call f.1 f.2 h) fun r => k (putK dst r.1 tm) ds r.2
def sDefer (q : CD) (dst : Option Lb) (E : Env) (_ : Orc) (tm : T V) (ds : List (FuncId × List V)) (h : H) (k : T V → List (FuncId × List V) → H → Option (A × H)) : Option (A × H) := obK (q.args E tm) fun f => k (putK dst undef tm) (f :: ds) h
def sStuck (_ : Option Lb) (_ : Env) (_ : Orc) (_ : T V) (_ : List (FuncId × List V)) (_ : H) (_ : T V → List (FuncId × List V) → H → Option (A × H)) : Option (A × H) := none


def stepK (d : D) (dst : Option Lb) (E : Env) (call : Orc) (tm : T V) (ds : List (FuncId × List V)) (h : H) (k : T V → List (FuncId × List V) → H → Option (A × H)) : Option (A × H) :=
  D.rec (motive := fun _ => Option Lb → Env → Orc → T V → List (FuncId × List V) → H → (T V → List (FuncId × List V) → H → Option (A × H)) → Option (A × H)) sMov sP sR sE sC sDefer sStuck d dst E call tm ds h k

def opsNil (_ : Env) (_ : Orc) (tm : T V) (ds : List (FuncId × List V)) (h : H) : Option (A × H) := some ({ tmps := tm, defers := ds }, h)
def opsCons (d : DO) (_ : List DO) (ih : Env → Orc → T V → List (FuncId × List V) → H → Option (A × H)) (E : Env) (call : Orc) (tm : T V) (ds : List (FuncId × List V)) (h : H) : Option (A × H) :=
  Bool.rec (motive := fun _ => Option (A × H)) (ih E call (putK d.dst undef tm) ds h) (stepK d.op d.dst E call tm ds h (ih E call)) (wantsK d.guard tm)
def runOpsK (l : List DO) : Env → Orc → T V → List (FuncId × List V) → H → Option (A × H) :=
  List.rec (motive := fun _ => Env → Orc → T V → List (FuncId × List V) → H → Option (A × H)) opsNil opsCons l

theorem wantsK_eq (g : Option (Lb × Bool)) (tm : T V) : wantsK g tm = wants tm g := by
  cases g with
  | none => rfl
  | some g =>
    obtain ⟨p, w⟩ := g
    show wantsG (p, w) tm = _
    unfold wantsG isTrue wants
    simp only [getTK_eq]
    cases getT tm p <;> cases w <;> rfl

theorem putK_eq (a : A) (d : Option Lb) (v : V) : { tmps := putK d v a.tmps, defers := a.defers } = a.put d v := by
  cases d with
  | none => rfl
  | some d => simp only [A.put, ← setK_eq]; rfl

theorem ob_eq {α β : Type} (x : Option α) (f : α → Option β) : obK x f = ob x f := by cases x <;> rfl

theorem runOpsK_eq (E : Env) (call : Orc) : ∀ (l : List DO) (a : A) (h : H), runOpsK l E call a.tmps a.defers h = runOps E call l a h := by
  intro l
  induction l with
  | nil => intro a h; rfl
  | cons d l ih =>
    intro a h
    show opsCons d l (runOpsK l) E call a.tmps a.defers h = _
    unfold opsCons
    simp only [runOps, ← wantsK_eq]
    cases wantsK d.guard a.tmps with
    | false => exact (ih (a.put d.dst undef) h ▸ by rw [← putK_eq])
    | true =>
      show stepK d.op d.dst E call a.tmps a.defers h (runOpsK l E call) = _
      have key : ∀ v h', runOpsK l E call (putK d.dst v a.tmps) a.defers h' = runOps E call l (a.put d.dst v) h' := fun v h' => by
        rw [← ih (a.put d.dst v) h', ← putK_eq]
      obtain ⟨dst, op, g⟩ := d
      cases op with
      | mov x => simp only [stepD, ob, ← evK_eq]; exact key _ _
      | p q =>
        show sP q dst E call a.tmps a.defers h _ = _
        unfold sP; simp only [stepD, PDK_eq, ob_eq]; cases q.eval E a.tmps <;> simp only [ob]; exact key _ _
      | r q =>
        show sR q dst E call a.tmps a.defers h _ = _
        unfold sR; simp only [stepD, RDK_eq, ob_eq]; cases q.req a.tmps <;> simp only [ob]
        rename_i q'; cases q'.ask h <;> simp only []; exact key _ _
      | e q =>
        show sE q dst E call a.tmps a.defers h _ = _
        unfold sE; simp only [stepD, ob_eq]; cases q.run a.tmps h <;> simp only [ob]; exact key _ _
      | c q =>
        show sC q dst E call a.tmps a.defers h _ = _
        unfold sC; simp only [stepD, ob_eq]; cases q.args E a.tmps <;> simp only [ob]
        rename_i f; cases call f.1 f.2 h <;> simp only []; exact key _ _
      | defer q =>
        show sDefer q dst E call a.tmps a.defers h _ = _
        unfold sDefer; simp only [stepD, ob_eq]; cases q.args E a.tmps <;> simp only [ob]
        rename_i f
        rw [← ih ({ tmps := a.tmps, defers := f :: a.defers : A }.put dst undef) h, ← putK_eq]
      | stuck => rfl

/-! ### code -/

abbrev Ec := DC → A → H → Option (Ex × A × H)

def xSkip (_ : Env) (_ : Orc) (_ : Ec) (a : A) (h : H) : Option (Ex × A × H) := some (.normal, a, h)
def xOps (l : List DO) (E : Env) (call : Orc) (_ : Ec) (a : A) (h : H) : Option (Ex × A × H) := obK (runOpsK l E call a.tmps a.defers h) fun r => some (.normal, r.1, r.2)
def xDraw (m : List Made) (l : List (DO × Nat × Nat)) (E : Env) (call : Orc) (_ : Ec) (a : A) (h : H) : Option (Ex × A × H) :=
  obK (guessed E l m a.tmps h) fun m => obK (runDraw E call l { tmps := (makeAll m a.tmps h).1, defers := a.defers } (makeAll m a.tmps h).2 0 [] []) fun r => some (.normal, r.1, r.2)
def xThen (next : A → H → Option (Ex × A × H)) (r : Ex × A × H) : Option (Ex × A × H) :=
  Ex.rec (motive := fun _ => A → H → Option (Ex × A × H)) next (fun i a h => some (.exit i, a, h)) (fun a h => some (.ret, a, h)) r.1 r.2.1 r.2.2
def xSeq (x y : DC) (_ _ : Env → Orc → Ec → A → H → Option (Ex × A × H)) (_ : Env) (_ : Orc) (exec : Ec) (a : A) (h : H) : Option (Ex × A × H) := obK (exec x a h) (xThen (exec y))
def xCond (c : X) (x y : DC) (_ _ : Env → Orc → Ec → A → H → Option (Ex × A × H)) (_ : Env) (_ : Orc) (exec : Ec) (a : A) (h : H) : Option (Ex × A × H) :=
  obK (isTrue (evK c a.tmps)) fun b => Bool.rec (motive := fun _ => Option (Ex × A × H)) (exec y a h) (exec x a h) b
def xBlockEnd (id : Nat) (r : Ex × A × H) : Option (Ex × A × H) :=
  Ex.rec (motive := fun _ => A → H → Option (Ex × A × H)) (fun a h => some (.normal, a, h)) (fun i a h => some (Bool.rec (motive := fun _ => Ex) (.exit i) .normal (Nat.beq i id), a, h)) (fun a h => some (.ret, a, h)) r.1 r.2.1 r.2.2
def xBlock (id : Nat) (b : DC) (_ : Env → Orc → Ec → A → H → Option (Ex × A × H)) (_ : Env) (_ : Orc) (exec : Ec) (a : A) (h : H) : Option (Ex × A × H) := obK (exec b a h) (xBlockEnd id)
def xLoop (b : DC) (_ : Env → Orc → Ec → A → H → Option (Ex × A × H)) (_ : Env) (_ : Orc) (exec : Ec) (a : A) (h : H) : Option (Ex × A × H) := obK (exec b a h) (xThen (exec (.loop b)))
def xExit (id : Nat) (_ : Env) (_ : Orc) (_ : Ec) (a : A) (h : H) : Option (Ex × A × H) := some (.exit id, a, h)
def xRet (_ : Env) (_ : Orc) (_ : Ec) (a : A) (h : H) : Option (Ex × A × H) := some (.ret, a, h)
def xStuck (_ : Env) (_ : Orc) (_ : Ec) (_ : A) (_ : H) : Option (Ex × A × H) := none

def execK (E : Env) (call : Orc) (exec : Ec) (c : DC) (a : A) (h : H) : Option (Ex × A × H) :=
  DC.rec (motive := fun _ => Env → Orc → Ec → A → H → Option (Ex × A × H)) xSkip xOps xDraw xSeq xCond xBlock xLoop xExit xRet xStuck c E call exec a h

theorem execK_eq (E : Env) (call : Orc) (exec : Ec) (c : DC) (a : A) (h : H) : execK E call exec c a h = execStep E call exec c a h := by
  cases c with
  | skip => rfl
  | ops l => show xOps l E call exec a h = _; unfold xOps; rw [runOpsK_eq, ob_eq]; rfl
  | draw m l => show xDraw m l E call exec a h = _; unfold xDraw; simp only [ob_eq]; rfl
  | seq x y =>
    show obK (exec x a h) (xThen (exec y)) = _
    rw [ob_eq]; simp only [execStep]; cases exec x a h with
    | none => rfl
    | some r => obtain ⟨e, a', h'⟩ := r; cases e <;> rfl
  | cond c x y =>
    show obK (isTrue (evK c a.tmps)) _ = _
    simp only [execStep, ← evK_eq]
    cases evK c a.tmps <;> try rfl
    rename_i b; cases b <;> rfl
  | block id b =>
    show obK (exec b a h) (xBlockEnd id) = _
    rw [ob_eq]; simp only [execStep]; cases exec b a h with
    | none => rfl
    | some r =>
      obtain ⟨e, a', h'⟩ := r; cases e with
      | exit i => simp only [ob, xBlockEnd]; cases Nat.beq i id <;> rfl
      | _ => rfl
  | loop b =>
    show obK (exec b a h) (xThen (exec (.loop b))) = _
    rw [ob_eq]; simp only [execStep]; cases exec b a h with
    | none => rfl
    | some r => obtain ⟨e, a', h'⟩ := r; cases e <;> rfl
  | exit id => rfl
  | ret => rfl
  | stuck => rfl

def orcGot (r : V × H) : Option (V × H) := some r
def fnAtK (fns : T DFn) (f : FuncId) : Option DFn := chkK (Nat.blt f 65536) (getK fns (pathOf f))
def endK (late : FuncId → List V → H → Option H) (fn : DFn) (r : Ex × A × H) : Option (V × H) :=
  Ex.rec (motive := fun _ => Option (V × H)) (obK (leaveD late r.2.1.defers r.2.2) fun h' => obK (resultsD h' r.2.1.tmps fn.results) fun vs => some (packD vs, h')) (fun _ => none)
    (obK (leaveD late r.2.1.defers r.2.2) fun h' => obK (resultsD h' r.2.1.tmps fn.results) fun vs => some (packD vs, h')) r.1
def callK (fns : T DFn) (orc : Orc) (dorc : FuncId → List V → H → Option H) (exec : Ec) (f : FuncId) (args : List V) (h : H) : Option (V × H) :=
  Option.rec (motive := fun _ => Option (V × H)) (obK (fnAtK fns f) fun fn => obK (enterD exec fn args h) (endK (lateD fns dorc exec) fn)) orcGot (orc f args h)

theorem fnAtK_eq (fns : T DFn) (f : FuncId) : fnAtK fns f = fnAt fns f := by
  unfold fnAtK fnAt chkK chk; rw [getK_eq]; cases Nat.blt f 65536 <;> rfl

theorem callK_eq (fns : T DFn) (orc : Orc) (dorc : FuncId → List V → H → Option H) (exec : Ec) (f : FuncId) (args : List V) (h : H) :
    callK fns orc dorc exec f args h = callD fns orc dorc exec f args h := by
  unfold callK callD
  cases orc f args h with
  | some r => rfl
  | none =>
    simp only [ob_eq, fnAtK_eq]
    congr 1; funext fn
    congr 1; funext r
    obtain ⟨e, a, h'⟩ := r
    cases e <;> simp only [endK, ob_eq]

def turnK (E : Env) (fns : T DFn) (orc : Orc) (dorc : FuncId → List V → H → Option H) (n : Nat) : Turn :=
  Nat.rec (motive := fun _ => Turn) turn0 (fun _ t => { exec := fun c a h => execK E t.call t.exec c a h, call := fun f args h => callK fns orc dorc t.exec f args h }) n

theorem turnK_eq (E : Env) (fns : T DFn) (orc : Orc) (dorc : FuncId → List V → H → Option H) : ∀ n, turnK E fns orc dorc n = turn E fns orc dorc n := by
  intro n
  induction n with
  | zero => rfl
  | succ n ih =>
    show ({ exec := fun c a h => execK E (turnK E fns orc dorc n).call (turnK E fns orc dorc n).exec c a h, call := fun f args h => callK fns orc dorc (turnK E fns orc dorc n).exec f args h } : Turn) = _
    simp only [execK_eq, callK_eq, ih]; rfl

end
end K
end Go.Dx
