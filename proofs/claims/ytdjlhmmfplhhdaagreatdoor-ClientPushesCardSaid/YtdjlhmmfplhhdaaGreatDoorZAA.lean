/-
  The client's laws. Part ZAA of the proof: The shelf contracts at this program, in plain words (written by the kit lay-plain.mjs of tools/WaShelf.cli.shelf_lay.txt).
-/
import Derived.Test.YtdjlhmmfplhhdaaGreatDoorProg
import Derived.Shelf.SlGeneric
import Derived.Shelf.LaysM
import Derived.Shelf.Strconv.Itoa3
import Derived.Shelf.Strings.Repeat
import Derived.Shelf.Strings.OnBuilder
import Derived.Shelf.Strconv.Itoa4
import Derived.Shelf.SlIter.Collect
import Derived.Sort.KeysCollected
import Derived.Ground.GgzProg
import Derived.Shelf.Small.Strs
import Derived.Ground.NamesProg
import Derived.Calls
import GoSem.Dispatch
namespace Go.Proofs
open Go.Shelf
def Tryz.Qa:Go.Shelf.Ren:=⟨λ| 171=>78 | 243=>128 | 246=>187 | 283=>235 | 284=>236 | 285=>237 | 286=>238 | 129=>121 | 317=>275 | 318=>276 | 319=>277 | 320=>278 | 337=>309 | 338=>310 | n=>n,λ| 3=>3 | 9=>9 | 2=>2 | 4=>4 | 171=>339 | 0=>0 | 53=>207 | 37=>144 | 5=>5 | 173=>341 | 212=>374 | 51=>134 | 20=>20 | 213=>375 | 46=>41 | 232=>412 | 233=>413 | n=>n,λ| 17=>1 | 18=>5 | 19=>6 | n=>n⟩
theorem Tryz.acU:Go.Proofs.LaysM.n171 Tryz.prog Tryz.Qa:=by
 constructor<;>intros<;>first | kernel_rfl | (constructor<;>intros<;>kernel_rfl)
def Tryz.Ho:Go.Shelf.Ren:=⟨λ| 105=>79 | 212=>129 | 99=>130 | 165=>131 | 166=>132 | 170=>113 | 169=>114 | 263=>188 | 264=>189 | 206=>190 | 240=>191 | 241=>192 | 276=>239 | 277=>240 | n=>n,λ| 9=>9 | 3=>3 | 4=>4 | 20=>20 | 0=>0 | 46=>41 | 109=>219 | 5=>5 | 72=>198 | 76=>46 | 51=>134 | 146=>298 | 53=>207 | 148=>300 | 70=>196 | 37=>144 | 75=>45 | 127=>278 | 164=>152 | 80=>187 | n=>n,λ| n=>n⟩
theorem Tryz.DJ:Go.Proofs.Lays.n105 Tryz.prog Tryz.Ho:=by
 constructor<;>intros<;>first | kernel_rfl | (constructor<;>intros<;>kernel_rfl)
def Tryz.Hp:Go.Shelf.Ren:=⟨λ| 156=>271 | 165=>131 | 166=>132 | 169=>114 | 240=>191 | 241=>192 | 276=>239 | 277=>240 | n=>n,λ| 31=>127 | 9=>9 | 3=>3 | 4=>4 | 0=>0 | 20=>20 | 72=>198 | 76=>46 | 70=>196 | 37=>144 | 75=>45 | 127=>278 | 164=>152 | 5=>5 | 80=>187 | n=>n,λ| n=>n⟩
theorem Tryz.YF:Go.Proofs.Lays.n156 Tryz.prog Tryz.Hp:=by
 constructor<;>intros<;>first | kernel_rfl | (constructor<;>intros<;>kernel_rfl)
def Tryz.Qb:Go.Shelf.Ren:=⟨λ| 173=>168 | 246=>187 | 283=>235 | 284=>236 | 285=>237 | 286=>238 | 129=>121 | 317=>275 | 318=>276 | 319=>277 | 320=>278 | 337=>309 | 338=>310 | n=>n,λ| 2=>2 | 3=>3 | 9=>9 | 4=>4 | 171=>339 | 0=>0 | 53=>207 | 37=>144 | 5=>5 | 173=>341 | 212=>374 | 51=>134 | 20=>20 | 213=>375 | 46=>41 | 232=>412 | 233=>413 | n=>n,λ| 17=>1 | 18=>5 | 19=>6 | n=>n⟩
theorem Tryz.acV:Go.Proofs.LaysM.n173 Tryz.prog Tryz.Qb:=by
 constructor<;>intros<;>first | kernel_rfl | (constructor<;>intros<;>kernel_rfl)
def Tryz.Ot:Go.Shelf.Ren:=⟨λ| 7=>153 | 10=>210 | n=>n,λ| 23=>140 | 26=>9 | 3=>111 | 28=>255 | 0=>0 | 27=>254 | 33=>100 | 4=>4 | n=>n,λ| n=>n⟩
theorem Tryz.aoa:Go.Proofs.SlLaysZ.n7 Tryz.prog Tryz.Ot:={
 mixed:=by kernel_rfl
 f7:=⟨Tryz.f153.name,by decide,Tryz.func153.trans (congrArg some (by kernel_rfl))⟩
 f10:=⟨Tryz.f210.name,by decide,Tryz.func210.trans (congrArg some (by kernel_rfl))⟩
 t0:=Tryz.underlying0
 a0:=Tryz.isAgg0
 z0:=Tryz.sizeOf0
 v0:=Tryz.zeroValue0
 t4:=Tryz.underlying4
 a4:=Tryz.isAgg4
 z4:=Tryz.sizeOf4
 v4:=Tryz.zeroValue4
 t23:=Tryz.underlying140
 a23:=Tryz.isAgg140
 z23:=Tryz.sizeOf140
 v23:=Tryz.zeroValue140
 t26:=Tryz.underlying9
 a26:=Tryz.isAgg9
 z26:=Tryz.sizeOf9
 v26:=Tryz.zeroValue9
 t27:=Tryz.underlying254
 a27:=Tryz.isAgg254
 z27:=Tryz.sizeOf254
 v27:=Tryz.zeroValue254
 t28:=Tryz.underlying255
 a28:=Tryz.isAgg255
 z28:=Tryz.sizeOf255
 v28:=Tryz.zeroValue255
 t33:=Tryz.underlying100
 a33:=Tryz.isAgg100
 z33:=Tryz.sizeOf100
 v33:=Tryz.zeroValue100}
def Tryz.Hq:Go.Shelf.Ren:=⟨λ| 6=>152 | 8=>209 | 9=>165 | 11=>251 | 13=>218 | 12=>217 | 23=>270 | 24=>121 | 14=>261 | 15=>262 | 16=>263 | 17=>264 | 18=>265 | 19=>266 | 20=>267 | 21=>268 | 22=>269 | 25=>292 | 26=>293 | 27=>294 | 28=>295 | 29=>296 | 30=>297 | 31=>318 | n=>n,λ| 26=>9 | 28=>255 | 24=>127 | 0=>0 | 3=>3 | 37=>41 | 48=>134 | 50=>207 | 4=>4 | 40=>363 | 39=>362 | 45=>367 | 5=>5 | 9=>9 | 51=>387 | 55=>391 | 57=>406 | 58=>407 | 33=>100 | n=>n,λ| n=>n⟩
theorem Tryz.agu:Go.Proofs.SlLaysZ.n6 Tryz.prog Tryz.Hq:={
 mixed:=by kernel_rfl
 f6:=⟨Tryz.f152.name,by decide,Tryz.func152.trans (congrArg some (by kernel_rfl))⟩
 f8:=⟨Tryz.f209.name,by decide,Tryz.func209.trans (congrArg some (by kernel_rfl))⟩
 f11:=⟨Tryz.f251.name,by decide,Tryz.func251.trans (congrArg some (by kernel_rfl))⟩
 t0:=Tryz.underlying0
 a0:=Tryz.isAgg0
 z0:=Tryz.sizeOf0
 v0:=Tryz.zeroValue0
 t24:=Tryz.underlying127
 a24:=Tryz.isAgg127
 z24:=Tryz.sizeOf127
 v24:=Tryz.zeroValue127
 t26:=Tryz.underlying9
 a26:=Tryz.isAgg9
 z26:=Tryz.sizeOf9
 v26:=Tryz.zeroValue9
 t28:=Tryz.underlying255
 a28:=Tryz.isAgg255
 z28:=Tryz.sizeOf255
 v28:=Tryz.zeroValue255
 i26:=by kernel_rfl}
def Tryz.Tn:Go.Shelf.Ren:=⟨λ| 106=>223 | 213=>274 | 265=>308 | n=>n,λ| 9=>9 | 3=>3 | n=>n,λ| n=>n⟩
theorem Tryz.agv:Go.Proofs.Lays.n106 Tryz.prog Tryz.Tn:=by
 constructor<;>intros<;>first | kernel_rfl | (constructor<;>intros<;>kernel_rfl)
end Go.Proofs
namespace Go.Dx
open Go
def ob {a b:Type}(x:Option a)(f:a->Option b):Option b:=
 match x with
 | some v=>f v
 | none=>none
def bO {a:Type}(b:Bool)(k:Option a):Option a:=match b with
 | true=>k
 | false=>none
abbrev Lb:=List Bool
def kR:Nat->Nat->Lb
 | 0,_=>[]
 | f+1,n=>if n==0 then [] else (n % 2==1)::kR f (n / 2)
def pathOf (n:Nat):Lb:=kR 64 n
def inc:Lb->Lb
 | []=>[true]
 | false::r=>true::r
 | true::r=>false::inc r
def nJ:Lb->Lb->Bool
 | [],[]=>true
 | true::a,true::b=>nJ a b
 | false::a,false::b=>nJ a b
 | _,_=>false
inductive T (α:Type) where
 | leaf
 | node (l:T α) (v:Option α) (r:T α)
def T.get {a:Type}:T a->Lb->Option a
 | .leaf,_=>none
 | .node _ v _,[]=>v
 | .node l _ _,false::p=>l.get p
 | .node _ _ r,true::p=>r.get p
def T.set {a:Type}:T a->Lb->Option a->T a
 | .leaf,[],x=>.node .leaf x .leaf
 | .leaf,false::p,x=>.node (T.set .leaf p x) none .leaf
 | .leaf,true::p,x=>.node .leaf none (T.set .leaf p x)
 | .node l _ r,[],x=>.node l x r
 | .node l v r,false::p,x=>.node (l.set p x) v r
 | .node l v r,true::p,x=>.node l v (r.set p x)
inductive Cap where
 | exact (c:Nat)
 | toEnd (size:Nat)
inductive V where
 | bool (b:Bool)
 | int (k:IntKind) (n:Int)
 | str (s:List Nat)
 | nilPtr
 | ptr (l:Lb) (off:Nat)
 | nilSlice (cap:Nat)
 | slice (l:Lb) (off:Nat) (len:Nat) (cap:Cap)
 | aP
 | map (r:Lb)
 | func (f:FuncId) (first captured:List V)
 | nilFunc
 | iface (t:TypeId) (v:V)
 | nilIface
 | agg (cells:List V)
 | tuple (vs:List V)
 | sym (l:Lb) (size:Nat)
 | any
 | empty
 | eG (lo hi:Int)
 deriving Inhabited
def undef:V:=.tuple []
def V.cells:V->List V
 | .agg cs=>cs
 | v=>[v]
def Qc:Value->Option V
 | .bool b=>some (.bool b)
 | .int k n=>some (.int k n)
 | .string s=>some (.str (s.data.toList.map (·.toNat)))
 | .pointer none=>some .nilPtr
 | .slice none 0 0=>some (.nilSlice 0)
 | .map none=>some .aP
 | .func (.func f) ⟨[]⟩ ⟨[]⟩=>some (.func f [] [])
 | .nilFunc=>some .nilFunc
 | .nilIface=>some .nilIface
 | .tuple ⟨[]⟩=>some (.tuple [])
 | _=>none
def DK:List Value->Option (List V)
 | []=>some []
 | v::vs=>ob (Qc v) λd=>ob (DK vs) λds=>some (d::ds)
def ofConst:Value->Option V
 | .agg cs=>ob (DK cs.toList) λds=>some (.agg ds)
 | v=>Qc v
inductive Own where
 | no
 | yes
 | marked
def Own.may:Own->Bool
 | .no=>false
 | _=>true
inductive Obj where
 | cells (vs:List V) (elem:TypeId) (fz:Nat) (own:Own)
 | map (es:List (V×V×Nat)) (clock:Nat)
 | uK (s:List Nat) (pos:Nat)
 | mapIter (m:Option Lb) (since:Nat) (seen:List Nat) (ar1:Nat)
structure H where
 t:T Obj
 next:Lb
def H.get (h:H)(l:Lb):Option Obj:=h.t.get l
def H.set (h:H)(l:Lb)(o:Obj):H:={t:=h.t.set l (some o),next:=h.next}
def H.del (h:H)(l:Lb):H:={t:=h.t.set l none,next:=h.next}
def H.add (h:H)(o:Obj):H:={t:=h.t.set h.next (some o),next:=inc h.next}
def takeN:Nat->List V->Option (List V)
 | 0,_=>some []
 | n+1,v::vs=>ob (takeN n vs) λr=>some (v::r)
 | _+1,[]=>none
def bz:Nat->List V->List V
 | 0,vs=>vs
 | n+1,_::vs=>bz n vs
 | _+1,[]=>[]
def rowFrom (vs:List V)(i n:Nat):Option (List V):=takeN n (bz i vs)
def aX:List V->Nat->List V->Option (List V)
 | vs,0,[]=>some vs
 | _::vs,0,x::xs=>ob (aX vs 0 xs) λr=>some (x::r)
 | [],0,_::_=>none
 | v::vs,i+1,xs=>ob (aX vs i xs) λr=>some (v::r)
 | [],_+1,_=>none
def aH (z:List V):Nat->List V
 | 0=>[]
 | n+1=>z++aH z n
def gJ:List Nat->List Nat->Bool
 | _,[]=>false
 | [],_::_=>true
 | a::x,b::y=>Nat.blt a b||(Nat.beq a b&&gJ x y)
def fh:List Nat->List Nat->Bool
 | [],[]=>true
 | a::x,b::y=>Nat.beq a b&&fh x y
 | _,_=>false
def IK.top:IntKind->Nat
 | .i8 | .u8=>256
 | .i16 | .u16=>65536
 | .i32 | .u32=>4294967296
 | .i64 | .u64=>18446744073709551616
def IK.half:IntKind->Nat
 | .i8 | .u8=>128
 | .i16 | .u16=>32768
 | .i32 | .u32=>2147483648
 | .i64 | .u64=>9223372036854775808
def IK.sgn:IntKind->Bool
 | .i8 | .i16 | .i32 | .i64=>true
 | _=>false
def jw (top:Nat):Int->Nat
 | .ofNat m=>m % top
 | .negSucc m=>top - 1 - m % top
def DL (b:Bool)(a top m:Nat):Int:=match b&&Nat.ble a m with
 | true=>Int.negSucc (top - 1 - m)
 | false=>Int.ofNat m
def bU (k:IntKind)(n:Int):Int:=DL (IK.sgn k) (IK.half k) (IK.top k) (jw (IK.top k) n)
def Ou (f:Nat->Nat->Nat) (k:IntKind) (x y:Int):V:=
 .int k (DL (IK.sgn k) (IK.half k) (IK.top k) (f (jw (IK.top k) x) (jw (IK.top k) y)))
def kS:Int->Int->Bool
 | .ofNat a,.ofNat b=>Nat.blt a b
 | .ofNat _,.negSucc _=>false
 | .negSucc _,.ofNat _=>true
 | .negSucc a,.negSucc b=>Nat.blt b a
def pw:Int->Int->Bool
 | .ofNat a,.ofNat b=>Nat.beq a b
 | .negSucc a,.negSucc b=>Nat.beq a b
 | _,_=>false
def FX:IntKind->IntKind->Bool
 | .i8,.i8 | .i16,.i16 | .i32,.i32 | .i64,.i64 | .u8,.u8 | .u16,.u16 | .u32,.u32 | .u64,.u64=>true
 | _,_=>false
def ct (op:BinOp)(k:IntKind)(x y:Int):Option V:=
 match op with
 | .add=>some (.int k (bU k (x+y)))
 | .sub=>some (.int k (bU k (x - y)))
 | .mul=>some (.int k (bU k (x*y)))
 | .quo=>bO (!pw y 0) (some (.int k (bU k (x.tdiv y))))
 | .rem=>bO (!pw y 0) (some (.int k (x.tmod y)))
 | .and=>some (Ou Nat.land k x y)
 | .or=>some (Ou Nat.lor k x y)
 | .xor=>some (Ou Nat.xor k x y)
 | .andNot=>some (Ou (λa b=>Nat.xor a (Nat.land a b)) k x y)
 | .eql=>some (.bool (pw x y))
 | .neq=>some (.bool (!pw x y))
 | .lss=>some (.bool (kS x y))
 | .leq=>some (.bool (!kS y x))
 | .gtr=>some (.bool (kS y x))
 | .geq=>some (.bool (!kS x y))
 | _=>none
def bitsOf:IntKind->Nat
 | .i8 | .u8=>8
 | .i16 | .u16=>16
 | .i32 | .u32=>32
 | .i64 | .u64=>64
def I8 (op:BinOp)(k:IntKind)(x y:Int):Option V:=
 match y with
 | .ofNat n=>match op,x with
   | .shl,.ofNat m=>some (.int k (bU k (Int.ofNat (Nat.shiftLeft m (Nat.min n (bitsOf k))))))
   | .shr,.ofNat m=>some (.int k (Int.ofNat (Nat.shiftRight m (Nat.min n (bitsOf k)))))
   | _,_=>none
 | .negSucc _=>none
def Hr:BinOp->List Nat->List Nat->Option V
 | .add,x,y=>bO (Nat.blt (x.length+y.length) 9223372036854775807) (some (.str (x++y)))
 | .eql,x,y=>some (.bool (fh x y))
 | .neq,x,y=>some (.bool (!fh x y))
 | .lss,x,y=>some (.bool (gJ x y))
 | .leq,x,y=>some (.bool (gJ x y||fh x y))
 | .gtr,x,y=>some (.bool (!(gJ x y||fh x y)))
 | .geq,x,y=>some (.bool (!gJ x y))
 | _,_,_=>none
inductive X where
 | t (p:Lb)
 | c (v:V)
inductive PK where
 | bool
 | int
 | str
 | no
inductive EK where
 | bool
 | ptr
 | iface (lit:Bool)
 | slice
 | map
 | func
 | agg (ks:List PK)
 | none
inductive Rd where
 | one
 | many (n:Nat)
inductive PD where
 | pick (c a b:X)
 | build (zero:List V) (parts:List (Nat×Nat×X))
 | nilCheck (x:X)
 | bin (op:BinOp) (ek:EK) (x y:X)
 | un (op:UnOp) (x:X)
 | toInt (k:IntKind) (x:X)
 | DM (x:X)
 | DN (x:X)
 | DP (t:TypeId) (x:X)
 | Kb (f:FuncId) (first captured:List X)
 | xP (x:X) (lo hi:Option X)
 | slice (size:Nat) (x:X) (lo hi mx:Option X)
 | xQ (n size:Nat) (x:X) (lo hi mx:Option X)
 | fieldAddr (off:Nat) (x:X)
 | field (rd:Rd) (off:Nat) (x:X)
 | indexAddr (size:Nat) (x i:X)
 | kT (n size:Nat) (x i:X)
 | xR (x i:X)
 | DQ (rd:Rd) (n size:Nat) (x i:X)
 | pM (want:Array (String×TypeId)) (zero:V) (ok:Bool) (x:X)
 | DR (t:TypeId) (zero:V) (ok:Bool) (x:X)
 | extract (i:Nat) (x:X)
 | Kc (x:X)
 | xS (x:X)
 | Kd (n:Nat)
 | cap (x:X)
 | acW (x y:X)
 | acX (x y:X)
 | mV (x:X)
 | acY (n:Nat) (x:X)
inductive RD where
 | load (rd:Rd) (x:X)
 | lookup (pk:PK) (zero:V) (ok:Bool) (m k:X)
 | bytesStr (x:X)
 | ptrUnsafe (x:X)
 | unsafePtr (u:TypeId) (n:Nat) (x:X)
 | mapLen (x:X)
 | fresh (t:TypeId) (cells:List V) (x:X)
 | freshS (e:TypeId) (cells:List V) (n:Nat) (x:X)
 | entry (x:X)
 | freshB (e:TypeId) (x s:X)
inductive ED where
 | store (n:Nat) (a x:X)
 | alloc (t:TypeId) (cells:List V)
 | box (t:TypeId) (x:X)
 | buildSlice (e:TypeId) (size n:Nat) (cells:List V) (parts:List (Nat×X))
 | cL (e:TypeId) (cells:List V) (n:Nat)
 | dj (e:TypeId) (x:X)
 | zW (x:X)
 | mW (e:TypeId) (x n:X)
 | makeMap
 | makeSlice (e:TypeId) (size bytes:Nat) (zero:List V) (n c:X)
 | mapUpdate (pk:PK) (m k x:X)
 | mapEntry (pk:PK) (zero:V) (m k:X)
 | entryStore (m s x:X)
 | DS (x:X)
 | rangeMap (x:X)
 | next (x:X)
 | append (e:TypeId) (size bytes:Nat) (s x:X)
 | nK (e:TypeId) (size bytes:Nat) (zero:List V) (s n:X)
 | copy (size:Nat) (d s:X)
 | qD (x:X)
 | delete (pk:PK) (m k:X)
inductive CD where
 | func (f:FuncId) (args:List X)
 | value (f:X) (args:List X)
 | invoke (r:X) (name:String) (args:List X)
inductive D where
 | SD (x:X)
 | p (d:PD)
 | r (d:RD)
 | e (d:ED)
 | c (d:CD)
 | defer (d:CD)
 | stuck
structure DO where
 dst:Option Lb
 op:D
 guard:Option (Lb×Bool)
structure A where
 tmps:T V
 defers:List (FuncId×List V)
def A.put (a:A):Option Lb->V->A
 | some d,v=>{tmps:=a.tmps.set d (some v),defers:=a.defers}
 | none,_=>a
def bV (tm:T V)(p:Lb):V:=match tm.get p with
 | some v=>v
 | none=>undef
def X.ev (tm:T V):X->V
 | .t p=>bV tm p
 | .c v=>v
def Wh (tm:T V):List X->List V
 | []=>[]
 | x::xs=>x.ev tm::Wh tm xs
def SE (tm:T V):Option X->Option V
 | none=>none
 | some x=>some (x.ev tm)
def dB (a:Rd)(cs:List V)(off:Nat):Option V:=match a with
 | .one=>(bz off cs).head?
 | .many n=>ob (rowFrom cs off n) λr=>some (.agg r)
def oP (tm:T V):List (Nat×Nat×X)->List V->Option (List V)
 | [],cells=>some cells
 | (off,size,x)::r,cells=>
   let cs:=(x.ev tm).cells
   bO (Nat.beq cs.length size) (ob (aX cells off cs) (oP tm r))
def nw (a b:Bool):Bool:=match a with
 | true=>b
 | false=>!b
def gh (k:PK)(x y:V):Option Bool:=match k with
 | .bool=>match x,y with
   | .bool a,.bool b=>some (nw a b)
   | _,_=>none
 | .int=>match x,y with
   | .int j a,.int k b=>bO (FX j k) (some (pw a b))
   | _,_=>none
 | .str=>match x,y with
   | .str a,.str b=>some (fh a b)
   | _,_=>none
 | .no=>none
def FY:V->V->Option Bool
 | .bool a,.bool b=>some (nw a b)
 | _,_=>none
def xT:V->V->Option Bool
 | .nilPtr,.nilPtr=>some true
 | .nilPtr,.ptr _ _=>some false
 | .ptr _ _,.nilPtr=>some false
 | .ptr l a,.ptr m b=>bO (nJ l m) (some (Nat.beq a b))
 | _,_=>none
def kQ (c:TypeId->PK) (lit:Bool):V->V->Option Bool
 | .nilIface,.nilIface=>bO lit (some true)
 | .nilIface,.iface _ _=>some false
 | .iface _ _,.nilIface=>some false
 | .iface a x,.iface b y=>match Nat.beq a b with
   | false=>some false
   | true=>gh (c a) x y
 | _,_=>none
def I9:V->V->Option Bool
 | .nilSlice _,.nilSlice _=>some true
 | .nilSlice _,.empty=>some false
 | .empty,.nilSlice _=>some false
 | .nilSlice _,.slice _ _ _ _=>some false
 | .slice _ _ _ _,.nilSlice _=>some false
 | _,_=>none
def Ov:V->V->Option Bool
 | .aP,.aP=>some true
 | .aP,.map _=>some false
 | .map _,.aP=>some false
 | _,_=>none
def FZ:V->V->Option Bool
 | .nilFunc,.nilFunc=>some true
 | .nilFunc,.func _ _ _=>some false
 | .func _ _ _,.nilFunc=>some false
 | _,_=>none
def de:List PK->List V->List V->Option Bool
 | [],[],[]=>some true
 | k::ks,a::x,b::y=>ob (gh k a b) λr=>ob (de ks x y) λq=>some (match r with | true=>q | false=>false)
 | _,_,_=>none
def Ke (ks:List PK):V->V->Option Bool
 | .agg x,.agg y=>de ks x y
 | _,_=>none
def DA (a:TypeId->PK) (k:EK) (x y:V):Option Bool:=match k with
 | .bool=>FY x y
 | .ptr=>xT x y
 | .iface lit=>kQ a lit x y
 | .slice=>I9 x y
 | .map=>Ov x y
 | .func=>FZ x y
 | .agg ks=>Ke ks x y
 | .none=>none
def Kg (op:BinOp)(a lo hi:Int):Option V:=match op with
 | .lss=>match kS a lo with
   | true=>some (.bool true)
   | false=>bO (!kS a hi) (some (.bool false))
 | .leq=>match kS hi a with
   | true=>some (.bool false)
   | false=>bO (!kS lo a) (some (.bool true))
 | .gtr=>match kS hi a with
   | true=>some (.bool true)
   | false=>bO (!kS lo a) (some (.bool false))
 | .geq=>match kS a lo with
   | true=>some (.bool false)
   | false=>bO (!kS a hi) (some (.bool true))
 | _=>none
def binOp (c:TypeId->PK) (op:BinOp) (d:EK):V->V->Option V
 | .int j a,.int k b=>match op with
   | .shl=>I8 .shl j a b
   | .shr=>I8 .shr j a b
   | op=>bO (FX j k) (ct op j a b)
 | .str a,.str b=>Hr op a b
 | .int .i64 a,.eG lo hi=>Kg op a lo hi
 | .eG lo hi,.int .i64 a=>match op with
   | .lss=>Kg .gtr a lo hi
   | .leq=>Kg .geq a lo hi
   | .gtr=>Kg .lss a lo hi
   | .geq=>Kg .leq a lo hi
   | _=>none
 | x,y=>match op with
   | .eql=>ob (DA c d x y) λb=>some (.bool b)
   | .neq=>ob (DA c d x y) λb=>some (.bool (!b))
   | _=>none
def maxOf (k:IntKind):Int:=match IK.sgn k with
 | true=>Int.ofNat (IK.half k - 1)
 | false=>Int.ofNat (IK.top k - 1)
def allOnes (k:IntKind):Int:=match IK.sgn k with
 | true=>Int.negSucc 0
 | false=>maxOf k
def unOp (op:UnOp)(x:V):Option V:=
 match op,x with
 | .neg,.int k n=>ct .sub k 0 n
 | .xor,.int k n=>ct .xor k (allOnes k) n
 | .not,.bool b=>some (.bool (!b))
 | _,_=>none
def bound (v:V)(y:Nat):Option Nat:=match v with
 | .int _ (.ofNat i)=>bO (Nat.ble i y) (some i)
 | _=>none
def bB (o:Option V)(y a:Nat):Option Nat:=match o with
 | some v=>bound v y
 | none=>some a
def mY (s:List Nat)(lo hi:Option V):Option V:=
 ob (bB hi s.length s.length) λh=>ob (bB lo h 0) λl=>some (.str ((s.take h).drop l))
def sliceEnd (a:Lb)(off size l h m:Nat):V:=
 .slice a (match Nat.beq m l with | true=>off | false=>off+l*size) (h - l) (.exact (m - l))
def dV (size:Nat)(x:V)(lo hi b:Option V):Option V:=match x with
 | .nilSlice c=>ob (bB b c c) λm=>ob (bB hi m 0) λh=>ob (bB lo h 0) λl=>bO (Nat.beq h 0) (some (.nilSlice (m - l)))
 | .slice a off len (.exact c)=>ob (bB b c c) λm=>ob (bB hi m len) λh=>ob (bB lo h 0) λl=>some (sliceEnd a off size l h m)
 | .slice a off len (.toEnd es)=>bO (Nat.beq es size) (match b with
   | some v=>ob (bound v len) λm=>ob (bB hi m m) λh=>ob (bB lo h 0) λl=>some (sliceEnd a off size l h m)
   | none=>ob (bB hi len len) λh=>ob (bB lo h 0) λl=>match Nat.blt l len||Nat.beq l 0 with
     | true=>some (.slice a (off+l*size) (h - l) (.toEnd size))
     | false=>some .empty)
 | _=>none
def uL (n size:Nat)(x:V)(lo hi b:Option V):Option V:=match x with
 | .ptr a off=>ob (bB b n n) λm=>ob (bB hi m n) λh=>ob (bB lo h 0) λl=>some (sliceEnd a off size l h m)
 | _=>none
def Kh (v:V)(n:Nat):Option Nat:=match v with
 | .int _ (.ofNat i)=>bO (Nat.blt i n) (some i)
 | _=>none
def rX (size:Nat)(x i:V):Option V:=match x with
 | .slice a off len _=>ob (Kh i len) λi=>some (.ptr a (off+i*size))
 | _=>none
def uM (n size:Nat)(x i:V):Option V:=match x with
 | .ptr a off=>ob (Kh i n) λi=>some (.ptr a (off+i*size))
 | _=>none
def uN (x i:V):Option V:=match x,i with
 | .str s,.int _ (.ofNat i)=>ob (s[i]?) λb=>some (.int .u8 (Int.ofNat b))
 | _,_=>none
def Cb (a:Rd)(n size:Nat)(x i:V):Option V:=match x with
 | .agg cs=>ob (Kh i n) λi=>dB a cs (i*size)
 | _=>none
def okV (a:Bool)(v:V)(b:Bool):V:=match a with
 | true=>.tuple [v,.bool b]
 | false=>v
def zX (t:TypeId)(zero:V)(a:Bool)(x:V):Option V:=match x with
 | .nilIface=>bO a (some (okV true zero false))
 | .iface u v=>match Nat.beq u t with
   | true=>some (okV a v true)
   | false=>bO a (some (okV true zero false))
 | _=>none
def tv (has:TypeId->Option Bool) (zero:V) (a:Bool) (x:V):Option V:=match x with
 | .nilIface=>bO a (some (okV true zero false))
 | .iface u v=>ob (has u) λb=>match b with
   | true=>some (okV a (.iface u v) true)
   | false=>bO a (some (okV true zero false))
 | _=>none
def DT:V->Option V
 | .str s=>some (.int .i64 (Int.ofNat s.length))
 | _=>none
def uO:V->Option V
 | .slice _ _ n _=>some (.int .i64 (Int.ofNat n))
 | .nilSlice _=>some (.int .i64 (Int.ofNat 0))
 | .empty=>some (.int .i64 (Int.ofNat 0))
 | _=>none
def YG:V->Option V
 | .slice _ _ _ (.exact c)=>some (.int .i64 (Int.ofNat c))
 | .nilSlice c=>some (.int .i64 (Int.ofNat c))
 | _=>none
def Ht (b:Bool)(x y:Int):Int:=match b with
 | true=>x
 | false=>y
def YH:V->V->Option V
 | .int k x,.int _ y=>some (.int k (Ht (kS x y) y x))
 | _,_=>none
def YI:V->V->Option V
 | .int k x,.int _ y=>some (.int k (Ht (kS y x) y x))
 | _,_=>none
def nL:V->Option V
 | .nilSlice _=>some .nilPtr
 | .slice a off _ (.exact (_+1))=>some (.ptr a off)
 | .slice a off (_+1) (.toEnd _)=>some (.ptr a off)
 | _=>none
def Tp (n:Nat):V->Option V
 | .slice a off len _=>bO (Nat.ble n len) (some (.ptr a off))
 | _=>none
def uP:V->Option V
 | .ptr a off=>some (.ptr a off)
 | .func f a b=>some (.func f a b)
 | _=>none
def F6:V->Option V
 | .str s=>some (.str s)
 | _=>none
def zY (i:Nat):V->Option V
 | .tuple vs=>vs[i]?
 | _=>none
mutual
def ti:V->V->Bool
 | .bool a,.bool b=>match a with | true=>b | false=>!b
 | .int j a,.int k b=>FX j k&&pw a b
 | .str a,.str b=>fh a b
 | .nilPtr,.nilPtr=>true
 | .ptr l a,.ptr m b=>nJ l m&&Nat.beq a b
 | .nilSlice a,.nilSlice b=>Nat.beq a b
 | .slice l a n c,.slice m b k d=>nJ l m&&Nat.beq a b&&Nat.beq n k&&(match c,d with
   | .exact c,.exact d=>Nat.beq c d
   | .toEnd c,.toEnd d=>Nat.beq c d
   | _,_=>false)
 | .aP,.aP=>true
 | .map a,.map b=>nJ a b
 | .func f a b,.func g c d=>Nat.beq f g&&wD a c&&wD b d
 | .nilFunc,.nilFunc=>true
 | .iface t a,.iface u b=>Nat.beq t u&&ti a b
 | .nilIface,.nilIface=>true
 | .agg a,.agg b=>wD a b
 | .tuple a,.tuple b=>wD a b
 | .sym a n,.sym b m=>nJ a b&&Nat.beq n m
 | .empty,.empty=>true
 | .any,.any=>true
 | .eG a b,.eG c d=>pw a c&&pw b d
 | _,_=>false
def wD:List V->List V->Bool
 | [],[]=>true
 | a::x,b::y=>ti a b&&wD x y
 | _,_=>false
end
inductive Q where
 | load (rd:Rd) (l:Lb) (off:Nat)
 | lookup (pk:PK) (zero:V) (ok:Bool) (m k:V)
 | bytes (x:V)
 | row (l:Lb) (off:Nat)
 | whole (u:TypeId) (n:Nat) (l:Lb) (off:Nat)
 | mapLen (m:V)
 | fresh (t:TypeId) (cells:List V) (l:Lb) (off:Nat)
 | freshS (t:TypeId) (cells:List V) (n:Nat) (l:Lb) (off:Nat)
 | freshB (e:TypeId) (cells:List V) (n:Nat) (l:Lb) (off:Nat)
 | entry (l:Lb) (off:Nat)
def Ow (b:Nat):List (V×V×Nat)->Option (V×V)
 | []=>none
 | (k,v,c)::es=>match Nat.beq c b with
   | true=>some (k,v)
   | false=>Ow b es
def Tq:List Nat->Option Nat
 | []=>none
 | [x]=>some x
 | _::r=>Tq r
def rY (pk:PK)(k:V):List (V×V×Nat)->Option (Option (Nat×V))
 | []=>some none
 | (x,v,_)::es=>ob (gh pk k x) λb=>match b with
   | true=>some (some (0,v))
   | false=>ob (rY pk k es) λr=>some (match r with | some (i,v)=>some (i+1,v) | none=>none)
def ny:List V->Option (List Nat)
 | []=>some []
 | .int .u8 (.ofNat n)::r=>bO (Nat.blt n 256) (ob (ny r) λl=>some (n::l))
 | _::_=>none
def Q.ask (h:H):Q->Option V
 | .load rd l off=>match h.get l with
   | some (.cells vs _ _ _)=>dB rd vs off
   | _=>none
 | .lookup pk z ok m k=>match m with
   | .aP=>some (match ok with | true=>.tuple [z,.bool false] | false=>z)
   | .map r=>match h.get r with
     | some (.map es _)=>ob (rY pk k es) λr=>some (match r with
       | some (_,v)=>okV ok v true
       | none=>okV ok z false)
     | _=>none
   | _=>none
 | .bytes x=>match x with
   | .nilSlice _=>some (.str [])
   | .slice l off n _=>match h.get l with
     | some (.cells vs _ _ _)=>ob (rowFrom vs off n) λr=>ob (ny r) λb=>some (.str b)
     | _=>none
   | .empty=>some (.str [])
   | _=>none
 | .row l off=>match h.get l with
   | some (.cells vs _ _ _)=>bO (Nat.blt off vs.length) (some (.ptr l off))
   | _=>none
 | .whole u n l off=>match h.get l with
   | some (.cells vs e _ _)=>bO (Nat.beq e u&&Nat.beq vs.length n&&Nat.beq off 0) (some (.ptr l off))
   | _=>none
 | .mapLen m=>match m with
   | .aP=>some (.int .i64 (Int.ofNat 0))
   | .map m=>match h.get m with
     | some (.map es _)=>some (.int .i64 (Int.ofNat es.length))
     | _=>none
   | _=>none
 | .fresh t cs l off=>match h.get l with
   | some (.cells vs e 0 .yes)=>bO (Nat.beq e t&&wD vs cs&&Nat.beq off 0) (some (.ptr l 0))
   | _=>none
 | .freshS t cs n l off=>match h.get l with
   | some (.cells vs e 0 .yes)=>bO (Nat.beq e t&&wD vs cs&&Nat.beq off 0) (some (.slice l 0 n (.exact n)))
   | _=>none
 | .freshB t cs n l off=>match h.get l with
   | some (.cells vs e 0 .marked)=>bO (Nat.beq e t&&wD vs cs&&Nat.beq off 0) (some (.slice l 0 n (.toEnd 1)))
   | _=>none
 | .entry l off=>match h.get l with
   | some (.mapIter (some m) _ seen last)=>match h.get m with
     | some (.map es clock)=>bO (Nat.beq off 0&&Nat.beq clock last) (ob (Tq seen) λb=>ob (Ow b es) λe=>some (.tuple [e.1,e.2]))
     | _=>none
   | _=>none
def eK (f:Lb->Nat->Q):V->Option Q
 | .ptr a off=>some (f a off)
 | _=>none
def plainKey:PK->V->Bool
 | .str,.str _=>true
 | .int,.int _ _=>true
 | _,_=>false
def cf:V->Bool
 | .agg _=>false
 | .tuple _=>false
 | _=>true
def aZ:List V->Bool
 | []=>true
 | v::vs=>cf v&&aZ vs
def eu (h:H)(l:Lb)(off:Nat)(cs:List V):Option H:=
 match h.get l with
 | some (.cells vs e fz own)=>bO (own.may&&Nat.ble fz off&&aZ cs) (ob (aX vs off cs) λvs'=>some (h.set l (.cells vs' e fz own)))
 | _=>none
def ae:List Nat->List V
 | []=>[]
 | b::r=>.int .u8 (Int.ofNat b)::ae r
def cW (h:H)(size:Nat):V->Option (Nat×List V)
 | .nilSlice _=>some (0,[])
 | .slice l off n _=>match h.get l with
   | some (.cells vs _ _ _)=>ob (rowFrom vs off (n*size)) λr=>some (n,r)
   | _=>none
 | .str s=>bO (Nat.beq size 1) (some (s.length,ae s))
 | .empty=>some (0,[])
 | _=>none
def bg:Nat:=1099511627776
def jE:Nat:=562949953421312
def eR (h:H)(e:TypeId)(size bytes:Nat)(s:V)(n:Nat)(new:List V):Option (V×H):=
 match s with
 | .nilSlice c=>match Nat.ble n c with
   | true=>bO (Nat.beq n 0) (some (.nilSlice c,h))
   | false=>bO (Nat.ble (4*n*bytes) jE) (some (.slice h.next 0 n (.toEnd size),h.add (.cells new e 0 .yes)))
 | .slice l off len cap=>bO (Nat.ble (4*(len+n)*bytes) jE) (match cap with
   | .exact c=>match Nat.ble (len+n) c with
     | true=>ob (eu h l (off+len*size) new) λh'=>some (.slice l off (len+n) (.exact c),h')
     | false=>match h.get l with
       | some (.cells vs _ _ _)=>bO (Nat.blt 0 n) <| ob (rowFrom vs off (len*size)) λold=>some (.slice h.next 0 (len+n) (.toEnd size),h.add (.cells (old++new) e 0 .yes))
       | _=>none
   | .toEnd es=>bO (Nat.beq es size) (match h.get l with
     | some (.cells vs el fz own)=>bO (own.may&&Nat.beq el e) (match Nat.ble (off+(len+n)*size) vs.length with
       | true=>ob (eu h l (off+len*size) new) λh'=>some (.slice l off (len+n) (.toEnd size),h')
       | false=>bO (Nat.beq off 0&&Nat.beq (off+len*size) vs.length&&Nat.ble fz vs.length&&aZ new)
         (some (.slice h.next 0 (len+n) (.toEnd size),(h.del l).add (.cells (bz off vs++new) e (fz - off) own))))
     | _=>none))
 | _=>none
def kU:List (V×V×Nat)->Nat->V->V->List (V×V×Nat)
 | [],_,_,_=>[]
 | (_,_,b)::es,0,k,v=>(k,v,b)::es
 | e::es,i+1,k,v=>e::kU es i k v
def Ki:List (V×V×Nat)->Nat->Nat
 | [],_=>0
 | (_,_,b)::_,0=>b
 | _::es,i+1=>Ki es i
def Kj (pk:PK)(k v:V)(es:List (V×V×Nat))(clock:Nat):Option Obj:=
 ob (rY pk k es) λr=>match r with
  | some (i,_)=>some (.map (kU es i k v) clock)
  | none=>some (.map (es++[(k,v,clock)]) (clock+1))
def uQ:List (V×V×Nat)->Nat->V->Option (List (V×V×Nat))
 | [],_,_=>none
 | (k,w,b)::es,born,v=>match Nat.beq b born with
   | true=>some ((k,v,b)::es)
   | false=>ob (uQ es born v) λr=>some ((k,w,b)::r)
def ib (h:H)(m:V)(f:Lb->List (V×V×Nat)->Nat->Option (V×H)):Option (V×H):=match m with
 | .map r=>match h.get r with
   | some (.map es clock)=>f r es clock
   | _=>none
 | _=>none
def eb (tm:T V)(size:Nat):List (Nat×X)->List V->Option (List V)
 | [],cells=>some cells
 | (i,x)::r,cells=>
   let cs:=(x.ev tm).cells
   bO (Nat.beq cs.length size) (ob (aX cells (i*size) cs) (eb tm size r))
def Cc (h:H)(e:TypeId)(size bytes:Nat)(zero:List V)(n c:V):Option (V×H):=match n,c with
 | .int .i64 (.ofNat n),.int .i64 (.ofNat c)=>
   bO (Nat.ble n c&&Nat.ble (c*bytes) bg&&Nat.ble c 1048576&&Nat.beq zero.length size&&Nat.blt 0 size) (some (.slice h.next 0 n (.exact c),h.add (.cells (aH zero c) e 0 .yes)))
 | _,_=>none
def nM:List (V×V×Nat)->Nat->List (V×V×Nat)
 | [],_=>[]
 | _::es,0=>es
 | e::es,i+1=>e::nM es i
def zZ (n:Nat):List (V×V×Nat)->Bool
 | []=>true
 | (_,_,b)::es=>Nat.ble n b&&zZ n es
def dr (n:Nat):List Nat->Bool
 | []=>false
 | m::l=>Nat.beq n m||dr n l
def leftOf (seen:List Nat):List (V×V×Nat)->List (V×V×Nat)
 | []=>[]
 | (k,v,b)::es=>match dr b seen with
   | true=>leftOf seen es
   | false=>(k,v,b)::leftOf seen es
def aiA (h:H)(l:Lb):Option (V×H):=match h.get l with
 | some (.mapIter none _ _ _)=>some (.tuple [.bool false],h)
 | some (.mapIter (some m) since seen last)=>match h.get m with
   | some (.map es clock)=>bO (seen.isEmpty||es.isEmpty || !zZ last es) (match leftOf seen es with
     | []=>some (.tuple [.bool false],h)
     | [(k,v,b)]=>bO (Nat.blt b since) (some (.tuple [.bool true,k,v],h.set l (.mapIter (some m) since (seen++[b]) clock)))
     | _=>none)
   | _=>none
 | _=>none
def uR (h:H)(e:TypeId)(x n:V):Option (V×H):=match x,n with
 | .nilPtr,.int .i64 (.ofNat 0)=>some (.str [],h)
 | .ptr _ _,.int .i64 (.ofNat 0)=>some (.str [],h)
 | .ptr l 0,.int .i64 (.ofNat (n+1))=>match h.get l with
   | some (.cells vs el fz .yes)=>bO (Nat.beq el e&&Nat.ble n 1048576) (ob (takeN (n+1) vs) λr=>ob (ny r) λb=>some (.str b,h.set l (.cells vs el (Nat.max fz (n+1)) .yes)))
   | _=>none
 | _,_=>none
def copyV (h:H)(size:Nat)(d s:V):Option (V×H):=ob (cW h size s) λr=>match d with
 | .nilSlice _=>some (.int .i64 0,h)
 | .slice l off len _=>ob (takeN (Nat.min r.1 len*size) r.2) λcs=>match cs with
   | []=>some (.int .i64 (Int.ofNat (Nat.min r.1 len)),h)
   | c::cs=>ob (eu h l off (c::cs)) λh'=>some (.int .i64 (Int.ofNat (Nat.min r.1 len)),h')
 | _=>none
structure Env where
 plain:TypeId->PK
 has:Array (String×TypeId)->TypeId->Option Bool
 aob:TypeId->String->Option FuncId
def PD.eval (E:Env)(tm:T V):PD->Option V
 | .pick c a b=>match c.ev tm with
   | .bool true=>some (a.ev tm)
   | .bool false=>some (b.ev tm)
   | _=>none
 | .build z ps=>ob (oP tm ps z) λcs=>some (.agg cs)
 | .nilCheck x=>uP (x.ev tm)
 | .bin op ek x y=>binOp E.plain op ek (x.ev tm) (y.ev tm)
 | .un op x=>unOp op (x.ev tm)
 | .toInt k x=>match x.ev tm with
   | .int _ n=>some (.int k (bU k n))
   | _=>none
 | .DM x=>match x.ev tm with
   | .int _ n=>some (.str ((Utf8.encode n).data.toList.map (·.toNat)))
   | _=>none
 | .DN x=>F6 (x.ev tm)
 | .DP t x=>some (.iface t (x.ev tm))
 | .Kb f a b=>some (.func f (Wh tm a) (Wh tm b))
 | .xP x lo hi=>match x.ev tm with
   | .str s=>mY s (SE tm lo) (SE tm hi)
   | _=>none
 | .slice size x lo hi mx=>dV size (x.ev tm) (SE tm lo) (SE tm hi) (SE tm mx)
 | .xQ n size x lo hi mx=>uL n size (x.ev tm) (SE tm lo) (SE tm hi) (SE tm mx)
 | .fieldAddr o x=>match x.ev tm with
   | .ptr a off=>some (.ptr a (off+o))
   | _=>none
 | .field rd o x=>match x.ev tm with
   | .agg cs=>dB rd cs o
   | _=>none
 | .indexAddr size x i=>rX size (x.ev tm) (i.ev tm)
 | .kT n size x i=>uM n size (x.ev tm) (i.ev tm)
 | .xR x i=>uN (x.ev tm) (i.ev tm)
 | .DQ rd n size x i=>Cb rd n size (x.ev tm) (i.ev tm)
 | .pM w z ok x=>tv (E.has w) z ok (x.ev tm)
 | .DR t z ok x=>zX t z ok (x.ev tm)
 | .extract i x=>zY i (x.ev tm)
 | .Kc x=>DT (x.ev tm)
 | .xS x=>uO (x.ev tm)
 | .Kd n=>some (.int .i64 (Int.ofNat n))
 | .cap x=>YG (x.ev tm)
 | .acW x y=>YH (x.ev tm) (y.ev tm)
 | .acX x y=>YI (x.ev tm) (y.ev tm)
 | .mV x=>nL (x.ev tm)
 | .acY n x=>Tp n (x.ev tm)
def RD.px (tm:T V):RD->Option Q
 | .load rd x=>eK (.load rd) (x.ev tm)
 | .lookup pk z ok m k=>bO (plainKey pk (k.ev tm)) (some (.lookup pk z ok (m.ev tm) (k.ev tm)))
 | .bytesStr x=>some (.bytes (x.ev tm))
 | .ptrUnsafe x=>eK .row (x.ev tm)
 | .unsafePtr u n x=>eK (.whole u n) (x.ev tm)
 | .mapLen x=>some (.mapLen (x.ev tm))
 | .fresh t cs x=>eK (.fresh t cs) (x.ev tm)
 | .freshS t cs n x=>eK (.freshS t cs n) (x.ev tm)
 | .entry x=>eK .entry (x.ev tm)
 | .freshB e x s=>match x.ev tm with
   | .str b=>bO (Nat.ble b.length 9223372036854775807) (eK (λl off=>.freshB e (ae b) b.length l off) (s.ev tm))
   | _=>none
def ED.run (tm:T V)(h:H):ED->Option (V×H)
 | .store n a x=>match a.ev tm with
   | .ptr l off=>let cs:=(x.ev tm).cells;bO (Nat.beq cs.length n) (ob (eu h l off cs) λh'=>some (undef,h'))
   | _=>none
 | .alloc t cs=>some (.ptr h.next 0,h.add (.cells cs t 0 .yes))
 | .box t x=>some (.ptr h.next 0,h.add (.cells (x.ev tm).cells t 0 .yes))
 | .buildSlice e size n cs ps=>ob (eb tm size ps cs) λcs=>some (.slice h.next 0 n (.exact n),h.add (.cells cs e 0 .yes))
 | .cL e cs n=>some (.slice h.next 0 n (.exact n),h.add (.cells cs e 0 .yes))
 | .dj e x=>match x.ev tm with
   | .str b=>bO (Nat.ble b.length 9223372036854775807) (some (.slice h.next 0 b.length (.toEnd 1),h.add (.cells (ae b) e 0 .marked)))
   | _=>none
 | .zW x=>match x.ev tm with
   | .slice l off n c=>match h.get l with
     | some (.cells vs e 0 .yes)=>some (.slice l off n c,h.set l (.cells vs e 0 .marked))
     | _=>none
   | _=>none
 | .mW e x n=>uR h e (x.ev tm) (n.ev tm)
 | .makeMap=>some (.map h.next,h.add (.map [] 0))
 | .makeSlice e size bytes z n c=>Cc h e size bytes z (n.ev tm) (c.ev tm)
 | .mapUpdate pk m k x=>bO (plainKey pk (k.ev tm)) (ib h (m.ev tm) λr es clock=>ob (Kj pk (k.ev tm) (x.ev tm) es clock) λo=>some (undef,h.set r o))
 | .mapEntry pk z m k=>bO (plainKey pk (k.ev tm)) (ib h (m.ev tm) λr es clock=>ob (rY pk (k.ev tm) es) λf=>match f with
   | some (i,v)=>some (.tuple [v,.int .i64 (Int.ofNat (Ki es i))],h.set r (.map (kU es i (k.ev tm) v) clock))
   | none=>some (.tuple [z,.int .i64 (Int.ofNat clock)],h.set r (.map (es++[(k.ev tm,z,clock)]) (clock+1))))
 | .entryStore m s x=>ib h (m.ev tm) λr es clock=>match s.ev tm with
   | .int _ (.ofNat b)=>ob (uQ es b (x.ev tm)) λrZ=>some (undef,h.set r (.map rZ clock))
   | _=>none
 | .DS x=>match x.ev tm with
   | .str s=>some (.ptr h.next 0,h.add (.uK s 0))
   | _=>none
 | .rangeMap x=>match x.ev tm with
   | .aP=>some (.ptr h.next 0,h.add (.mapIter none 0 [] 0))
   | .map m=>match h.get m with
     | some (.map _ clock)=>some (.ptr h.next 0,h.add (.mapIter (some m) clock [] clock))
     | _=>none
   | _=>none
 | .next x=>match x.ev tm with
   | .ptr l 0=>aiA h l
   | _=>none
 | .append e size bytes s x=>ob (cW h size (x.ev tm)) λr=>eR h e size bytes (s.ev tm) r.1 r.2
 | .nK e size bytes z s n=>match n.ev tm with
   | .int .i64 (.ofNat n)=>bO (Nat.ble n 1048576&&Nat.ble (n*bytes) bg) (eR h e size bytes (s.ev tm) n (aH z n))
   | _=>none
 | .copy size d s=>copyV h size (d.ev tm) (s.ev tm)
 | .qD x=>match x.ev tm with
   | .aP=>some (undef,h)
   | m=>ib h m λr _ clock=>some (undef,h.set r (.map [] clock))
 | .delete pk m k=>bO (plainKey pk (k.ev tm)) (ib h (m.ev tm) λr es clock=>ob (rY pk (k.ev tm) es) λf=>match f with
   | some (i,_)=>some (undef,h.set r (.map (nM es i) clock))
   | none=>some (undef,h))
def CD.args (E:Env)(tm:T V):CD->Option (FuncId×List V)
 | .func f args=>some (f,Wh tm args)
 | .value f args=>match f.ev tm with
   | .func f a b=>some (f,a++Wh tm args++b)
   | _=>none
 | .invoke r name args=>match r.ev tm with
   | .iface t v=>ob (E.aob t name) λf=>some (f,v::Wh tm args)
   | _=>none
end Go.Dx
namespace Go.Dx
open Go
inductive DC where
 | skip
 | ops (l:List DO)
 | draw (made:List (Lb×TypeId×List V×Own)) (l:List (DO×Nat×Nat))
 | seq (a b:DC)
 | cond (c:X) (a b:DC)
 | block (id:Nat) (c:DC)
 | loop (c:DC)
 | exit (id:Nat)
 | ret
 | stuck
inductive Z' where
 | tmp (p:Lb)
 | cell (p:Lb) (rd:Rd)
structure br where
 ntmps:Nat
 code:DC
 results:List Z'
inductive Ex where
 | normal
 | exit (id:Nat)
 | ret
abbrev jF:=FuncId->List V->H->Option (V×H)
def dY (tm:T V):Option (Lb×Bool)->Bool
 | none=>true
 | some (p,want)=>match bV tm p with
   | .bool b=>match want with
     | true=>b
     | false=>!b
   | _=>false
def DU (E:Env)(call:jF)(d:DO)(a:A)(h:H):Option (A×H):=
 match d.op with
 | .SD x=>some (a.put d.dst (x.ev a.tmps),h)
 | .p q=>ob (q.eval E a.tmps) λv=>some (a.put d.dst v,h)
 | .r q=>ob (q.px a.tmps) λq=>ob (q.ask h) λv=>some (a.put d.dst v,h)
 | .e q=>ob (q.run a.tmps h) λr=>some (a.put d.dst r.1,r.2)
 | .c q=>ob (q.args E a.tmps) λf=>ob (call f.1 f.2 h) λr=>some (a.put d.dst r.1,r.2)
 | .defer q=>ob (q.args E a.tmps) λf=>some ({tmps:=a.tmps,defers:=f::a.defers:A}.put d.dst undef,h)
 | .stuck=>none
def uS (E:Env)(call:jF):List DO->A->H->Option (A×H)
 | [],a,h=>some (a,h)
 | d::r,a,h=>match dY a.tmps d.guard with
   | true=>ob (DU E call d a h) λs=>uS E call r s.1 s.2
   | false=>uS E call r (a.put d.dst undef) h
abbrev kF:=Q×V×Nat
def qE (h:H)(n:Nat):List kF->Bool
 | []=>true
 | (q,v,hi)::r=>(match Nat.ble n hi with
   | true=>match q.ask h with
     | some u=>ti u v
     | none=>false
   | false=>true)&&qE h n r
def nN (q:Q)(v:V):Nat->List H->Bool
 | 0,_=>true
 | k+1,h::hs=>(match q.ask h with
   | some u=>ti u v
   | none=>false)&&nN q v k hs
 | _+1,[]=>false
def bT:DO->Bool
 | ⟨_,.e _,_⟩ | ⟨_,.c _,_⟩=>true
 | _=>false
def gj (E:Env)(call:jF):List (DO×Nat×Nat)->A->H->Nat->List H->List kF->Option (A×H)
 | [],a,h,_,_,_=>some (a,h)
 | (d,lo,hi)::r,a,h,n,hs,ps=>match dY a.tmps d.guard with
   | false=>match bT d with
     | true=>gj E call r (a.put d.dst undef) h (n+1) (h::hs) ps
     | false=>gj E call r (a.put d.dst undef) h n hs ps
   | true=>match d.op with
     | .SD x=>gj E call r (a.put d.dst (x.ev a.tmps)) h n hs ps
     | .p q=>ob (q.eval E a.tmps) λv=>gj E call r (a.put d.dst v) h n hs ps
     | .r q=>ob (q.px a.tmps) λq=>ob (q.ask h) λv=>bO (nN q v (n - lo) hs) (gj E call r (a.put d.dst v) h n hs ((q,v,hi)::ps))
     | .e q=>ob (q.run a.tmps h) λs=>bO (qE s.2 (n+1) ps) (gj E call r (a.put d.dst s.1) s.2 (n+1) (h::hs) ps)
     | .c q=>ob (q.args E a.tmps) λf=>ob (call f.1 f.2 h) λs=>bO (qE s.2 (n+1) ps) (gj E call r (a.put d.dst s.1) s.2 (n+1) (h::hs) ps)
     | .defer _=>none
     | .stuck=>none
abbrev Made:=Lb×TypeId×List V×Own
def makeAll:List Made->T V->H->T V×H
 | [],tm,h=>(tm,h)
 | (p,t,cs,o)::r,tm,h=>makeAll r (tm.set p (some (.ptr h.next 0))) (h.add (.cells cs t 0 o))
def Ja (q:Lb)(cs:List V):List Made->List Made
 | []=>[]
 | (p,t,c,o)::r=>match nJ p q with
   | true=>(p,t,cs,o)::r
   | false=>(p,t,c,o)::Ja q cs r
def Tr:Own->Bool
 | .marked=>true
 | _=>false
def Ox:List Made->Bool
 | []=>false
 | (_,_,_,o)::r=>Tr o||Ox r
def Cd (tm:T V):Option Lb->V->T V
 | some d,v=>tm.set d (some v)
 | none,_=>tm
def Hu (E:Env):List (DO×Nat×Nat)->T V->H->List Made->Option (List Made)
 | [],_,_,m=>some m
 | (d,_,_)::r,tm,h,m=>match dY tm d.guard with
   | false=>Hu E r (Cd tm d.dst undef) h m
   | true=>match d.op with
     | .SD x=>Hu E r (Cd tm d.dst (x.ev tm)) h m
     | .p q=>ob (q.eval E tm) λv=>Hu E r (Cd tm d.dst v) h m
     | .r (.freshB _ x s)=>match x.ev tm,s with
       | .str b,.t p=>some (Ja p (ae b) m)
       | _,_=>none
     | .r q=>ob (q.px tm) λq=>ob (q.ask h) λv=>Hu E r (Cd tm d.dst v) h m
     | _=>some m
def DV (E:Env)(l:List (DO×Nat×Nat))(m:List Made)(tm:T V)(h:H):Option (List Made):=match Ox m with
 | true=>Hu E l (makeAll m tm h).1 (makeAll m tm h).2 m
 | false=>some m
def resultD (h:H)(tm:T V):Z'->Option V
 | .tmp p=>some (bV tm p)
 | .cell p rd=>match bV tm p with
   | .ptr l off=>Q.ask h (.load rd l off)
   | _=>none
def dQ (h:H)(tm:T V):List Z'->Option (List V)
 | []=>some []
 | r::rs=>ob (resultD h tm r) λv=>ob (dQ h tm rs) λvs=>some (v::vs)
def r8:List V->V
 | [v]=>v
 | vs=>.tuple vs
def gk:List V->Lb->T V->T V
 | [],_,t=>t
 | v::vs,p,t=>gk vs (inc p) (t.set p (some v))
def Qd (a:T br)(f:FuncId):Option br:=bO (Nat.blt f 65536) (a.get (pathOf f))
def oM (a:DC->A->H->Option (Ex×A×H)) (fn:br) (args:List V) (h:H):Option (Ex×A×H):=
 bO (Nat.ble args.length fn.ntmps) (a fn.code {tmps:=gk args [] .leaf,defers:=[]} h)
def xU (call:FuncId->List V->H->Option H):List (FuncId×List V)->H->Option H
 | [],h=>some h
 | (f,args)::ds,h=>ob (call f args h) λh'=>xU call ds h'
def Ts (b:T br)(c:FuncId->List V->H->Option H) (a:DC->A->H->Option (Ex×A×H)) (f:FuncId) (args:List V) (h:H):Option H:=
 match c f args h with
 | some h'=>some h'
 | none=>ob (Qd b f) λfn=>ob (oM a fn args h) λr=>match r.1,r.2.1.defers with
   | .exit _,_=>none
   | _,[]=>ob (dQ r.2.2 r.2.1.tmps fn.results) λ_=>some r.2.2
   | _,_::_=>none
def Tt (b:T br)(d:jF)(c:FuncId->List V->H->Option H) (a:DC->A->H->Option (Ex×A×H)):jF:=λf args h=>
 match d f args h with
 | some r=>some r
 | none=>ob (Qd b f) λfn=>ob (oM a fn args h) λr=>match r.1 with
   | .exit _=>none
   | _=>ob (xU (Ts b c a) r.2.1.defers r.2.2) λh'=>ob (dQ h' r.2.1.tmps fn.results) λvs=>some (r8 vs,h')
def cM (E:Env)(call:jF)(d:DC->A->H->Option (Ex×A×H)) (c:DC) (a:A) (h:H):Option (Ex×A×H):=
 match c with
 | .skip=>some (.normal,a,h)
 | .ops l=>ob (uS E call l a h) λr=>some (.normal,r.1,r.2)
 | .draw m l=>ob (DV E l m a.tmps h) λm=>ob (gj E call l {tmps:=(makeAll m a.tmps h).1,defers:=a.defers} (makeAll m a.tmps h).2 0 [] []) λr=>some (.normal,r.1,r.2)
 | .seq x y=>ob (d x a h) λr=>match r.1 with
   | .normal=>d y r.2.1 r.2.2
   | e=>some (e,r.2.1,r.2.2)
 | .cond c x y=>match c.ev a.tmps with
   | .bool true=>d x a h
   | .bool false=>d y a h
   | _=>none
 | .block id b=>ob (d b a h) λr=>match r.1 with
   | .exit i=>some (match Nat.beq i id with | true=>.normal | false=>.exit i,r.2.1,r.2.2)
   | e=>some (e,r.2.1,r.2.2)
 | .loop b=>ob (d b a h) λr=>match r.1 with
   | .normal=>d (.loop b) r.2.1 r.2.2
   | e=>some (e,r.2.1,r.2.2)
 | .exit id=>some (.exit id,a,h)
 | .ret=>some (.ret,a,h)
 | .stuck=>none
structure Wi where
 exec:DC->A->H->Option (Ex×A×H)
 call:jF
def aiB:Wi:={exec:=λ_ _ _=>none,call:=λ_ _ _=>none}
def aoc (E:Env)(b:T br)(e:jF)(d:FuncId->List V->H->Option H) (t:Wi):Wi:=
 {exec:=λc a h=>cM E t.call t.exec c a h,call:=λf args h=>Tt b e d t.exec f args h}
def acZ (E:Env)(a:T br)(c:jF)(b:FuncId->List V->H->Option H):Nat->Wi
 | 0=>aiB
 | n+1=>aoc E a c b (acZ E a c b n)
end Go.Dx
