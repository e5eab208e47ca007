/-
  The client's laws. Part ZAB of the proof: The deterministic machine over labels: how the model's code is compiled to it.
-/
import Derived.Orders
import Derived.Deep.MidRow
import Derived.Below
import Derived.Test.YtdjlhmmfplhhdaaGreatDoorZAA
namespace Go.Dx
open Go
structure CE where
 P:Program
 G:Nat
 n:Nat
def ay (C:CE):Operand->Option X
 | .tmp t=>bO (Nat.blt t C.n) (some (.t (pathOf t)))
 | .const v=>ob (ofConst v) λd=>some (.c d)
 | .global g=>bO (Nat.blt g C.G) (some (.c (.ptr (pathOf g) 0)))
 | .func f=>some (.c (.func f [] []))
def cG (C:CE):List Operand->Option (List X)
 | []=>some []
 | x::xs=>ob (ay C x) λd=>ob (cG C xs) λds=>some (d::ds)
def gW (C:CE):Option Operand->Option (Option X)
 | none=>some none
 | some x=>ob (ay C x) λd=>some (some d)
def cg (P:Program)(t:TypeId):Option Nat:=ob (P.info? t) λi=>some i.size
def xV (P:Program)(t:TypeId):Option Nat:=ob (P.info? t) λi=>some i.bytes
def fD (P:Program)(t:TypeId):Option V:=ob (P.info? t) λi=>ob i.zero ofConst
def Oy (P:Program)(t:TypeId):Option Rd:=match P.underlying t with
 | some (.struct _) | some (.array _ _)=>ob (cg P t) λn=>some (.many n)
 | some _=>some .one
 | none=>none
def Aa (P:Program):List Field->Option (List (Nat×Nat))
 | []=>some []
 | f::fs=>ob (cg P f.type) λn=>ob (Aa P fs) λr=>some ((f.offset,n)::r)
def fM (C:CE)(a:Nat->Option (Nat×Nat)):List (Nat×Operand)->Option (List (Nat×Nat×X))
 | []=>some []
 | (i,x)::r=>ob (a i) λp=>ob (ay C x) λd=>ob (fM C a r) λds=>some ((p.1,p.2,d)::ds)
def eN (C:CE):List (Nat×Operand)->Option (List (Nat×X))
 | []=>some []
 | (i,x)::r=>ob (ay C x) λd=>ob (eN C r) λds=>some ((i,d)::ds)
def xW:Operand->Bool
 | .const _=>true
 | _=>false
def gK (P:Program):Nat->TypeId->Option (List PK)
 | 0,_=>none
 | d+1,t=>match P.underlying t with
   | some .bool=>some [.bool]
   | some (.int _)=>some [.int]
   | some .string=>some [.str]
   | some (.struct fs)=>bO (!P.stoodInHeld t&&(cg P t).isSome) (qF P (gK P d) 0 fs.toList)
   | _=>none
 where
 qF (P:Program) (k:TypeId->Option (List PK)):Nat->List Field->Option (List PK)
  | _,[]=>some []
  | at_,f::fs=>ob (k f.type) λa=>ob (cg P f.type) λn=>bO (Nat.beq f.offset at_&&Nat.beq n a.length && !(f.name == "_")) (ob (qF P k (at_+n) fs) λr=>some (a++r))
def Kk (P:Program)(t:TypeId)(x y:Operand):EK:=match P.underlying t with
 | some .bool=>.bool
 | some (.pointer e)=>match cg P e with
   | some 0=>.none
   | some _=>.ptr
   | none=>.none
 | some (.interface _)=>.iface (xW x||xW y)
 | some (.slice _)=>.slice
 | some (.map _ _)=>.map
 | some (.func _ _ _)=>.func
 | some (.struct _)=>match bO (!P.eqGuardType P.depth t) (gK P 8 t) with
   | some ks=>.agg ks
   | none=>.none
 | _=>.none
def F7 (P:Program)(t:TypeId):PK:=match P.underlying t with
 | some .string=>.str
 | some (.int _)=>.int
 | _=>.no
def nO (C:CE)(c:Call):Option CD:=ob (cG C c.args.toList) λa=>match c.callee with
 | .value (.func f)=>some (.func f a)
 | .value f=>ob (ay C f) λx=>some (.value x a)
 | .invoke r name=>ob (ay C r) λx=>some (.invoke x name a)
 | .builtin _=>none
def iG (C:CE)(b:Builtin)(ts:List TypeId)(xs:List X):Option D:=
 match b,xs,ts with
 | .len,[x],t::_=>match C.P.underlying t with
   | some .string=>some (.p (.Kc x))
   | some (.slice _)=>some (.p (.xS x))
   | some (.array n _)=>some (.p (.Kd n))
   | some (.map _ _)=>some (.r (.mapLen x))
   | _=>none
 | .cap,[x],t::_=>match C.P.underlying t with
   | some (.slice _)=>some (.p (.cap x))
   | _=>none
 | .max,[x,y],_=>some (.p (.acW x y))
 | .min,[x,y],_=>some (.p (.acX x y))
 | .unsafeSliceData,[x],_=>some (.p (.mV x))
 | .unsafeString,[x,n],[t,_]=>match C.P.underlying t with
   | some (.pointer e)=>match C.P.underlying e,cg C.P e with
     | some (.int .u8),some 1=>some (.e (.mW e x n))
     | _,_=>none
   | _=>none
 | .append,[s,x],[t,u]=>match C.P.underlying t,C.P.underlying u with
   | some (.slice e),some ud=>ob (cg C.P e) λsize=>ob (xV C.P e) λbytes=>ob (fD C.P e) λz=>bO (Nat.blt 0 size&&Nat.blt 0 bytes&&Nat.beq z.cells.length size) (match ud with
     | .int _=>some (.e (.nK e size bytes z.cells s x))
     | .slice _=>some (.e (.append e size bytes s x))
     | .string=>some (.e (.append e size bytes s x))
     | _=>none)
   | _,_=>none
 | .copy,[d,s],t::_=>match C.P.underlying t with
   | some (.slice e)=>ob (cg C.P e) λsize=>some (.e (.copy size d s))
   | _=>none
 | .clear,[x],t::_=>match C.P.underlying t with
   | some (.map _ _)=>some (.e (.qD x))
   | _=>none
 | .delete,[m,k],t::_=>match C.P.underlying t with
   | some (.map kt _)=>some (.e (.delete (F7 C.P kt) m k))
   | _=>none
 | _,_,_=>none
def iH (C:CE)(src a:TypeId)(x:X):Option D:=
 match C.P.underlying src,C.P.underlying a with
 | some (.int _),some (.int k)=>some (.p (.toInt k x))
 | some (.int _),some .string=>some (.p (.DM x))
 | some .string,some .string=>some (.p (.DN x))
 | some .string,some (.slice e)=>match C.P.underlying e,cg C.P e with
   | some (.int .u8),some 1=>some (.e (.dj e x))
   | _,_=>none
 | some (.slice _),some (.slice e)=>match C.P.underlying e with
   | some (.int .u8)=>bO (Nat.beq src a) (some (.e (.zW x)))
   | _=>none
 | some (.slice e),some .string=>match C.P.underlying e,cg C.P e with
   | some (.int .u8),some 1=>some (.r (.bytesStr x))
   | _,_=>none
 | some (.pointer e),some .unsafePointer=>match cg C.P e with
   | some (_+1)=>some (.r (.ptrUnsafe x))
   | _=>none
 | some .unsafePointer,some (.pointer u)=>match cg C.P u with
   | some (n+1)=>some (.r (.unsafePtr u (n+1) x))
   | _=>none
 | _,_=>none
def fj (size:Nat):List (Nat×X)->List V->Option (List V)
 | [],cells=>some cells
 | (i,.c v)::r,cells=>bO (Nat.beq v.cells.length size) (ob (aX cells (i*size) v.cells) (fj size r))
 | (_,.t _)::_,_=>none
def aq (C:CE)(o:Op):Option D:=
 match o with
 | .move x | .assign x=>ob (ay C x) λx=>some (.SD x)
 | .pick c a b=>ob (ay C c) λc=>ob (ay C a) λa=>ob (ay C b) λb=>some (.p (.pick c a b))
 | .build t ps=>ob (fD C.P t) λz=>match C.P.underlying t with
   | some (.struct fs)=>ob (Aa C.P fs.toList) λp=>ob (fM C (λi=>p[i]?) ps.toList) λl=>some (.p (.build z.cells l))
   | some (.array _ e)=>ob (cg C.P e) λn=>ob (fM C (λi=>some (i*n,n)) ps.toList) λl=>some (.p (.build z.cells l))
   | _=>none
 | .nilCheck x=>ob (ay C x) λx=>some (.p (.nilCheck x))
 | .binOp op t x y _=>ob (ay C x) λa=>ob (ay C y) λb=>some (.p (.bin op (Kk C.P t x y) a b))
 | .unOp op _ x=>ob (ay C x) λx=>some (.p (.un op x))
 | .convert s d x=>ob (ay C x) (iH C s d)
 | .makeInterface t x=>match C.P.underlying t with
   | some (.interface _)=>none
   | some _=>ob (ay C x) λx=>some (.p (.DP t x))
   | none=>none
 | .makeFunc (.func f) a b=>ob (cG C a.toList) λa=>ob (cG C b.toList) λb=>some (.p (.Kb f a b))
 | .slice t x lo hi q=>ob (ay C x) λx=>ob (gW C lo) λlo=>ob (gW C hi) λhi=>ob (gW C q) λq=>match C.P.underlying t with
   | some .string=>match q with
     | none=>some (.p (.xP x lo hi))
     | some _=>none
   | some (.slice e)=>ob (cg C.P e) λn=>bO (q.isNone||hi.isSome) (some (.p (.slice n x lo hi q)))
   | some (.array n e)=>ob (cg C.P e) λsize=>bO (q.isNone||hi.isSome) (some (.p (.xQ n size x lo hi q)))
   | _=>none
 | .fieldAddr t x f=>match C.P.underlying t with
   | some (.struct fs)=>ob fs[f]? λh=>ob (cg C.P h.type) λn=>bO (Nat.blt 0 n) (ob (ay C x) λx=>some (.p (.fieldAddr h.offset x)))
   | _=>none
 | .field t x f=>match C.P.underlying t with
   | some (.struct fs)=>ob fs[f]? λh=>ob (Oy C.P h.type) λj=>ob (ay C x) λx=>some (.p (.field j h.offset x))
   | _=>none
 | .indexAddr t x i=>ob (ay C x) λx=>ob (ay C i) λi=>match C.P.underlying t with
   | some (.slice e)=>ob (cg C.P e) λn=>some (.p (.indexAddr n x i))
   | some (.array n e)=>ob (cg C.P e) λsize=>some (.p (.kT n size x i))
   | _=>none
 | .index t x i=>ob (ay C x) λx=>ob (ay C i) λi=>match C.P.underlying t with
   | some .string=>some (.p (.xR x i))
   | some (.array n e)=>ob (cg C.P e) λsize=>ob (Oy C.P e) λj=>some (.p (.DQ j n size x i))
   | _=>none
 | .typeAssert x _ t ok=>ob (ay C x) λx=>ob (fD C.P t) λz=>match C.P.underlying t with
   | some (.interface want)=>some (.p (.pM want z ok x))
   | some _=>some (.p (.DR t z ok x))
   | none=>none
 | .extract x i=>ob (ay C x) λx=>some (.p (.extract i x))
 | .load t x=>ob (Oy C.P t) λj=>ob (ay C x) λx=>some (.r (.load j x))
 | .lookup t m k ok=>ob (ay C m) λm=>ob (ay C k) λk=>match C.P.underlying t with
   | some (.map kt et)=>ob (fD C.P et) λz=>some (.r (.lookup (F7 C.P kt) z ok m k))
   | _=>none
 | .alloc t=>ob (fD C.P t) λz=>some (.e (.alloc t z.cells))
 | .box t x=>ob (ay C x) λx=>some (.e (.box t x))
 | .entry x=>ob (ay C x) λx=>some (.r (.entry x))
 | .buildSlice t n ps=>match C.P.underlying t with
   | some (.slice e)=>ob (cg C.P e) λsize=>ob (fD C.P e) λz=>bO (Nat.ble (n*size) 65536&&Nat.beq z.cells.length size&&Nat.blt 0 size) (ob (eN C ps.toList) λl=>some (.e (match fj size l (aH z.cells n) with
     | some cs=>.cL e cs n
     | none=>.buildSlice e size n (aH z.cells n) l)))
   | _=>none
 | .store t a x=>ob (cg C.P t) λn=>ob (ay C a) λa=>ob (ay C x) λx=>some (.e (.store n a x))
 | .makeMap _ none=>some (.e .makeMap)
 | .makeSlice t n c=>match C.P.underlying t with
   | some (.slice e)=>ob (cg C.P e) λsize=>ob (xV C.P e) λbytes=>ob (fD C.P e) λz=>ob (ay C n) λn=>ob (ay C c) λc=>some (.e (.makeSlice e size bytes z.cells n c))
   | _=>none
 | .mapUpdate t m k x | .insert t m k x=>match C.P.underlying t with
   | some (.map kt _)=>ob (ay C m) λm=>ob (ay C k) λk=>ob (ay C x) λx=>some (.e (.mapUpdate (F7 C.P kt) m k x))
   | _=>none
 | .mapEntry t m k=>match C.P.underlying t with
   | some (.map kt et)=>ob (fD C.P et) λz=>ob (ay C m) λm=>ob (ay C k) λk=>some (.e (.mapEntry (F7 C.P kt) z m k))
   | _=>none
 | .entryStore _ m s x=>ob (ay C m) λm=>ob (ay C s) λs=>ob (ay C x) λx=>some (.e (.entryStore m s x))
 | .range t x=>ob (ay C x) λx=>match C.P.underlying t with
   | some .string=>some (.e (.DS x))
   | some (.map _ _)=>some (.e (.rangeMap x))
   | _=>none
 | .next x false=>ob (ay C x) λx=>some (.e (.next x))
 | .call c=>match c.callee with
   | .builtin b=>ob (cG C c.args.toList) (iG C b c.argTypes.toList)
   | _=>ob (nO C c) λd=>some (.c d)
 | .defer c=>match c.callee with
   | .value _=>ob (nO C c) λd=>some (.defer d)
   | _=>none
 | _=>none
def Ab (C:CE):Option Tmp->Option (Option Lb)
 | none=>some none
 | some t=>bO (Nat.blt t C.n) (some (some (pathOf t)))
def mZ (C:CE)(ops:Array Oper):Option (Nat×Bool)->Option (Option (Lb×Bool))
 | none=>some none
 | some (j,w)=>ob (ops.toList[j]?) λo=>ob o.dst λd=>bO (Nat.blt d C.n) (some (some (pathOf d,w)))
def gX (C:CE)(ops:Array Oper)(o:Oper):Option DO:=
 ob (Ab C o.dst) λd=>ob (mZ C ops o.guard) λg=>some {dst:=d,op:=(aq C o.op).getD .stuck,guard:=g}
def gm (C:CE)(ops:Array Oper):List Oper->Option (List DO)
 | []=>some []
 | o::r=>ob (gX C ops o) λd=>ob (gm C ops r) λds=>some (d::ds)
def nA (acc:List Nat):List Edge->Nat
 | []=>0
 | e::r=>Nat.lor (match Region.binds .any e with
   | true=>Nat.lor (Nat.shiftLeft 1 e.on) ((acc[e.on]?).getD 0)
   | false=>0) (nA acc r)
def bp:List Oper->List Nat->List Nat
 | [],acc=>acc
 | o::r,acc=>bp r (acc++[nA acc o.after.toList])
def kV:List DO->Nat->List Nat
 | [],_=>[]
 | d::r,i=>match bT d with
   | true=>i::kV r (i+1)
   | false=>kV r (i+1)
def jW (ah:List Nat):List Nat->Bool
 | i::j::r=>((ah[j]?).getD 0).testBit i&&jW ah (j::r)
 | _=>true
def oQ (f:Nat->Bool):List Nat->Nat
 | []=>0
 | i::r=>match f i with
   | true=>oQ f r+1
   | false=>oQ f r
def Jb (ops:Array Oper)(ah:List Nat):Bool:=
 (List.range ops.size).all λj=>(List.range j).all λi=>((ah[j]?).getD 0).testBit i||(match ops.toList[i]?,ops.toList[j]? with
  | some x,some y=>Oper.apart ops x y
  | _,_=>false)
def du (ops:Array Oper):Bool:=
 (List.range ops.size).all λj=>match ops.toList[j]? with
  | some o=>o.after.toList.all λe=>!Region.binds .any e||Nat.blt e.on j
  | none=>false
def YJ:List DO->Bool
 | []=>true
 | d::r=>(match d.op with | .defer _=>false | _=>true)&&YJ r
def oR (ah effs:List Nat):List DO->Nat->List (DO×Nat×Nat)
 | [],_=>[]
 | d::r,i=>(d,oQ (λe=>((ah[i]?).getD 0).testBit e) effs,oQ (λe=>!((ah[e]?).getD 0).testBit i) effs)::oR ah effs r (i+1)
def bu:List DO->Nat->Bool->List DO×List (Lb×TypeId×List V×Own)
 | [],_,_=>([],[])
 | ⟨d,.e (.cL t cs n),g⟩::r,k,q=>(⟨d,.r (.freshS t cs n (.t (pathOf k))),g⟩::(bu r (k+1) q).1,(pathOf k,t,cs,.yes)::(bu r (k+1) q).2)
 | ⟨d,.e (.alloc t cs),g⟩::r,k,q=>(⟨d,.r (.fresh t cs (.t (pathOf k))),g⟩::(bu r (k+1) q).1,(pathOf k,t,cs,.yes)::(bu r (k+1) q).2)
 | ⟨d,.e (.dj e x),g⟩::r,k,true=>(⟨d,.r (.freshB e x (.t (pathOf k))),g⟩::(bu r (k+1) false).1,(pathOf k,e,[],.marked)::(bu r (k+1) false).2)
 | d::r,k,q=>(d::(bu r k (q && !bT d)).1,(bu r k (q && !bT d)).2)
def jG (C:CE)(ops:Array Oper)(l:List DO):DC:=
 let ah:=bp ops.toList []
 let effs:=kV (bu l C.n true).1 0
 match jW ah effs&&Jb ops ah&&du ops&&YJ l&&Nat.ble ops.size 65536 with
 | true=>.draw (bu l C.n true).2 (oR ah effs (bu l C.n true).1 0)
 | false=>.stuck
def dF (C:CE):Code->DC
 | .skip=>.skip
 | .label _=>.skip
 | .region _ ops draw=>match gm C ops ops.toList with
   | some l=>match draw with
     | true=>jG C ops l
     | false=>.ops l
   | none=>.stuck
 | .seq a b=>.seq (dF C a) (dF C b)
 | .cond c a b=>match ay C c with
   | some x=>.cond x (dF C a) (dF C b)
   | none=>.stuck
 | .block id b=>.block id (dF C b)
 | .loop b=>.loop (dF C b)
 | .exit id=>.exit id
 | .ret=>.ret
 | _=>.stuck
def Jc (C:CE):ResultVar->Option Z'
 | .tmp t=>bO (Nat.blt t C.n) (some (.tmp (pathOf t)))
 | .cell a t=>bO (Nat.blt a C.n) (ob (Oy C.P t) λb=>some (.cell (pathOf a) b))
def qG (C:CE):List ResultVar->Option (List Z')
 | []=>some []
 | r::rs=>ob (Jc C r) λd=>ob (qG C rs) λds=>some (d::ds)
def qH (P:Program)(G:Nat)(f:Func):Option br:=
 let C:CE:={P:=P,G:=G,n:=f.ntmps}
 bO (Nat.ble f.ntmps 65536&&Nat.ble G 65536 && !(f.name == "runtime.NumGoroutine")) (ob f.body λc=>ob (qG C f.results.toList) λa=>some {ntmps:=f.ntmps,code:=dF C c,results:=a})
def kP (P:Program)(t:TypeId):PK:=match P.info? t with
 | some i=>match i.comparable with
   | true=>match P.underlying t with
     | some (.int _)=>.int
     | some .string=>.str
     | some .bool=>.bool
     | _=>.no
   | false=>.no
 | none=>.no
def aod (P:Program)(want:Array (String×TypeId))(t:TypeId):Option Bool:=
 ob (P.info? t) λi=>some (want.toList.all λw=>i.methods.toList.any λm=>m.sig==w.2&&m.name==w.1)
def YK (P:Program)(t:TypeId)(name:String):Option FuncId:=
 ob (P.info? t) λi=>ob (i.methods.toList.find? λm=>m.name==name) λm=>bO m.path.isEmpty (match m.func,P.underlying t with
  | some (f,true),some (.pointer _)=>some f
  | some (_,false),some (.pointer _)=>none
  | some (f,false),some _=>some f
  | _,_=>none)
def dq (P:Program):Env:={plain:=kP P,has:=aod P,aob:=YK P}
end Go.Dx
namespace Go.Dx
open Go Go.RowKit
variable{n:Nat}{α β:Type}
def val:Lb->Nat
 | []=>0
 | true::r=>1+2*val r
 | false::r=>2*val r
theorem jc:∀l,val (inc l)=val l+1
 | []=>rfl
 | false::r=>by simp [inc,val];omega
 | true::r=>by simp [inc,val,jc r];omega
theorem Kl:∀(f n:Nat),n<2 ^ f->val (kR f n)=n
 | 0,n,h=>by simp at h;subst h;rfl
 | f+1,n,h=>by
   unfold kR
   by_cases h0:n=0
   ·subst h0;rfl
   ·have c:(n==0)=false:=by simpa using h0
    have b:=Kl f (n / 2) (by rw [Nat.pow_succ] at h;omega);rw [c];rcases Nat.mod_two_eq_zero_or_one n with a | a
    ·simp [a,val,b];omega
    ·simp [a,val,b];omega
theorem Km (h:n<2 ^ 64):val (pathOf n)=n:=Kl 64 n h
theorem fk {m:Nat}(b:m<2 ^ 64)(a:n<2 ^ 64)(h:pathOf m=pathOf n):m=n:=by
 rw [<-Km b,h,Km a]
theorem gL:∀{a b:Lb},nJ a b=true->a=b
 | [],[],_=>rfl
 | true::a,true::b,h=>by rw [gL (a:=a) (b:=b) (by simpa [nJ] using h)]
 | false::a,false::b,h=>by rw [gL (a:=a) (b:=b) (by simpa [nJ] using h)]
 | [],_::_,h=>by simp [nJ] at h
 | _::_,[],h=>by cases ‹Bool›<;>simp [nJ] at h
 | true::_,false::_,h=>by simp [nJ] at h
 | false::_,true::_,h=>by simp [nJ] at h
theorem T.kW (p:Lb):(T.leaf:T α).get p=none:=by cases p<;>rfl
theorem T.aY :∀(p:Lb) (t:T α) (x:Option α),(t.set p x).get p=x
 | [],.leaf,_x=>rfl
 | [],.node _l _v _r,_x=>rfl
 | true::p,.leaf,x=>T.aY p .leaf x
 | false::p,.leaf,x=>T.aY p .leaf x
 | true::p,.node _l _v r,x=>T.aY p r x
 | false::p,.node l _v _r,x=>T.aY p l x
theorem T.bh :∀(p q:Lb) (t:T α) (x:Option α),p≠q->(t.set p x).get q=t.get q
 | [],[],_,_,h=>absurd rfl h
 | [],true::q,.leaf,x,_=>by simp [T.set,T.get]
 | [],false::q,.leaf,x,_=>by simp [T.set,T.get]
 | [],true::q,.node l v r,x,_=>rfl
 | [],false::q,.node l v r,x,_=>rfl
 | true::p,[],.leaf,x,_=>rfl
 | false::p,[],.leaf,x,_=>rfl
 | true::p,[],.node l v r,x,_=>rfl
 | false::p,[],.node l v r,x,_=>rfl
 | true::p,true::q,.leaf,x,h=>by
   show (T.set .leaf p x).get q=_
   rw [T.bh p q .leaf x (λe=>h (by rw [e])),T.kW];rfl
 | false::p,false::q,.leaf,x,h=>by
   show (T.set .leaf p x).get q=_
   rw [T.bh p q .leaf x (λe=>h (by rw [e])),T.kW];rfl
 | true::p,false::q,.leaf,x,_=>by simp [T.set,T.get]
 | false::p,true::q,.leaf,x,_=>by simp [T.set,T.get]
 | true::p,true::q,.node l v r,x,h=>T.bh p q r x (λe=>h (by rw [e]))
 | false::p,false::q,.node l v r,x,h=>T.bh p q l x (λe=>h (by rw [e]))
 | true::p,false::q,.node l v r,x,_=>rfl
 | false::p,true::q,.node l v r,x,_=>rfl
theorem T.set_set :∀(p:Lb) (t:T α) (x y:Option α),(t.set p x).set p y=t.set p y
 | [],.leaf,x,y=>rfl
 | [],.node l v r,x,y=>rfl
 | true::p,.leaf,x,y=>by show T.node _ _ _=T.node _ _ _;rw [T.set_set p .leaf x y]
 | false::p,.leaf,x,y=>by show T.node _ _ _=T.node _ _ _;rw [T.set_set p .leaf x y]
 | true::p,.node l v r,x,y=>by show T.node _ _ _=T.node _ _ _;rw [T.set_set p r x y]
 | false::p,.node l v r,x,y=>by show T.node _ _ _=T.node _ _ _;rw [T.set_set p l x y]
theorem ad {x:Option α}{f:α->Option β} {r:β}:ob x f=some r<->∃v,x=some v/\f v=some r:=by
 cases x<;>simp [ob]
theorem ai {b:Bool}{k:Option β}{r:β}:bO b k=some r<->b=true/\k=some r:=by
 cases b<;>simp [bO]
structure ej where
 block:Nat
 base:Nat
 total:Nat
 val:Value
abbrev bD:=Lb->Option ej
def j8 (ρ a:bD):Prop:=∀l b,ρ l=some b->a l=some b
theorem j8.refl (ρ:bD):j8 ρ ρ:=λ_ _ h=>h
def au (t:ByteArray):List Nat:=t.data.toList.map (·.toNat)
def Oz:Value->Bool
 | .bool _=>false
 | .nilFunc=>false
 | v=>v.oneCell'
theorem Ac {x:Value}(h:Oz x=true):x.oneCell'=true:=by
 cases x<;>first | rfl | simp [Oz,Value.oneCell'] at h
mutual
inductive RV (ρ:bD):V->Value->Prop
 | bool (b:Bool):RV ρ (.bool b) (.bool b)
 | int (k:IntKind) (n:Int):RV ρ (.int k n) (.int k n)
 | str (t:ByteArray):RV ρ (.str (au t)) (.string t)
 | nilPtr:RV ρ .nilPtr (.pointer none)
 | ptr {l:Lb} {b:ej} (off:Nat) (h:ρ l=some b):RV ρ (.ptr l off) (.pointer (some ⟨b.block,b.base+off,none⟩))
 | nilSlice (c:Nat):RV ρ (.nilSlice c) (.slice none 0 c)
 | slice {l:Lb} {b:ej} (off len c:Nat) (h:ρ l=some b):RV ρ (.slice l off len (.exact c)) (.slice (some ⟨b.block,b.base+off,none⟩) len c)
 | sliceEnd {l:Lb} {b:ej} (off len size c:Nat) (h:ρ l=some b) (hl:len<=c) (hc:b.base+off+c*size=b.total):
   RV ρ (.slice l off len (.toEnd size)) (.slice (some ⟨b.block,b.base+off,none⟩) len c)
 | aP:RV ρ .aP (.map none)
 | map {l:Lb} {b:ej} (h:ρ l=some b):RV ρ (.map l) (.map (some b.block))
 | func (f:FuncId) {a b:List V} {a' b':List Value} (ha:cZ ρ a a') (hb:cZ ρ b b'):RV ρ (.func f a b) (.func (.func f) ⟨a'⟩ ⟨b'⟩)
 | nilFunc:RV ρ .nilFunc .nilFunc
 | iface (t:TypeId) {v:V} {x:Value} (h:RV ρ v x):RV ρ (.iface t v) (.iface t x)
 | nilIface:RV ρ .nilIface .nilIface
 | agg {cs:List V} {xs:List Value} (h:cZ ρ cs xs):RV ρ (.agg cs) (.agg ⟨xs⟩)
 | tuple {cs:List V} {xs:List Value} (h:cZ ρ cs xs):RV ρ (.tuple cs) (.tuple ⟨xs⟩)
 | sym {l:Lb} {b:ej} {n:Nat} (h:ρ l=some b) (ht:b.total=n) (hv:Oz b.val=true):RV ρ (.sym l n) b.val
 | any {x:Value} (h:Oz x=true):RV ρ .any x
 | empty (a:Addr) (c:Nat):RV ρ .empty (.slice (some a) 0 c)
 | eG {lo hi m:Int} (h1:lo<=m) (h2:m<=hi):RV ρ (.eG lo hi) (.int .i64 m)
inductive cZ (ρ:bD):List V->List Value->Prop
 | nil:cZ ρ [] []
 | cons {v:V} {x:Value} {vs:List V} {xs:List Value} (h:RV ρ v x) (hs:cZ ρ vs xs):cZ ρ (v::vs) (x::xs)
end
mutual
theorem RV.mono {ρ ρ':bD}(e:j8 ρ ρ'):∀{v:V} {x:Value},RV ρ v x->RV ρ' v x
 | _,_,.bool b=>.bool b
 | _,_,.int k n=>.int k n
 | _,_,.str t=>.str t
 | _,_,.nilPtr=>.nilPtr
 | _,_,.ptr off h=>.ptr off (e _ _ h)
 | _,_,.nilSlice c=>.nilSlice c
 | _,_,.slice off len c h=>.slice off len c (e _ _ h)
 | _,_,.sliceEnd off len size c h hl hc=>.sliceEnd off len size c (e _ _ h) hl hc
 | _,_,.aP=>.aP
 | _,_,.map h=>.map (e _ _ h)
 | _,_,.func f ha hb=>.func f (cZ.mono e ha) (cZ.mono e hb)
 | _,_,.nilFunc=>.nilFunc
 | _,_,.iface t h=>.iface t (RV.mono e h)
 | _,_,.nilIface=>.nilIface
 | _,_,.agg h=>.agg (cZ.mono e h)
 | _,_,.tuple h=>.tuple (cZ.mono e h)
 | _,_,.sym h ht hv=>.sym (e _ _ h) ht hv
 | _,_,.any h=>.any h
 | _,_,.empty a c=>.empty a c
 | _,_,.eG h1 h2=>.eG h1 h2
theorem cZ.mono {ρ ρ':bD}(e:j8 ρ ρ'):∀{v:List V} {x:List Value},cZ ρ v x->cZ ρ' v x
 | _,_,.nil=>.nil
 | _,_,.cons h hs=>.cons (RV.mono e h) (cZ.mono e hs)
end
def oS:V->Bool
 | .sym ..=>false
 | .any=>false
 | .eG ..=>false
 | _=>true
theorem ac0 {ρ:bD}{v:V}{k:IntKind}{a:Int}(h:RV ρ v (.int k a))(hp:oS v=true):v = .int k a:=by
 generalize he:Value.int k a=x at h;cases h<;>first | (cases he;rfl) | (cases he;done) | simp [oS] at hp
theorem OA {ρ:bD}{v:V}{s:ByteArray}(h:RV ρ v (.string s))(hp:oS v=true):v = .str (au s):=by
 generalize he:Value.string s=x at h;cases h<;>first | (cases he;rfl) | (cases he;done) | simp [oS] at hp
theorem ac1 {ρ:bD}{v:V}{k:FloatKind}{a:Nat}(h:RV ρ v (.float k a))(hp:oS v=true):False:=by
 generalize he:Value.float k a=x at h;cases h<;>first | (cases he;done) | simp [oS] at hp
theorem Wj {ρ:bD}{v:V}{k:FloatKind}{a b:Nat}(h:RV ρ v (.complex k a b))(hp:oS v=true):False:=by
 generalize he:Value.complex k a b=x at h;cases h<;>first | (cases he;done) | simp [oS] at hp
section lists
variable {ρ:bD}
theorem cZ.length {vs:List V}{xs:List Value}(h:cZ ρ vs xs):vs.length=xs.length:=by
 induction vs generalizing xs with
 | nil=>cases h;rfl
 | cons v vs ih=>cases h with | cons h hs=>simp [ih hs]
theorem cZ.get {vs:List V}{xs:List Value}(h:cZ ρ vs xs):∀{i:Nat} {v:V},vs[i]? =some v->∃x,xs[i]? =some x/\RV ρ v x:=by
 induction vs generalizing xs with
 | nil=>intro i v hv;simp at hv
 | cons v vs ih=>
   cases h with
   | cons h hs=>
     intro i w hw;cases i with
     | zero=>simp at hw;subst hw;exact ⟨_,by simp,h⟩
     | succ i=>simp at hw;simpa using ih hs hw
theorem cZ.append {a b:List V}{x y:List Value}(h:cZ ρ a x)(k:cZ ρ b y):cZ ρ (a++b) (x++y):=by
 induction a generalizing x with
 | nil=>cases h;exact k
 | cons v vs ih=>cases h with | cons h hs=>exact .cons h (ih hs)
theorem cZ.bz {vs:List V}{xs:List Value}(h:cZ ρ vs xs):∀n,cZ ρ (bz n vs) (xs.drop n):=by
 intro n;induction n generalizing vs xs with
 | zero=>simpa [Dx.bz] using h
 | succ n ih=>cases h with
   | nil=>simpa [Dx.bz] using cZ.nil
   | cons h hs=>simpa [Dx.bz] using ih hs
theorem cZ.takeN {vs:List V}{xs:List Value}(h:cZ ρ vs xs):∀{n:Nat} {r:List V},takeN n vs=some r->cZ ρ r (xs.take n)/\n<=xs.length:=by
 intro n;induction n generalizing vs xs with
 | zero=>intro r hr;simp [Dx.takeN] at hr;subst hr;exact ⟨by simpa using cZ.nil,Nat.zero_le _⟩
 | succ n ih=>cases h with
   | nil=>intro r hr;simp [Dx.takeN] at hr
   | cons h hs=>
     intro r hr;simp only [Dx.takeN,ad] at hr;obtain ⟨q,hq,hr⟩:=hr;cases hr;obtain ⟨h1,h2⟩:=ih hs hq;exact ⟨by simpa using cZ.cons h h1,by simpa using h2⟩
theorem cZ.rowFrom {vs:List V}{xs:List Value}(h:cZ ρ vs xs){i n:Nat}{r:List V}(hr:rowFrom vs i n=some r):
  cZ ρ r ((xs.drop i).take n)/\n<=xs.length - i:=by
 obtain ⟨h1,h2⟩:=(h.bz i).takeN hr;exact ⟨h1,by simpa using h2⟩
end lists
theorem gn:∀(n:Nat) (vs:List V),(bz n vs).length=vs.length - n
 | 0,vs=>by simp [bz]
 | n+1,[]=>by simp [bz]
 | n+1,v::vs=>by simp [bz,gn n vs]
theorem pN:∀{n:Nat} {vs r:List V},takeN n vs=some r->r.length=n
 | 0,vs,r,h=>by simp [takeN] at h;subst h;rfl
 | n+1,[],r,h=>by simp [takeN] at h
 | n+1,v::vs,r,h=>by
   simp only [takeN,ad] at h;obtain ⟨q,hq,h⟩:=h;cases h;simp [pN hq]
theorem qj:∀(n i:Nat) (vs:List V),(bz n vs)[i]? =vs[n+i]?
 | 0,i,vs=>by simp [bz]
 | n+1,i,[]=>by simp [bz]
 | n+1,i,v::vs=>by
   simp only [bz,qj n i vs];rw [show n+1+i=(n+i)+1 from by omega];simp
theorem qk:∀vs:List V,takeN vs.length vs=some vs
 | []=>rfl
 | v::vs=>by simp only [List.length_cons,takeN,qk vs,ob]
theorem OB:∀{n:Nat} {vs r:List V},takeN n vs=some r->∀i,i<n->r[i]? =vs[i]?
 | 0,vs,r,h,i,hi=>by omega
 | n+1,[],r,h,i,hi=>by simp [takeN] at h
 | n+1,v::vs,r,h,i,hi=>by
   simp only [takeN,ad] at h;obtain ⟨q,hq,h⟩:=h;cases h;cases i with
   | zero=>rfl
   | succ i=>simpa using OB hq i (by omega)
theorem Kn:∀{n:Nat} {vs r:List V},takeN n vs=some r->n<=vs.length
 | 0,vs,r,h=>Nat.zero_le _
 | n+1,[],r,h=>by simp [takeN] at h
 | n+1,v::vs,r,h=>by
   simp only [takeN,ad] at h;obtain ⟨q,hq,h⟩:=h;simpa using Kn hq
theorem r9 {vs r:List V}{i n:Nat}(h:rowFrom vs i n=some r):r.length=n/\(i+n<=vs.length\/n=0)/\∀j,j<n->r[j]? =vs[i+j]?:=by
 refine ⟨pN h,?_,λj hj=>by rw [OB h j hj,qj]⟩;have:=Kn h;rw [gn] at this;omega
theorem kX:∀{vs cs r:List V} {i:Nat},aX vs i cs=some r->r.length=vs.length
 | vs,[],r,0,h=>by simp [aX] at h;subst h;rfl
 | [],c::cs,r,0,h=>by simp [aX] at h
 | v::vs,c::cs,r,0,h=>by
   simp only [aX,ad] at h;obtain ⟨q,hq,h⟩:=h;cases h;simp [kX hq]
 | [],cs,r,i+1,h=>by simp [aX] at h
 | v::vs,cs,r,i+1,h=>by
   simp only [aX,ad] at h;obtain ⟨q,hq,h⟩:=h;cases h;simp [kX hq]
theorem iI:∀{vs cs r:List V} {i:Nat},aX vs i cs=some r->i+cs.length<=vs.length
 | vs,[],r,0,h=>by simp
 | [],c::cs,r,0,h=>by simp [aX] at h
 | v::vs,c::cs,r,0,h=>by
   simp only [aX,ad] at h;obtain ⟨q,hq,h⟩:=h;have:=iI hq;simp at this ⊢;omega
 | [],cs,r,i+1,h=>by simp [aX] at h
 | v::vs,cs,r,i+1,h=>by
   simp only [aX,ad] at h;obtain ⟨q,hq,h⟩:=h;have:=iI hq;simp at this ⊢;omega
theorem sa:∀{vs cs r:List V} {i:Nat},aX vs i cs=some r->∀j,r[j]? =if i<=j/\j<i+cs.length then cs[j - i]? else vs[j]?
 | vs,[],r,0,h,j=>by simp [aX] at h;subst h;simp
 | [],c::cs,r,0,h,j=>by simp [aX] at h
 | v::vs,c::cs,r,0,h,j=>by
   simp only [aX,ad] at h;obtain ⟨q,hq,h⟩:=h;cases h;cases j with
   | zero=>simp
   | succ j=>simpa using sa hq j
 | [],cs,r,i+1,h,j=>by simp [aX] at h
 | v::vs,cs,r,i+1,h,j=>by
   simp only [aX,ad] at h;obtain ⟨q,hq,h⟩:=h;cases h;cases j with
   | zero=>simp
   | succ j=>
     have:=sa hq j;simp only [List.getElem?_cons_succ,this];have e:(i+1<=j+1/\j+1<i+1+cs.length)<->(i<=j/\j<i+cs.length):=by omega
     simp only [e,Nat.add_sub_add_right]
end Go.Dx
namespace Go.Dx
open Go Go.RowKit
variable{ms:List MapEntry}{es:List (V×V×Nat)}{ρ ρ':bD}{w w':World}{l m:Lb}
inductive pO (ρ:bD):List (V×V×Nat)->List MapEntry->Prop
 | nil:pO ρ [] []
 | cons {k v:V} {n:Nat} {m:MapEntry} {es:List (V×V×Nat)} {ms:List MapEntry} (hk:RV ρ k m.key) (hv:RV ρ v m.val) (hn:m.born=n) (hs:pO ρ es ms):
   pO ρ ((k,v,n)::es) (m::ms)
theorem pO.mono (e:j8 ρ ρ')(h:pO ρ es ms):pO ρ' es ms:=by
 induction h with
 | nil=>exact .nil
 | cons hk hv hn _ ih=>exact .cons (hk.mono e) (hv.mono e) hn ih
theorem pO.length (h:pO ρ es ms):es.length=ms.length:=by
 induction h with
 | nil=>rfl
 | cons _ _ _ _ ih=>simp [ih]
def cQ (b:ej)(i:Nat):Addr:=⟨b.block,b.base+i,none⟩
structure dE (ρ:bD)(b:ej)(vs:List V)(e:TypeId)(fz:Nat)(own:Own)(w:World):Prop where
 shape:w.shape? b.block=some (e,b.total)
 fits:b.base+vs.length<=b.total
 cell:∀i v,vs[i]? =some v->∃x,w.cell? (cQ b i)=some x/\RV ρ v x
 free:own.may=true->∀i,b.base+fz<=i->i<b.total->w.frozen? ⟨b.block,i,none⟩=false
 bare:own = .yes->∃c lo hi,w.heap[b.block]? =some (.cells c e (lo,hi))/\hi<=b.base+fz/\lo<=hi
def sS (ρ:bD)(b:ej)(w:World):Obj->Prop
 | .cells vs e fz own=>dE ρ b vs e fz own w
 | .map es clock=>∃ms:Array MapEntry,w.heap[b.block]? =some (.map ms clock)/\pO ρ es ms.toList
 | .uK s pos=>∃t:ByteArray,w.heap[b.block]? =some (.stringIter t pos)/\s=au t/\b.base=0
 | .mapIter m since seen st=>b.base=0/\∃a:Option Nat,w.heap[b.block]? =some (.mapIter a since ⟨seen⟩ st)/\(match m with
   | none=>a=none
   | some l=>∃c,ρ l=some c/\a=some c.block)
def Obj.writes:Obj->Bool
 | .cells _ _ _ own=>own.may
 | _=>true
def aoe (c:Nat):Bool:=c==46||c==45||c==95||(decide (48<=c)&&decide (c<=57))||(decide (97<=c)&&decide (c<=122))||(decide (65<=c)&&decide (c<=90))
def aiC (s:ByteArray):Bool:=(s.data.toList.all λc=>aoe c.toNat)&&decide (0<s.size)&&decide (s.size<=24)
structure ac2 (B:Nat)(w0:World)(b:ej):Prop where
 slice:3<b.total->∀a n c,b.val = .slice (some a) n c->a.block<B/\a.spot=none/\n*80<=140737488355328/\∀j,j<n*b.total->(w0.cell? ⟨a.block,a.off+j,none⟩).isSome=true
 row:b.val≠.nilFunc->3<b.total->b.val = .slice none 0 0\/∃a n c,b.val = .slice (some a) n c
 good:b.val≠.nilFunc->b.total=3->∃s,b.val = .string s/\(s.size:Int)<=9223372036854775807/\aiC s=true
 bad:b.val≠.nilFunc->b.total=2->∃s,b.val = .string s/\(s.size:Int)<=9223372036854775807/\aiC s=false
theorem ac2.nil {B:Nat}{w0:World}{b:ej}(h:b.val = .nilFunc):ac2 B w0 b:=
 ⟨(λ_ _ _ _ e=>by rw [h] at e;cases e),λe=>absurd h e,λe=>absurd h e,λe=>absurd h e⟩
structure aA (B:Nat)(w0:World)(ρ:bD)(h:H)(w:World):Prop where
 obj:∀l b o,ρ l=some b->h.get l=some o->sS ρ b w o
 lt:∀l b,ρ l=some b->val l<val h.next
 base:∀l b,ρ l=some b->b.base=0/\ac2 B w0 b
 inj:∀l m b c,ρ l=some b->ρ m=some c->(h.get l).isSome=true->(h.get m).isSome=true->b.block=c.block->l=m
 own:∀l b o,ρ l=some b->h.get l=some o->o.writes=true->B<=b.block
 size:B<=w.heap.size
 below:Below B w0 w
theorem ac3 {b:Nat}{s:TypeId×Nat}(h:w.shape? b=some s):b<w.heap.size:=by
 rcases Nat.lt_or_ge b w.heap.size with h' | h'
 ·exact h'
 ·simp [World.shape?,Array.getElem?_eq_none h'] at h
theorem nB {b:Nat}{o:Go.Obj}(h:w.heap[b]? =some o):b<w.heap.size:=(Array.getElem?_eq_some_iff.1 h).1
theorem sS.lt {b:ej}{o:Obj}(h:sS ρ b w o):b.block<w.heap.size:=by
 cases o with
 | cells vs e fz own=>exact ac3 h.shape
 | map es c=>obtain ⟨ms,h,_⟩:=h;exact nB h
 | uK s p=>obtain ⟨t,h,_⟩:=h;exact nB h
 | mapIter m a s t=>obtain ⟨_,d,h,_⟩:=h;exact nB h
theorem Ko {b:Nat}(h:w'.heap[b]? =w.heap[b]?):
  w'.shape? b=w.shape? b/\(∀i,w'.cell? ⟨b,i,none⟩=w.cell? ⟨b,i,none⟩)/\(∀i,w'.frozen? ⟨b,i,none⟩=w.frozen? ⟨b,i,none⟩):=by
 refine ⟨?_,λi=>?_,λi=>?_⟩
 ·simp only [World.shape?,h]
 ·simp only [World.cell?,h]
 ·simp only [World.frozen?,h]
theorem sS.jH (e:j8 ρ ρ'){b:ej}{o:Obj}(h:sS ρ b w o)(d:w'.heap[b.block]? =w.heap[b.block]?):sS ρ' b w' o:=by
 obtain ⟨n,y,h3⟩:=Ko d;cases o with
 | cells vs el fz own=>
   refine ⟨by rw [n];exact h.shape,h.fits,λi v k=>?_,λf i hi u=>by rw [h3];exact h.free f i hi u,λf=>by rw [d];exact h.bare f⟩;obtain ⟨x,q,r⟩:=h.cell i v k;exact ⟨x,by unfold cQ;rw [y];exact q,r.mono e⟩
 | map es c=>obtain ⟨ms,h,r⟩:=h;exact ⟨ms,by rw [d];exact h,r.mono e⟩
 | uK s p=>obtain ⟨t,h,r⟩:=h;exact ⟨t,by rw [d];exact h,r⟩
 | mapIter m a s t=>
   obtain ⟨h0,g,h,r⟩:=h;refine ⟨h0,g,by rw [d];exact h,?_⟩;cases m with
   | none=>exact r
   | some l=>obtain ⟨c,j,r⟩:=r;exact ⟨c,e _ _ j,r⟩
section
variable {B:Nat} {w0:World} {ρ:bD} {h:H} {w:World}
theorem aA.same (R:aA B w0 ρ h w)(a:w'.heap=w.heap)(d:Below B w0 w'):aA B w0 ρ h w':=
 ⟨λl b o c e=>(R.obj l b o c e).jH (j8.refl _) (by rw [a]),R.lt,R.base,R.inj,R.own,by rw [a];exact R.size,d⟩
theorem aA.drew (R:aA B w0 ρ h w):aA B w0 ρ h {w with drawn:=w.drawn+1}:=R.same rfl R.below.drew
def uG (ρ:bD)(l:Lb)(b:ej):bD:=λm=>if m=l then some b else ρ m
theorem aU (ρ:bD)(l:Lb)(b:ej):uG ρ l b l=some b:=by simp [uG]
theorem ca {b:ej}(h:m≠l):uG ρ l b m=ρ m:=by simp [uG,h]
theorem eS {b:ej}(h:ρ l=none):j8 ρ (uG ρ l b):=λm c a=>by
 by_cases e:m=l
 ·subst e;rw [h] at a;cases a
 ·rw [ca e];exact a
theorem aA.fresh (R:aA B w0 ρ h w):ρ h.next=none:=by
 cases hn:ρ h.next with
 | none=>rfl
 | some b=>exact absurd (R.lt _ _ hn) (Nat.lt_irrefl _)
theorem H.kY (h:H)(o:Obj):(h.add o).get h.next=some o:=T.aY _ _ _
theorem H.ew (h:H)(o:Obj)(a:l≠h.next):(h.add o).get l=h.get l:=T.bh _ _ _ _ (Ne.symm a)
theorem H.aY (h:H)(l:Lb)(o:Obj):(h.set l o).get l=some o:=T.aY _ _ _
theorem H.bh (h:H)(o:Obj)(a:m≠l):(h.set l o).get m=h.get m:=T.bh _ _ _ _ (Ne.symm a)
theorem H.DW (h:H)(l:Lb):(h.del l).get l=none:=T.aY _ _ _
theorem H.Kp (h:H)(a:m≠l):(h.del l).get m=h.get m:=T.bh _ _ _ _ (Ne.symm a)
theorem heap_alloc_old (o:Go.Obj){k:Nat}(a:k<w.heap.size):(w.alloc o).heap[k]? =w.heap[k]?:=Below.heap_alloc w o k a
theorem heap_alloc_new (o:Go.Obj):(w.alloc o).heap[w.heap.size]? =some o:=by show (w.heap.push o)[w.heap.size]? =_;simp
theorem aA.laid (R:aA B w0 ρ h w){h':H}{o:Obj}{x:Go.Obj}{b:ej}(s:b.block=w.heap.size)(k:b.base=0/\b.val = .nilFunc)(y:ρ l=none)(t:val l<val h'.next)(Nc:val h.next<=val h'.next)
  (r:h'.get l=some o) (f:∀m,m≠l->h'.get m=h.get m) (u:sS (uG ρ l b) b (w.alloc x) o):
  aA B w0 (uG ρ l b) h' (w.alloc x):=by
 have E:=eS (b:=b) y;refine ⟨λm c p a g=>?_,λm c a=>?_,λm c a=>?_,λm n c d a i j Wk e=>?_,λm c p a g v=>?_,?_,R.below.alloc R.size _⟩
 ·by_cases e:m=l
  ·subst e
   rw [aU] at a;cases a;rw [r] at g;cases g;exact u
  ·rw [ca e] at a
   rw [f m e] at g;have q:=R.obj m c p a g;exact q.jH E (heap_alloc_old _ q.lt)
 ·by_cases e:m=l
  ·subst e;exact t
  ·rw [ca e] at a;exact Nat.lt_of_lt_of_le (R.lt m c a) Nc
 ·by_cases e:m=l
  ·subst e;rw [aU] at a;cases a;exact ⟨k.1,.nil k.2⟩
  ·rw [ca e] at a;exact R.base m c a
 ·by_cases e1:m=l
  ·by_cases e2:n=l
   ·rw [e1,e2]
   ·subst e1
    rw [aU] at a;rw [ca e2] at i;cases a;rw [f n e2] at Wk;obtain ⟨p,g⟩:=Option.isSome_iff_exists.1 Wk;have:=(R.obj n d p i g).lt;omega
  ·by_cases e2:n=l
   ·subst e2
    rw [aU] at i;rw [ca e1] at a;cases i;rw [f m e1] at j;obtain ⟨p,g⟩:=Option.isSome_iff_exists.1 j;have:=(R.obj m c p a g).lt;omega
   ·rw [ca e1] at a
    rw [ca e2] at i;rw [f m e1] at j;rw [f n e2] at Wk;exact R.inj m n c d a i j Wk e
 ·by_cases e:m=l
  ·subst e
   rw [aU] at a;cases a;rw [s];exact R.size
  ·rw [ca e] at a
   rw [f m e] at g;exact R.own m c p a g v
 ·show B<=(w.heap.push x).size
  simp;exact Nat.le_succ_of_le R.size
theorem aA.add (R:aA B w0 ρ h w){o:Obj}{x:Go.Obj}{b:ej}(d:b.block=w.heap.size)(c:b.base=0/\b.val = .nilFunc)(a:sS (uG ρ h.next b) b (w.alloc x) o):
  aA B w0 (uG ρ h.next b) (h.add o) (w.alloc x):=
 R.laid d c R.fresh (by show val h.next<val (inc h.next);rw [jc];omega) (by show val h.next<=val (inc h.next);rw [jc];omega) (h.kY o) (λm e=>h.ew o e) a
theorem aA.change (R:aA B w0 ρ h w){b:ej}{o p:Obj}(r:ρ l=some b)(y:h.get l=some o)(E:o.writes=true)
  (x:w'.heap.size=w.heap.size) (f:∀k,k≠b.block->w'.heap[k]? =w.heap[k]?) (s:w'.os=w.os) (t:w'.tape=w.tape) (u:w'.output=w.output)
  (F:sS ρ b w' p):aA B w0 ρ (h.set l p) w':=by
 have D:=R.own l b o r y E;have YL:(h.get l).isSome=true:=by rw [y];rfl
 refine ⟨λm c q a i=>?_,R.lt,R.base,λm n c d a C A Wk e=>?_,λm c q a i z=>?_,by rw [x];exact R.size,?_⟩
 ·by_cases e:m=l
  ·subst e
   rw [H.aY] at i;rw [r] at a;cases a;cases i;exact F
  ·rw [H.bh _ _ e] at i
   refine (R.obj m c q a i).jH (j8.refl _) (f _ λj=>e (R.inj m l c b a r (by rw [i];rfl) YL j))
 ·have g:∀k,((h.set l p).get k).isSome=true->(h.get k).isSome=true:=λk v=>by
   by_cases j:k=l
   ·rw [j];exact YL
   ·rwa [H.bh _ _ j] at v
  exact R.inj m n c d a C (g m A) (g n Wk) e
 ·by_cases e:m=l
  ·subst e;rw [r] at a;cases a;exact D
  ·rw [H.bh _ _ e] at i
   exact R.own m c q a i z
 ·exact R.below.trans ⟨s,t,u,by rw [x];exact Nat.le_refl _,λk v=>f k (by omega)⟩
theorem aA.del (R:aA B w0 ρ h w)(l:Lb):aA B w0 ρ (h.del l) w:=by
 have g:∀k o,(h.del l).get k=some o->h.get k=some o:=λk o f=>by
  by_cases e:k=l
  ·subst e;rw [H.DW] at f;cases f
  ·rwa [H.Kp _ e] at f
 refine ⟨λm c q b a=>R.obj m c q b (g m q a),R.lt,R.base,λm n c d b j i Wk e=>?_,λm c q b a=>R.own m c q b (g m q a),R.size,R.below⟩;obtain ⟨p,r⟩:=Option.isSome_iff_exists.1 i;obtain ⟨q,a⟩:=Option.isSome_iff_exists.1 Wk;exact R.inj m n c d b j (by rw [g m p r];rfl) (by rw [g n q a];rfl) e
end
end Go.Dx
