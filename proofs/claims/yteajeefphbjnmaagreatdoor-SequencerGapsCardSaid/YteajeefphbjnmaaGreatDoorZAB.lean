/-
  The sequencer's laws. Part ZAB of the proof: The deterministic machine over labels: how code runs on it.
-/
import Derived.Orders
import Derived.Deep.MidRow
import Derived.Below
import Derived.Test.YteajeefphbjnmaaGreatDoorZAA
namespace Go.Dx
open Go
inductive DC where
 | skip
 | ops (l:List DO)
 | draw (made:List (Lb×TypeId×List V×Own)) (l:List (DO×Nat×Nat))
 | seq (a b:DC)
 | cond (c:X) (a b:DC)
 | block (id:Nat) (c:DC)
 | loop (c:DC)
 | exit (id:Nat)
 | ret
 | stuck
inductive YU where
 | tmp (p:Lb)
 | cell (p:Lb) (rd:Rd)
structure bC where
 ntmps:Nat
 code:DC
 results:List YU
inductive Ex where
 | normal
 | exit (id:Nat)
 | ret
abbrev je:=FuncId->List V->H->Option (V×H)
def dS (tm:T V):Option (Lb×Bool)->Bool
 | none=>true
 | some (p,want)=>match bS tm p with
   | .bool b=>match want with
     | true=>b
     | false=>!b
   | _=>false
def Dv (E:Env)(call:je)(d:DO)(a:A)(h:H):Option (A×H):=
 match d.op with
 | .Rm x=>some (a.put d.dst (x.ev a.tmps),h)
 | .p q=>ob (q.eval E a.tmps) λv=>some (a.put d.dst v,h)
 | .r q=>ob (q.oO a.tmps) λq=>ob (q.ask h) λv=>some (a.put d.dst v,h)
 | .e q=>ob (q.run a.tmps h) λr=>some (a.put d.dst r.1,r.2)
 | .c q=>ob (q.args E a.tmps) λf=>ob (call f.1 f.2 h) λr=>some (a.put d.dst r.1,r.2)
 | .defer q=>ob (q.args E a.tmps) λf=>some ({tmps:=a.tmps,defers:=f::a.defers:A}.put d.dst undef,h)
 | .stuck=>none
def uF (E:Env)(call:je):List DO->A->H->Option (A×H)
 | [],a,h=>some (a,h)
 | d::r,a,h=>match dS a.tmps d.guard with
   | true=>ob (Dv E call d a h) λs=>uF E call r s.1 s.2
   | false=>uF E call r (a.put d.dst undef) h
abbrev jH:=Q×V×Nat
def qd (h:H)(n:Nat):List jH->Bool
 | []=>true
 | (q,v,hi)::r=>(match Nat.ble n hi with
   | true=>match q.ask h with
     | some u=>sO u v
     | none=>false
   | false=>true)&&qd h n r
def nj (q:Q)(v:V):Nat->List H->Bool
 | 0,_=>true
 | k+1,h::hs=>(match q.ask h with
   | some u=>sO u v
   | none=>false)&&nj q v k hs
 | _+1,[]=>false
def bQ:DO->Bool
 | ⟨_,.e _,_⟩ | ⟨_,.c _,_⟩=>true
 | _=>false
def fW (E:Env)(call:je):List (DO×Nat×Nat)->A->H->Nat->List H->List jH->Option (A×H)
 | [],a,h,_,_,_=>some (a,h)
 | (d,lo,hi)::r,a,h,n,hs,ps=>match dS a.tmps d.guard with
   | false=>match bQ d with
     | true=>fW E call r (a.put d.dst undef) h (n+1) (h::hs) ps
     | false=>fW E call r (a.put d.dst undef) h n hs ps
   | true=>match d.op with
     | .Rm x=>fW E call r (a.put d.dst (x.ev a.tmps)) h n hs ps
     | .p q=>ob (q.eval E a.tmps) λv=>fW E call r (a.put d.dst v) h n hs ps
     | .r q=>ob (q.oO a.tmps) λq=>ob (q.ask h) λv=>bN (nj q v (n - lo) hs) (fW E call r (a.put d.dst v) h n hs ((q,v,hi)::ps))
     | .e q=>ob (q.run a.tmps h) λs=>bN (qd s.2 (n+1) ps) (fW E call r (a.put d.dst s.1) s.2 (n+1) (h::hs) ps)
     | .c q=>ob (q.args E a.tmps) λf=>ob (call f.1 f.2 h) λs=>bN (qd s.2 (n+1) ps) (fW E call r (a.put d.dst s.1) s.2 (n+1) (h::hs) ps)
     | .defer _=>none
     | .stuck=>none
abbrev Made:=Lb×TypeId×List V×Own
def makeAll:List Made->T V->H->T V×H
 | [],tm,h=>(tm,h)
 | (p,t,cs,o)::r,tm,h=>makeAll r (tm.set p (some (.ptr h.next 0))) (h.add (.cells cs t 0 o))
def Ix (q:Lb)(cs:List V):List Made->List Made
 | []=>[]
 | (p,t,c,o)::r=>match na p q with
   | true=>(p,t,cs,o)::r
   | false=>(p,t,c,o)::Ix q cs r
def RT:Own->Bool
 | .marked=>true
 | _=>false
def NI:List Made->Bool
 | []=>false
 | (_,_,_,o)::r=>RT o||NI r
def BV (tm:T V):Option Lb->V->T V
 | some d,v=>tm.set d (some v)
 | none,_=>tm
def GZ (E:Env):List (DO×Nat×Nat)->T V->H->List Made->Option (List Made)
 | [],_,_,m=>some m
 | (d,_,_)::r,tm,h,m=>match dS tm d.guard with
   | false=>GZ E r (BV tm d.dst undef) h m
   | true=>match d.op with
     | .Rm x=>GZ E r (BV tm d.dst (x.ev tm)) h m
     | .p q=>ob (q.eval E tm) λv=>GZ E r (BV tm d.dst v) h m
     | .r (.freshB _ x s)=>match x.ev tm,s with
       | .str b,.t p=>some (Ix p (ae b) m)
       | _,_=>none
     | .r q=>ob (q.oO tm) λq=>ob (q.ask h) λv=>GZ E r (BV tm d.dst v) h m
     | _=>some m
def Dw (E:Env)(l:List (DO×Nat×Nat))(m:List Made)(tm:T V)(h:H):Option (List Made):=match NI m with
 | true=>GZ E l (makeAll m tm h).1 (makeAll m tm h).2 m
 | false=>some m
def resultD (h:H)(tm:T V):YU->Option V
 | .tmp p=>some (bS tm p)
 | .cell p rd=>match bS tm p with
   | .ptr l off=>Q.ask h (.load rd l off)
   | _=>none
def dK (h:H)(tm:T V):List YU->Option (List V)
 | []=>some []
 | r::rs=>ob (resultD h tm r) λv=>ob (dK h tm rs) λvs=>some (v::vs)
def rF:List V->V
 | [v]=>v
 | vs=>.tuple vs
def fY:List V->Lb->T V->T V
 | [],_,t=>t
 | v::vs,p,t=>fY vs (inc p) (t.set p (some v))
def Pf (fns:T bC)(f:FuncId):Option bC:=bN (Nat.blt f 65536) (fns.get (pathOf f))
def mj (exec:DC->A->H->Option (Ex×A×H)) (fn:bC) (args:List V) (h:H):Option (Ex×A×H):=
 bN (Nat.ble args.length fn.ntmps) (exec fn.code {tmps:=fY args [] .leaf,defers:=[]} h)
def xE (call:FuncId->List V->H->Option H):List (FuncId×List V)->H->Option H
 | [],h=>some h
 | (f,args)::ds,h=>ob (call f args h) λh'=>xE call ds h'
def RX (fns:T bC)(iF:FuncId->List V->H->Option H) (exec:DC->A->H->Option (Ex×A×H)) (f:FuncId) (args:List V) (h:H):Option H:=
 match iF f args h with
 | some h'=>some h'
 | none=>ob (Pf fns f) λfn=>ob (mj exec fn args h) λr=>match r.1,r.2.1.defers with
   | .exit _,_=>none
   | _,[]=>ob (dK r.2.2 r.2.1.tmps fn.results) λ_=>some r.2.2
   | _,_::_=>none
def RZ (fns:T bC)(vQ:je)(iF:FuncId->List V->H->Option H) (exec:DC->A->H->Option (Ex×A×H)):je:=λf args h=>
 match vQ f args h with
 | some r=>some r
 | none=>ob (Pf fns f) λfn=>ob (mj exec fn args h) λr=>match r.1 with
   | .exit _=>none
   | _=>ob (xE (RX fns iF exec) r.2.1.defers r.2.2) λh'=>ob (dK h' r.2.1.tmps fn.results) λvs=>some (rF vs,h')
def cJ (E:Env)(call:je)(exec:DC->A->H->Option (Ex×A×H)) (c:DC) (a:A) (h:H):Option (Ex×A×H):=
 match c with
 | .skip=>some (.normal,a,h)
 | .ops l=>ob (uF E call l a h) λr=>some (.normal,r.1,r.2)
 | .draw m l=>ob (Dw E l m a.tmps h) λm=>ob (fW E call l {tmps:=(makeAll m a.tmps h).1,defers:=a.defers} (makeAll m a.tmps h).2 0 [] []) λr=>some (.normal,r.1,r.2)
 | .seq x y=>ob (exec x a h) λr=>match r.1 with
   | .normal=>exec y r.2.1 r.2.2
   | e=>some (e,r.2.1,r.2.2)
 | .cond c x y=>match c.ev a.tmps with
   | .bool true=>exec x a h
   | .bool false=>exec y a h
   | _=>none
 | .block id b=>ob (exec b a h) λr=>match r.1 with
   | .exit i=>some (match Nat.beq i id with | true=>.normal | false=>.exit i,r.2.1,r.2.2)
   | e=>some (e,r.2.1,r.2.2)
 | .loop b=>ob (exec b a h) λr=>match r.1 with
   | .normal=>exec (.loop b) r.2.1 r.2.2
   | e=>some (e,r.2.1,r.2.2)
 | .exit id=>some (.exit id,a,h)
 | .ret=>some (.ret,a,h)
 | .stuck=>none
structure UY where
 exec:DC->A->H->Option (Ex×A×H)
 call:je
def ahx:UY:={exec:=λ_ _ _=>none,call:=λ_ _ _=>none}
def am1 (E:Env)(fns:T bC)(vQ:je)(iF:FuncId->List V->H->Option H) (t:UY):UY:=
 {exec:=λc a h=>cJ E t.call t.exec c a h,call:=λf args h=>RZ fns vQ iF t.exec f args h}
def abV (E:Env)(fns:T bC)(vQ:je)(iF:FuncId->List V->H->Option H):Nat->UY
 | 0=>ahx
 | n+1=>am1 E fns vQ iF (abV E fns vQ iF n)
end Go.Dx
namespace Go.Dx
open Go
structure CE where
 P:Program
 G:Nat
 n:Nat
def aw (C:CE):Operand->Option X
 | .tmp t=>bN (Nat.blt t C.n) (some (.t (pathOf t)))
 | .const v=>ob (ofConst v) λd=>some (.c d)
 | .global g=>bN (Nat.blt g C.G) (some (.c (.ptr (pathOf g) 0)))
 | .func f=>some (.c (.func f [] []))
def cD (C:CE):List Operand->Option (List X)
 | []=>some []
 | x::xs=>ob (aw C x) λd=>ob (cD C xs) λds=>some (d::ds)
def gJ (C:CE):Option Operand->Option (Option X)
 | none=>some none
 | some x=>ob (aw C x) λd=>some (some d)
def cd (P:Program)(t:TypeId):Option Nat:=ob (P.info? t) λi=>some i.size
def xF (P:Program)(t:TypeId):Option Nat:=ob (P.info? t) λi=>some i.bytes
def fg (P:Program)(t:TypeId):Option V:=ob (P.info? t) λi=>ob i.zero ofConst
def NJ (P:Program)(t:TypeId):Option Rd:=match P.underlying t with
 | some (.struct _) | some (.array _ _)=>ob (cd P t) λn=>some (.many n)
 | some _=>some .one
 | none=>none
def zf (P:Program):List Field->Option (List (Nat×Nat))
 | []=>some []
 | f::fs=>ob (cd P f.type) λn=>ob (zf P fs) λr=>some ((f.offset,n)::r)
def fB (C:CE)(place:Nat->Option (Nat×Nat)):List (Nat×Operand)->Option (List (Nat×Nat×X))
 | []=>some []
 | (i,x)::r=>ob (place i) λp=>ob (aw C x) λd=>ob (fB C place r) λds=>some ((p.1,p.2,d)::ds)
def eF (C:CE):List (Nat×Operand)->Option (List (Nat×X))
 | []=>some []
 | (i,x)::r=>ob (aw C x) λd=>ob (eF C r) λds=>some ((i,d)::ds)
def xG:Operand->Bool
 | .const _=>true
 | _=>false
def gu (P:Program):Nat->TypeId->Option (List PK)
 | 0,_=>none
 | d+1,t=>match P.underlying t with
   | some .bool=>some [.bool]
   | some (.int _)=>some [.int]
   | some .string=>some [.str]
   | some (.struct fs)=>bN (!P.stoodInHeld t&&(cd P t).isSome) (qe P (gu P d) 0 fs.toList)
   | _=>none
 where
 qe (P:Program) (k:TypeId->Option (List PK)):Nat->List Field->Option (List PK)
  | _,[]=>some []
  | at_,f::fs=>ob (k f.type) λa=>ob (cd P f.type) λn=>bN (Nat.beq f.offset at_&&Nat.beq n a.length && !(f.name == "_")) (ob (qe P k (at_+n) fs) λr=>some (a++r))
def JG (P:Program)(t:TypeId)(x y:Operand):EK:=match P.underlying t with
 | some .bool=>.bool
 | some (.pointer e)=>match cd P e with
   | some 0=>.none
   | some _=>.ptr
   | none=>.none
 | some (.interface _)=>.iface (xG x||xG y)
 | some (.slice _)=>.slice
 | some (.map _ _)=>.map
 | some (.func _ _ _)=>.func
 | some (.struct _)=>match bN (!P.eqGuardType P.depth t) (gu P 8 t) with
   | some ks=>.agg ks
   | none=>.none
 | _=>.none
def Fw (P:Program)(t:TypeId):PK:=match P.underlying t with
 | some .string=>.str
 | some (.int _)=>.int
 | _=>.no
def nk (C:CE)(c:Call):Option CD:=ob (cD C c.args.toList) λaGn=>match c.callee with
 | .value (.func f)=>some (.func f aGn)
 | .value f=>ob (aw C f) λx=>some (.value x aGn)
 | .invoke r name=>ob (aw C r) λx=>some (.invoke x name aGn)
 | .builtin _=>none
def ia (C:CE)(b:Builtin)(ts:List TypeId)(xs:List X):Option D:=
 match b,xs,ts with
 | .len,[x],t::_=>match C.P.underlying t with
   | some .string=>some (.p (.JA x))
   | some (.slice _)=>some (.p (.xC x))
   | some (.array n _)=>some (.p (.JB n))
   | some (.map _ _)=>some (.r (.mapLen x))
   | _=>none
 | .cap,[x],t::_=>match C.P.underlying t with
   | some (.slice _)=>some (.p (.cap x))
   | _=>none
 | .max,[x,y],_=>some (.p (.abS x y))
 | .min,[x,y],_=>some (.p (.abT x y))
 | .unsafeSliceData,[x],_=>some (.p (.mq x))
 | .unsafeString,[x,n],[t,_]=>match C.P.underlying t with
   | some (.pointer e)=>match C.P.underlying e,cd C.P e with
     | some (.int .u8),some 1=>some (.e (.mr e x n))
     | _,_=>none
   | _=>none
 | .append,[s,x],[t,u]=>match C.P.underlying t,C.P.underlying u with
   | some (.slice e),some ud=>ob (cd C.P e) λsize=>ob (xF C.P e) λbytes=>ob (fg C.P e) λz=>bN (Nat.blt 0 size&&Nat.blt 0 bytes&&Nat.beq z.cells.length size) (match ud with
     | .int _=>some (.e (.nf e size bytes z.cells s x))
     | .slice _=>some (.e (.append e size bytes s x))
     | .string=>some (.e (.append e size bytes s x))
     | _=>none)
   | _,_=>none
 | .copy,[d,s],t::_=>match C.P.underlying t with
   | some (.slice e)=>ob (cd C.P e) λsize=>some (.e (.copy size d s))
   | _=>none
 | .clear,[x],t::_=>match C.P.underlying t with
   | some (.map _ _)=>some (.e (.qb x))
   | _=>none
 | .delete,[m,k],t::_=>match C.P.underlying t with
   | some (.map kt _)=>some (.e (.delete (Fw C.P kt) m k))
   | _=>none
 | _,_,_=>none
def ib (C:CE)(src dst:TypeId)(x:X):Option D:=
 match C.P.underlying src,C.P.underlying dst with
 | some (.int _),some (.int k)=>some (.p (.toInt k x))
 | some (.int _),some .string=>some (.p (.Dn x))
 | some .string,some .string=>some (.p (.Dp x))
 | some .string,some (.slice e)=>match C.P.underlying e,cd C.P e with
   | some (.int .u8),some 1=>some (.e (.cY e x))
   | _,_=>none
 | some (.slice _),some (.slice e)=>match C.P.underlying e with
   | some (.int .u8)=>bN (Nat.beq src dst) (some (.e (.y' x)))
   | _=>none
 | some (.slice e),some .string=>match C.P.underlying e,cd C.P e with
   | some (.int .u8),some 1=>some (.r (.bytesStr x))
   | _,_=>none
 | some (.pointer e),some .unsafePointer=>match cd C.P e with
   | some (_+1)=>some (.r (.ptrUnsafe x))
   | _=>none
 | some .unsafePointer,some (.pointer u)=>match cd C.P u with
   | some (n+1)=>some (.r (.unsafePtr u (n+1) x))
   | _=>none
 | _,_=>none
def eW (size:Nat):List (Nat×X)->List V->Option (List V)
 | [],cells=>some cells
 | (i,.c v)::r,cells=>bN (Nat.beq v.cells.length size) (ob (aX cells (i*size) v.cells) (eW size r))
 | (_,.t _)::_,_=>none
def aj (C:CE)(o:Op):Option D:=
 match o with
 | .move x | .assign x=>ob (aw C x) λx=>some (.Rm x)
 | .pick c a b=>ob (aw C c) λc=>ob (aw C a) λa=>ob (aw C b) λb=>some (.p (.pick c a b))
 | .build t ps=>ob (fg C.P t) λz=>match C.P.underlying t with
   | some (.struct fs)=>ob (zf C.P fs.toList) λpl=>ob (fB C (λi=>pl[i]?) ps.toList) λl=>some (.p (.build z.cells l))
   | some (.array _ e)=>ob (cd C.P e) λn=>ob (fB C (λi=>some (i*n,n)) ps.toList) λl=>some (.p (.build z.cells l))
   | _=>none
 | .nilCheck x=>ob (aw C x) λx=>some (.p (.nilCheck x))
 | .binOp op t x y _=>ob (aw C x) λa=>ob (aw C y) λb=>some (.p (.bin op (JG C.P t x y) a b))
 | .unOp op _ x=>ob (aw C x) λx=>some (.p (.un op x))
 | .convert s d x=>ob (aw C x) (ib C s d)
 | .makeInterface t x=>match C.P.underlying t with
   | some (.interface _)=>none
   | some _=>ob (aw C x) λx=>some (.p (.Dq t x))
   | none=>none
 | .makeFunc (.func f) a b=>ob (cD C a.toList) λa=>ob (cD C b.toList) λb=>some (.p (.Jz f a b))
 | .slice t x lo hi mx=>ob (aw C x) λx=>ob (gJ C lo) λlo=>ob (gJ C hi) λhi=>ob (gJ C mx) λmx=>match C.P.underlying t with
   | some .string=>match mx with
     | none=>some (.p (.xy x lo hi))
     | some _=>none
   | some (.slice e)=>ob (cd C.P e) λn=>bN (mx.isNone||hi.isSome) (some (.p (.slice n x lo hi mx)))
   | some (.array n e)=>ob (cd C.P e) λsize=>bN (mx.isNone||hi.isSome) (some (.p (.xA n size x lo hi mx)))
   | _=>none
 | .fieldAddr t x f=>match C.P.underlying t with
   | some (.struct fs)=>ob fs[f]? λfd=>ob (cd C.P fd.type) λn=>bN (Nat.blt 0 n) (ob (aw C x) λx=>some (.p (.fieldAddr fd.offset x)))
   | _=>none
 | .field t x f=>match C.P.underlying t with
   | some (.struct fs)=>ob fs[f]? λfd=>ob (NJ C.P fd.type) λrd=>ob (aw C x) λx=>some (.p (.field rd fd.offset x))
   | _=>none
 | .indexAddr t x i=>ob (aw C x) λx=>ob (aw C i) λi=>match C.P.underlying t with
   | some (.slice e)=>ob (cd C.P e) λn=>some (.p (.indexAddr n x i))
   | some (.array n e)=>ob (cd C.P e) λsize=>some (.p (.kq n size x i))
   | _=>none
 | .index t x i=>ob (aw C x) λx=>ob (aw C i) λi=>match C.P.underlying t with
   | some .string=>some (.p (.xB x i))
   | some (.array n e)=>ob (cd C.P e) λsize=>ob (NJ C.P e) λrd=>some (.p (.Dr rd n size x i))
   | _=>none
 | .typeAssert x _ t ok=>ob (aw C x) λx=>ob (fg C.P t) λz=>match C.P.underlying t with
   | some (.interface want)=>some (.p (.ux want z ok x))
   | some _=>some (.p (.Ds t z ok x))
   | none=>none
 | .extract x i=>ob (aw C x) λx=>some (.p (.extract i x))
 | .load t x=>ob (NJ C.P t) λrd=>ob (aw C x) λx=>some (.r (.load rd x))
 | .lookup t m k ok=>ob (aw C m) λm=>ob (aw C k) λk=>match C.P.underlying t with
   | some (.map kt et)=>ob (fg C.P et) λz=>some (.r (.lookup (Fw C.P kt) z ok m k))
   | _=>none
 | .alloc t=>ob (fg C.P t) λz=>some (.e (.alloc t z.cells))
 | .box t x=>ob (aw C x) λx=>some (.e (.box t x))
 | .entry x=>ob (aw C x) λx=>some (.r (.entry x))
 | .buildSlice t n ps=>match C.P.underlying t with
   | some (.slice e)=>ob (cd C.P e) λsize=>ob (fg C.P e) λz=>bN (Nat.ble (n*size) 65536&&Nat.beq z.cells.length size&&Nat.blt 0 size) (ob (eF C ps.toList) λl=>some (.e (match eW size l (aG z.cells n) with
     | some cs=>.cI e cs n
     | none=>.buildSlice e size n (aG z.cells n) l)))
   | _=>none
 | .store t a x=>ob (cd C.P t) λn=>ob (aw C a) λa=>ob (aw C x) λx=>some (.e (.store n a x))
 | .makeMap _ none=>some (.e .makeMap)
 | .makeSlice t n c=>match C.P.underlying t with
   | some (.slice e)=>ob (cd C.P e) λsize=>ob (xF C.P e) λbytes=>ob (fg C.P e) λz=>ob (aw C n) λn=>ob (aw C c) λc=>some (.e (.makeSlice e size bytes z.cells n c))
   | _=>none
 | .mapUpdate t m k x | .insert t m k x=>match C.P.underlying t with
   | some (.map kt _)=>ob (aw C m) λm=>ob (aw C k) λk=>ob (aw C x) λx=>some (.e (.mapUpdate (Fw C.P kt) m k x))
   | _=>none
 | .mapEntry t m k=>match C.P.underlying t with
   | some (.map kt et)=>ob (fg C.P et) λz=>ob (aw C m) λm=>ob (aw C k) λk=>some (.e (.mapEntry (Fw C.P kt) z m k))
   | _=>none
 | .entryStore _ m s x=>ob (aw C m) λm=>ob (aw C s) λs=>ob (aw C x) λx=>some (.e (.entryStore m s x))
 | .range t x=>ob (aw C x) λx=>match C.P.underlying t with
   | some .string=>some (.e (.Dt x))
   | some (.map _ _)=>some (.e (.rangeMap x))
   | _=>none
 | .next x false=>ob (aw C x) λx=>some (.e (.next x))
 | .call c=>match c.callee with
   | .builtin b=>ob (cD C c.args.toList) (ia C b c.argTypes.toList)
   | _=>ob (nk C c) λd=>some (.c d)
 | .defer c=>match c.callee with
   | .value _=>ob (nk C c) λd=>some (.defer d)
   | _=>none
 | _=>none
def zg (C:CE):Option Tmp->Option (Option Lb)
 | none=>some none
 | some t=>bN (Nat.blt t C.n) (some (some (pathOf t)))
def my (C:CE)(ops:Array Oper):Option (Nat×Bool)->Option (Option (Lb×Bool))
 | none=>some none
 | some (j,w)=>ob (ops.toList[j]?) λo=>ob o.dst λd=>bN (Nat.blt d C.n) (some (some (pathOf d,w)))
def gK (C:CE)(ops:Array Oper)(o:Oper):Option DO:=
 ob (zg C o.dst) λd=>ob (my C ops o.guard) λg=>some {dst:=d,op:=(aj C o.op).getD .stuck,guard:=g}
def fZ (C:CE)(ops:Array Oper):List Oper->Option (List DO)
 | []=>some []
 | o::r=>ob (gK C ops o) λd=>ob (fZ C ops r) λds=>some (d::ds)
def mR (acc:List Nat):List Edge->Nat
 | []=>0
 | e::r=>Nat.lor (match Region.binds .any e with
   | true=>Nat.lor (Nat.shiftLeft 1 e.on) ((acc[e.on]?).getD 0)
   | false=>0) (mR acc r)
def bh:List Oper->List Nat->List Nat
 | [],acc=>acc
 | o::r,acc=>bh r (acc++[mR acc o.after.toList])
def ku:List DO->Nat->List Nat
 | [],_=>[]
 | d::r,i=>match bQ d with
   | true=>i::ku r (i+1)
   | false=>ku r (i+1)
def jC (ah:List Nat):List Nat->Bool
 | i::j::r=>((ah[j]?).getD 0).testBit i&&jC ah (j::r)
 | _=>true
def nZ (f:Nat->Bool):List Nat->Nat
 | []=>0
 | i::r=>match f i with
   | true=>nZ f r+1
   | false=>nZ f r
def Iy (ops:Array Oper)(ah:List Nat):Bool:=
 (List.range ops.size).all λj=>(List.range j).all λi=>((ah[j]?).getD 0).testBit i||(match ops.toList[i]?,ops.toList[j]? with
  | some x,some y=>Oper.apart ops x y
  | _,_=>false)
def dk (ops:Array Oper):Bool:=
 (List.range ops.size).all λj=>match ops.toList[j]? with
  | some o=>o.after.toList.all λe=>!Region.binds .any e||Nat.blt e.on j
  | none=>false
def XA:List DO->Bool
 | []=>true
 | d::r=>(match d.op with | .defer _=>false | _=>true)&&XA r
def oa (ah effs:List Nat):List DO->Nat->List (DO×Nat×Nat)
 | [],_=>[]
 | d::r,i=>(d,nZ (λe=>((ah[i]?).getD 0).testBit e) effs,nZ (λe=>!((ah[e]?).getD 0).testBit i) effs)::oa ah effs r (i+1)
def bu:List DO->Nat->Bool->List DO×List (Lb×TypeId×List V×Own)
 | [],_,_=>([],[])
 | ⟨d,.e (.cI t cs n),g⟩::r,k,q=>(⟨d,.r (.freshS t cs n (.t (pathOf k))),g⟩::(bu r (k+1) q).1,(pathOf k,t,cs,.yes)::(bu r (k+1) q).2)
 | ⟨d,.e (.alloc t cs),g⟩::r,k,q=>(⟨d,.r (.fresh t cs (.t (pathOf k))),g⟩::(bu r (k+1) q).1,(pathOf k,t,cs,.yes)::(bu r (k+1) q).2)
 | ⟨d,.e (.cY e x),g⟩::r,k,true=>(⟨d,.r (.freshB e x (.t (pathOf k))),g⟩::(bu r (k+1) false).1,(pathOf k,e,[],.marked)::(bu r (k+1) false).2)
 | d::r,k,q=>(d::(bu r k (q && !bQ d)).1,(bu r k (q && !bQ d)).2)
def jf (C:CE)(ops:Array Oper)(l:List DO):DC:=
 let ah:=bh ops.toList []
 let effs:=ku (bu l C.n true).1 0
 match jC ah effs&&Iy ops ah&&dk ops&&XA l&&Nat.ble ops.size 65536 with
 | true=>.draw (bu l C.n true).2 (oa ah effs (bu l C.n true).1 0)
 | false=>.stuck
def dy (C:CE):Code->DC
 | .skip=>.skip
 | .label _=>.skip
 | .region _ ops draw=>match fZ C ops ops.toList with
   | some l=>match draw with
     | true=>jf C ops l
     | false=>.ops l
   | none=>.stuck
 | .seq a b=>.seq (dy C a) (dy C b)
 | .cond c a b=>match aw C c with
   | some x=>.cond x (dy C a) (dy C b)
   | none=>.stuck
 | .block id b=>.block id (dy C b)
 | .loop b=>.loop (dy C b)
 | .exit id=>.exit id
 | .ret=>.ret
 | _=>.stuck
def Iz (C:CE):ResultVar->Option YU
 | .tmp t=>bN (Nat.blt t C.n) (some (.tmp (pathOf t)))
 | .cell a t=>bN (Nat.blt a C.n) (ob (NJ C.P t) λrd=>some (.cell (pathOf a) rd))
def qf (C:CE):List ResultVar->Option (List YU)
 | []=>some []
 | r::rs=>ob (Iz C r) λd=>ob (qf C rs) λds=>some (d::ds)
def qg (P:Program)(G:Nat)(f:Func):Option bC:=
 let C:CE:={P:=P,G:=G,n:=f.ntmps}
 bN (Nat.ble f.ntmps 65536&&Nat.ble G 65536 && !(f.name == "runtime.NumGoroutine")) (ob f.body λc=>ob (qf C f.results.toList) λrs=>some {ntmps:=f.ntmps,code:=dy C c,results:=rs})
def oc (P:Program)(t:TypeId):PK:=match P.info? t with
 | some i=>match i.comparable with
   | true=>match P.underlying t with
     | some (.int _)=>.int
     | some .string=>.str
     | some .bool=>.bool
     | _=>.no
   | false=>.no
 | none=>.no
def am2 (P:Program)(want:Array (String×TypeId))(t:TypeId):Option Bool:=
 ob (P.info? t) λi=>some (want.toList.all λw=>i.methods.toList.any λm=>m.sig==w.2&&m.name==w.1)
def XB (P:Program)(t:TypeId)(name:String):Option FuncId:=
 ob (P.info? t) λi=>ob (i.methods.toList.find? λm=>m.name==name) λm=>bN m.path.isEmpty (match m.func,P.underlying t with
  | some (f,true),some (.pointer _)=>some f
  | some (_,false),some (.pointer _)=>none
  | some (f,false),some _=>some f
  | _,_=>none)
def dz (P:Program):Env:={plain:=oc P,has:=am2 P,am0:=XB P}
end Go.Dx
namespace Go.Dx
open Go Go.RowKit
def val:Lb->Nat
 | []=>0
 | true::r=>1+2*val r
 | false::r=>2*val r
theorem iG:∀l,val (inc l)=val l+1
 | []=>rfl
 | false::r=>by simp [inc,val];omega
 | true::r=>by simp [inc,val,iG r];omega
theorem JH:∀(f n:Nat),n<2 ^ f->val (km f n)=n
 | 0,n,h=>by simp at h;subst h;rfl
 | f+1,n,h=>by
   unfold km
   by_cases h0:n=0
   ·subst h0;rfl
   ·have hb:(n==0)=false:=by simpa using h0
    have ih:=JH f (n / 2) (by rw [Nat.pow_succ] at h;omega);rw [hb];rcases Nat.mod_two_eq_zero_or_one n with h2 | h2
    ·simp [h2,val,ih];omega
    ·simp [h2,val,ih];omega
theorem JI {n:Nat}(h:n<2 ^ 64):val (pathOf n)=n:=JH 64 n h
theorem eX {m n:Nat}(hm:m<2 ^ 64)(hn:n<2 ^ 64)(h:pathOf m=pathOf n):m=n:=by
 rw [<-JI hm,h,JI hn]
theorem jg:∀{a b:Lb},na a b=true->a=b
 | [],[],_=>rfl
 | true::a,true::b,h=>by rw [jg (a:=a) (b:=b) (by simpa [na] using h)]
 | false::a,false::b,h=>by rw [jg (a:=a) (b:=b) (by simpa [na] using h)]
 | [],_::_,h=>by simp [na] at h
 | _::_,[],h=>by cases ‹Bool›<;>simp [na] at h
 | true::_,false::_,h=>by simp [na] at h
 | false::_,true::_,h=>by simp [na] at h
theorem T.kz {α:Type}(p:Lb):(T.leaf:T α).get p=none:=by cases p<;>rfl
theorem T.bg {α:Type}:∀(p:Lb) (t:T α) (x:Option α),(t.set p x).get p=x
 | [],.leaf,_x=>rfl
 | [],.node _l _v _r,_x=>rfl
 | true::p,.leaf,x=>T.bg p .leaf x
 | false::p,.leaf,x=>T.bg p .leaf x
 | true::p,.node _l _v r,x=>T.bg p r x
 | false::p,.node l _v _r,x=>T.bg p l x
theorem T.br {α:Type}:∀(p q:Lb) (t:T α) (x:Option α),p≠q->(t.set p x).get q=t.get q
 | [],[],_,_,h=>absurd rfl h
 | [],true::q,.leaf,x,_=>by simp [T.set,T.get]
 | [],false::q,.leaf,x,_=>by simp [T.set,T.get]
 | [],true::q,.node l v r,x,_=>rfl
 | [],false::q,.node l v r,x,_=>rfl
 | true::p,[],.leaf,x,_=>rfl
 | false::p,[],.leaf,x,_=>rfl
 | true::p,[],.node l v r,x,_=>rfl
 | false::p,[],.node l v r,x,_=>rfl
 | true::p,true::q,.leaf,x,h=>by
   show (T.set .leaf p x).get q=_
   rw [T.br p q .leaf x (λe=>h (by rw [e])),T.kz];rfl
 | false::p,false::q,.leaf,x,h=>by
   show (T.set .leaf p x).get q=_
   rw [T.br p q .leaf x (λe=>h (by rw [e])),T.kz];rfl
 | true::p,false::q,.leaf,x,_=>by simp [T.set,T.get]
 | false::p,true::q,.leaf,x,_=>by simp [T.set,T.get]
 | true::p,true::q,.node l v r,x,h=>T.br p q r x (λe=>h (by rw [e]))
 | false::p,false::q,.node l v r,x,h=>T.br p q l x (λe=>h (by rw [e]))
 | true::p,false::q,.node l v r,x,_=>rfl
 | false::p,true::q,.node l v r,x,_=>rfl
theorem T.set_set {α:Type}:∀(p:Lb) (t:T α) (x y:Option α),(t.set p x).set p y=t.set p y
 | [],.leaf,x,y=>rfl
 | [],.node l v r,x,y=>rfl
 | true::p,.leaf,x,y=>by show T.node _ _ _=T.node _ _ _;rw [T.set_set p .leaf x y]
 | false::p,.leaf,x,y=>by show T.node _ _ _=T.node _ _ _;rw [T.set_set p .leaf x y]
 | true::p,.node l v r,x,y=>by show T.node _ _ _=T.node _ _ _;rw [T.set_set p r x y]
 | false::p,.node l v r,x,y=>by show T.node _ _ _=T.node _ _ _;rw [T.set_set p l x y]
theorem ad {α β:Type}{x:Option α}{f:α->Option β} {r:β}:ob x f=some r<->∃v,x=some v/\f v=some r:=by
 cases x<;>simp [ob]
theorem ag {β:Type}{b:Bool}{k:Option β}{r:β}:bN b k=some r<->b=true/\k=some r:=by
 cases b<;>simp [bN]
structure dZ where
 block:Nat
 base:Nat
 total:Nat
 val:Value
abbrev bE:=Lb->Option dZ
def jI (ρ ρ':bE):Prop:=∀l b,ρ l=some b->ρ' l=some b
theorem jI.refl (ρ:bE):jI ρ ρ:=λ_ _ h=>h
def ax (t:ByteArray):List Nat:=t.data.toList.map (·.toNat)
def NK:Value->Bool
 | .bool _=>false
 | .nilFunc=>false
 | v=>v.oneCell'
theorem zh {x:Value}(h:NK x=true):x.oneCell'=true:=by
 cases x<;>first | rfl | simp [NK,Value.oneCell'] at h
mutual
inductive RV (ρ:bE):V->Value->Prop
 | bool (b:Bool):RV ρ (.bool b) (.bool b)
 | int (k:IntKind) (n:Int):RV ρ (.int k n) (.int k n)
 | str (t:ByteArray):RV ρ (.str (ax t)) (.string t)
 | nilPtr:RV ρ .nilPtr (.pointer none)
 | ptr {l:Lb} {b:dZ} (off:Nat) (h:ρ l=some b):RV ρ (.ptr l off) (.pointer (some ⟨b.block,b.base+off,none⟩))
 | nilSlice (c:Nat):RV ρ (.nilSlice c) (.slice none 0 c)
 | slice {l:Lb} {b:dZ} (off len c:Nat) (h:ρ l=some b):RV ρ (.slice l off len (.exact c)) (.slice (some ⟨b.block,b.base+off,none⟩) len c)
 | sliceEnd {l:Lb} {b:dZ} (off len size c:Nat) (h:ρ l=some b) (hl:len<=c) (hc:b.base+off+c*size=b.total):
   RV ρ (.slice l off len (.toEnd size)) (.slice (some ⟨b.block,b.base+off,none⟩) len c)
 | aP:RV ρ .aP (.map none)
 | map {l:Lb} {b:dZ} (h:ρ l=some b):RV ρ (.map l) (.map (some b.block))
 | func (f:FuncId) {a b:List V} {a' b':List Value} (ha:cU ρ a a') (hb:cU ρ b b'):RV ρ (.func f a b) (.func (.func f) ⟨a'⟩ ⟨b'⟩)
 | nilFunc:RV ρ .nilFunc .nilFunc
 | iface (t:TypeId) {v:V} {x:Value} (h:RV ρ v x):RV ρ (.iface t v) (.iface t x)
 | nilIface:RV ρ .nilIface .nilIface
 | agg {cs:List V} {xs:List Value} (h:cU ρ cs xs):RV ρ (.agg cs) (.agg ⟨xs⟩)
 | tuple {cs:List V} {xs:List Value} (h:cU ρ cs xs):RV ρ (.tuple cs) (.tuple ⟨xs⟩)
 | sym {l:Lb} {b:dZ} {n:Nat} (h:ρ l=some b) (ht:b.total=n) (hv:NK b.val=true):RV ρ (.sym l n) b.val
 | any {x:Value} (h:NK x=true):RV ρ .any x
 | empty (a:Addr) (c:Nat):RV ρ .empty (.slice (some a) 0 c)
 | lG {lo hi m:Int} (h1:lo<=m) (h2:m<=hi):RV ρ (.lG lo hi) (.int .i64 m)
inductive cU (ρ:bE):List V->List Value->Prop
 | nil:cU ρ [] []
 | cons {v:V} {x:Value} {vs:List V} {xs:List Value} (h:RV ρ v x) (hs:cU ρ vs xs):cU ρ (v::vs) (x::xs)
end
mutual
theorem RV.mono {ρ ρ':bE}(e:jI ρ ρ'):∀{v:V} {x:Value},RV ρ v x->RV ρ' v x
 | _,_,.bool b=>.bool b
 | _,_,.int k n=>.int k n
 | _,_,.str t=>.str t
 | _,_,.nilPtr=>.nilPtr
 | _,_,.ptr off h=>.ptr off (e _ _ h)
 | _,_,.nilSlice c=>.nilSlice c
 | _,_,.slice off len c h=>.slice off len c (e _ _ h)
 | _,_,.sliceEnd off len size c h hl hc=>.sliceEnd off len size c (e _ _ h) hl hc
 | _,_,.aP=>.aP
 | _,_,.map h=>.map (e _ _ h)
 | _,_,.func f ha hb=>.func f (cU.mono e ha) (cU.mono e hb)
 | _,_,.nilFunc=>.nilFunc
 | _,_,.iface t h=>.iface t (RV.mono e h)
 | _,_,.nilIface=>.nilIface
 | _,_,.agg h=>.agg (cU.mono e h)
 | _,_,.tuple h=>.tuple (cU.mono e h)
 | _,_,.sym h ht hv=>.sym (e _ _ h) ht hv
 | _,_,.any h=>.any h
 | _,_,.empty a c=>.empty a c
 | _,_,.lG h1 h2=>.lG h1 h2
theorem cU.mono {ρ ρ':bE}(e:jI ρ ρ'):∀{v:List V} {x:List Value},cU ρ v x->cU ρ' v x
 | _,_,.nil=>.nil
 | _,_,.cons h hs=>.cons (RV.mono e h) (cU.mono e hs)
end
def od:V->Bool
 | .sym ..=>false
 | .any=>false
 | .lG ..=>false
 | _=>true
theorem abW {ρ:bE}{v:V}{k:IntKind}{a:Int}(h:RV ρ v (.int k a))(hp:od v=true):v = .int k a:=by
 generalize he:Value.int k a=x at h;cases h<;>first | (cases he;rfl) | (cases he;done) | simp [od] at hp
theorem NL {ρ:bE}{v:V}{s:ByteArray}(h:RV ρ v (.string s))(hp:od v=true):v = .str (ax s):=by
 generalize he:Value.string s=x at h;cases h<;>first | (cases he;rfl) | (cases he;done) | simp [od] at hp
theorem abX {ρ:bE}{v:V}{k:FloatKind}{a:Nat}(h:RV ρ v (.float k a))(hp:od v=true):False:=by
 generalize he:Value.float k a=x at h;cases h<;>first | (cases he;done) | simp [od] at hp
theorem UZ {ρ:bE}{v:V}{k:FloatKind}{a b:Nat}(h:RV ρ v (.complex k a b))(hp:od v=true):False:=by
 generalize he:Value.complex k a b=x at h;cases h<;>first | (cases he;done) | simp [od] at hp
section lists
variable {ρ:bE}
theorem cU.length {vs:List V}{xs:List Value}(h:cU ρ vs xs):vs.length=xs.length:=by
 induction vs generalizing xs with
 | nil=>cases h;rfl
 | cons v vs ih=>cases h with | cons h hs=>simp [ih hs]
theorem cU.get {vs:List V}{xs:List Value}(h:cU ρ vs xs):∀{i:Nat} {v:V},vs[i]? =some v->∃x,xs[i]? =some x/\RV ρ v x:=by
 induction vs generalizing xs with
 | nil=>intro i v hv;simp at hv
 | cons v vs ih=>
   cases h with
   | cons h hs=>
     intro i w hw;cases i with
     | zero=>simp at hw;subst hw;exact ⟨_,by simp,h⟩
     | succ i=>simp at hw;simpa using ih hs hw
theorem cU.append {a b:List V}{x y:List Value}(h:cU ρ a x)(k:cU ρ b y):cU ρ (a++b) (x++y):=by
 induction a generalizing x with
 | nil=>cases h;exact k
 | cons v vs ih=>cases h with | cons h hs=>exact .cons h (ih hs)
theorem cU.bB {vs:List V}{xs:List Value}(h:cU ρ vs xs):∀n,cU ρ (bB n vs) (xs.drop n):=by
 intro n;induction n generalizing vs xs with
 | zero=>simpa [Dx.bB] using h
 | succ n ih=>cases h with
   | nil=>simpa [Dx.bB] using cU.nil
   | cons h hs=>simpa [Dx.bB] using ih hs
theorem cU.takeN {vs:List V}{xs:List Value}(h:cU ρ vs xs):∀{n:Nat} {r:List V},takeN n vs=some r->cU ρ r (xs.take n)/\n<=xs.length:=by
 intro n;induction n generalizing vs xs with
 | zero=>intro r hr;simp [Dx.takeN] at hr;subst hr;exact ⟨by simpa using cU.nil,Nat.zero_le _⟩
 | succ n ih=>cases h with
   | nil=>intro r hr;simp [Dx.takeN] at hr
   | cons h hs=>
     intro r hr;simp only [Dx.takeN,ad] at hr;obtain ⟨q,hq,hr⟩:=hr;cases hr;obtain ⟨h1,h2⟩:=ih hs hq;exact ⟨by simpa using cU.cons h h1,by simpa using h2⟩
theorem cU.rowFrom {vs:List V}{xs:List Value}(h:cU ρ vs xs){i n:Nat}{r:List V}(hr:rowFrom vs i n=some r):
  cU ρ r ((xs.drop i).take n)/\n<=xs.length - i:=by
 obtain ⟨h1,h2⟩:=(h.bB i).takeN hr;exact ⟨h1,by simpa using h2⟩
end lists
theorem ga:∀(n:Nat) (vs:List V),(bB n vs).length=vs.length - n
 | 0,vs=>by simp [bB]
 | n+1,[]=>by simp [bB]
 | n+1,v::vs=>by simp [bB,ga n vs]
theorem ph:∀{n:Nat} {vs r:List V},takeN n vs=some r->r.length=n
 | 0,vs,r,h=>by simp [takeN] at h;subst h;rfl
 | n+1,[],r,h=>by simp [takeN] at h
 | n+1,v::vs,r,h=>by
   simp only [takeN,ad] at h;obtain ⟨q,hq,h⟩:=h;cases h;simp [ph hq]
theorem pL:∀(n i:Nat) (vs:List V),(bB n vs)[i]? =vs[n+i]?
 | 0,i,vs=>by simp [bB]
 | n+1,i,[]=>by simp [bB]
 | n+1,i,v::vs=>by
   simp only [bB,pL n i vs];rw [show n+1+i=(n+i)+1 from by omega];simp
theorem pM:∀vs:List V,takeN vs.length vs=some vs
 | []=>rfl
 | v::vs=>by simp only [List.length_cons,takeN,pM vs,ob]
theorem NM:∀{n:Nat} {vs r:List V},takeN n vs=some r->∀i,i<n->r[i]? =vs[i]?
 | 0,vs,r,h,i,hi=>by omega
 | n+1,[],r,h,i,hi=>by simp [takeN] at h
 | n+1,v::vs,r,h,i,hi=>by
   simp only [takeN,ad] at h;obtain ⟨q,hq,h⟩:=h;cases h;cases i with
   | zero=>rfl
   | succ i=>simpa using NM hq i (by omega)
theorem JJ:∀{n:Nat} {vs r:List V},takeN n vs=some r->n<=vs.length
 | 0,vs,r,h=>Nat.zero_le _
 | n+1,[],r,h=>by simp [takeN] at h
 | n+1,v::vs,r,h=>by
   simp only [takeN,ad] at h;obtain ⟨q,hq,h⟩:=h;simpa using JJ hq
theorem rG {vs r:List V}{i n:Nat}(h:rowFrom vs i n=some r):r.length=n/\(i+n<=vs.length\/n=0)/\∀j,j<n->r[j]? =vs[i+j]?:=by
 refine ⟨ph h,?_,λj hj=>by rw [NM h j hj,pL]⟩;have:=JJ h;rw [ga] at this;omega
theorem kA:∀{vs cs r:List V} {i:Nat},aX vs i cs=some r->r.length=vs.length
 | vs,[],r,0,h=>by simp [aX] at h;subst h;rfl
 | [],c::cs,r,0,h=>by simp [aX] at h
 | v::vs,c::cs,r,0,h=>by
   simp only [aX,ad] at h;obtain ⟨q,hq,h⟩:=h;cases h;simp [kA hq]
 | [],cs,r,i+1,h=>by simp [aX] at h
 | v::vs,cs,r,i+1,h=>by
   simp only [aX,ad] at h;obtain ⟨q,hq,h⟩:=h;cases h;simp [kA hq]
theorem jJ:∀{vs cs r:List V} {i:Nat},aX vs i cs=some r->i+cs.length<=vs.length
 | vs,[],r,0,h=>by simp
 | [],c::cs,r,0,h=>by simp [aX] at h
 | v::vs,c::cs,r,0,h=>by
   simp only [aX,ad] at h;obtain ⟨q,hq,h⟩:=h;have:=jJ hq;simp at this ⊢;omega
 | [],cs,r,i+1,h=>by simp [aX] at h
 | v::vs,cs,r,i+1,h=>by
   simp only [aX,ad] at h;obtain ⟨q,hq,h⟩:=h;have:=jJ hq;simp at this ⊢;omega
theorem rH:∀{vs cs r:List V} {i:Nat},aX vs i cs=some r->∀j,r[j]? =if i<=j/\j<i+cs.length then cs[j - i]? else vs[j]?
 | vs,[],r,0,h,j=>by simp [aX] at h;subst h;simp
 | [],c::cs,r,0,h,j=>by simp [aX] at h
 | v::vs,c::cs,r,0,h,j=>by
   simp only [aX,ad] at h;obtain ⟨q,hq,h⟩:=h;cases h;cases j with
   | zero=>simp
   | succ j=>simpa using rH hq j
 | [],cs,r,i+1,h,j=>by simp [aX] at h
 | v::vs,cs,r,i+1,h,j=>by
   simp only [aX,ad] at h;obtain ⟨q,hq,h⟩:=h;cases h;cases j with
   | zero=>simp
   | succ j=>
     have:=rH hq j;simp only [List.getElem?_cons_succ,this];have e:(i+1<=j+1/\j+1<i+1+cs.length)<->(i<=j/\j<i+cs.length):=by omega
     simp only [e,Nat.add_sub_add_right]
end Go.Dx
namespace Go.Dx
open Go Go.RowKit
inductive pj (ρ:bE):List (V×V×Nat)->List MapEntry->Prop
 | nil:pj ρ [] []
 | cons {k v:V} {n:Nat} {m:MapEntry} {es:List (V×V×Nat)} {ms:List MapEntry} (hk:RV ρ k m.key) (hv:RV ρ v m.val) (hn:m.born=n) (hs:pj ρ es ms):
   pj ρ ((k,v,n)::es) (m::ms)
theorem pj.mono {ρ ρ':bE}(e:jI ρ ρ'){es:List (V×V×Nat)}{ms:List MapEntry}(h:pj ρ es ms):pj ρ' es ms:=by
 induction h with
 | nil=>exact .nil
 | cons hk hv hn _ ih=>exact .cons (hk.mono e) (hv.mono e) hn ih
theorem pj.length {ρ:bE}{es:List (V×V×Nat)}{ms:List MapEntry}(h:pj ρ es ms):es.length=ms.length:=by
 induction h with
 | nil=>rfl
 | cons _ _ _ _ ih=>simp [ih]
def cZ (b:dZ)(i:Nat):Addr:=⟨b.block,b.base+i,none⟩
structure dO (ρ:bE)(b:dZ)(vs:List V)(e:TypeId)(fz:Nat)(own:Own)(w:World):Prop where
 shape:w.shape? b.block=some (e,b.total)
 fits:b.base+vs.length<=b.total
 cell:∀i v,vs[i]? =some v->∃x,w.cell? (cZ b i)=some x/\RV ρ v x
 free:own.may=true->∀i,b.base+fz<=i->i<b.total->w.frozen? ⟨b.block,i,none⟩=false
 bare:own = .yes->∃c lo hi,w.heap[b.block]? =some (.cells c e (lo,hi))/\hi<=b.base+fz/\lo<=hi
def sf (ρ:bE)(b:dZ)(w:World):Obj->Prop
 | .cells vs e fz own=>dO ρ b vs e fz own w
 | .map es clock=>∃ms:Array MapEntry,w.heap[b.block]? =some (.map ms clock)/\pj ρ es ms.toList
 | .uw s pos=>∃t:ByteArray,w.heap[b.block]? =some (.stringIter t pos)/\s=ax t/\b.base=0
 | .mapIter m since seen st=>b.base=0/\∃m':Option Nat,w.heap[b.block]? =some (.mapIter m' since ⟨seen⟩ st)/\(match m with
   | none=>m'=none
   | some l=>∃c,ρ l=some c/\m'=some c.block)
def Obj.writes:Obj->Bool
 | .cells _ _ _ own=>own.may
 | _=>true
def am3 (c:Nat):Bool:=c==46||c==45||c==95||(decide (48<=c)&&decide (c<=57))||(decide (97<=c)&&decide (c<=122))||(decide (65<=c)&&decide (c<=90))
def ahy (s:ByteArray):Bool:=(s.data.toList.all λc=>am3 c.toNat)&&decide (0<s.size)&&decide (s.size<=24)
structure abY (B:Nat)(w0:World)(b:dZ):Prop where
 slice:3<b.total->∀a n c,b.val = .slice (some a) n c->a.block<B/\a.spot=none/\n*80<=140737488355328/\∀j,j<n*b.total->(w0.cell? ⟨a.block,a.off+j,none⟩).isSome=true
 row:b.val≠.nilFunc->3<b.total->b.val = .slice none 0 0\/∃a n c,b.val = .slice (some a) n c
 good:b.val≠.nilFunc->b.total=3->∃s,b.val = .string s/\(s.size:Int)<=9223372036854775807/\ahy s=true
 bad:b.val≠.nilFunc->b.total=2->∃s,b.val = .string s/\(s.size:Int)<=9223372036854775807/\ahy s=false
theorem abY.nil {B:Nat}{w0:World}{b:dZ}(h:b.val = .nilFunc):abY B w0 b:=
 ⟨(λ_ _ _ _ e=>by rw [h] at e;cases e),λe=>absurd h e,λe=>absurd h e,λe=>absurd h e⟩
structure aA (B:Nat)(w0:World)(ρ:bE)(h:H)(w:World):Prop where
 obj:∀l b o,ρ l=some b->h.get l=some o->sf ρ b w o
 lt:∀l b,ρ l=some b->val l<val h.next
 base:∀l b,ρ l=some b->b.base=0/\abY B w0 b
 inj:∀l m b c,ρ l=some b->ρ m=some c->(h.get l).isSome=true->(h.get m).isSome=true->b.block=c.block->l=m
 own:∀l b o,ρ l=some b->h.get l=some o->o.writes=true->B<=b.block
 size:B<=w.heap.size
 below:Below B w0 w
theorem abZ {w:World}{b:Nat}{s:TypeId×Nat}(h:w.shape? b=some s):b<w.heap.size:=by
 rcases Nat.lt_or_ge b w.heap.size with h' | h'
 ·exact h'
 ·simp [World.shape?,Array.getElem?_eq_none h'] at h
theorem mS {w:World}{b:Nat}{o:Go.Obj}(h:w.heap[b]? =some o):b<w.heap.size:=(Array.getElem?_eq_some_iff.1 h).1
theorem sf.lt {ρ:bE}{b:dZ}{w:World}{o:Obj}(h:sf ρ b w o):b.block<w.heap.size:=by
 cases o with
 | cells vs e fz own=>exact abZ h.shape
 | map es c=>obtain ⟨ms,h,_⟩:=h;exact mS h
 | uw s p=>obtain ⟨t,h,_⟩:=h;exact mS h
 | mapIter m a s t=>obtain ⟨_,m',h,_⟩:=h;exact mS h
theorem JK {w w':World}{b:Nat}(h:w'.heap[b]? =w.heap[b]?):
  w'.shape? b=w.shape? b/\(∀i,w'.cell? ⟨b,i,none⟩=w.cell? ⟨b,i,none⟩)/\(∀i,w'.frozen? ⟨b,i,none⟩=w.frozen? ⟨b,i,none⟩):=by
 refine ⟨?_,λi=>?_,λi=>?_⟩
 ·simp only [World.shape?,h]
 ·simp only [World.cell?,h]
 ·simp only [World.frozen?,h]
theorem sf.jh {ρ ρ':bE}(e:jI ρ ρ'){b:dZ}{w w':World}{o:Obj}(h:sf ρ b w o)(hb:w'.heap[b.block]? =w.heap[b.block]?):sf ρ' b w' o:=by
 obtain ⟨h1,h2,h3⟩:=JK hb;cases o with
 | cells vs el fz own=>
   refine ⟨by rw [h1];exact h.shape,h.fits,λi v hv=>?_,λho i hi hl=>by rw [h3];exact h.free ho i hi hl,λho=>by rw [hb];exact h.bare ho⟩;obtain ⟨x,hx,r⟩:=h.cell i v hv;exact ⟨x,by unfold cZ;rw [h2];exact hx,r.mono e⟩
 | map es c=>obtain ⟨ms,h,r⟩:=h;exact ⟨ms,by rw [hb];exact h,r.mono e⟩
 | uw s p=>obtain ⟨t,h,r⟩:=h;exact ⟨t,by rw [hb];exact h,r⟩
 | mapIter m a s t=>
   obtain ⟨h0,m',h,r⟩:=h;refine ⟨h0,m',by rw [hb];exact h,?_⟩;cases m with
   | none=>exact r
   | some l=>obtain ⟨c,hc,r⟩:=r;exact ⟨c,e _ _ hc,r⟩
section
variable {B:Nat} {w0:World} {ρ:bE} {h:H} {w:World}
theorem aA.same (R:aA B w0 ρ h w){w':World}(hh:w'.heap=w.heap)(hb:Below B w0 w'):aA B w0 ρ h w':=
 ⟨λl b o hl ho=>(R.obj l b o hl ho).jh (jI.refl _) (by rw [hh]),R.lt,R.base,R.inj,R.own,by rw [hh];exact R.size,hb⟩
theorem aA.drew (R:aA B w0 ρ h w):aA B w0 ρ h {w with drawn:=w.drawn+1}:=R.same rfl R.below.drew
def uc (ρ:bE)(l:Lb)(b:dZ):bE:=λm=>if m=l then some b else ρ m
theorem aS (ρ:bE)(l:Lb)(b:dZ):uc ρ l b l=some b:=by simp [uc]
theorem bW {ρ:bE}{l m:Lb}{b:dZ}(h:m≠l):uc ρ l b m=ρ m:=by simp [uc,h]
theorem eI {ρ:bE}{l:Lb}{b:dZ}(h:ρ l=none):jI ρ (uc ρ l b):=λm c hm=>by
 by_cases e:m=l
 ·subst e;rw [h] at hm;cases hm
 ·rw [bW e];exact hm
theorem aA.fresh (R:aA B w0 ρ h w):ρ h.next=none:=by
 cases hn:ρ h.next with
 | none=>rfl
 | some b=>exact absurd (R.lt _ _ hn) (Nat.lt_irrefl _)
theorem H.kB (h:H)(o:Obj):(h.add o).get h.next=some o:=T.bg _ _ _
theorem H.ed (h:H)(o:Obj){l:Lb}(hl:l≠h.next):(h.add o).get l=h.get l:=T.br _ _ _ _ (Ne.symm hl)
theorem H.bg (h:H)(l:Lb)(o:Obj):(h.set l o).get l=some o:=T.bg _ _ _
theorem H.br (h:H){l m:Lb}(o:Obj)(hm:m≠l):(h.set l o).get m=h.get m:=T.br _ _ _ _ (Ne.symm hm)
theorem H.Dy (h:H)(l:Lb):(h.del l).get l=none:=T.bg _ _ _
theorem H.JL (h:H){l m:Lb}(hm:m≠l):(h.del l).get m=h.get m:=T.br _ _ _ _ (Ne.symm hm)
theorem heap_alloc_old {w:World}(o:Go.Obj){k:Nat}(hk:k<w.heap.size):(w.alloc o).heap[k]? =w.heap[k]?:=Below.heap_alloc w o k hk
theorem heap_alloc_new {w:World}(o:Go.Obj):(w.alloc o).heap[w.heap.size]? =some o:=by show (w.heap.push o)[w.heap.size]? =_;simp
theorem aA.laid (R:aA B w0 ρ h w){h':H}{l:Lb}{o:Obj}{x:Go.Obj}{b:dZ}(hb:b.block=w.heap.size)(fC:b.base=0/\b.val = .nilFunc)(hl:ρ l=none)(bA:val l<val h'.next)(Mc:val h.next<=val h'.next)
  (dC:h'.get l=some o) (hold:∀m,m≠l->h'.get m=h.get m) (ho:sf (uc ρ l b) b (w.alloc x) o):
  aA B w0 (uc ρ l b) h' (w.alloc x):=by
 have E:=eI (b:=b) hl;refine ⟨λm c p hm hp=>?_,λm c hm=>?_,λm c hm=>?_,λm n c d hm hn im U0 e=>?_,λm c p hm hp hw=>?_,?_,R.below.alloc R.size _⟩
 ·by_cases e:m=l
  ·subst e
   rw [aS] at hm;cases hm;rw [dC] at hp;cases hp;exact ho
  ·rw [bW e] at hm
   rw [hold m e] at hp;have q:=R.obj m c p hm hp;exact q.jh E (heap_alloc_old _ q.lt)
 ·by_cases e:m=l
  ·subst e;exact bA
  ·rw [bW e] at hm;exact Nat.lt_of_lt_of_le (R.lt m c hm) Mc
 ·by_cases e:m=l
  ·subst e;rw [aS] at hm;cases hm;exact ⟨fC.1,.nil fC.2⟩
  ·rw [bW e] at hm;exact R.base m c hm
 ·by_cases e1:m=l
  ·by_cases e2:n=l
   ·rw [e1,e2]
   ·subst e1
    rw [aS] at hm;rw [bW e2] at hn;cases hm;rw [hold n e2] at U0;obtain ⟨p,hp⟩:=Option.isSome_iff_exists.1 U0;have:=(R.obj n d p hn hp).lt;omega
  ·by_cases e2:n=l
   ·subst e2
    rw [aS] at hn;rw [bW e1] at hm;cases hn;rw [hold m e1] at im;obtain ⟨p,hp⟩:=Option.isSome_iff_exists.1 im;have:=(R.obj m c p hm hp).lt;omega
   ·rw [bW e1] at hm
    rw [bW e2] at hn;rw [hold m e1] at im;rw [hold n e2] at U0;exact R.inj m n c d hm hn im U0 e
 ·by_cases e:m=l
  ·subst e
   rw [aS] at hm;cases hm;rw [hb];exact R.size
  ·rw [bW e] at hm
   rw [hold m e] at hp;exact R.own m c p hm hp hw
 ·show B<=(w.heap.push x).size
  simp;exact Nat.le_succ_of_le R.size
theorem aA.add (R:aA B w0 ρ h w){o:Obj}{x:Go.Obj}{b:dZ}(hb:b.block=w.heap.size)(fC:b.base=0/\b.val = .nilFunc)(ho:sf (uc ρ h.next b) b (w.alloc x) o):
  aA B w0 (uc ρ h.next b) (h.add o) (w.alloc x):=
 R.laid hb fC R.fresh (by show val h.next<val (inc h.next);rw [iG];omega) (by show val h.next<=val (inc h.next);rw [iG];omega) (h.kB o) (λm e=>h.ed o e) ho
theorem aA.change (R:aA B w0 ρ h w){l:Lb}{b:dZ}{o p:Obj}{w':World}(hl:ρ l=some b)(ho:h.get l=some o)(hw:o.writes=true)
  (ft:w'.heap.size=w.heap.size) (hold:∀k,k≠b.block->w'.heap[k]? =w.heap[k]?) (hos:w'.os=w.os) (am5:w'.tape=w.tape) (ar0:w'.output=w.output)
  (hp:sf ρ b w' p):aA B w0 ρ (h.set l p) w':=by
 have hB:=R.own l b o hl ho hw;have XC:(h.get l).isSome=true:=by rw [ho];rfl
 refine ⟨λm c q hm hq=>?_,R.lt,R.base,λm n c d hm hn im U0 e=>?_,λm c q hm hq cG=>?_,by rw [ft];exact R.size,?_⟩
 ·by_cases e:m=l
  ·subst e
   rw [H.bg] at hq;rw [hl] at hm;cases hm;cases hq;exact hp
  ·rw [H.br _ _ e] at hq
   refine (R.obj m c q hm hq).jh (jI.refl _) (hold _ λe'=>e (R.inj m l c b hm hl (by rw [hq];rfl) XC e'))
 ·have g:∀k,((h.set l p).get k).isSome=true->(h.get k).isSome=true:=λk hk=>by
   by_cases e':k=l
   ·rw [e'];exact XC
   ·rwa [H.br _ _ e'] at hk
  exact R.inj m n c d hm hn (g m im) (g n U0) e
 ·by_cases e:m=l
  ·subst e;rw [hl] at hm;cases hm;exact hB
  ·rw [H.br _ _ e] at hq
   exact R.own m c q hm hq cG
 ·exact R.below.trans ⟨hos,am5,ar0,by rw [ft];exact Nat.le_refl _,λk hk=>hold k (by omega)⟩
theorem aA.del (R:aA B w0 ρ h w)(l:Lb):aA B w0 ρ (h.del l) w:=by
 have g:∀k o,(h.del l).get k=some o->h.get k=some o:=λk o hk=>by
  by_cases e:k=l
  ·subst e;rw [H.Dy] at hk;cases hk
  ·rwa [H.JL _ e] at hk
 refine ⟨λm c q hm hq=>R.obj m c q hm (g m q hq),R.lt,R.base,λm n c d hm hn im U0 e=>?_,λm c q hm hq=>R.own m c q hm (g m q hq),R.size,R.below⟩;obtain ⟨p,hp⟩:=Option.isSome_iff_exists.1 im;obtain ⟨q,hq⟩:=Option.isSome_iff_exists.1 U0;exact R.inj m n c d hm hn (by rw [g m p hp];rfl) (by rw [g n q hq];rfl) e
end
end Go.Dx
