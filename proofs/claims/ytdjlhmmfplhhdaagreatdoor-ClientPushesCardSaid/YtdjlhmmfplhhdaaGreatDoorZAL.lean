/-
  The client's laws. Part ZAL of the proof: The deterministic machine over labels against the model: functions that are taken by what they do.
-/
import Derived.Laws.Externs
import Derived.Lib.MakeNoZero
import Derived.Lib.Bytealg
import Derived.Test.YtdjlhmmfplhhdaaGreatDoorProg
import Derived.WalkKit
import Derived.LaidEql
import Derived.Stop.Asserts
import Derived.RowKitTokens
import Derived.Lib.AppendIntMem
import Derived.Shelf.Strconv.Itoa3
import Derived.Test.YtdjlhmmfplhhdaaGreatDoorZAK
namespace Go.Dx
open Go Go.RowKit
variable{R:Value->World->Prop}{xs:List Value}{ts:List TypeId}
structure bG (P:Program)(f:FuncId)(e:Array Value->Sem Value):Prop where
 at_:∃fn,P.funcs[f]? =some fn/\(fn.name == "runtime.NumGoroutine")=false/\fn.body.isNone=true/\Extern.findNext fn=none/\Extern.find fn=some e
def km (P:Program)(G:Nat)(f:FuncId)(k:Ext):Prop:=∀{args:List V} {h:H} {v:V} {h':H},fJ P k args h=some (v,h')->∀{B:Nat} {w0:World} {ρ:bD} {w:World} {xs:List Value},aA B w0 ρ h w->gM ρ G->cZ ρ args xs->
 Good P f xs w λx w'=>∃a,Step ρ a h h'/\RV a v x/\aA B w0 a h' w'
theorem akx {P:Program}{G:Nat}{a:List (FuncId×Ext)}(h:∀p∈a,km P G p.1 p.2):nQ P G (adI P a):=by
 intro f args m v j b B w0 ρ w xs R d e;simp only [adI,ad] at b;obtain ⟨k,c,b⟩:=b;have:∀{l:List (FuncId×Ext)},Em l f=some k->(f,k)∈l:=by
  intro l;induction l with
  | nil=>intro h;simp [Em] at h
  | cons p l ih=>
    intro h;obtain ⟨g,n⟩:=p;simp only [Em] at h;split at h
    ·rename_i i
     cases h;rw [Nat.eq_of_beq_eq_true i];exact List.mem_cons_self ..
    ·exact List.mem_cons_of_mem _ (ih h)
 exact h _ (this c) b R d e
section
variable {P:Program} {G:Nat} {f:FuncId} {B:Nat} {w0:World} {ρ:bD} {h h':H} {w:World}
theorem bG.good {e:Array Value->Sem Value} (E:bG P f e)  {x:Value} {w':World}  (c:(e ⟨xs⟩).run P w = .ok x w') (a:R x w'):Good P f xs w R:=by
 obtain ⟨fn,b,g,h3,h4,d⟩:=E.at_;refine .inl ⟨x,w',?_,a⟩;rw [run_callFunc_extern b g h3 h4 d,c];rfl
theorem Ai {m:Mark}(E:bG P f λ_=>do mark m;pure Extern.Race.none_):km P G f .nop:=by
 intro args h v h' a B w0 ρ w xs R c b;simp only [fJ] at a;split at a
 ·cases a;cases b
  exact E.good (x:=Extern.Race.none_) (w':=w) (by simp) ⟨ρ,Step.refl _ _,.tuple .nil,R⟩
 ·cases a
theorem En {m:Addr->Mark} (E:bG P f (Extern.Race.marked m)):km P G f .mark:=by
 intro args h v h' a B w0 ρ w xs R e j;simp only [fJ] at a;split at a
 ·cases a
  obtain ⟨x,rfl,d⟩:=j.one;obtain ⟨b,g,rfl⟩:=dy d;exact E.good (x:=Extern.Race.none_) (w':=w) (by simp [Extern.Race.marked,Extern.Race.at_]) ⟨ρ,Step.refl _ _,.tuple .nil,R⟩
 ·cases a
theorem Ub (E:bG P f Extern.AbiNoEscape.same):km P G f .same:=by
 intro args h v h' a B w0 ρ w xs R d j;simp only [fJ] at a;split at a
 ·cases a
  obtain ⟨x,rfl,b⟩:=j.one;exact E.good (x:=x) (w':=w) rfl ⟨ρ,Step.refl _ _,b,R⟩
 ·cases a
theorem aaz (E:bG P f Extern.MapsClone.clone):km P G f .clone:=by
 intro args h v h' a B w0 ρ w xs R l j;simp only [fJ] at a;split at a
 ·rename_i t r
  obtain ⟨x,rfl,k⟩:=j.one;obtain ⟨y,rfl,d⟩:=je k;obtain ⟨b,g,rfl⟩:=lz d;split at a
  ·rename_i es c e
   cases a;obtain ⟨ms,OJ,m⟩:=R.TJ (P:=P) g e;have R':=R.add (o:=.map es c) (x:=.map ms c) (b:=ej.mk w.heap.size 0 0 .nilFunc) rfl ⟨rfl,rfl⟩ ⟨ms,heap_alloc_new _,m.mono (eS R.fresh)⟩;refine E.good (x:=.iface t (.map (some w.heap.size))) (w':=w.alloc (.map ms c)) ?_ ⟨_,Step.add _ _ _ _,.iface t (.map (aU _ _ _)),R'⟩;show (Extern.MapsClone.clone #[.iface t (.map (some b.block))]).run P w=_
   have QF:Extern.MapsClone.clone #[.iface t (.map (some b.block))]=(do
    let .map entries clock<-getObj b.block | stuck "maps.clone: a map expected"
    pure (.iface t (.map (some (<-newObj (.map entries clock)))))):=rfl
   rw [QF];simp [OJ]
  ·cases a
 ·cases a
theorem WR {ps:Array TypeId}{t b:TypeId}(i:P.underlying t=some (.slice b))(E:bG P f (Extern.BytealgMakeNoZero.makeNoZero ps #[t])):km P G f (.WO b):=by
 intro args h v h' a B w0 ρ w xs R l j;simp only [fJ] at a;split at a
 ·rename_i n
  simp only [ai,Option.some.injEq,Prod.mk.injEq] at a;obtain ⟨c,rfl,rfl⟩:=a;have c:=Nat.le_of_ble_eq_true c;obtain ⟨x,rfl,k⟩:=j.one;cases k;obtain ⟨cs,g,d,_⟩:=Lib.run_makeNoZero (P:=P) w ps t b i n (by omega);have R':=((R.drew).drew).row (vs:=[]) (xs:=[]) .nil cs.toList b 0 .yes;have e:(⟨[]++cs.toList⟩:Array Value)=cs:=by cases cs;rfl
  rw [e] at R';refine E.good g ⟨_,Step.add _ _ _ _,.sliceEnd 0 n 1 cs.size (aU _ _ _) d ?_,R'⟩;simp
 ·cases a
theorem one_cell (R:aA B w0 ρ h w){l:Lb}{b:ej}(i:ρ l=some b){off:Nat}{v u:V}{x:Value}(d:cellAt h l off=some v)(hs:eu h l off [u]=some h')(q:RV ρ u x):
  ∃y,RV ρ v y/\w.cell? ⟨b.block,b.base+off,none⟩=some y/\w.frozen? ⟨b.block,b.base+off,none⟩=false/\(∃e n,w.shape? b.block=some (e,n))/\aA B w0 ρ h' (w.setCell ⟨b.block,b.base+off,none⟩ x)/\h'.next=h.next:=by
 obtain ⟨t,j⟩:=R.store i hs (.cons q .nil);obtain ⟨vs,e,k,a,vs',g,p,s,A,r,rfl⟩:=iJ hs;have c:dE ρ b vs e k a w:=R.obj l b _ i g;simp only [cellAt,Q.ask,g,dB] at d;rw [dM,List.head?_drop] at d;obtain ⟨y,o,m⟩:=c.cell off v d;have f:=iI r;have z:=c.fits;simp only [List.length_cons,List.length_nil] at f;exact ⟨y,m,o,c.free p _ (by omega) (by omega),⟨_,_,c.shape⟩,j,rfl⟩
theorem OW (E:bG P f (Extern.Atomic.update (Op.intArith .add) .i32 true)):km P G f .YZ:=by
 intro args h v h' d B w0 ρ w xs R s C;simp only [fJ] at d;split at d
 ·rename_i l off y
  obtain ⟨u,z,rfl,i,k⟩:=C.two;obtain ⟨b,p,rfl⟩:=dy i;cases k;split at d
  ·rename_i e m
   simp only [ad,Option.some.injEq,Prod.mk.injEq] at d;obtain ⟨t,hs,rfl,rfl⟩:=d;obtain ⟨c,o,j,q,A,g,n⟩:=one_cell R p m hs (.int .i32 _);cases o;rw [eT] at g ⊢;refine E.good (x:=.int .i32 (IntKind.i32.wrap (e+y))) ?_ ⟨ρ,Step.same n,.int _ _,g⟩;show (Extern.Atomic.update (Op.intArith .add) .i32 true #[.pointer (some ⟨b.block,b.base+off,none⟩),.int .i32 y]).run P w=_
   have QF:Extern.Atomic.update (Op.intArith .add) .i32 true #[.pointer (some ⟨b.block,b.base+off,none⟩),.int .i32 y]=(do
    let a<-asAddr (.pointer (some ⟨b.block,b.base+off,none⟩))
    let old<-Extern.Atomic.read (.int .i32) a
    let new<-Op.intArith .add .i32 (<-asInt old) (<-asInt (.int .i32 y))
    store a new .atomic
    pure (if true then new else old)):=rfl
   rw [QF];simp [Extern.Atomic.read,asAddr,asInt,asIntOf,j,q,Op.intArith,run_store P w _ (.int .i32 (IntKind.i32.wrap (e+y))) .atomic rfl]
  ·cases d
 ·cases d
theorem OY (E:bG P f (Extern.Atomic.casT (.int .i32))):km P G f .YY:=by
 intro args h v h' d B w0 ρ w xs R A j;simp only [fJ] at d;split at d
 ·rename_i l off x y
  cases j with | cons r1 j=>
  obtain ⟨D,F,rfl,o,z⟩:=j.two;obtain ⟨b,s,rfl⟩:=dy r1;cases o;cases z;split at d
  ·rename_i g m
   simp only [ai,ad,Option.some.injEq,Prod.mk.injEq] at d;obtain ⟨i,C,hs,rfl,rfl⟩:=d;have i:g=x:=by rw [cE] at i;simpa using i
   subst i;obtain ⟨c,q,k,t,⟨e,n,u⟩,r,p⟩:=one_cell R s m hs (.int .i32 y);cases q;refine E.good (x:=.bool true) ?_ ⟨ρ,Step.same p,.bool _,r⟩;show (Extern.Atomic.casT (.int .i32) #[.pointer (some ⟨b.block,b.base+off,none⟩),.int .i32 g,.int .i32 y]).run P w=_
   have QF:Extern.Atomic.casT (.int .i32) #[.pointer (some ⟨b.block,b.base+off,none⟩),.int .i32 g,.int .i32 y]=(do
    let a<-asAddr (.pointer (some ⟨b.block,b.base+off,none⟩))
    if<-Extern.Atomic.touchesFrozen a then unsupported (.unsafePointer "a write to bytes that a string shares")
    let eq<-match Extern.Atomic.T.int .i32,<-Extern.Atomic.read (.int .i32) a,Value.int .i32 g with
     | _,.int _ x,.int _ y=>pure (x==y)
     | .ptr,.pointer x,.pointer y=>samePointer x y
     | .int _,.pointer (some _),.int _ 0 | .int _,.int _ 0,.pointer (some _)=>pure false
     | .int _,.pointer (some _),_ | .int _,_,.pointer (some _)=>unsupported .addressObserved
     | _,_,_=>stuck "atomic.CompareAndSwap: old is no T"
    if eq then store a (.int .i32 y) .atomic
    pure (.bool eq)):=rfl
   rw [QF];simp [Extern.Atomic.read,Extern.Atomic.touchesFrozen,asAddr,viewAt,u,k,t,run_store P w _ (.int .i32 y) .atomic rfl]
  ·cases d
 ·cases d
theorem atz {t:ByteArray}{i:Nat}(h:i<t.size):t[i]! =(t.data.toList)[i]'(by simpa using h):=by
 rw [getElem!_pos t i h];rfl
theorem HJ (c:UInt8)(t:ByteArray):∀(l:List UInt8) (k:Nat),t.data.toList.drop k=l->fP c.toNat (l.map (·.toNat)) k=(match (List.range' k (t.size - k)).find? (λi=>t[i]! ==c) with | some i=>(i:Int) | none=>-1)
 | [],k,h=>by
   have:t.size<=k:=by
    have:=congrArg List.length h;simp at this;omega
   rw [show t.size - k=0 from by omega]
   rfl
 | b::l,k,h=>by
   have d:k<t.size:=by
    have:=congrArg List.length h;simp at this;omega
   have f:=List.drop_eq_getElem_cons (l:=t.data.toList) (i:=k) (by simpa using d);rw [f] at h
   injection h with a hd
   have a:t[k]! =b:=by rw [atz d];exact a
   rw [show t.size - k=(t.size - (k+1))+1 from by omega,List.range'_succ,List.find?_cons,a];simp only [List.map_cons,fP]
   by_cases e:b=c
   ·subst e;simp
   ·have g:(b==c)=false:=by simpa using e
    have j:Nat.beq b.toNat c.toNat=false:=by
     rw [<-Bool.not_eq_true,Nat.beq_eq];exact λh=>e (UInt8.toNat_inj.1 h)
    rw [g,j];exact HJ c t l (k+1) hd
theorem BG (E:bG P f Extern.BytealgIndexByte.indexByte):km P G f .indexByte:=by
 intro args h v h' a B w0 ρ w xs R m k;simp only [fJ] at a;split at a
 ·rename_i s c
  simp only [ai,Option.some.injEq,Prod.mk.injEq] at a;obtain ⟨b,rfl,rfl⟩:=a;have b:c<256:=by simpa using b
  obtain ⟨n,o,rfl,e,j⟩:=k.two;cases e with | str t=>
  cases j;have l:(UInt8.ofNat c).toNat=c:=by simp [Nat.mod_eq_of_lt b]
  have key:=HJ (UInt8.ofNat c) t t.data.toList 0 rfl;rw [l] at key;have g:((Int.ofNat c).toNat).toUInt8=UInt8.ofNat c:=rfl;refine E.good (x:=.int .i64 (fP c (au t) 0)) (w':=w) ?_ ⟨ρ,Step.refl _ _,.int _ _,R⟩;have d:fP c (au t) 0=(match (List.range t.size).find? (λi=>t[i]! ==UInt8.ofNat c) with | some i=>(i:Int) | none=>-1):=by
   rw [List.range_eq_range'];exact key
  show (Extern.BytealgIndexByte.indexByte #[.string t,.int .u8 (Int.ofNat c)]).run P w=_
  have QF:Extern.BytealgIndexByte.indexByte #[.string t,.int .u8 (Int.ofNat c)]=(match (List.range t.size).find? (λi=>t[i]! ==UInt8.ofNat c) with
   | some i=>pure (goInt i)
   | none=>pure (goInt (-1)):Sem Value):=rfl
  rw [QF,d];cases (List.range t.size).find? (λi=>t[i]! ==UInt8.ofNat c)<;>rfl
 ·cases a
theorem La:∀a b:List UInt8,Jj (a.map (·.toNat)) (b.map (·.toNat))=Lib.compareBytes a b
 | [],[]=>rfl
 | [],_::_=>rfl
 | _::_,[]=>rfl
 | a::x,b::y=>by
   have c:=La x y;unfold Jj at c ⊢;simp only [List.map_cons,gJ,fh];unfold Lib.compareBytes;have d:Nat.blt a.toNat b.toNat=decide (a<b):=by
    rw [Bool.eq_iff_iff,decide_eq_true_iff,UInt8.lt_iff_toNat_lt];simp
   have i:Nat.beq a.toNat b.toNat=(a==b):=by
    rw [Bool.eq_iff_iff,beq_iff_eq,Nat.beq_eq];exact UInt8.toNat_inj
   rw [d,i]
   by_cases e:a<b
   ·simp [e]
   ·by_cases e2:a=b
    ·subst e2
     simp [e];exact c
    ·have f:b<a:=by
      rw [UInt8.lt_iff_toNat_lt] at*;have:a.toNat≠b.toNat:=λh=>e2 (UInt8.toNat_inj.1 h);omega
     have g:(a==b)=false:=by simpa using e2
     simp [e,f,g]
theorem HK (E:bG P f Extern.BytealgCompare.compare):km P G f .compare:=by
 intro args h v h' a B w0 ρ w xs R e d;simp only [fJ] at a;split at a
 ·cases a
  obtain ⟨g,i,rfl,b,c⟩:=d.two;cases b with | str t=>
  cases c with | str u=>
  refine E.good (Lib.run_compareString (P:=P) t u w) ⟨ρ,Step.refl _ _,?_,R⟩;have:=La t.data.toList u.data.toList;unfold au;rw [this];exact .int _ _
 ·cases a
theorem WT {n:Nat}{l:List Nat}(h:dr n l=true):n∈l:=by
 rw [Gd] at h;simpa using h
theorem Jw {rt:TypeId}{g:Nat}(i:g<G)(b:g=P.globals.size)(E:bG P f Extern.ReflectliteType.typeOf)(d:∀w,(cutType "internal/reflectlite.rtype").run P w = .ok rt w):km P G f (.typeOf rt (pathOf g) ts):=by
 intro args h v h' a B w0 ρ w xs R e j;simp only [fJ] at a;split at a
 ·rename_i t m
  simp only [ai,Option.some.injEq,Prod.mk.injEq] at a;obtain ⟨_,rfl,rfl⟩:=a;obtain ⟨x,rfl,l⟩:=j.one;obtain ⟨y,rfl,n⟩:=je l;obtain ⟨k,c⟩:=e g i;refine E.good (x:=.iface rt (.agg #[.pointer (some ⟨g,t,none⟩)])) (w':=w) ?_ ⟨ρ,Step.refl _ _,?_,R⟩
  ·show (Extern.ReflectliteType.toType t).run P w=_
   subst b;unfold Extern.ReflectliteType.toType;simp [d,Extern.Rtype.handle,typeHandle]
  ·have:=RV.ptr (ρ:=ρ) t c
   exact .iface rt (.agg (.cons (by simpa using this) .nil))
 ·cases a
theorem xK {g:Nat}(o:g<G)(_hgs:g<2 ^ 64)(E:bG P f (Extern.ReflectliteType.method λt=>do Extern.Rtype.noPackHeld "Comparable" t;pure (.bool (<-typeInfo t).comparable)))
  (m:∀t∈ts,∀i,P.info? t=some i->∀w,(Extern.ReflectliteType.method (λt=>do Extern.Rtype.noPackHeld "Comparable" t;pure (.bool (<-typeInfo t).comparable)) #[.agg #[.pointer (some ⟨g,t,none⟩)]]).run P w = .ok (.bool i.comparable) w):
  km P G f (.comparable (pathOf g) ts):=by
 intro args h v h' a B w0 ρ w xs R n s;simp only [fJ] at a;split at a
 ·rename_i l t
  simp only [ai,ad,Option.some.injEq,Prod.mk.injEq,Bool.and_eq_true] at a;obtain ⟨⟨c,q⟩,i,hi,rfl,rfl⟩:=a;have c:=gL c;subst c;obtain ⟨x,rfl,d⟩:=s.one;cases d with | agg d=>
  obtain ⟨y,rfl,p⟩:=d.one;obtain ⟨b,e,rfl⟩:=dy p;obtain ⟨k,j⟩:=n g o;rw [j] at e;cases e;refine E.good (x:=.bool i.comparable) (w':=w) ?_ ⟨ρ,Step.refl _ _,.bool _,R⟩;have:=m t (WT q) i hi w;simpa using this
 ·cases a
theorem aA.junk (R:aA B w0 ρ h w)(o:Go.Obj):aA B w0 ρ h (w.alloc o):=
 ⟨λl b p a c=>(R.obj l b p a c).jH (j8.refl _) (heap_alloc_old o (R.obj l b p a c).lt),R.lt,R.base,R.inj,R.own,by rw [World.size_alloc];exact Nat.le_succ_of_le R.size,R.below.alloc R.size o⟩
theorem Good.fQ  {func:Func} {c:Code} (d:P.funcs[f]? =some func) (b:func.body=some c) (a:(func.name == "runtime.NumGoroutine")=false) (h:Calls P f ⟨xs⟩ w λe w'=>∃v,e = .returned v/\R v w'):Good P f xs w R:=by
 refine .inr ⟨?_,h⟩;have a:¬func.name = "runtime.NumGoroutine":=λe=>by rw [e] at a;simp at a
 unfold callFunc;simp [d,a,b]
end
end Go.Dx
namespace Go.Proofs
open Go.RowKit Go.Extern.Stop Go.Stop Go.Extern
theorem Tz.adK (t:Value)(w:World):Calls Tryz.prog 44 #[.nilIface,t] w λe w'=>e = .returned (.bool false)/\w'=w:=by
 go_enter Tryz.func44,Tryz.ntmps44
 go_wp2
 go_ret
 exact ⟨rfl,rfl⟩
theorem Tz.aaA (t:Addr)(w:World):(ReflectliteValue.unpack (.iface 92 (.pointer (some t)))).run Tryz.prog w
  = .ok (.agg #[.pointer (some ⟨7,92,none⟩),.pointer (some ⟨w.heap.size,0,none⟩),.int .u64 150]) (w.alloc (.cells #[.pointer (some t)] 92)):=by kernel_rfl
theorem Tz.type68 (a:Addr)(w:World):(ReflectliteValue.methodAny (ReflectliteValue.valueError "reflectlite.Value.Type" 0) (λt _ _ _=>ReflectliteType.toType t) #[.agg #[.pointer (some ⟨7,92,none⟩),.pointer (some a),.int .u64 150]]).run Tryz.prog w
  = .ok (.iface 226 (.agg #[.pointer (some ⟨7,92,none⟩)])) w:=by kernel_rfl
theorem Tz.WU (h:Value)(w:World):(Go.method 553 226 (.agg #[h]) "Kind").run Tryz.prog w = .ok (353,h) w:=by kernel_rfl
theorem Tz.aky (w:World):((ReflectliteType.abiMethod λt=>(λa:Nat=>Value.int IntKind.u8 (a:Int)) <$>Rtype.kind t) #[.pointer (some ⟨7,92,none⟩)]).run Tryz.prog w = .ok (.int .u8 22) w:=by kernel_rfl
theorem Tz.akz (w:World):((ReflectliteType.abiMethod λt=>(λa:Nat=>Value.int IntKind.u8 (a:Int)) <$>Rtype.kind t) #[.pointer (some ⟨7,90,none⟩)]).run Tryz.prog w = .ok (.int .u8 25) w:=by kernel_rfl
theorem Tz.rlm (z:Sem Value)(f:TypeId->Addr->Nat->Nat->Sem Value) (v:Value):
  ReflectliteValue.method z f #[v]=(do match<-ReflectliteValue.parts v with | none=>z | some (t,a,fl)=>f t a fl (fl % 32)):=rfl
theorem Tz.Y1 (a:Addr)(w:World):(ReflectliteValue.parts (.agg #[.pointer (some ⟨7,92,none⟩),.pointer (some a),.int .u64 150])).run Tryz.prog w = .ok (some (92,a,150)) w:=by kernel_rfl
theorem Tz.agT (a p:Addr)(W:World)(b:W.cell? a=some (.pointer (some p))):
  (ReflectliteValue.method (ReflectliteValue.valueError "reflectlite.Value.IsNil" 0) ReflectliteValue.isNil #[.agg #[.pointer (some ⟨7,92,none⟩),.pointer (some a),.int .u64 150]]).run Tryz.prog W = .ok (.bool false) W:=by
 rw [Tz.rlm];simp only [Sem.run_bind,Tz.Y1,Result.andThen];simp [ReflectliteValue.isNil,loadVar,isAgg,underlying,Tryz.underlying92,b,Result.andThen]
theorem Tz.WV (h:Value)(w:World):(Go.method 553 226 (.agg #[h]) "Elem").run Tryz.prog w = .ok (368,.agg #[h]) w:=by kernel_rfl
theorem Tz.Gk (h:Value)(w:World):(Go.method 553 226 (.agg #[h]) "Implements").run Tryz.prog w = .ok (369,.agg #[h]) w:=by kernel_rfl
theorem Tz.Cu (h:Value)(w:World):(Go.method 553 226 (.agg #[h]) "AssignableTo").run Tryz.prog w = .ok (366,.agg #[h]) w:=by kernel_rfl
theorem Tz.akA (w:World):(ReflectliteType.method ReflectliteType.elem #[.agg #[.pointer (some ⟨7,92,none⟩)]]).run Tryz.prog w = .ok (.iface 226 (.agg #[.pointer (some ⟨7,90,none⟩)])) w:=by kernel_rfl
theorem Tz.QM (w:World):(ReflectliteType.relation "Implements" ReflectliteType.implements_ #[.agg #[.pointer (some ⟨7,90,none⟩)],.iface 226 (.agg #[.pointer (some ⟨7,45,none⟩)])]).run Tryz.prog w = .ok (.bool true) w:=by kernel_rfl
theorem Tz.adL (v:Value)(w:World):(ReflectliteType.typeOf #[.iface 90 v]).run Tryz.prog w = .ok (.iface 226 (.agg #[.pointer (some ⟨7,90,none⟩)])) w:=by kernel_rfl
theorem Tz.QN (w:World):(ReflectliteType.relation "AssignableTo" ReflectliteType.assignableTo #[.agg #[.pointer (some ⟨7,90,none⟩)],.iface 226 (.agg #[.pointer (some ⟨7,90,none⟩)])]).run Tryz.prog w = .ok (.bool true) w:=by kernel_rfl
theorem Tz.aaB (x y:Value)(w:World):(ReflectliteValue.unpack (.iface 90 (.agg #[x,y]))).run Tryz.prog w
  = .ok (.agg #[.pointer (some ⟨7,90,none⟩),.pointer (some ⟨w.heap.size,0,none⟩),.int .u64 153]) (w.alloc (.cells #[x,y] 90)):=by kernel_rfl
theorem Tz.adM (w:World):(Rtype.elem? 92).run Tryz.prog w = .ok (some 90) w:=by kernel_rfl
theorem Tz.atA (p:Addr)(w:World):(ReflectliteValue.mk 90 p ReflectliteValue.flagAddr).run Tryz.prog w = .ok (.agg #[.pointer (some ⟨7,90,none⟩),.pointer (some p),.int .u64 409]) w:=by kernel_rfl
theorem Tz.agU (a p:Addr)(W:World)(b:W.cell? a=some (.pointer (some p))):
  (ReflectliteValue.method (ReflectliteValue.valueError "reflectlite.Value.Elem" 0) ReflectliteValue.elem #[.agg #[.pointer (some ⟨7,92,none⟩),.pointer (some a),.int .u64 150]]).run Tryz.prog W
   = .ok (.agg #[.pointer (some ⟨7,90,none⟩),.pointer (some p),.int .u64 409]) W:=by
 rw [Tz.rlm];simp only [Sem.run_bind,Tz.Y1,Result.andThen];simp [ReflectliteValue.elem,loadVar,isAgg,underlying,Tryz.underlying92,b,Result.andThen,Tz.adM,Tz.atA]
theorem Tz.adN (a:Addr)(w:World):(ReflectliteValue.parts (.agg #[.pointer (some ⟨7,90,none⟩),.pointer (some a),.int .u64 409])).run Tryz.prog w = .ok (some (90,a,409)) w:=by kernel_rfl
theorem Tz.agV (a:Addr)(w:World):(ReflectliteValue.parts (.agg #[.pointer (some ⟨7,90,none⟩),.pointer (some a),.int .u64 153])).run Tryz.prog w = .ok (some (90,a,153)) w:=by kernel_rfl
theorem Tz.adO (w:World):(Rtype.directlyAssignable 90 90).run Tryz.prog w = .ok true w:=by kernel_rfl
theorem Tz.rls (v x:Value):ReflectliteValue.set #[v,x]=(do
  let (some (dst,a,fl),some (src,b,_)):=(<-ReflectliteValue.parts v,<-ReflectliteValue.parts x)
   | unsupported (.noEntry "extern/(internal/reflectlite.Value).Set.zeroValue")
  if fl / ReflectliteValue.flagAddr % 2==0 then unsupported (.noEntry "extern/(internal/reflectlite.Value).Set.unaddressable")
  let val<-loadVar src b
  if<-Rtype.directlyAssignable dst src then storeVar dst a val
  else if<-Rtype.implements dst src then
   if (<-Rtype.kind src)==20 then
    match val with
    | .nilIface=>unsupported (.noEntry "extern/reflectlite: a nil value of one interface type handed on as a value of another")
    | _=>storeVar dst a val
   else storeVar dst a (.iface src val)
  else panicString ("reflectlite.Set: value of type " ++(<-Rtype.spelt src) ++ " is not assignable to type " ++(<-Rtype.spelt dst))
  pure (.tuple #[])):=rfl
theorem Tz.akB (w:World):(sizeOf 90).run Tryz.prog w = .ok 2 w:=by kernel_rfl
theorem Tz.aoz (w:World):(isAgg 90).run Tryz.prog w = .ok true w:=by kernel_rfl
theorem Tz.aoA (a Ak b:Nat)(x y:Value)(W:World)(f:W.rangeAt b 0 [x,y])(g:∀j,j<2->(W.cell? ⟨a,Ak+j,none⟩).isSome=true) (d:∀j,j<2->W.frozen? ⟨a,Ak+j,none⟩=false) (i:x.oneCell'=true) (hy:y.oneCell'=true):
  (ReflectliteValue.set #[.agg #[.pointer (some ⟨7,90,none⟩),.pointer (some ⟨a,Ak,none⟩),.int .u64 409],.agg #[.pointer (some ⟨7,90,none⟩),.pointer (some ⟨b,0,none⟩),.int .u64 153]]).run Tryz.prog W
   = .ok (.tuple #[]) (W.setCells a Ak [x,y]):=by
 have h:(loadCells ⟨b,0,none⟩ 2).run Tryz.prog W = .ok #[x,y] W:=by
  have:=run_loadCells_list (P:=Tryz.prog) W ⟨b,0,none⟩ [x,y] (λj v e=>by rw [Go.Dx.dk];exact f j v e);simpa using this
 have hs:(storeCells ⟨a,Ak,none⟩ [x,y]).run Tryz.prog W = .ok () (W.setCells a Ak [x,y]):=by
  have:=run_storeCells_cells (P:=Tryz.prog) a Ak [x,y] 0 W (by simpa using g) (by simpa using d) (by intro z c;simp at c;rcases c with rfl | rfl<;>assumption);simpa using this
 rw [Tz.rls];simp only [Sem.run_bind,Tz.adN,Tz.agV,Result.andThen];simp [ReflectliteValue.flagAddr,loadVar,h,Tz.adO,storeVar,hs,Value.cells]
end Go.Proofs
namespace Go.Proofs
open Go.RowKit Go.Extern.Stop Go.Stop Go.Extern
set_option maxRecDepth 100000 in
set_option maxHeartbeats 4000000 in
theorem Tz.atB (x y:Value)(hx:x.oneCell'=true)(hy:y.oneCell'=true)(tg:Value)(tb Ak vb:Nat)(w:World)(hv:w.cell? ⟨vb,0,none⟩=some (.pointer (some ⟨tb,Ak,none⟩)))(hvl:vb<w.heap.size)
  (ht:∀j,j<2->(w.cell? ⟨tb,Ak+j,none⟩).isSome=true) (hf:∀j,j<2->w.frozen? ⟨tb,Ak+j,none⟩=false):
  Calls Tryz.prog 85 #[.iface 90 (.agg #[x,y]),tg,.agg #[.pointer (some ⟨7,92,none⟩),.pointer (some ⟨vb,0,none⟩),.int .u64 150],.iface 226 (.agg #[.pointer (some ⟨7,90,none⟩)])] w
   λev w'=>ev = .returned (.bool true)/\w'=((w.alloc (.cells #[.pointer (some ⟨7,92,none⟩),.pointer (some ⟨vb,0,none⟩),.int .u64 150] 155)).alloc (.cells #[x,y] 90)).setCells tb Ak [x,y]:=by
 have h6:=@run_callFunc_extern Tryz.prog 82 _ (λargs=>ReflectliteValue.unpack (args.getD 0 (.tuple #[]))) Tryz.func82 (by kernel_rfl) (by kernel_rfl) (by kernel_rfl) (by kernel_rfl);have sQ:=@run_callFunc_extern Tryz.prog 86 _ ReflectliteType.typeOf Tryz.func86 (by kernel_rfl) (by kernel_rfl) (by kernel_rfl) (by kernel_rfl);have h35:=@run_callFunc_extern Tryz.prog 366 _ (ReflectliteType.relation "AssignableTo" ReflectliteType.assignableTo) Tryz.func366 (by kernel_rfl) (by kernel_rfl) (by kernel_rfl) (by kernel_rfl);have VH:=@run_callFunc_extern Tryz.prog 134 _ (ReflectliteValue.method (ReflectliteValue.valueError "reflectlite.Value.Elem" 0) ReflectliteValue.elem) Tryz.func134 (by kernel_rfl) (by kernel_rfl) (by kernel_rfl) (by kernel_rfl);have Sy:=@run_callFunc_extern Tryz.prog 135 _ ReflectliteValue.set Tryz.func135 (by kernel_rfl) (by kernel_rfl) (by kernel_rfl) (by kernel_rfl);have tO:=Tz.adL;have mA:=Tz.Cu;have a66:=Tz.QN;have v66:=Tz.aaB
 go_enter Tryz.func85,Tryz.ntmps85
 have el:=Tz.agU ⟨vb,0,none⟩ ⟨tb,Ak,none⟩ (w.alloc (.cells #[.pointer (some ⟨7,92,none⟩),.pointer (some ⟨vb,0,none⟩),.int .u64 150] 155)) (by rw [World.cell?_alloc_lt _ _ ⟨vb,0,none⟩ hvl];exact hv);have Ct:tb<w.heap.size:=by
  have:=ht 0 (by omega);rcases Nat.lt_or_ge tb w.heap.size with h | h
  ·exact h
  ·simp [World.cell?,Array.getElem?_eq_none h] at this
 have st:=Tz.aoA tb Ak (w.heap.size+1) x y ((w.alloc (.cells #[.pointer (some ⟨7,92,none⟩),.pointer (some ⟨vb,0,none⟩),.int .u64 150] 155)).alloc (.cells #[x,y] 90)) (λj v hv=>by
   have:=Go.Dx.tC (w.alloc (.cells #[.pointer (some ⟨7,92,none⟩),.pointer (some ⟨vb,0,none⟩),.int .u64 150] 155)) #[x,y] 90 (0+j);rw [World.size_alloc] at this;rw [this,Nat.zero_add];simpa using hv)
  (λj hj=>by rw [World.cell?_alloc_lt _ _ ⟨tb,Ak+j,none⟩ (by simp;omega),World.cell?_alloc_lt _ _ ⟨tb,Ak+j,none⟩ Ct];exact ht j hj)
  (λj hj=>by rw [World.frozen?_alloc_old _ _ ⟨tb,Ak+j,none⟩ (by simp;omega),World.frozen?_alloc_old _ _ ⟨tb,Ak+j,none⟩ (Nat.ne_of_lt Ct)];exact hf j hj) hx hy
 go_wp2
 refine wp_loop_rounds 1 ?_;rw [rounds_succ]
 go_wp2
 go_ret
 exact ⟨rfl,rfl⟩
abbrev Tz.VV (vb:Nat):Obj:=.cells #[.pointer (some ⟨7,92,none⟩),.pointer (some ⟨vb,0,none⟩),.int .u64 150] 155
set_option maxRecDepth 100000 in
set_option maxHeartbeats 4000000 in
theorem Tz.adP (x y:Value)(hx:x.oneCell'=true)(hy:y.oneCell'=true)(tb Ak:Nat)(w:World)(hg:w.cell? ⟨0,0,none⟩=some (.iface 226 (.agg #[.pointer (some ⟨7,45,none⟩)])))
  (ht:∀j,j<2->(w.cell? ⟨tb,Ak+j,none⟩).isSome=true) (hf:∀j,j<2->w.frozen? ⟨tb,Ak+j,none⟩=false):
  Calls Tryz.prog 44 #[.iface 90 (.agg #[x,y]),.iface 92 (.pointer (some ⟨tb,Ak,none⟩))] w λev w'=>ev = .returned (.bool true)/\
   w'=((((w.alloc (.cells #[.pointer (some ⟨tb,Ak,none⟩)] 92)).alloc (Tz.VV w.heap.size)).alloc (Tz.VV w.heap.size)).alloc (.cells #[x,y] 90)).setCells tb Ak [x,y]:=by
 have h6:=@run_callFunc_extern Tryz.prog 82 _ (λargs=>ReflectliteValue.unpack (args.getD 0 (.tuple #[]))) Tryz.func82 (by kernel_rfl) (by kernel_rfl) (by kernel_rfl) (by kernel_rfl);have h7:=@run_callFunc_extern Tryz.prog 83 _ (ReflectliteValue.methodAny (ReflectliteValue.valueError "reflectlite.Value.Type" 0) (λt _ _ _=>ReflectliteType.toType t)) Tryz.func83 (by kernel_rfl) (by kernel_rfl) (by kernel_rfl) (by kernel_rfl);have h8:=@run_callFunc_extern Tryz.prog 84 _ (ReflectliteValue.method (ReflectliteValue.valueError "reflectlite.Value.IsNil" 0) ReflectliteValue.isNil) Tryz.func84 (by kernel_rfl) (by kernel_rfl) (by kernel_rfl) (by kernel_rfl);have h27:=@run_callFunc_extern Tryz.prog 353 _ (ReflectliteType.abiMethod λt=>do pure (.int .u8 (<-Rtype.kind t))) Tryz.func353 (by kernel_rfl) (by kernel_rfl) (by kernel_rfl) (by kernel_rfl);have h37:=@run_callFunc_extern Tryz.prog 368 _ (ReflectliteType.method ReflectliteType.elem) Tryz.func368 (by kernel_rfl) (by kernel_rfl) (by kernel_rfl) (by kernel_rfl);have h38:=@run_callFunc_extern Tryz.prog 369 _ (ReflectliteType.relation "Implements" ReflectliteType.implements_) Tryz.func369 (by kernel_rfl) (by kernel_rfl) (by kernel_rfl) (by kernel_rfl);have f6:=Tz.aaA;have f7:=Tz.type68;have mK:=Tz.WU;have mE:=Tz.WV;have mI:=Tz.Gk;have k68:=Tz.aky;have k66:=Tz.akz;have e68:=Tz.akA;have i66:=Tz.QM;have bA:0<w.heap.size:=by
  rcases Nat.eq_zero_or_pos w.heap.size with h0 | h
  ·simp [World.cell?,h0] at hg
  ·exact h
 have Ct:tb<w.heap.size:=by
  have:=ht 0 (by omega);rcases Nat.lt_or_ge tb w.heap.size with h | h
  ·exact h
  ·simp [World.cell?,Array.getElem?_eq_none h] at this
 have n8:=Tz.agT ⟨w.heap.size,0,none⟩ ⟨tb,Ak,none⟩ ((w.alloc (.cells #[.pointer (some ⟨tb,Ak,none⟩)] 92)).alloc (Tz.VV w.heap.size)) (by rw [World.cell?_alloc_lt _ _ ⟨w.heap.size,0,none⟩ (by simp)];simp);have Iy:((w.alloc (.cells #[.pointer (some ⟨tb,Ak,none⟩)] 92)).alloc (Tz.VV w.heap.size)).cell? ⟨0,0,none⟩=some (.iface 226 (.agg #[.pointer (some ⟨7,45,none⟩)])):=by
  rw [World.cell?_alloc_lt _ _ ⟨0,0,none⟩ (by simp),World.cell?_alloc_lt _ _ ⟨0,0,none⟩ bA];exact hg
 have c61:=Tz.atB x y hx hy (.iface 92 (.pointer (some ⟨tb,Ak,none⟩))) tb Ak w.heap.size ((w.alloc (.cells #[.pointer (some ⟨tb,Ak,none⟩)] 92)).alloc (Tz.VV w.heap.size))
  (by rw [World.cell?_alloc_lt _ _ ⟨w.heap.size,0,none⟩ (by simp)];simp) (by simp;omega)
  (λj hj=>by rw [World.cell?_alloc_lt _ _ ⟨tb,Ak+j,none⟩ (by simp;omega),World.cell?_alloc_lt _ _ ⟨tb,Ak+j,none⟩ Ct];exact ht j hj)
  (λj hj=>by rw [World.frozen?_alloc_old _ _ ⟨tb,Ak+j,none⟩ (by simp;omega),World.frozen?_alloc_old _ _ ⟨tb,Ak+j,none⟩ (Nat.ne_of_lt Ct)];exact hf j hj)
 go_enter Tryz.func44,Tryz.ntmps44
 go_wp2_with (go_at_call 85;refine c61.mono ?_;rintro e w' ⟨rfl,rfl⟩)
 go_ret
 exact ⟨rfl,rfl⟩
end Go.Proofs
namespace Go.Dx
open Go Go.RowKit
variable{tp tm tp':T V}{a a':A}{n id:Nat}{ρ ρ' ρ1:bD}{v:V}{ds:List (FuncId×List V)}{w0 w:World}{R R' Rp:Value->World->Prop}{xs:List Value}{f:FuncId}{h h' h1:H}{Qw:Exit->Act->World->Prop}{c1 c2:Code}
def agW (tp tm:T V):Prop:=∀p v,tp.get p=some v->tm.get p=some v
def iA (tp tm:T V):Prop:=∀p v,tp.get p=some v->bV tm p=v
theorem iA.set (s:iA tp tm)(p:Lb)(v:V):iA (tp.set p (some v)) (tm.set p (some v)):=λq u a=>by
 by_cases e:p=q
 ·subst e;rw [T.aY] at a;rw [jI];exact Option.some.inj a
 ·rw [T.bh _ _ _ _ e] at a;rw [ki _ _ e];exact s q u a
theorem iA.refl (tm:T V):iA tm tm:=λp v e=>by unfold bV;rw [e]
structure PR (ρ:bD)(n:Nat)(a:A)(x:Act):Prop where
 out:∃tm,iA a.tmps tm/\oW ρ n {tmps:=tm,defers:=a.defers} x
theorem PR.mono (e:j8 ρ ρ'){x:Act}(r:PR ρ n a x):PR ρ' n a x:=
 let ⟨tm,s,k⟩:=r.out;⟨tm,s,k.mono e⟩
theorem PR.put {C:CE}{x:Act}(r:PR ρ C.n a x){d:Option Tmp}{d':Option Lb}(e:Ab C d=some d'){y:Value}(c:RV ρ v y):PR ρ C.n (a.put d' v) (x.put d y):=by
 obtain ⟨tm,s,k⟩:=r.out;have b:=k.put e c;cases d' with
 | none=>exact ⟨tm,s,b⟩
 | some p=>exact ⟨tm.set p (some v),s.set p v,b⟩
theorem PR.weak {x:Act}(r:PR ρ n {tmps:=tp,defers:=ds} x) (h:agW tp' tp):PR ρ n {tmps:=tp',defers:=ds} x:=
 let ⟨tm,s,k⟩:=r.out;⟨tm,λp v e=>s p v (h p v e),k⟩
def X.VI (tp:T V):X->Option V
 | .t p=>tp.get p
 | .c v=>some v
theorem qz (s:iA tp tm){x:X}(h:x.VI tp=some v):x.ev tm=v:=by
 cases x with
 | t p=>simp only [X.VI] at h;exact s p v h
 | c u=>simp only [X.VI,Option.some.injEq] at h;subst h;rfl
structure GB (P:Program)(B:Nat)(w0:World)(ρ:bD)(G:Nat):Prop where
 rel:gM ρ G
 pow:Lib.TabBelow P B w0 "internal/strconv.uint64pow10" .u64 Lib.pow10Tab
theorem GB.mono {P:Program}{B:Nat}{G:Nat}(g:GB P B w0 ρ G)(e:j8 ρ ρ'):GB P B w0 ρ' G:=⟨g.rel.mono e,g.pow⟩
def Lc (P:Program)(f:FuncId)(xs:List Value)(w:World)(R Rp:Value->World->Prop):Prop:=
 (∃v w',(callFunc f ⟨xs⟩).run P w = .ok (.value v) w'/\R v w')\/
 ((callFunc f ⟨xs⟩).run P w = .ok (.enter f ⟨xs⟩) w/\Calls P f ⟨xs⟩ w λe w'=>(∃v,e = .returned v/\R v w')\/∃v,e = .panicked [{v,recovered:=false}]/\Rp v w')
structure CX (pf:Unit->Program) (G:Nat) (f:FuncId) (args:List V) (h:H) (Q Pn:V->H->Prop):Prop where
 out:∀{B:Nat} {w0:World} {ρ:bD} {w:World} {xs:List Value},aA B w0 ρ h w->GB (pf ()) B w0 ρ G->cZ ρ args xs->
  Lc (pf ()) f xs w (λx w'=>∃v h' ρ',Q v h'/\Step ρ ρ' h h'/\RV ρ' v x/\aA B w0 ρ' h' w') (λx w'=>∃v h' ρ',Pn v h'/\Step ρ ρ' h h'/\RV ρ' v x/\aA B w0 ρ' h' w')
abbrev CW (pf:Unit->Program) (G:Nat) (f:FuncId) (args:List V) (h:H) (Q:V->H->Prop):Prop:=CX pf G f args h Q λ_ _=>False
theorem Lc.mono {P:Program}{Rp':Value->World->Prop} (g:Lc P f xs w R Rp) (h:∀v w',R v w'->R' v w') (d:∀v w',Rp v w'->Rp' v w'):Lc P f xs w R' Rp':=by
 rcases g with ⟨v,w',a,b⟩ | ⟨a,b⟩
 ·exact .inl ⟨v,w',a,h _ _ b⟩
 ·refine .inr ⟨a,b.mono λe w' q=>?_⟩
  rcases q with ⟨v,c,r⟩ | ⟨v,c,r⟩
  ·exact .inl ⟨v,c,h _ _ r⟩
  ·exact .inr ⟨v,c,d _ _ r⟩
theorem Good.x {P:Program} (g:Good P f xs w R):Lc P f xs w R Rp:=by
 rcases g with ⟨v,w',a,b⟩ | ⟨a,b⟩
 ·exact .inl ⟨v,w',a,b⟩
 ·exact .inr ⟨a,b.mono λe w' q=>.inl q⟩
theorem Lc.upon {P:Program} (g:Lc P f xs w R Rp) {o:Oper} {A:Act} {K:Act->World->Prop} {Q:Exit->Act->World->Prop} (c:∀v w',R v w'->K (A.put o.dst v) w')
  (i:∀v w',Rp v w'->Q (.panic [{v,recovered:=false}]) A w'):o.upon P A K Q ((callFunc f ⟨xs⟩).run P w):=by
 rcases g with ⟨v,w',b,a⟩ | ⟨b,d⟩
 ·rw [b];exact c v w' a
 ·rw [b]
  show Calls P f _ w _
  refine d.mono λe w' h=>?_;rcases h with ⟨v,rfl,a⟩ | ⟨v,rfl,a⟩
  ·exact c v w' a
  ·exact i v w' a
theorem Good.mono {P:Program} (g:Good P f xs w R) (h:∀v w',R v w'->R' v w'):Good P f xs w R':=by
 rcases g with ⟨v,w',a,b⟩ | ⟨a,b⟩
 ·exact .inl ⟨v,w',a,h _ _ b⟩
 ·exact .inr ⟨a,b.mono λe w' ⟨v,c,r⟩=>⟨v,c,h _ _ r⟩⟩
section
variable {pf:Unit->Program} {G n:Nat} {f:FuncId} {args:List V} {h:H} {Q Q' Pn Pn':V->H->Prop}
theorem CX.aiN (c:CX pf G f args h Q Pn)(k:∀v h',Q v h'->Q' v h') (b:∀v h',Pn v h'->Pn' v h'):CX pf G f args h Q' Pn':=
 ⟨λR a d=>(c.out R a d).mono (λ_ _ ⟨v,h',ρ',q,r⟩=>⟨v,h',ρ',k _ _ q,r⟩) λ_ _ ⟨v,h',ρ',q,r⟩=>⟨v,h',ρ',b _ _ q,r⟩⟩
theorem CX.mono (c:CX pf G f args h Q Pn)(k:∀v h',Q v h'->Q' v h'):CX pf G f args h Q' Pn:=c.aiN k λ_ _ q=>q
theorem CW.mono (c:CW pf G f args h Q)(k:∀v h',Q v h'->Q' v h'):CX pf G f args h Q' Pn:=c.aiN k λ_ _ q=>q.elim
theorem CW.mk (c:∀{B:Nat} {w0:World} {ρ:bD} {w:World} {xs:List Value},aA B w0 ρ h w->GB (pf ()) B w0 ρ G->cZ ρ args xs->Good (pf ()) f xs w λx w'=>∃v h' ρ',Q v h'/\Step ρ ρ' h h'/\RV ρ' v x/\aA B w0 ρ' h' w'):CW pf G f args h Q:=⟨λR a b=>(c R a b).x⟩
structure Less (h h':H):Prop where
 next:h'.next=h.next
 rel:∀{B:Nat} {w0:World} {ρ:bD} {w:World},aA B w0 ρ h w->aA B w0 ρ h' w
theorem Less.refl (h:H):Less h h:=⟨rfl,λR=>R⟩
theorem Less.trans {Eg:H}(a:Less h h')(b:Less h' Eg):Less h Eg:=⟨b.next.trans a.next,λR=>b.rel (a.rel R)⟩
theorem Step.less (s:Step ρ ρ' h1 h')(l:Less h h1):Step ρ ρ' h h':=
 ⟨λm a=>s.old m (by rw [l.next];exact a),by rw [<-l.next];exact s.next⟩
theorem Step.aoB (s:Step ρ ρ' h h1)(l:Less h1 h'):Step ρ ρ' h h':=⟨s.old,by rw [l.next];exact s.next⟩
theorem CW.less (l:Less h h1)(c:CX pf G f args h1 Q Pn):CX pf G f args h Q Pn:=
 ⟨λR a b=>(c.out (l.rel R) a b).mono (λ_ _ ⟨v,h',ρ',q,s,r⟩=>⟨v,h',ρ',q,s.less l,r⟩) λ_ _ ⟨v,h',ρ',q,s,r⟩=>⟨v,h',ρ',q,s.less l,r⟩⟩
theorem CW.qp (c:CX pf G f args h (λv h'=>∃a,Less h' a/\Q v a) Pn):CX pf G f args h Q Pn:=
 ⟨λR b d=>(c.out R b d).mono (λ_ _ ⟨v,_h',ρ',⟨a,l,q⟩,s,r,R'⟩=>⟨v,a,ρ',q,s.aoB l,r,l.rel R'⟩) λ_ _ q=>q⟩
def OZ (B:Nat)(w0:World)(n:Nat)(ρ:bD)(h:H)(e:Ex)(a':A)(h':H)(Qw:Exit->Act->World->Prop):Prop:=∀ρ' A' w',Step ρ ρ' h h'->PR ρ' n a' A'->aA B w0 ρ' h' w'->Qw (adv e) A' w'
def BH (B:Nat)(w0:World)(n:Nat)(ρ:bD)(h:H)(a':A)(v:V)(h':H)(Qw:Exit->Act->World->Prop):Prop:=∀ρ' A' w' x,Step ρ ρ' h h'->PR ρ' n a' A'->RV ρ' v x->aA B w0 ρ' h' w'->Qw (.panic [{v:=x,recovered:=false}]) A' w'
theorem BH.trans {B:Nat} (p:BH B w0 n ρ h a' v h' Qw) (s:Step ρ ρ1 h h1):BH B w0 n ρ1 h1 a' v h' Qw:=
 λρ' A' w' x a=>p ρ' A' w' x (s.trans a)
structure Sm (pf:Unit->Program) (G n:Nat) (c:Code) (a:A) (h:H) (Q:Ex->A->H->Prop) (Pn:A->V->H->Prop):Prop where
 out:∀{B:Nat} {w0:World} {ρ:bD} {w:World} {x:Act} {Qw:Exit->Act->World->Prop},PR ρ n a x->GB (pf ()) B w0 ρ G->aA B w0 ρ h w->(∀e a' h',Q e a' h'->OZ B w0 n ρ h e a' h' Qw)->(∀a' v h',Pn a' v h'->BH B w0 n ρ h a' v h' Qw)->c.wp (pf ()) Qw x w
structure SmL (pf:Unit->Program) (G n:Nat) (c:Code) (a:A) (h:H) (Q:Ex->A->H->Prop) (Pn:A->V->H->Prop):Prop where
 out:∀{B:Nat} {w0:World} {ρ:bD} {w:World} {x:Act} {Qw:Exit->Act->World->Prop},PR ρ n a x->GB (pf ()) B w0 ρ G->aA B w0 ρ h w->(∀e a' h',Q e a' h'->OZ B w0 n ρ h e a' h' Qw)->(∀a' v h',Pn a' v h'->BH B w0 n ρ h a' v h' Qw)->sV (pf ()) c Qw x w
structure SmO (pf:Unit->Program) (G n:Nat) (ops:Array Oper) (l:List Oper) (a:A) (h:H) (K:A->H->Prop) (Pn:A->V->H->Prop):Prop where
 out:∀{B:Nat} {w0:World} {ρ:bD} {w:World} {x:Act} {Qw:Exit->Act->World->Prop},PR ρ n a x->GB (pf ()) B w0 ρ G->aA B w0 ρ h w->(∀a' h',K a' h'->OZ B w0 n ρ h .normal a' h' Qw)->(∀a' v h',Pn a' v h'->BH B w0 n ρ h a' v h' Qw)->wpList (pf ()) ops Qw l x w
theorem OZ.trans {B:Nat}{e:Ex} (p:OZ B w0 n ρ h e a' h' Qw) (s:Step ρ ρ1 h h1):OZ B w0 n ρ1 h1 e a' h' Qw:=
 λρ' A' w' a=>p ρ' A' w' (s.trans a)
variable {a:A} {Qe:Ex->A->H->Prop} {Px:A->V->H->Prop}
theorem Sm.skip (q:Qe .normal a h):Sm pf G n .skip a h Qe Px:=⟨λb _ R k _=>wp_skip (k _ _ _ q _ _ _ (Step.refl _ _) b R)⟩
theorem Sm.label {l:Nat}(q:Qe .normal a h):Sm pf G n (.label l) a h Qe Px:=⟨λb _ R k _=>wp_label (k _ _ _ q _ _ _ (Step.refl _ _) b R)⟩
theorem Sm.exit (q:Qe (.exit id) a h):Sm pf G n (.exit id) a h Qe Px:=⟨λb _ R k _=>wp_exit (k _ _ _ q _ _ _ (Step.refl _ _) b R)⟩
theorem Sm.ret (q:Qe .ret a h):Sm pf G n .ret a h Qe Px:=⟨λb _ R k _=>wp_ret (k _ _ _ q _ _ _ (Step.refl _ _) b R)⟩
theorem Sm.seq (s:Sm pf G n c1 a h (λe a' h'=>match e with | .normal=>Sm pf G n c2 a' h' Qe Px | e=>Qe e a' h') Px):Sm pf G n (.seq c1 c2) a h Qe Px:=
 ⟨λ{B w0 ρ w x Qw} j f R k g=>wp_seq (s.out j f R (λe a1 h1 q ρ1 A1 c m BB R1=>by
  cases e with
  | normal=>exact q.out BB (f.mono (m.ext R)) R1 (λe a' h' d=>(k e a' h' d).trans m) λa' v h' d=>(g a' v h' d).trans m
  | exit id=>exact k _ _ _ q ρ1 A1 c m BB R1
  | ret=>exact k _ _ _ q ρ1 A1 c m BB R1) λa' v h' q ρ1 A1 c i m BB l R1=>g a' v h' q ρ1 A1 c i m BB l R1)⟩
theorem Sm.block {c:Code}(s:Sm pf G n c a h (λe a' h'=>match e with | .exit i=>Qe (match Nat.beq i id with | true=>.normal | false=>.exit i) a' h' | e=>Qe e a' h') Px):Sm pf G n (.block id c) a h Qe Px:=
 ⟨λ{B w0 ρ w x Qw} j f R k m=>wp_block (s.out j f R (λe a1 h1 q ρ1 A1 b d BB R1=>by
  cases e with
  | normal=>exact k _ _ _ q ρ1 A1 b d BB R1
  | exit i=>
    show if i=id then Qw .normal A1 b else Qw (.exit i) A1 b
    have q:=k _ _ _ q ρ1 A1 b d BB R1;cases hb:Nat.beq i id with
    | true=>rw [hb] at q;rw [if_pos (Nat.eq_of_beq_eq_true hb)];exact q
    | false=>rw [hb] at q;rw [if_neg (λe=>by rw [e,Nat.beq_refl] at hb;cases hb)];exact q
  | ret=>exact k _ _ _ q ρ1 A1 b d BB R1) λa' v h' q ρ1 A1 b g d BB l R1=>m a' v h' q ρ1 A1 b g d BB l R1)⟩
theorem PR.eval {C:CE}{x:Act}(r:PR ρ C.n a x)(b:gM ρ C.G){y:Operand}{d:X}(e:ay C y=some d)(c:d.VI a.tmps=some v):RV ρ v (x.eval y):=by
 obtain ⟨tm,s,k⟩:=r.out;have:=aw (C:=C) k.tmps b e;rw [qz s c] at this;exact this
theorem Sm.cond {c:Operand}{d:X}(j:ay ⟨pf (),G,n⟩ c=some d){b:Bool}(l:d.VI a.tmps=some (.bool b))(s:match b with | true=>Sm pf G n c1 a h Qe Px | false=>Sm pf G n c2 a h Qe Px):Sm pf G n (.cond c c1 c2) a h Qe Px:=
 ⟨λ{B w0 ρ w x Qw} g f R k i=>by
  have r:=PR.eval (C:=⟨pf (),G,n⟩) g f.rel j l;have e:x.eval c = .bool b:=by generalize x.eval c=y at r;cases r;rfl
  cases b with
  | true=>exact wp_cond_true e (Sm.out s g f R k i)
  | false=>exact wp_cond_false e (Sm.out s g f R k i)⟩
theorem Sm.ops {id:Nat}{ops:Array Oper}(s:SmO pf G n ops ops.toList a h (λa' h'=>Qe .normal a' h') Px):Sm pf G n (.region id ops false) a h Qe Px:=
 ⟨λd b R k c=>wp_region_list (s.out d b R (λ_a' _h' q=>k _ _ _ q) c)⟩
theorem Sm.loop {c:Code}(s:SmL pf G n c a h Qe Px):Sm pf G n (.loop c) a h Qe Px:=⟨λe b R k d=>(s.out e b R k d).wp⟩
theorem SmL.rounds {c:Code}(I:Nat->A->H->Prop) (body:∀m a h,I m a h->Sm pf G n c a h (λe a' h'=>match e with | .normal=>∃d,d<m/\I d a' h' | e=>Qe e a' h') Px):∀m a h,I m a h->SmL pf G n c a h Qe Px:=by
 intro m;induction m using Nat.strongRecOn with
 | ind m ih=>
   intro a h t;refine ⟨λ{B w0 ρ w x Qw} p j R k l=>sV.of ((body m a h t).out p j R (λe a1 h1 q ρ1 A1 f u BB R1=>?_) λa' v h' q ρ1 A1 f o u BB s R1=>l a' v h' q ρ1 A1 f o u BB s R1)⟩;cases e with
   | normal=>
     obtain ⟨d,r,g⟩:=q;exact (ih d r a1 h1 g).out BB (j.mono (u.ext R)) R1 (λe a' h' i=>(k e a' h' i).trans u) λa' v h' i=>(l a' v h' i).trans u
   | exit id=>exact k _ _ _ q ρ1 A1 f u BB R1
   | ret=>exact k _ _ _ q ρ1 A1 f u BB R1
theorem Sm.weak {c:Code}(hs:agW tp' tp)(s:Sm pf G n c {tmps:=tp',defers:=ds} h Qe Px):Sm pf G n c {tmps:=tp,defers:=ds} h Qe Px:=
 ⟨λd a R k b=>s.out (d.weak hs) a R k b⟩
theorem Sm.mono {c:Code}{Qe':Ex->A->H->Prop} (s:Sm pf G n c a h Qe Px) (k:∀e a h,Qe e a h->Qe' e a h):Sm pf G n c a h Qe' Px:=
 ⟨λg b R d f=>s.out g b R (λe a' h' q=>d e a' h' (k _ _ _ q)) f⟩
end
end Go.Dx
