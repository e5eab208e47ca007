/-
  The sequencer's laws. Part ZAL of the proof: The deterministic machine over labels against the model: functions that are taken by what they do.
-/
import Derived.Laws.Externs
import Derived.Lib.MakeNoZero
import Derived.Lib.Bytealg
import Derived.OwnWalkIn
import Derived.RangeFuncSeq
import Derived.RangeFuncIn
import Derived.RangeFuncRecord
import Derived.Test.YteajeefphbjnmaaGreatDoorProg
import Derived.WalkKit
import Derived.LaidEql
import Derived.Stop.Asserts
import Derived.RowKitTokens
import Derived.Lib.AppendIntMem
import Derived.Shelf.Strconv.Itoa3
import Derived.Test.YteajeefphbjnmaaGreatDoorZAK
namespace Go.Dx
open Go Go.RowKit
structure cb (P:Program)(f:FuncId)(e:Array Value->Sem Value):Prop where
 at_:∃fn,P.funcs[f]? =some fn/\(fn.name == "runtime.NumGoroutine")=false/\fn.body.isNone=true/\Extern.findNext fn=none/\Extern.find fn=some e
def nA (P:Program)(G:Nat)(f:FuncId)(k:Ext):Prop:=∀{args:List V} {h:H} {v:V} {h':H},iV P k args h=some (v,h')->∀{B:Nat} {w0:World} {ρ:bE} {w:World} {xs:List Value},aA B w0 ρ h w->gv ρ G->cU ρ args xs->
 Good P f xs w λx w'=>∃ρ',Step ρ ρ' h h'/\RV ρ' v x/\aA B w0 ρ' h' w'
theorem ajd {P:Program}{G:Nat}{ids:List (FuncId×Ext)}(h:∀p∈ids,nA P G p.1 p.2):nq P G (acE P ids):=by
 intro f args h1 v h1' hr B w0 ρ w xs R hG hx;simp only [acE,ad] at hr;obtain ⟨k,hk,hr⟩:=hr;have:∀{l:List (FuncId×Ext)},DN l f=some k->(f,k)∈l:=by
  intro l;induction l with
  | nil=>intro h;simp [DN] at h
  | cons p l ih=>
    intro h;obtain ⟨g,k'⟩:=p;simp only [DN] at h;split at h
    ·rename_i he
     cases h;rw [Nat.eq_of_beq_eq_true he];exact List.mem_cons_self ..
    ·exact List.mem_cons_of_mem _ (ih h)
 exact h _ (this hk) hr R hG hx
section
variable {P:Program} {G:Nat} {f:FuncId} {B:Nat} {w0:World} {ρ:bE} {h h':H} {w:World}
theorem cb.good {e:Array Value->Sem Value} (E:cb P f e) {xs:List Value} {x:Value} {w':World} {R:Value->World->Prop} (hr:(e ⟨xs⟩).run P w = .ok x w') (hR:R x w'):Good P f xs w R:=by
 obtain ⟨fn,h1,h2,h3,h4,h5⟩:=E.at_;refine .inl ⟨x,w',?_,hR⟩;rw [run_callFunc_extern h1 h2 h3 h4 h5,hr];rfl
theorem zq {m:Mark}(E:cb P f λ_=>do mark m;pure Extern.Race.none_):nA P G f .nop:=by
 intro args h v h' hr B w0 ρ w xs R hG hx;simp only [iV] at hr;split at hr
 ·cases hr;cases hx
  exact E.good (x:=Extern.Race.none_) (w':=w) (by simp) ⟨ρ,Step.refl _ _,.tuple .nil,R⟩
 ·cases hr
theorem DP {m:Addr->Mark} (E:cb P f (Extern.Race.marked m)):nA P G f .mark:=by
 intro args h v h' hr B w0 ρ w xs R hG hx;simp only [iV] at hr;split at hr
 ·cases hr
  obtain ⟨x,rfl,rx⟩:=hx.one;obtain ⟨b,hb,rfl⟩:=dP rx;exact E.good (x:=Extern.Race.none_) (w':=w) (by simp [Extern.Race.marked,Extern.Race.at_]) ⟨ρ,Step.refl _ _,.tuple .nil,R⟩
 ·cases hr
theorem SM (E:cb P f Extern.AbiNoEscape.same):nA P G f .same:=by
 intro args h v h' hr B w0 ρ w xs R hG hx;simp only [iV] at hr;split at hr
 ·cases hr
  obtain ⟨x,rfl,rx⟩:=hx.one;exact E.good (x:=x) (w':=w) rfl ⟨ρ,Step.refl _ _,rx,R⟩
 ·cases hr
theorem Zg (E:cb P f Extern.MapsClone.clone):nA P G f .clone:=by
 intro args h v h' hr B w0 ρ w xs R hG hx;simp only [iV] at hr;split at hr
 ·rename_i t r
  obtain ⟨x,rfl,rx⟩:=hx.one;obtain ⟨y,rfl,ry⟩:=sZ rx;obtain ⟨b,hb,rfl⟩:=kE ry;split at hr
  ·rename_i es c hg
   cases hr;obtain ⟨ms,NT,lP⟩:=R.Sn (P:=P) hb hg;have R':=R.add (o:=.map es c) (x:=.map ms c) (b:=dZ.mk w.heap.size 0 0 .nilFunc) rfl ⟨rfl,rfl⟩ ⟨ms,heap_alloc_new _,lP.mono (eI R.fresh)⟩;refine E.good (x:=.iface t (.map (some w.heap.size))) (w':=w.alloc (.map ms c)) ?_ ⟨_,Step.add _ _ _ _,.iface t (.map (aS _ _ _)),R'⟩;show (Extern.MapsClone.clone #[.iface t (.map (some b.block))]).run P w=_
   have PN:Extern.MapsClone.clone #[.iface t (.map (some b.block))]=(do
    let .map entries clock<-getObj b.block | stuck "maps.clone: a map expected"
    pure (.iface t (.map (some (<-newObj (.map entries clock)))))):=rfl
   rw [PN];simp [NT]
  ·cases hr
 ·cases hr
theorem Vw {ps:Array TypeId}{t et:TypeId}(ht:P.underlying t=some (.slice et))(E:cb P f (Extern.BytealgMakeNoZero.makeNoZero ps #[t])):nA P G f (.Vt et):=by
 intro args h v h' hr B w0 ρ w xs R hG hx;simp only [iV] at hr;split at hr
 ·rename_i n
  simp only [ag,Option.some.injEq,Prod.mk.injEq] at hr;obtain ⟨hn,rfl,rfl⟩:=hr;have hn:=Nat.le_of_ble_eq_true hn;obtain ⟨x,rfl,rx⟩:=hx.one;cases rx;obtain ⟨cs,c1,c2,_⟩:=Lib.run_makeNoZero (P:=P) w ps t et ht n (by omega);have R':=((R.drew).drew).row (vs:=[]) (xs:=[]) .nil cs.toList et 0 .yes;have e:(⟨[]++cs.toList⟩:Array Value)=cs:=by cases cs;rfl
  rw [e] at R';refine E.good c1 ⟨_,Step.add _ _ _ _,.sliceEnd 0 n 1 cs.size (aS _ _ _) c2 ?_,R'⟩;simp
 ·cases hr
theorem one_cell (R:aA B w0 ρ h w){l:Lb}{b:dZ}(hb:ρ l=some b){off:Nat}{v u:V}{x:Value}(hc:cellAt h l off=some v)(hs:eb h l off [u]=some h')(hx:RV ρ u x):
  ∃y,RV ρ v y/\w.cell? ⟨b.block,b.base+off,none⟩=some y/\w.frozen? ⟨b.block,b.base+off,none⟩=false/\(∃e n,w.shape? b.block=some (e,n))/\aA B w0 ρ h' (w.setCell ⟨b.block,b.base+off,none⟩ x)/\h'.next=h.next:=by
 obtain ⟨s1,s2⟩:=R.store hb hs (.cons hx .nil);obtain ⟨vs,e,fz,own,vs',hg,ho,hf,gC,hp,rfl⟩:=jN hs;have c:dO ρ b vs e fz own w:=R.obj l b _ hb hg;simp only [cellAt,Q.ask,hg,dI] at hc;rw [dq,List.head?_drop] at hc;obtain ⟨y,y1,y2⟩:=c.cell off v hc;have hle:=jJ hp;have uH:=c.fits;simp only [List.length_cons,List.length_nil] at hle;exact ⟨y,y2,y1,c.free ho _ (by omega) (by omega),⟨_,_,c.shape⟩,s2,rfl⟩
theorem N7 (E:cb P f (Extern.Atomic.update (Op.intArith .add) .i32 true)):nA P G f .XO:=by
 intro args h v h' hr B w0 ρ w xs R hG hx;simp only [iV] at hr;split at hr
 ·rename_i l off y
  obtain ⟨x1,x2,rfl,r1,r2⟩:=hx.two;obtain ⟨b,hb,rfl⟩:=dP r1;cases r2;split at hr
  ·rename_i v0 hc
   simp only [ad,Option.some.injEq,Prod.mk.injEq] at hr;obtain ⟨h1,hs,rfl,rfl⟩:=hr;obtain ⟨c,c1,c2,c3,c4,c5,c6⟩:=one_cell R hb hc hs (.int .i32 _);cases c1;rw [eJ] at c5 ⊢;refine E.good (x:=.int .i32 (IntKind.i32.wrap (v0+y))) ?_ ⟨ρ,Step.same c6,.int _ _,c5⟩;show (Extern.Atomic.update (Op.intArith .add) .i32 true #[.pointer (some ⟨b.block,b.base+off,none⟩),.int .i32 y]).run P w=_
   have PN:Extern.Atomic.update (Op.intArith .add) .i32 true #[.pointer (some ⟨b.block,b.base+off,none⟩),.int .i32 y]=(do
    let a<-asAddr (.pointer (some ⟨b.block,b.base+off,none⟩))
    let old<-Extern.Atomic.read (.int .i32) a
    let new<-Op.intArith .add .i32 (<-asInt old) (<-asInt (.int .i32 y))
    store a new .atomic
    pure (if true then new else old)):=rfl
   rw [PN];simp [Extern.Atomic.read,asAddr,asInt,asIntOf,c2,c3,Op.intArith,run_store P w _ (.int .i32 (IntKind.i32.wrap (v0+y))) .atomic rfl]
  ·cases hr
 ·cases hr
theorem N8 (E:cb P f (Extern.Atomic.casT (.int .i32))):nA P G f .XN:=by
 intro args h v h' hr B w0 ρ w xs R hG hx;simp only [iV] at hr;split at hr
 ·rename_i l off x y
  cases hx with | cons r1 hx=>
  obtain ⟨x2,x3,rfl,r2,r3⟩:=hx.two;obtain ⟨b,hb,rfl⟩:=dP r1;cases r2;cases r3;split at hr
  ·rename_i v0 hc
   simp only [ag,ad,Option.some.injEq,Prod.mk.injEq] at hr;obtain ⟨he,h1,hs,rfl,rfl⟩:=hr;have he:v0=x:=by rw [bO] at he;simpa using he
   subst he;obtain ⟨c,c1,c2,c3,⟨e,n,c4⟩,c5,c6⟩:=one_cell R hb hc hs (.int .i32 y);cases c1;refine E.good (x:=.bool true) ?_ ⟨ρ,Step.same c6,.bool _,c5⟩;show (Extern.Atomic.casT (.int .i32) #[.pointer (some ⟨b.block,b.base+off,none⟩),.int .i32 v0,.int .i32 y]).run P w=_
   have PN:Extern.Atomic.casT (.int .i32) #[.pointer (some ⟨b.block,b.base+off,none⟩),.int .i32 v0,.int .i32 y]=(do
    let a<-asAddr (.pointer (some ⟨b.block,b.base+off,none⟩))
    if<-Extern.Atomic.touchesFrozen a then unsupported (.unsafePointer "a write to bytes that a string shares")
    let eq<-match Extern.Atomic.T.int .i32,<-Extern.Atomic.read (.int .i32) a,Value.int .i32 v0 with
     | _,.int _ x,.int _ y=>pure (x==y)
     | .ptr,.pointer x,.pointer y=>samePointer x y
     | .int _,.pointer (some _),.int _ 0 | .int _,.int _ 0,.pointer (some _)=>pure false
     | .int _,.pointer (some _),_ | .int _,_,.pointer (some _)=>unsupported .addressObserved
     | _,_,_=>stuck "atomic.CompareAndSwap: old is no T"
    if eq then store a (.int .i32 y) .atomic
    pure (.bool eq)):=rfl
   rw [PN];simp [Extern.Atomic.read,Extern.Atomic.touchesFrozen,asAddr,viewAt,c4,c2,c3,run_store P w _ (.int .i32 y) .atomic rfl]
  ·cases hr
 ·cases hr
theorem asj {t:ByteArray}{i:Nat}(h:i<t.size):t[i]! =(t.data.toList)[i]'(by simpa using h):=by
 rw [getElem!_pos t i h];rfl
theorem Hd (c:UInt8)(t:ByteArray):∀(l:List UInt8) (k:Nat),t.data.toList.drop k=l->fF c.toNat (l.map (·.toNat)) k=(match (List.range' k (t.size - k)).find? (λi=>t[i]! ==c) with | some i=>(i:Int) | none=>-1)
 | [],k,h=>by
   have:t.size<=k:=by
    have:=congrArg List.length h;simp at this;omega
   rw [show t.size - k=0 from by omega]
   rfl
 | b::l,k,h=>by
   have bA:k<t.size:=by
    have:=congrArg List.length h;simp at this;omega
   have hc:=List.drop_eq_getElem_cons (l:=t.data.toList) (i:=k) (by simpa using bA);rw [hc] at h
   injection h with hb hd
   have hb:t[k]! =b:=by rw [asj bA];exact hb
   rw [show t.size - k=(t.size - (k+1))+1 from by omega,List.range'_succ,List.find?_cons,hb];simp only [List.map_cons,fF]
   by_cases e:b=c
   ·subst e;simp
   ·have h1:(b==c)=false:=by simpa using e
    have h2:Nat.beq b.toNat c.toNat=false:=by
     rw [<-Bool.not_eq_true,Nat.beq_eq];exact λh=>e (UInt8.toNat_inj.1 h)
    rw [h1,h2];exact Hd c t l (k+1) hd
theorem MB (E:cb P f Extern.BytealgIndexByte.indexByte):nA P G f .indexByte:=by
 intro args h v h' hr B w0 ρ w xs R hG hx;simp only [iV] at hr;split at hr
 ·rename_i s c
  simp only [ag,Option.some.injEq,Prod.mk.injEq] at hr;obtain ⟨hc,rfl,rfl⟩:=hr;have hc:c<256:=by simpa using hc
  obtain ⟨x1,x2,rfl,r1,r2⟩:=hx.two;cases r1 with | str t=>
  cases r2;have hu:(UInt8.ofNat c).toNat=c:=by simp [Nat.mod_eq_of_lt hc]
  have key:=Hd (UInt8.ofNat c) t t.data.toList 0 rfl;rw [hu] at key;have hcc:((Int.ofNat c).toNat).toUInt8=UInt8.ofNat c:=rfl;refine E.good (x:=.int .i64 (fF c (ax t) 0)) (w':=w) ?_ ⟨ρ,Step.refl _ _,.int _ _,R⟩;have hk:fF c (ax t) 0=(match (List.range t.size).find? (λi=>t[i]! ==UInt8.ofNat c) with | some i=>(i:Int) | none=>-1):=by
   rw [List.range_eq_range'];exact key
  show (Extern.BytealgIndexByte.indexByte #[.string t,.int .u8 (Int.ofNat c)]).run P w=_
  have PN:Extern.BytealgIndexByte.indexByte #[.string t,.int .u8 (Int.ofNat c)]=(match (List.range t.size).find? (λi=>t[i]! ==UInt8.ofNat c) with
   | some i=>pure (goInt i)
   | none=>pure (goInt (-1)):Sem Value):=rfl
  rw [PN,hk];cases (List.range t.size).find? (λi=>t[i]! ==UInt8.ofNat c)<;>rfl
 ·cases hr
theorem Ki:∀a b:List UInt8,IG (a.map (·.toNat)) (b.map (·.toNat))=Lib.compareBytes a b
 | [],[]=>rfl
 | [],_::_=>rfl
 | _::_,[]=>rfl
 | a::x,b::y=>by
   have ih:=Ki x y;unfold IG at ih ⊢;simp only [List.map_cons,gq,eV];unfold Lib.compareBytes;have h1:Nat.blt a.toNat b.toNat=decide (a<b):=by
    rw [Bool.eq_iff_iff,decide_eq_true_iff,UInt8.lt_iff_toNat_lt];simp
   have h2:Nat.beq a.toNat b.toNat=(a==b):=by
    rw [Bool.eq_iff_iff,beq_iff_eq,Nat.beq_eq];exact UInt8.toNat_inj
   rw [h1,h2]
   by_cases e:a<b
   ·simp [e]
   ·by_cases e2:a=b
    ·subst e2
     simp [e];exact ih
    ·have e3:b<a:=by
      rw [UInt8.lt_iff_toNat_lt] at*;have:a.toNat≠b.toNat:=λh=>e2 (UInt8.toNat_inj.1 h);omega
     have e4:(a==b)=false:=by simpa using e2
     simp [e,e3,e4]
theorem He (E:cb P f Extern.BytealgCompare.compare):nA P G f .compare:=by
 intro args h v h' hr B w0 ρ w xs R hG hx;simp only [iV] at hr;split at hr
 ·cases hr
  obtain ⟨x1,x2,rfl,r1,r2⟩:=hx.two;cases r1 with | str t=>
  cases r2 with | str u=>
  refine E.good (Lib.run_compareString (P:=P) t u w) ⟨ρ,Step.refl _ _,?_,R⟩;have:=Ki t.data.toList u.data.toList;unfold ax;rw [this];exact .int _ _
 ·cases hr
theorem aA.junk (R:aA B w0 ρ h w)(o:Go.Obj):aA B w0 ρ h (w.alloc o):=
 ⟨λl b p hl hp=>(R.obj l b p hl hp).jh (jI.refl _) (heap_alloc_old o (R.obj l b p hl hp).lt),R.lt,R.base,R.inj,R.own,by rw [World.size_alloc];exact Nat.le_succ_of_le R.size,R.below.alloc R.size o⟩
theorem Good.iq {xs:List Value}{R:Value->World->Prop} {func:Func} {c:Code} (hf:P.funcs[f]? =some func) (hb:func.body=some c) (hn:(func.name == "runtime.NumGoroutine")=false) (h:Calls P f ⟨xs⟩ w λe w'=>∃v,e = .returned v/\R v w'):Good P f xs w R:=by
 refine .inr ⟨?_,h⟩;have hn:¬func.name = "runtime.NumGoroutine":=λe=>by rw [e] at hn;simp at hn
 unfold callFunc;simp [hf,hn,hb]
end
end Go.Dx
namespace Go.Dx
open Go Go.RowKit
section
variable {P:Program} {w:World}
theorem AY {t k e:TypeId}(ht:P.underlying t=some (.map k e)):(Instr.range t (.map none)).run P w = .ok (.pointer (some ⟨w.heap.size,0,none⟩)) (w.alloc (.mapIter none 0 #[] 0)):=by
 unfold Instr.range;simp [run_underlying ht]
theorem run_range_map {t k e:TypeId}(ht:P.underlying t=some (.map k e)){m:Nat}{es:Array MapEntry}{clock:Nat}(hm:w.heap[m]? =some (.map es clock)):
  (Instr.range t (.map (some m))).run P w = .ok (.pointer (some ⟨w.heap.size,0,none⟩)) (w.alloc (.mapIter (some m) clock #[] clock)):=by
 unfold Instr.range;have hg:(getObj m).run P w = .ok (.map es clock) w:=by simp [getObj,Sem.run,hm]
 simp [run_underlying ht,hg]
theorem DQ {r a b:Nat}{s:Array Nat}(hr:w.heap[r]? =some (.mapIter none a s b))(ty:TypeId):(Instr.next (.pointer (some ⟨r,0,none⟩)) false ty).run P w = .ok (.tuple #[.bool false]) w:=by
 unfold Instr.next;have hg:(getObj r).run P w = .ok (.mapIter none a s b) w:=by simp [getObj,Sem.run,hr]
 simp [hg]
theorem xU {r m since last clock:Nat}{s:Array Nat}(hr:w.heap[r]? =some (.mapIter (some m) since s last))(hm:w.heap[m]? =some (.map #[] clock))(ty:TypeId):
  (Instr.next (.pointer (some ⟨r,0,none⟩)) false ty).run P w = .ok (.tuple #[.bool false]) w:=by
 unfold Instr.next;have hg:(getObj r).run P w = .ok (.mapIter (some m) since s last) w:=by simp [getObj,Sem.run,hr]
 have Y6:(getObj m).run P w = .ok (.map #[] clock) w:=by simp [getObj,Sem.run,hm]
 have hf:(Question.mapNext 1).forced=true:=rfl;simp [hg,Y6,hf]
theorem Kj {r m since last clock:Nat}{en:MapEntry}(hr:w.heap[r]? =some (.mapIter (some m) since #[] last))(hm:w.heap[m]? =some (.map #[en] clock))(hb:en.born<since)(ty:TypeId):
  (Instr.next (.pointer (some ⟨r,0,none⟩)) false ty).run P w = .ok (.tuple #[.bool true,en.key,en.val]) (w.putObj r (.mapIter (some m) since #[en.born] clock)):=by
 unfold Instr.next;have hg:(getObj r).run P w = .ok (.mapIter (some m) since #[] last) w:=by simp [getObj,Sem.run,hr]
 have Y6:(getObj m).run P w = .ok (.map #[en] clock) w:=by simp [getObj,Sem.run,hm]
 have hf:(Question.mapNext 1).forced=true:=rfl;have G3:¬since<=en.born:=by omega
 simp [hg,Y6,hf,hb,G3,setObj,Sem.run,hr,World.putObj]
theorem MC {r m since last clock:Nat}{en:MapEntry}(hr:w.heap[r]? =some (.mapIter (some m) since #[en.born] last))(hm:w.heap[m]? =some (.map #[en] clock))(hb:en.born<last)(ty:TypeId):
  (Instr.next (.pointer (some ⟨r,0,none⟩)) false ty).run P w = .ok (.tuple #[.bool false]) w:=by
 unfold Instr.next;have hg:(getObj r).run P w = .ok (.mapIter (some m) since #[en.born] last) w:=by simp [getObj,Sem.run,hr]
 have Y6:(getObj m).run P w = .ok (.map #[en] clock) w:=by simp [getObj,Sem.run,hm]
 have hf:(Question.mapNext 1).forced=true:=rfl;have G3:¬last<=en.born:=by omega
 simp [hg,Y6,hf,G3]
theorem MD {r m since clock:Nat}{en:MapEntry}(hr:w.heap[r]? =some (.mapIter (some m) since #[en.born] clock))(hm:w.heap[m]? =some (.map #[en] clock)):
  (Instr.entry (.pointer (some ⟨r,0,none⟩))).run P w = .ok (.tuple #[en.key,en.val]) w:=by
 unfold Instr.entry;have hg:(getObj r).run P w = .ok (.mapIter (some m) since #[en.born] clock) w:=by simp [getObj,Sem.run,hr]
 have Y6:(getObj m).run P w = .ok (.map #[en] clock) w:=by simp [getObj,Sem.run,hm]
 simp [hg,Y6]
theorem iu (W:World)(l:Nat)(o:Go.Obj):W.grownBy (W.putObj l o) (some l):=
 ⟨rfl,rfl,rfl,by simp,λk _ hk=>World.putObj_heap_other (λe=>hk (by rw [e]))⟩
theorem iw {W:World}{B:Nat}{v:Value}{t:TypeId}(h:W.heap[B]? =some (.cells #[v] t (0,0))):W.cell? ⟨B,0,none⟩=some v/\W.frozen? ⟨B,0,none⟩=false:=by
 constructor<;>simp [World.cell?,World.frozen?,h]
theorem aA.DR {B:Nat}{w0:World}{ρ:bE}{h:H}{w':World}(R:aA B w0 ρ h w)(hb:Below w.heap.size w w'):aA B w0 ρ h w':=
 ⟨λl b o hl ho=>(R.obj l b o hl ho).jh (jI.refl _) (hb.block _ (R.obj l b o hl ho).lt),R.lt,R.base,R.inj,R.own,Nat.le_trans R.size hb.size,R.below.trans (hb.mono R.size)⟩
theorem aA.named {B:Nat}{w0:World}{ρ:bE}{h:H}{w':World}(R:aA B w0 ρ h w)(hb:Below w.heap.size w w'){o:Obj}{b:dZ}(SN:w.heap.size<=b.block)(fC:b.base=0/\b.val = .nilFunc)(ho:sf (uc ρ h.next b) b w' o):
  aA B w0 (uc ρ h.next b) (h.add o) w':=by
 have R':=R.DR hb;have E:=eI (b:=b) R.fresh;refine ⟨λm c p hm hp=>?_,λm c hm=>?_,λm c hm=>?_,λm n c d hm hn im U0 e=>?_,λm c p hm hp hw=>?_,R'.size,R'.below⟩
 ·by_cases e:m=h.next
  ·subst e
   rw [aS] at hm;cases hm;rw [H.kB] at hp;cases hp;exact ho
  ·rw [bW e] at hm
   rw [H.ed _ _ e] at hp;exact (R'.obj m c p hm hp).jh E rfl
 ·show val m<val (inc h.next)
  rw [iG]
  by_cases e:m=h.next
  ·subst e;omega
  ·rw [bW e] at hm;exact Nat.lt_succ_of_lt (R.lt m c hm)
 ·by_cases e:m=h.next
  ·subst e;rw [aS] at hm;cases hm;exact ⟨fC.1,.nil fC.2⟩
  ·rw [bW e] at hm;exact R.base m c hm
 ·by_cases e1:m=h.next
  ·by_cases e2:n=h.next
   ·rw [e1,e2]
   ·subst e1
    rw [aS] at hm;rw [bW e2] at hn;cases hm;rw [H.ed _ _ e2] at U0;obtain ⟨p,hp⟩:=Option.isSome_iff_exists.1 U0;have:=(R.obj n d p hn hp).lt;omega
  ·by_cases e2:n=h.next
   ·subst e2
    rw [aS] at hn;rw [bW e1] at hm;cases hn;rw [H.ed _ _ e1] at im;obtain ⟨p,hp⟩:=Option.isSome_iff_exists.1 im;have:=(R.obj m c p hm hp).lt;omega
   ·rw [bW e1] at hm
    rw [bW e2] at hn;rw [H.ed _ _ e1] at im;rw [H.ed _ _ e2] at U0;exact R.inj m n c d hm hn im U0 e
 ·by_cases e:m=h.next
  ·subst e
   rw [aS] at hm;cases hm;have:=R.size;omega
  ·rw [bW e] at hm
   rw [H.ed _ _ e] at hp;exact R.own m c p hm hp hw
structure asl (fn:FuncId)(a:Act)(ps:Array Tmp)(assign body:Code)(D:Nat)(L:Loop):Prop where
 state:L.state = .ready
 pending:L.pending=none
 fn:L.fn=fn
 tmps:L.tmps=a.tmps
 params:L.params=ps
 assign:L.assign=assign
 body:L.body=body
 defers:L.defers=D
theorem iW {g:Operand}{ps:Array Tmp}{assign body:Code}{Q:Exit->Act->World->Prop} {a:Act} {gf:Nat} {lb:Array Value} (hg:a.eval g = .func (.func gf) #[] lb) (eg:∀args w,(callFunc gf args).run P w = .ok (.enter gf args) w)
  (h:∀fn L,asl fn a ps assign body w.heap.size L->CallsIn Fence.wide 0 P gf (#[.func (.yield (w.heap.size+1)) #[] #[]]++lb) ((w.alloc (.deferred (some []))).alloc (.loop L)) λe W'=>
   (∃v,e = .returned v)/\W'.heap[w.heap.size+1]? =some (.loop L)/\
    Q .normal {a with defers:={target:=.collected w.heap.size,args:=#[]} ::a.defers} (W'.putObj (w.heap.size+1) (.loop {L with state:=.exhausted}))):
  (Code.rangeFunc g ps assign body).wpIn Fence.wide 0 P Q a w:=by
 refine wpIn_rangeFunc λfn _=>?_;obtain ⟨L,hL⟩:∃L,L=({state:=.ready,pending:=none,fn:=fn,tmps:=a.tmps,params:=ps,assign:=assign,body:=body,defers:=w.heap.size}:Loop):=⟨_,rfl⟩;have h:=h fn L (by subst hL;exact ⟨rfl,rfl,rfl,rfl,rfl,rfl,rfl,rfl⟩);have zl:L.state = .ready:=by rw [hL]
 have hpe:L.pending=none:=by rw [hL]
 obtain ⟨W1,hW1⟩:∃W1,W1=((w.alloc (.deferred (some []))).alloc (.loop L)):=⟨_,rfl⟩;rw [<-hW1] at h;refine ⟨w.heap.size+1,[{target:=.collected w.heap.size,args:=#[]}],W1,{target:=.fn (.func gf) lb,args:=#[.func (.yield (w.heap.size+1)) #[] #[]]},W1,gf,
  #[.func (.yield (w.heap.size+1)) #[] #[]]++lb,W1,?_,?_,λ_ _=>trivial,?_,?_,?_⟩
 ·rw [hW1,hL];exact run_enterLoop_outer _ _ _ _ _
 ·unfold resolve
  simp only [hg];simp [Act.eval,Deferred.ofValue]
 ·simp [invoke,go_sem,eg]
 ·intro e;exact absurd e (by simp [Fence.wide])
 ·simp only [List.cons_append,List.nil_append,Nat.zero_sub]
  refine h.mono λe W' hh=>?_;obtain ⟨⟨v,rfl⟩,h1,h2⟩:=hh;refine ⟨none,_,?_,h2⟩;have:=run_endLoop (P:=P) h1 (by rw [zl];exact λe=>by cases e);rw [this,hpe]
theorem zP {F:Fence}{n:Nat}{ops:Array Oper}{rest:List Oper}{o:Oper}{a:Act}{Q:Exit->Act->World->Prop} (hg:o.guard=none) (s x:Operand) (t u:TypeId)
  (lK:o.op=Op.call {callee:=Callee.builtin Builtin.append,args:=#[s,x],argTypes:=#[t,u]}) {sx xx y:Value} {w':World} (hs:a.eval s=sx) (hx:a.eval x=xx) (dW:(Builtin.append_ #[t,u] o.type #[sx,xx]).run P w = .ok y w')
  (hK:wpListIn F n P ops Q rest (a.put o.dst y) w'):wpListIn F n P ops Q (o::rest) a w:=by
 refine wpListIn_plain hg λK' hK'=>?_;unfold Oper.wpIn;refine ⟨?_,?_⟩
 ·simp [Oper.about,lK,resolve,Target.leads,Sem.run_pure]
 ·rw [Oper.semAt_plain F _ _ (by rw [lK];intro c Hb;cases Hb)]
  simp [execOp,lK,resolve,invoke,Go.builtin,hs,hx,dW,Result.andThen];exact hK' _ _ hK
theorem Kk {t e:TypeId}{i:TypeInfo}{z:Value}(ht:P.underlying t=some (.slice e))(hi:P.info? e=some i)(hz:i.zero=some z)(pV:z.cells.size=i.size)(hb:i.bytes<=1048576){src:Addr}{news:List Value}(hn:news.length=i.size)
  (hc:∀j v,news[j]? =some v->w.cell? (src.add j)=some v) (ty:TypeId):
  ∃g cap cur,(Builtin.append_ #[t,t] ty #[.slice none 0 0,.slice (some src) 1 1]).run P w = .ok (.slice (some ⟨g,0,none⟩) 1 cap) (w.drew.alloc (.cells cur e))/\g=w.heap.size/\cur.toList.take i.size=news/\cur.size=cap*i.size/\1<=cap:=by
 have hF:=NY (P:=P) (w:=w) t t ty e i z ht hi hz (.inl ⟨e,ht⟩) (.slice (some src) 1 1) 1 news (λw'=>rfl)
  (run_firstCells_some w i.size 1 _ 1 1 news (by omega) λj v hv=>hc j v hv) (run_firstCells_some w.drew i.size 1 _ 1 1 news (by omega) λj v hv=>by rw [World.cell?_drew];exact hc j v hv)
 have h2:=nextslicecap_le (need:=0+1) (old:=0) (by omega);have hg:=hF.grow none 0 0 [] (by omega) (run_firstCells_none w.drew _ 0 0 0) (by omega) (by omega) (by
  have:Builtin.nextslicecap (0+1) 0*i.bytes<=2*(0+1)*i.bytes:=Nat.mul_le_mul_right _ h2;omega)
 have jb:=grownCap_ge w (0+1) 0 e;refine ⟨w.heap.size,grownCap w (0+1) 0 e,_,hg,rfl,?_,?_,jb⟩
 ·simp [<-hn]
 ·have:=size_zeroCells z.cells (grownCap w (0+1) 0 e - (0+1))
  simp only [List.nil_append,Array.size_append,List.size_toArray,hn];rw [this,pV];have:grownCap w (0+1) 0 e=(grownCap w (0+1) 0 e - (0+1))+1:=by omega
  generalize grownCap w (0+1) 0 e - (0+1)=q at this ⊢;rw [this,Nat.add_mul];omega
end
end Go.Dx
namespace Go.Proofs
open Go.RowKit Go.Extern.Stop Go.Stop Go.Extern
theorem Tz.aje (t:Value)(w:World):Calls Tryz.prog 115 #[.nilIface,t] w λe w'=>e = .returned (.bool false)/\w'=w:=by
 go_enter Tryz.func115,Tryz.ntmps115
 go_wp2
 go_ret
 exact ⟨rfl,rfl⟩
theorem Tz.Zh (t:Addr)(w:World):(ReflectliteValue.unpack (.iface 199 (.pointer (some t)))).run Tryz.prog w
  = .ok (.agg #[.pointer (some ⟨7,199,none⟩),.pointer (some ⟨w.heap.size,0,none⟩),.int .u64 150]) (w.alloc (.cells #[.pointer (some t)] 199)):=by kernel_rfl
theorem Tz.type68 (a:Addr)(w:World):(ReflectliteValue.methodAny (ReflectliteValue.valueError "reflectlite.Value.Type" 0) (λt _ _ _=>ReflectliteType.toType t) #[.agg #[.pointer (some ⟨7,199,none⟩),.pointer (some a),.int .u64 150]]).run Tryz.prog w
  = .ok (.iface 324 (.agg #[.pointer (some ⟨7,199,none⟩)])) w:=by kernel_rfl
theorem Tz.Vx (h:Value)(w:World):(Go.method 546 324 (.agg #[h]) "Kind").run Tryz.prog w = .ok (343,h) w:=by kernel_rfl
theorem Tz.ajf (w:World):((ReflectliteType.abiMethod λt=>(λa:Nat=>Value.int IntKind.u8 (a:Int)) <$>Rtype.kind t) #[.pointer (some ⟨7,199,none⟩)]).run Tryz.prog w = .ok (.int .u8 22) w:=by kernel_rfl
theorem Tz.ajg (w:World):((ReflectliteType.abiMethod λt=>(λa:Nat=>Value.int IntKind.u8 (a:Int)) <$>Rtype.kind t) #[.pointer (some ⟨7,197,none⟩)]).run Tryz.prog w = .ok (.int .u8 25) w:=by kernel_rfl
theorem Tz.rlm (z:Sem Value)(f:TypeId->Addr->Nat->Nat->Sem Value) (v:Value):
  ReflectliteValue.method z f #[v]=(do match<-ReflectliteValue.parts v with | none=>z | some (t,a,fl)=>f t a fl (fl % 32)):=rfl
theorem Tz.XR (a:Addr)(w:World):(ReflectliteValue.parts (.agg #[.pointer (some ⟨7,199,none⟩),.pointer (some a),.int .u64 150])).run Tryz.prog w = .ok (some (199,a,150)) w:=by kernel_rfl
theorem Tz.afM (a p:Addr)(W:World)(ha:W.cell? a=some (.pointer (some p))):
  (ReflectliteValue.method (ReflectliteValue.valueError "reflectlite.Value.IsNil" 0) ReflectliteValue.isNil #[.agg #[.pointer (some ⟨7,199,none⟩),.pointer (some a),.int .u64 150]]).run Tryz.prog W = .ok (.bool false) W:=by
 rw [Tz.rlm];simp only [Sem.run_bind,Tz.XR,Result.andThen];simp [ReflectliteValue.isNil,loadVar,isAgg,underlying,Tryz.underlying199,ha,Result.andThen]
theorem Tz.Vy (h:Value)(w:World):(Go.method 546 324 (.agg #[h]) "Elem").run Tryz.prog w = .ok (359,.agg #[h]) w:=by kernel_rfl
theorem Tz.FK (h:Value)(w:World):(Go.method 546 324 (.agg #[h]) "Implements").run Tryz.prog w = .ok (360,.agg #[h]) w:=by kernel_rfl
theorem Tz.Cd (h:Value)(w:World):(Go.method 546 324 (.agg #[h]) "AssignableTo").run Tryz.prog w = .ok (357,.agg #[h]) w:=by kernel_rfl
theorem Tz.ajh (w:World):(ReflectliteType.method ReflectliteType.elem #[.agg #[.pointer (some ⟨7,199,none⟩)]]).run Tryz.prog w = .ok (.iface 324 (.agg #[.pointer (some ⟨7,197,none⟩)])) w:=by kernel_rfl
theorem Tz.PV (w:World):(ReflectliteType.relation "Implements" ReflectliteType.implements_ #[.agg #[.pointer (some ⟨7,197,none⟩)],.iface 324 (.agg #[.pointer (some ⟨7,112,none⟩)])]).run Tryz.prog w = .ok (.bool true) w:=by kernel_rfl
theorem Tz.acF (v:Value)(w:World):(ReflectliteType.typeOf #[.iface 197 v]).run Tryz.prog w = .ok (.iface 324 (.agg #[.pointer (some ⟨7,197,none⟩)])) w:=by kernel_rfl
theorem Tz.PW (w:World):(ReflectliteType.relation "AssignableTo" ReflectliteType.assignableTo #[.agg #[.pointer (some ⟨7,197,none⟩)],.iface 324 (.agg #[.pointer (some ⟨7,197,none⟩)])]).run Tryz.prog w = .ok (.bool true) w:=by kernel_rfl
theorem Tz.Zi (x y:Value)(w:World):(ReflectliteValue.unpack (.iface 197 (.agg #[x,y]))).run Tryz.prog w
  = .ok (.agg #[.pointer (some ⟨7,197,none⟩),.pointer (some ⟨w.heap.size,0,none⟩),.int .u64 153]) (w.alloc (.cells #[x,y] 197)):=by kernel_rfl
theorem Tz.acG (w:World):(Rtype.elem? 199).run Tryz.prog w = .ok (some 197) w:=by kernel_rfl
theorem Tz.asm (p:Addr)(w:World):(ReflectliteValue.mk 197 p ReflectliteValue.flagAddr).run Tryz.prog w = .ok (.agg #[.pointer (some ⟨7,197,none⟩),.pointer (some p),.int .u64 409]) w:=by kernel_rfl
theorem Tz.afN (a p:Addr)(W:World)(ha:W.cell? a=some (.pointer (some p))):
  (ReflectliteValue.method (ReflectliteValue.valueError "reflectlite.Value.Elem" 0) ReflectliteValue.elem #[.agg #[.pointer (some ⟨7,199,none⟩),.pointer (some a),.int .u64 150]]).run Tryz.prog W
   = .ok (.agg #[.pointer (some ⟨7,197,none⟩),.pointer (some p),.int .u64 409]) W:=by
 rw [Tz.rlm];simp only [Sem.run_bind,Tz.XR,Result.andThen];simp [ReflectliteValue.elem,loadVar,isAgg,underlying,Tryz.underlying199,ha,Result.andThen,Tz.acG,Tz.asm]
theorem Tz.acH (a:Addr)(w:World):(ReflectliteValue.parts (.agg #[.pointer (some ⟨7,197,none⟩),.pointer (some a),.int .u64 409])).run Tryz.prog w = .ok (some (197,a,409)) w:=by kernel_rfl
theorem Tz.afO (a:Addr)(w:World):(ReflectliteValue.parts (.agg #[.pointer (some ⟨7,197,none⟩),.pointer (some a),.int .u64 153])).run Tryz.prog w = .ok (some (197,a,153)) w:=by kernel_rfl
theorem Tz.acI (w:World):(Rtype.directlyAssignable 197 197).run Tryz.prog w = .ok true w:=by kernel_rfl
theorem Tz.rls (v x:Value):ReflectliteValue.set #[v,x]=(do
  let (some (dst,a,fl),some (src,b,_)):=(<-ReflectliteValue.parts v,<-ReflectliteValue.parts x)
   | unsupported (.noEntry "extern/(internal/reflectlite.Value).Set.zeroValue")
  if fl / ReflectliteValue.flagAddr % 2==0 then unsupported (.noEntry "extern/(internal/reflectlite.Value).Set.unaddressable")
  let val<-loadVar src b
  if<-Rtype.directlyAssignable dst src then storeVar dst a val
  else if<-Rtype.implements dst src then
   if (<-Rtype.kind src)==20 then
    match val with
    | .nilIface=>unsupported (.noEntry "extern/reflectlite: a nil value of one interface type handed on as a value of another")
    | _=>storeVar dst a val
   else storeVar dst a (.iface src val)
  else panicString ("reflectlite.Set: value of type " ++(<-Rtype.spelt src) ++ " is not assignable to type " ++(<-Rtype.spelt dst))
  pure (.tuple #[])):=rfl
theorem Tz.aji (w:World):(sizeOf 197).run Tryz.prog w = .ok 2 w:=by kernel_rfl
theorem Tz.anq (w:World):(isAgg 197).run Tryz.prog w = .ok true w:=by kernel_rfl
theorem Tz.anr (tb zr b:Nat)(x y:Value)(W:World)(hb:W.rangeAt b 0 [x,y])(ht:∀j,j<2->(W.cell? ⟨tb,zr+j,none⟩).isSome=true) (hf:∀j,j<2->W.frozen? ⟨tb,zr+j,none⟩=false) (hx:x.oneCell'=true) (hy:y.oneCell'=true):
  (ReflectliteValue.set #[.agg #[.pointer (some ⟨7,197,none⟩),.pointer (some ⟨tb,zr,none⟩),.int .u64 409],.agg #[.pointer (some ⟨7,197,none⟩),.pointer (some ⟨b,0,none⟩),.int .u64 153]]).run Tryz.prog W
   = .ok (.tuple #[]) (W.setCells tb zr [x,y]):=by
 have hl:(loadCells ⟨b,0,none⟩ 2).run Tryz.prog W = .ok #[x,y] W:=by
  have:=run_loadCells_list (P:=Tryz.prog) W ⟨b,0,none⟩ [x,y] (λj v hv=>by rw [Go.Dx.c8];exact hb j v hv);simpa using this
 have hs:(storeCells ⟨tb,zr,none⟩ [x,y]).run Tryz.prog W = .ok () (W.setCells tb zr [x,y]):=by
  have:=run_storeCells_cells (P:=Tryz.prog) tb zr [x,y] 0 W (by simpa using ht) (by simpa using hf) (by intro z hz;simp at hz;rcases hz with rfl | rfl<;>assumption);simpa using this
 rw [Tz.rls];simp only [Sem.run_bind,Tz.acH,Tz.afO,Result.andThen];simp [ReflectliteValue.flagAddr,loadVar,hl,Tz.acI,storeVar,hs,Value.cells]
end Go.Proofs
namespace Go.Proofs
open Go.RowKit Go.Extern.Stop Go.Stop Go.Extern
set_option maxRecDepth 100000 in
set_option maxHeartbeats 4000000 in
theorem Tz.asn (x y:Value)(hx:x.oneCell'=true)(hy:y.oneCell'=true)(tg:Value)(tb zr vb:Nat)(w:World)(hv:w.cell? ⟨vb,0,none⟩=some (.pointer (some ⟨tb,zr,none⟩)))(hvl:vb<w.heap.size)
  (ht:∀j,j<2->(w.cell? ⟨tb,zr+j,none⟩).isSome=true) (hf:∀j,j<2->w.frozen? ⟨tb,zr+j,none⟩=false):
  Calls Tryz.prog 187 #[.iface 197 (.agg #[x,y]),tg,.agg #[.pointer (some ⟨7,199,none⟩),.pointer (some ⟨vb,0,none⟩),.int .u64 150],.iface 324 (.agg #[.pointer (some ⟨7,197,none⟩)])] w
   λev w'=>ev = .returned (.bool true)/\w'=((w.alloc (.cells #[.pointer (some ⟨7,199,none⟩),.pointer (some ⟨vb,0,none⟩),.int .u64 150] 278)).alloc (.cells #[x,y] 197)).setCells tb zr [x,y]:=by
 have h6:=@run_callFunc_extern Tryz.prog 184 _ (λargs=>ReflectliteValue.unpack (args.getD 0 (.tuple #[]))) Tryz.func184 (by kernel_rfl) (by kernel_rfl) (by kernel_rfl) (by kernel_rfl);have vM:=@run_callFunc_extern Tryz.prog 234 _ ReflectliteType.typeOf Tryz.func234 (by kernel_rfl) (by kernel_rfl) (by kernel_rfl) (by kernel_rfl);have h35:=@run_callFunc_extern Tryz.prog 357 _ (ReflectliteType.relation "AssignableTo" ReflectliteType.assignableTo) Tryz.func357 (by kernel_rfl) (by kernel_rfl) (by kernel_rfl) (by kernel_rfl);have UN:=@run_callFunc_extern Tryz.prog 235 _ (ReflectliteValue.method (ReflectliteValue.valueError "reflectlite.Value.Elem" 0) ReflectliteValue.elem) Tryz.func235 (by kernel_rfl) (by kernel_rfl) (by kernel_rfl) (by kernel_rfl);have Ip:=@run_callFunc_extern Tryz.prog 236 _ ReflectliteValue.set Tryz.func236 (by kernel_rfl) (by kernel_rfl) (by kernel_rfl) (by kernel_rfl);have tO:=Tz.acF;have mA:=Tz.Cd;have a66:=Tz.PW;have v66:=Tz.Zi
 go_enter Tryz.func187,Tryz.ntmps187
 have el:=Tz.afN ⟨vb,0,none⟩ ⟨tb,zr,none⟩ (w.alloc (.cells #[.pointer (some ⟨7,199,none⟩),.pointer (some ⟨vb,0,none⟩),.int .u64 150] 278)) (by rw [World.cell?_alloc_lt _ _ ⟨vb,0,none⟩ hvl];exact hv);have Cc:tb<w.heap.size:=by
  have:=ht 0 (by omega);rcases Nat.lt_or_ge tb w.heap.size with h | h
  ·exact h
  ·simp [World.cell?,Array.getElem?_eq_none h] at this
 have st:=Tz.anr tb zr (w.heap.size+1) x y ((w.alloc (.cells #[.pointer (some ⟨7,199,none⟩),.pointer (some ⟨vb,0,none⟩),.int .u64 150] 278)).alloc (.cells #[x,y] 197)) (λj v hv=>by
   have:=Go.Dx.sW (w.alloc (.cells #[.pointer (some ⟨7,199,none⟩),.pointer (some ⟨vb,0,none⟩),.int .u64 150] 278)) #[x,y] 197 (0+j);rw [World.size_alloc] at this;rw [this,Nat.zero_add];simpa using hv)
  (λj hj=>by rw [World.cell?_alloc_lt _ _ ⟨tb,zr+j,none⟩ (by simp;omega),World.cell?_alloc_lt _ _ ⟨tb,zr+j,none⟩ Cc];exact ht j hj)
  (λj hj=>by rw [World.frozen?_alloc_old _ _ ⟨tb,zr+j,none⟩ (by simp;omega),World.frozen?_alloc_old _ _ ⟨tb,zr+j,none⟩ (Nat.ne_of_lt Cc)];exact hf j hj) hx hy
 go_wp2
 refine wp_loop_rounds 1 ?_;rw [rounds_succ]
 go_wp2
 go_ret
 exact ⟨rfl,rfl⟩
abbrev Tz.VV (vb:Nat):Obj:=.cells #[.pointer (some ⟨7,199,none⟩),.pointer (some ⟨vb,0,none⟩),.int .u64 150] 278
set_option maxRecDepth 100000 in
set_option maxHeartbeats 4000000 in
theorem Tz.ajj (x y:Value)(hx:x.oneCell'=true)(hy:y.oneCell'=true)(tb zr:Nat)(w:World)(hg:w.cell? ⟨0,0,none⟩=some (.iface 324 (.agg #[.pointer (some ⟨7,112,none⟩)])))
  (ht:∀j,j<2->(w.cell? ⟨tb,zr+j,none⟩).isSome=true) (hf:∀j,j<2->w.frozen? ⟨tb,zr+j,none⟩=false):
  Calls Tryz.prog 115 #[.iface 197 (.agg #[x,y]),.iface 199 (.pointer (some ⟨tb,zr,none⟩))] w λev w'=>ev = .returned (.bool true)/\
   w'=((((w.alloc (.cells #[.pointer (some ⟨tb,zr,none⟩)] 199)).alloc (Tz.VV w.heap.size)).alloc (Tz.VV w.heap.size)).alloc (.cells #[x,y] 197)).setCells tb zr [x,y]:=by
 have h6:=@run_callFunc_extern Tryz.prog 184 _ (λargs=>ReflectliteValue.unpack (args.getD 0 (.tuple #[]))) Tryz.func184 (by kernel_rfl) (by kernel_rfl) (by kernel_rfl) (by kernel_rfl);have h7:=@run_callFunc_extern Tryz.prog 185 _ (ReflectliteValue.methodAny (ReflectliteValue.valueError "reflectlite.Value.Type" 0) (λt _ _ _=>ReflectliteType.toType t)) Tryz.func185 (by kernel_rfl) (by kernel_rfl) (by kernel_rfl) (by kernel_rfl);have h8:=@run_callFunc_extern Tryz.prog 186 _ (ReflectliteValue.method (ReflectliteValue.valueError "reflectlite.Value.IsNil" 0) ReflectliteValue.isNil) Tryz.func186 (by kernel_rfl) (by kernel_rfl) (by kernel_rfl) (by kernel_rfl);have h27:=@run_callFunc_extern Tryz.prog 343 _ (ReflectliteType.abiMethod λt=>do pure (.int .u8 (<-Rtype.kind t))) Tryz.func343 (by kernel_rfl) (by kernel_rfl) (by kernel_rfl) (by kernel_rfl);have h37:=@run_callFunc_extern Tryz.prog 359 _ (ReflectliteType.method ReflectliteType.elem) Tryz.func359 (by kernel_rfl) (by kernel_rfl) (by kernel_rfl) (by kernel_rfl);have h38:=@run_callFunc_extern Tryz.prog 360 _ (ReflectliteType.relation "Implements" ReflectliteType.implements_) Tryz.func360 (by kernel_rfl) (by kernel_rfl) (by kernel_rfl) (by kernel_rfl);have f6:=Tz.Zh;have f7:=Tz.type68;have mK:=Tz.Vx;have mE:=Tz.Vy;have mI:=Tz.FK;have k68:=Tz.ajf;have k66:=Tz.ajg;have e68:=Tz.ajh;have i66:=Tz.PV;have bA:0<w.heap.size:=by
  rcases Nat.eq_zero_or_pos w.heap.size with h0 | h
  ·simp [World.cell?,h0] at hg
  ·exact h
 have Cc:tb<w.heap.size:=by
  have:=ht 0 (by omega);rcases Nat.lt_or_ge tb w.heap.size with h | h
  ·exact h
  ·simp [World.cell?,Array.getElem?_eq_none h] at this
 have n8:=Tz.afM ⟨w.heap.size,0,none⟩ ⟨tb,zr,none⟩ ((w.alloc (.cells #[.pointer (some ⟨tb,zr,none⟩)] 199)).alloc (Tz.VV w.heap.size)) (by rw [World.cell?_alloc_lt _ _ ⟨w.heap.size,0,none⟩ (by simp)];simp);have PX:((w.alloc (.cells #[.pointer (some ⟨tb,zr,none⟩)] 199)).alloc (Tz.VV w.heap.size)).cell? ⟨0,0,none⟩=some (.iface 324 (.agg #[.pointer (some ⟨7,112,none⟩)])):=by
  rw [World.cell?_alloc_lt _ _ ⟨0,0,none⟩ (by simp),World.cell?_alloc_lt _ _ ⟨0,0,none⟩ bA];exact hg
 have c61:=Tz.asn x y hx hy (.iface 199 (.pointer (some ⟨tb,zr,none⟩))) tb zr w.heap.size ((w.alloc (.cells #[.pointer (some ⟨tb,zr,none⟩)] 199)).alloc (Tz.VV w.heap.size))
  (by rw [World.cell?_alloc_lt _ _ ⟨w.heap.size,0,none⟩ (by simp)];simp) (by simp;omega)
  (λj hj=>by rw [World.cell?_alloc_lt _ _ ⟨tb,zr+j,none⟩ (by simp;omega),World.cell?_alloc_lt _ _ ⟨tb,zr+j,none⟩ Cc];exact ht j hj)
  (λj hj=>by rw [World.frozen?_alloc_old _ _ ⟨tb,zr+j,none⟩ (by simp;omega),World.frozen?_alloc_old _ _ ⟨tb,zr+j,none⟩ (Nat.ne_of_lt Cc)];exact hf j hj)
 go_enter Tryz.func115,Tryz.ntmps115
 go_wp2_with (go_at_call 187;refine c61.mono ?_;rintro e w' ⟨rfl,rfl⟩)
 go_ret
 exact ⟨rfl,rfl⟩
end Go.Proofs
namespace Go.Dx
open Go Go.RowKit
def afP (tp tm:T V):Prop:=∀p v,tp.get p=some v->tm.get p=some v
def gU (tp tm:T V):Prop:=∀p v,tp.get p=some v->bS tm p=v
theorem gU.set {tp tm:T V}(s:gU tp tm)(p:Lb)(v:V):gU (tp.set p (some v)) (tm.set p (some v)):=λq u hq=>by
 by_cases e:p=q
 ·subst e;rw [T.bg] at hq;rw [jj];exact Option.some.inj hq
 ·rw [T.br _ _ _ _ e] at hq;rw [jR _ _ e];exact s q u hq
theorem gU.refl (tm:T V):gU tm tm:=λp v e=>by unfold bS;rw [e]
structure PR (ρ:bE)(n:Nat)(a:A)(x:Act):Prop where
 out:∃tm,gU a.tmps tm/\oj ρ n {tmps:=tm,defers:=a.defers} x
theorem PR.mono {ρ ρ':bE}(e:jI ρ ρ'){n:Nat}{a:A}{x:Act}(r:PR ρ n a x):PR ρ' n a x:=
 let ⟨tm,s,k⟩:=r.out;⟨tm,s,k.mono e⟩
theorem PR.put {C:CE}{ρ:bE}{a:A}{x:Act}(r:PR ρ C.n a x){d:Option Tmp}{d':Option Lb}(hd:zg C d=some d'){v:V}{y:Value}(hv:RV ρ v y):PR ρ C.n (a.put d' v) (x.put d y):=by
 obtain ⟨tm,s,k⟩:=r.out;have k':=k.put hd hv;cases d' with
 | none=>exact ⟨tm,s,k'⟩
 | some p=>exact ⟨tm.set p (some v),s.set p v,k'⟩
theorem PR.weak {ρ:bE}{n:Nat}{tp tp':T V}{ds:List (FuncId×List V)}{x:Act}(r:PR ρ n {tmps:=tp,defers:=ds} x) (h:afP tp' tp):PR ρ n {tmps:=tp',defers:=ds} x:=
 let ⟨tm,s,k⟩:=r.out;⟨tm,λp v e=>s p v (h p v e),k⟩
def X.Vz (tp:T V):X->Option V
 | .t p=>tp.get p
 | .c v=>some v
theorem sr {tp tm:T V}(s:gU tp tm){x:X}{v:V}(h:x.Vz tp=some v):x.ev tm=v:=by
 cases x with
 | t p=>simp only [X.Vz] at h;exact s p v h
 | c u=>simp only [X.Vz,Option.some.injEq] at h;subst h;rfl
structure GB (P:Program)(B:Nat)(w0:World)(ρ:bE)(G:Nat):Prop where
 rel:gv ρ G
 pow:Lib.TabBelow P B w0 "internal/strconv.uint64pow10" .u64 Lib.pow10Tab
theorem GB.mono {P:Program}{B:Nat}{w0:World}{ρ ρ':bE}{G:Nat}(g:GB P B w0 ρ G)(e:jI ρ ρ'):GB P B w0 ρ' G:=⟨g.rel.mono e,g.pow⟩
def Kl (P:Program)(f:FuncId)(xs:List Value)(w:World)(R Rp:Value->World->Prop):Prop:=
 (∃v w',(callFunc f ⟨xs⟩).run P w = .ok (.value v) w'/\R v w')\/
 ((callFunc f ⟨xs⟩).run P w = .ok (.enter f ⟨xs⟩) w/\Calls P f ⟨xs⟩ w λe w'=>(∃v,e = .returned v/\R v w')\/∃v,e = .panicked [{v,recovered:=false}]/\Rp v w')
structure CX (pf:Unit->Program) (G:Nat) (f:FuncId) (args:List V) (h:H) (Q Pn:V->H->Prop):Prop where
 out:∀{B:Nat} {w0:World} {ρ:bE} {w:World} {xs:List Value},aA B w0 ρ h w->GB (pf ()) B w0 ρ G->cU ρ args xs->
  Kl (pf ()) f xs w (λx w'=>∃v h' ρ',Q v h'/\Step ρ ρ' h h'/\RV ρ' v x/\aA B w0 ρ' h' w') (λx w'=>∃v h' ρ',Pn v h'/\Step ρ ρ' h h'/\RV ρ' v x/\aA B w0 ρ' h' w')
abbrev CW (pf:Unit->Program) (G:Nat) (f:FuncId) (args:List V) (h:H) (Q:V->H->Prop):Prop:=CX pf G f args h Q λ_ _=>False
theorem Kl.mono {P:Program}{f:FuncId}{xs:List Value}{w:World}{R R' Rp Rp':Value->World->Prop} (g:Kl P f xs w R Rp) (h:∀v w',R v w'->R' v w') (hp:∀v w',Rp v w'->Rp' v w'):Kl P f xs w R' Rp':=by
 rcases g with ⟨v,w',a,b⟩ | ⟨a,b⟩
 ·exact .inl ⟨v,w',a,h _ _ b⟩
 ·refine .inr ⟨a,b.mono λe w' q=>?_⟩
  rcases q with ⟨v,e',r⟩ | ⟨v,e',r⟩
  ·exact .inl ⟨v,e',h _ _ r⟩
  ·exact .inr ⟨v,e',hp _ _ r⟩
theorem Good.x {P:Program}{f:FuncId}{xs:List Value}{w:World}{R Rp:Value->World->Prop} (g:Good P f xs w R):Kl P f xs w R Rp:=by
 rcases g with ⟨v,w',a,b⟩ | ⟨a,b⟩
 ·exact .inl ⟨v,w',a,b⟩
 ·exact .inr ⟨a,b.mono λe w' q=>.inl q⟩
theorem Kl.upon {P:Program}{f:FuncId}{xs:List Value}{w:World}{R Rp:Value->World->Prop} (g:Kl P f xs w R Rp) {o:Oper} {A:Act} {K:Act->World->Prop} {Q:Exit->Act->World->Prop} (hk:∀v w',R v w'->K (A.put o.dst v) w')
  (hp:∀v w',Rp v w'->Q (.panic [{v,recovered:=false}]) A w'):o.upon P A K Q ((callFunc f ⟨xs⟩).run P w):=by
 rcases g with ⟨v,w',hr,hR⟩ | ⟨hr,hc⟩
 ·rw [hr];exact hk v w' hR
 ·rw [hr]
  show Calls P f _ w _
  refine hc.mono λe w' he=>?_;rcases he with ⟨v,rfl,hR⟩ | ⟨v,rfl,hR⟩
  ·exact hk v w' hR
  ·exact hp v w' hR
theorem Good.mono {P:Program}{f:FuncId}{xs:List Value}{w:World}{R R':Value->World->Prop} (g:Good P f xs w R) (h:∀v w',R v w'->R' v w'):Good P f xs w R':=by
 rcases g with ⟨v,w',a,b⟩ | ⟨a,b⟩
 ·exact .inl ⟨v,w',a,h _ _ b⟩
 ·exact .inr ⟨a,b.mono λe w' ⟨v,e',r⟩=>⟨v,e',h _ _ r⟩⟩
section
variable {pf:Unit->Program} {G n:Nat} {f:FuncId} {args:List V} {h:H} {Q Q' Pn Pn':V->H->Prop}
theorem CX.ahI (c:CX pf G f args h Q Pn)(k:∀v h',Q v h'->Q' v h') (kp:∀v h',Pn v h'->Pn' v h'):CX pf G f args h Q' Pn':=
 ⟨λR hG hx=>(c.out R hG hx).mono (λ_ _ ⟨v,h',ρ',q,r⟩=>⟨v,h',ρ',k _ _ q,r⟩) λ_ _ ⟨v,h',ρ',q,r⟩=>⟨v,h',ρ',kp _ _ q,r⟩⟩
theorem CX.mono (c:CX pf G f args h Q Pn)(k:∀v h',Q v h'->Q' v h'):CX pf G f args h Q' Pn:=c.ahI k λ_ _ q=>q
theorem CW.mono (c:CW pf G f args h Q)(k:∀v h',Q v h'->Q' v h'):CX pf G f args h Q' Pn:=c.ahI k λ_ _ q=>q.elim
theorem CW.mk (c:∀{B:Nat} {w0:World} {ρ:bE} {w:World} {xs:List Value},aA B w0 ρ h w->GB (pf ()) B w0 ρ G->cU ρ args xs->Good (pf ()) f xs w λx w'=>∃v h' ρ',Q v h'/\Step ρ ρ' h h'/\RV ρ' v x/\aA B w0 ρ' h' w'):CW pf G f args h Q:=⟨λR hG hx=>(c R hG hx).x⟩
structure Less (h h':H):Prop where
 next:h'.next=h.next
 rel:∀{B:Nat} {w0:World} {ρ:bE} {w:World},aA B w0 ρ h w->aA B w0 ρ h' w
theorem Less.refl (h:H):Less h h:=⟨rfl,λR=>R⟩
theorem Less.trans {h h' DG:H}(a:Less h h')(b:Less h' DG):Less h DG:=⟨b.next.trans a.next,λR=>b.rel (a.rel R)⟩
theorem Step.less {ρ ρ':bE}{h h1 h':H}(s:Step ρ ρ' h1 h')(l:Less h h1):Step ρ ρ' h h':=
 ⟨λm hm=>s.old m (by rw [l.next];exact hm),by rw [<-l.next];exact s.next⟩
theorem Step.ans {ρ ρ':bE}{h h1 h':H}(s:Step ρ ρ' h h1)(l:Less h1 h'):Step ρ ρ' h h':=⟨s.old,by rw [l.next];exact s.next⟩
theorem CW.less {h1:H}(l:Less h h1)(c:CX pf G f args h1 Q Pn):CX pf G f args h Q Pn:=
 ⟨λR hG hx=>(c.out (l.rel R) hG hx).mono (λ_ _ ⟨v,h',ρ',q,s,r⟩=>⟨v,h',ρ',q,s.less l,r⟩) λ_ _ ⟨v,h',ρ',q,s,r⟩=>⟨v,h',ρ',q,s.less l,r⟩⟩
theorem CW.pQ (c:CX pf G f args h (λv h'=>∃h2,Less h' h2/\Q v h2) Pn):CX pf G f args h Q Pn:=
 ⟨λR hG hx=>(c.out R hG hx).mono (λ_ _ ⟨v,_h',ρ',⟨h2,l,q⟩,s,r,R'⟩=>⟨v,h2,ρ',q,s.ans l,r,l.rel R'⟩) λ_ _ q=>q⟩
def N9 (B:Nat)(w0:World)(n:Nat)(ρ:bE)(h:H)(e:Ex)(a':A)(h':H)(Qw:Exit->Act->World->Prop):Prop:=∀ρ' A' w',Step ρ ρ' h h'->PR ρ' n a' A'->aA B w0 ρ' h' w'->Qw (acr e) A' w'
def AZ (B:Nat)(w0:World)(n:Nat)(ρ:bE)(h:H)(a':A)(v:V)(h':H)(Qw:Exit->Act->World->Prop):Prop:=∀ρ' A' w' x,Step ρ ρ' h h'->PR ρ' n a' A'->RV ρ' v x->aA B w0 ρ' h' w'->Qw (.panic [{v:=x,recovered:=false}]) A' w'
theorem AZ.trans {n B:Nat}{w0:World}{ρ ρ1:bE}{h h1 h':H}{v:V}{a':A}{Qw:Exit->Act->World->Prop} (p:AZ B w0 n ρ h a' v h' Qw) (s:Step ρ ρ1 h h1):AZ B w0 n ρ1 h1 a' v h' Qw:=
 λρ' A' w' x s'=>p ρ' A' w' x (s.trans s')
structure Sm (pf:Unit->Program) (G n:Nat) (c:Code) (a:A) (h:H) (Q:Ex->A->H->Prop) (Pn:A->V->H->Prop):Prop where
 out:∀{B:Nat} {w0:World} {ρ:bE} {w:World} {x:Act} {Qw:Exit->Act->World->Prop},PR ρ n a x->GB (pf ()) B w0 ρ G->aA B w0 ρ h w->(∀e a' h',Q e a' h'->N9 B w0 n ρ h e a' h' Qw)->(∀a' v h',Pn a' v h'->AZ B w0 n ρ h a' v h' Qw)->c.wp (pf ()) Qw x w
structure SmL (pf:Unit->Program) (G n:Nat) (c:Code) (a:A) (h:H) (Q:Ex->A->H->Prop) (Pn:A->V->H->Prop):Prop where
 out:∀{B:Nat} {w0:World} {ρ:bE} {w:World} {x:Act} {Qw:Exit->Act->World->Prop},PR ρ n a x->GB (pf ()) B w0 ρ G->aA B w0 ρ h w->(∀e a' h',Q e a' h'->N9 B w0 n ρ h e a' h' Qw)->(∀a' v h',Pn a' v h'->AZ B w0 n ρ h a' v h' Qw)->sk (pf ()) c Qw x w
structure SmO (pf:Unit->Program) (G n:Nat) (ops:Array Oper) (l:List Oper) (a:A) (h:H) (K:A->H->Prop) (Pn:A->V->H->Prop):Prop where
 out:∀{B:Nat} {w0:World} {ρ:bE} {w:World} {x:Act} {Qw:Exit->Act->World->Prop},PR ρ n a x->GB (pf ()) B w0 ρ G->aA B w0 ρ h w->(∀a' h',K a' h'->N9 B w0 n ρ h .normal a' h' Qw)->(∀a' v h',Pn a' v h'->AZ B w0 n ρ h a' v h' Qw)->wpList (pf ()) ops Qw l x w
theorem N9.trans {B:Nat}{w0:World}{ρ ρ1:bE}{h1 h':H}{e:Ex}{a':A}{Qw:Exit->Act->World->Prop} (p:N9 B w0 n ρ h e a' h' Qw) (s:Step ρ ρ1 h h1):N9 B w0 n ρ1 h1 e a' h' Qw:=
 λρ' A' w' s'=>p ρ' A' w' (s.trans s')
variable {a:A} {Qe:Ex->A->H->Prop} {Px:A->V->H->Prop}
theorem Sm.skip (q:Qe .normal a h):Sm pf G n .skip a h Qe Px:=⟨λhA _ R k _=>wp_skip (k _ _ _ q _ _ _ (Step.refl _ _) hA R)⟩
theorem Sm.label {l:Nat}(q:Qe .normal a h):Sm pf G n (.label l) a h Qe Px:=⟨λhA _ R k _=>wp_label (k _ _ _ q _ _ _ (Step.refl _ _) hA R)⟩
theorem Sm.exit {id:Nat}(q:Qe (.exit id) a h):Sm pf G n (.exit id) a h Qe Px:=⟨λhA _ R k _=>wp_exit (k _ _ _ q _ _ _ (Step.refl _ _) hA R)⟩
theorem Sm.ret (q:Qe .ret a h):Sm pf G n .ret a h Qe Px:=⟨λhA _ R k _=>wp_ret (k _ _ _ q _ _ _ (Step.refl _ _) hA R)⟩
theorem Sm.seq {c1 c2:Code}(s:Sm pf G n c1 a h (λe a' h'=>match e with | .normal=>Sm pf G n c2 a' h' Qe Px | e=>Qe e a' h') Px):Sm pf G n (.seq c1 c2) a h Qe Px:=
 ⟨λ{B w0 ρ w x Qw} hA hG R k kx=>wp_seq (s.out hA hG R (λe a1 h1 q ρ1 A1 w1 s1 AU R1=>by
  cases e with
  | normal=>exact q.out AU (hG.mono (s1.ext R)) R1 (λe a' h' q'=>(k e a' h' q').trans s1) λa' v h' q'=>(kx a' v h' q').trans s1
  | exit id=>exact k _ _ _ q ρ1 A1 w1 s1 AU R1
  | ret=>exact k _ _ _ q ρ1 A1 w1 s1 AU R1) λa' v h' q ρ1 A1 w1 x1 s1 AU hx R1=>kx a' v h' q ρ1 A1 w1 x1 s1 AU hx R1)⟩
theorem Sm.block {c:Code}{id:Nat}(s:Sm pf G n c a h (λe a' h'=>match e with | .exit i=>Qe (match Nat.beq i id with | true=>.normal | false=>.exit i) a' h' | e=>Qe e a' h') Px):Sm pf G n (.block id c) a h Qe Px:=
 ⟨λ{B w0 ρ w x Qw} hA hG R k kx=>wp_block (s.out hA hG R (λe a1 h1 q ρ1 A1 w1 s1 AU R1=>by
  cases e with
  | normal=>exact k _ _ _ q ρ1 A1 w1 s1 AU R1
  | exit i=>
    show if i=id then Qw .normal A1 w1 else Qw (.exit i) A1 w1
    have q:=k _ _ _ q ρ1 A1 w1 s1 AU R1;cases hb:Nat.beq i id with
    | true=>rw [hb] at q;rw [if_pos (Nat.eq_of_beq_eq_true hb)];exact q
    | false=>rw [hb] at q;rw [if_neg (λe=>by rw [e,Nat.beq_refl] at hb;cases hb)];exact q
  | ret=>exact k _ _ _ q ρ1 A1 w1 s1 AU R1) λa' v h' q ρ1 A1 w1 x1 s1 AU hx R1=>kx a' v h' q ρ1 A1 w1 x1 s1 AU hx R1)⟩
theorem PR.eval {C:CE}{ρ:bE}{a:A}{x:Act}(r:PR ρ C.n a x)(hG:gv ρ C.G){y:Operand}{d:X}(hd:aw C y=some d){v:V}(hv:d.Vz a.tmps=some v):RV ρ v (x.eval y):=by
 obtain ⟨tm,s,k⟩:=r.out;have:=au (C:=C) k.tmps hG hd;rw [sr s hv] at this;exact this
theorem Sm.cond {c1 c2:Code}{c:Operand}{d:X}(hd:aw ⟨pf (),G,n⟩ c=some d){b:Bool}(hb:d.Vz a.tmps=some (.bool b))(s:match b with | true=>Sm pf G n c1 a h Qe Px | false=>Sm pf G n c2 a h Qe Px):Sm pf G n (.cond c c1 c2) a h Qe Px:=
 ⟨λ{B w0 ρ w x Qw} hA hG R k kx=>by
  have r:=PR.eval (C:=⟨pf (),G,n⟩) hA hG.rel hd hb;have e:x.eval c = .bool b:=by generalize x.eval c=y at r;cases r;rfl
  cases b with
  | true=>exact wp_cond_true e (Sm.out s hA hG R k kx)
  | false=>exact wp_cond_false e (Sm.out s hA hG R k kx)⟩
theorem Sm.ops {id:Nat}{ops:Array Oper}(s:SmO pf G n ops ops.toList a h (λa' h'=>Qe .normal a' h') Px):Sm pf G n (.region id ops false) a h Qe Px:=
 ⟨λhA hG R k kx=>wp_region_list (s.out hA hG R (λ_a' _h' q=>k _ _ _ q) kx)⟩
theorem Sm.loop {c:Code}(s:SmL pf G n c a h Qe Px):Sm pf G n (.loop c) a h Qe Px:=⟨λhA hG R k kx=>(s.out hA hG R k kx).wp⟩
theorem SmL.rounds {c:Code}(I:Nat->A->H->Prop) (body:∀m a h,I m a h->Sm pf G n c a h (λe a' h'=>match e with | .normal=>∃m',m'<m/\I m' a' h' | e=>Qe e a' h') Px):∀m a h,I m a h->SmL pf G n c a h Qe Px:=by
 intro m;induction m using Nat.strongRecOn with
 | ind m ih=>
   intro a h hI;refine ⟨λ{B w0 ρ w x Qw} hA hG R k kx=>sk.of ((body m a h hI).out hA hG R (λe a1 h1 q ρ1 A1 w1 s1 AU R1=>?_) λa' v h' q ρ1 A1 w1 x1 s1 AU hx R1=>kx a' v h' q ρ1 A1 w1 x1 s1 AU hx R1)⟩;cases e with
   | normal=>
     obtain ⟨m',hm,hI'⟩:=q;exact (ih m' hm a1 h1 hI').out AU (hG.mono (s1.ext R)) R1 (λe a' h' q'=>(k e a' h' q').trans s1) λa' v h' q'=>(kx a' v h' q').trans s1
   | exit id=>exact k _ _ _ q ρ1 A1 w1 s1 AU R1
   | ret=>exact k _ _ _ q ρ1 A1 w1 s1 AU R1
theorem Sm.weak {c:Code}{tp tp':T V}{ds:List (FuncId×List V)}(hs:afP tp' tp)(s:Sm pf G n c {tmps:=tp',defers:=ds} h Qe Px):Sm pf G n c {tmps:=tp,defers:=ds} h Qe Px:=
 ⟨λhA hG R k kx=>s.out (hA.weak hs) hG R k kx⟩
theorem Sm.mono {c:Code}{Qe':Ex->A->H->Prop} (s:Sm pf G n c a h Qe Px) (k:∀e a h,Qe e a h->Qe' e a h):Sm pf G n c a h Qe' Px:=
 ⟨λhA hG R k' kx=>s.out hA hG R (λe a' h' q=>k' e a' h' (k _ _ _ q)) kx⟩
end
end Go.Dx
