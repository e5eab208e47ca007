/-
  The sequencer's laws. Part ZAH of the proof: The deterministic machine over labels against the model: maps.
-/
import Derived.Test.YteajeefphbjnmaaGreatDoorZAG
namespace Go.Dx
open Go Go.RowKit
section
variable {P:Program} {B:Nat} {w0:World} {ρ ρ':bE} {h h':H} {w:World}
theorem pj.get {es:List (V×V×Nat)}{ms:List MapEntry}(r:pj ρ es ms):∀{i:Nat} {k v:V} {n:Nat},es[i]? =some (k,v,n)->∃m,ms[i]? =some m/\RV ρ k m.key/\RV ρ v m.val/\m.born=n:=by
 induction r with
 | nil=>intro i k v n h;simp at h
 | cons hk hv hn _ ih=>
   intro i k v n h;cases i with
   | zero=>simp at h;obtain ⟨rfl,rfl,rfl⟩:=h;exact ⟨_,rfl,hk,hv,hn⟩
   | succ i=>simp at h;simpa using ih h
theorem pj.push {es:List (V×V×Nat)}{ms:List MapEntry}(r:pj ρ es ms){k v:V}{m:MapEntry}{n:Nat}(hk:RV ρ k m.key)(hv:RV ρ v m.val)(hn:m.born=n):pj ρ (es++[(k,v,n)]) (ms++[m]):=by
 induction r with
 | nil=>exact .cons hk hv hn .nil
 | cons G6 Me Bj _ ih=>exact .cons G6 Me Bj ih
theorem pj.kr {es:List (V×V×Nat)}{ms:List MapEntry}(r:pj ρ es ms){k v:V}(f:MapEntry->MapEntry):∀{i:Nat},(∀m,ms[i]? =some m->RV ρ k (f m).key/\RV ρ v (f m).val/\(f m).born=m.born)->pj ρ (kr es i k v) (ms.modify i f):=by
 induction r with
 | nil=>intro i _;cases i<;>exact .nil
 | @cons k' v' n m es ms G6 Me Bj hs ih=>
   intro i hf;cases i with
   | zero=>
     obtain ⟨a,b,c⟩:=hf m rfl;simp only [Dx.kr,List.modify_cons];exact .cons a b (c.trans Bj) hs
   | succ i=>
     simp only [Dx.kr,List.modify_cons];rw [if_neg (by omega)];exact .cons G6 Me Bj (ih λm' dY=>hf m' (by simpa using dY))
theorem pj.erase {es:List (V×V×Nat)}{ms:List MapEntry}(r:pj ρ es ms):∀i,pj ρ (ni es i) (ms.eraseIdx i):=by
 induction r with
 | nil=>intro i;exact .nil
 | cons G6 Me Bj hs ih=>
   intro i;cases i with
   | zero=>exact hs
   | succ i=>exact .cons G6 Me Bj (ih i)
theorem pj.JE {es:List (V×V×Nat)}{ms:List MapEntry}(r:pj ρ es ms):∀{i:Nat} {m:MapEntry},ms[i]? =some m->JE es i=m.born:=by
 induction r with
 | nil=>intro i m h;simp at h
 | cons G6 Me Bj hs ih=>
   intro i m h;cases i with
   | zero=>simp at h;subst h;exact Bj.symm
   | succ i=>simp at h;exact ih h
theorem pj.uD {es:List (V×V×Nat)}{ms:List MapEntry}(r:pj ρ es ms){b:Nat}{v:V}{x:Value}(hv:RV ρ v x):∀{se:List (V×V×Nat)},uD es b v=some se->
  ∃i,ms.findIdx? (λe=>(e.born:Int)==(b:Int))=some i/\pj ρ se (ms.modify i λe=>{e with val:=x}):=by
 induction r with
 | nil=>intro se h;simp [Dx.uD] at h
 | @cons k' v' n m es ms G6 Me Bj hs ih=>
   intro se h;simp only [Dx.uD] at h;split at h
   ·rename_i hb
    cases h;have hb:n=b:=Nat.eq_of_beq_eq_true hb;refine ⟨0,by simp [List.findIdx?_cons,Bj,hb],?_⟩;simp only [List.modify_cons];exact .cons G6 hv Bj hs
   ·rename_i hb
    simp only [ad,Option.some.injEq] at h;obtain ⟨q,hq,rfl⟩:=h;obtain ⟨i,h1,h2⟩:=ih hq;have dj:¬n=b:=λe=>by rw [e] at hb;simp at hb
    refine ⟨i+1,?_,?_⟩
    ·have:((m.born:Int)==(b:Int))=false:=by
      rw [Bj];simp;omega
     simp [List.findIdx?_cons,this,h1]
    ·simp only [List.modify_cons]
     rw [if_neg (by omega)];exact .cons G6 Me Bj h2
theorem FD {pk:PK}{k:V}:∀{es:List (V×V×Nat)} {j:Nat} {v:V},rE pk k es=some (some (j,v))->∃k' n,es[j]? =some (k',v,n)/\gY pk k k'=some true
 | [],j,v,h=>by simp [rE] at h
 | (x,u,n)::es,j,v,h=>by
   simp only [rE,ad] at h;obtain ⟨b,hb,h⟩:=h;cases b with
   | true=>simp at h;obtain ⟨rfl,rfl⟩:=h;exact ⟨x,n,rfl,hb⟩
   | false=>
     simp only [ad,Option.some.injEq] at h;obtain ⟨q,hq,h⟩:=h;cases q with
     | none=>simp at h
     | some p=>
       simp at h;obtain ⟨rfl,rfl⟩:=h;obtain ⟨k',n',h1,h2⟩:=FD hq;exact ⟨k',n',by simpa using h1,h2⟩
theorem G9 {pk:PK}{k u:V}{x y:Value}(hk:RV ρ k x)(hu:RV ρ u y)(h:gY pk k u=some true)(n:Nat):Instr.sameBits n y x=true:=by
 rcases pN hk hu h with ⟨_,c,d,rfl,rfl,e⟩ | ⟨_,k',c,d,rfl,rfl,e⟩ | ⟨_,s,t,rfl,rfl,e⟩
 ·have:c=d:=by simpa using e.symm
  subst this;cases n<;>simp [Instr.sameBits]
 ·have:c=d:=by simpa using e.symm
  subst this;cases n<;>simp [Instr.sameBits]
 ·have e2:(t==s)=true:=by
   rw [bytes_beq] at e ⊢;have:s.data.toList=t.data.toList:=by simpa using e.symm
   simp [this]
  cases n<;>simp [Instr.sameBits,e2]
theorem G' {old new:Value}(h:Instr.sameBits 10000 old new=true):(Instr.keyThatStays old new).run P w = .ok new w:=by
 unfold Instr.keyThatStays;rw [if_pos h];rfl
theorem aA.pO (R:aA B w0 ρ h w){l:Lb}{b:dZ}{es:List (V×V×Nat)}{clock:Nat}(hl:ρ l=some b)(hg:h.get l=some (.map es clock)):
  ∃ms:Array MapEntry,pj ρ es ms.toList/\(∀P,(getObj b.block).run P w = .ok (.map ms clock) w)/\∀(se:List (V×V×Nat)) (ms':Array MapEntry) (c':Nat),pj ρ se ms'.toList->
   (∀P,(Go.setObj b.block (.map ms' c')).run P w = .ok () {w with heap:=w.heap.setIfInBounds b.block (.map ms' c')})/\aA B w0 ρ (h.set l (.map se c')) {w with heap:=w.heap.setIfInBounds b.block (.map ms' c')}:=by
 obtain ⟨ms,h1,h2⟩:=R.obj l b _ hl hg;refine ⟨ms,h2,λP=>by simp [getObj,Sem.run,h1],λse ms' c' hr=>⟨λP=>by simp [Go.setObj,Sem.run,h1],?_⟩⟩;exact R.setObj hl hg rfl λw' cG=>⟨ms',cG,hr⟩
theorem kD {m:V}{f:Lb->List (V×V×Nat)->Nat->Option (V×H)} {r:V×H} (h':gM h m f=some r):∃l es clock,m = .map l/\h.get l=some (.map es clock)/\f l es clock=some r:=by
 unfold gM at h';split at h'
 ·split at h'
  ·exact ⟨_,_,_,rfl,by assumption,h'⟩
  ·cases h'
 ·cases h'
theorem kE {l:Lb}{x:Value}(r:RV ρ (.map l) x):∃b,ρ l=some b/\x = .map (some b.block):=by
 cases r with | map h=>exact ⟨_,h,rfl⟩
theorem St {C:CE}{t:TypeId}:cE C (.makeMap t none) .makeMap:=by
 intro ρ tm A hT hG B w0 h w R v h' hr;cases hr;have R':=R.add (o:=.map [] 0) (x:=.map #[] 0) (b:=(dZ.mk w.heap.size 0 0 .nilFunc)) rfl ⟨rfl,rfl⟩ ⟨#[],heap_alloc_new _,.nil⟩;refine cE.ret (s:=Instr.makeMap t none) (Step.add _ _ _ _) (.map (aS _ _ _)) R' ?_ λp hp=>by unfold execOp;rw [hp];rfl
 simp [Instr.makeMap]
theorem AS {C:CE}{t kt et:TypeId}{m k x:Operand}{mx kx xx:X}(hu:C.P.underlying t=some (.map kt et))(hm:aw C m=some mx)(hk:aw C k=some kx)(hx:aw C x=some xx)
  {ρ:bE} {tm:T V} {A:Act} (hT:iU ρ C.n tm A.tmps) (hG:gv ρ C.G) (R:aA B w0 ρ h w) {v:V} (hr:(ED.mapUpdate (Fw C.P kt) mx kx xx).run tm h=some (v,h')):
  v=undef/\∃w',Step ρ ρ h h'/\aA B w0 ρ h' w'/\(Instr.mapUpdate t (A.eval m) (A.eval k) (A.eval x)).run C.P w = .ok () w':=by
 have rm:=au hT hG hm;have rk:=au hT hG hk;have rx:=au hT hG hx;simp only [ED.run,ag] at hr;obtain ⟨hpk,hr⟩:=hr;obtain ⟨d,DE,vS⟩:=IA hpk;obtain ⟨l,es,clock,e1,hg,hr⟩:=kD hr;rw [e1] at rm;obtain ⟨b,hb,Mw⟩:=kE rm;obtain ⟨ms,lP,dC,HT⟩:=R.pO hb hg;simp only [JF,ad,Option.some.injEq,Prod.mk.injEq] at hr;obtain ⟨o,⟨f,hf,ho⟩,rfl,rfl⟩:=hr;obtain ⟨f1,f2⟩:=uL vS rk lP hf 0;refine ⟨rfl,?_⟩;cases f with
 | none=>
   simp only [Option.some.injEq] at ho;subst ho;obtain ⟨c1,c2⟩:=HT (es++[(kx.ev tm,xx.ev tm,clock)]) (ms.push {key:=A.eval k,val:=A.eval x,born:=clock}) (clock+1) (by
    rw [Array.toList_push];exact lP.push rk rx rfl)
   refine ⟨_,Step.same rfl,c2,?_⟩;unfold Instr.mapUpdate;simp only [Sem.run_bind,run_underlying hu,Result.andThen_ok,Mw,dC,eK DE vS,eL DE (f1 rfl),c1]
 | some p=>
   obtain ⟨j,u⟩:=p;simp only [Option.some.injEq] at ho;subst ho;obtain ⟨en,g1,g2,g3⟩:=f2 j u rfl;obtain ⟨k',n,k1,k2⟩:=FD hf;obtain ⟨en',q1,q2,_,_⟩:=lP.get k1;rw [g1] at q1;cases q1;have hsb:=G9 rk q2 k2 10000;have NT:ms[j]? =some en:=by simpa using g1
   obtain ⟨c1,c2⟩:=HT (kr es j (kx.ev tm) (xx.ev tm)) (ms.modify j λe=>{e with key:=A.eval k,val:=A.eval x}) clock (by
    rw [Array.toList_modify];exact lP.kr _ λm _=>⟨rk,rx,rfl⟩)
   refine ⟨_,Step.same rfl,c2,?_⟩;unfold Instr.mapUpdate;have e0:0+j=j:=by omega
   rw [e0] at g3;simp only [Sem.run_bind,run_underlying hu,Result.andThen_ok,Mw,dC,eK DE vS,eL DE g3,NT,Option.map_some,Option.getD_some,G' hsb,c1]
theorem My {C:CE}{t kt et:TypeId}{m k x:Operand}{mx kx xx:X}(hu:C.P.underlying t=some (.map kt et))(hm:aw C m=some mx)(hk:aw C k=some kx)(hx:aw C x=some xx):cE C (.mapUpdate t m k x) (.mapUpdate (Fw C.P kt) mx kx xx):=by
 intro ρ tm A hT hG B w0 h w R v h' hr;obtain ⟨rfl,w',s1,s2,s3⟩:=AS hu hm hk hx hT hG R hr;exact cE.none s1 s2 s3 λp hp=>by unfold execOp;rw [hp]
theorem Vi {C:CE}{t kt et:TypeId}{m k x:Operand}{mx kx xx:X}(hu:C.P.underlying t=some (.map kt et))(hm:aw C m=some mx)(hk:aw C k=some kx)(hx:aw C x=some xx):cE C (.insert t m k x) (.mapUpdate (Fw C.P kt) mx kx xx):=by
 intro ρ tm A hT hG B w0 h w R v h' hr;obtain ⟨rfl,w',s1,s2,s3⟩:=AS hu hm hk hx hT hG R hr;exact cE.none s1 s2 s3 λp hp=>by unfold execOp;rw [hp]
theorem PB {C:CE}{t kt et:TypeId}{m k:Operand}{z:V}{mx kx:X}(hu:C.P.underlying t=some (.map kt et))(hz:fg C.P et=some z)(hm:aw C m=some mx)(hk:aw C k=some kx):cE C (.mapEntry t m k) (.mapEntry (Fw C.P kt) z mx kx):=by
 intro ρ tm A hT hG B w0 h w R v h' hr;have rm:=au hT hG hm;have rk:=au hT hG hk;obtain ⟨zx,FC,pV⟩:=fD (ρ:=ρ) hz;simp only [ED.run,ag] at hr;obtain ⟨hpk,hr⟩:=hr;obtain ⟨d,DE,vS⟩:=IA hpk;obtain ⟨l,es,clock,e1,hg,hr⟩:=kD hr;rw [e1] at rm;obtain ⟨b,hb,Mw⟩:=kE rm;obtain ⟨ms,lP,dC,HT⟩:=R.pO hb hg;simp only [ad] at hr;obtain ⟨f,hf,hr⟩:=hr;obtain ⟨f1,f2⟩:=uL vS rk lP hf 0;cases f with
 | none=>
   simp only [Option.some.injEq,Prod.mk.injEq] at hr;obtain ⟨rfl,rfl⟩:=hr;obtain ⟨c1,c2⟩:=HT (es++[(kx.ev tm,z,clock)]) (ms.push {key:=A.eval k,val:=zx,born:=clock}) (clock+1) (by
    rw [Array.toList_push];exact lP.push rk FC rfl)
   refine cE.ret (s:=Instr.mapEntry t (A.eval m) (A.eval k)) (Step.same rfl) (.tuple (.cons FC (.cons (.int .i64 _) .nil))) c2 ?_ λp hp=>by unfold execOp;rw [hp]
   unfold Instr.mapEntry;simp only [Sem.run_bind,run_underlying hu,Result.andThen_ok,Mw,dC,eK DE vS,eL DE (f1 rfl),pV,c1,Sem.run_pure]
   rfl
 | some p=>
   obtain ⟨j,u⟩:=p;simp only [Option.some.injEq,Prod.mk.injEq] at hr;obtain ⟨rfl,rfl⟩:=hr;obtain ⟨en,g1,g2,g3⟩:=f2 j u rfl;obtain ⟨k',n,k1,k2⟩:=FD hf;obtain ⟨en',q1,q2,_,_⟩:=lP.get k1;rw [g1] at q1;cases q1;have hsb:=G9 rk q2 k2 10000;have NT:ms[j]? =some en:=by simpa using g1
   obtain ⟨c1,c2⟩:=HT (kr es j (kx.ev tm) u) (ms.modify j λe=>{e with key:=A.eval k}) clock (by
    rw [Array.toList_modify];exact lP.kr _ λm hm=>by
     rw [g1] at hm;cases hm;exact ⟨rk,g2,rfl⟩)
   refine cE.ret (s:=Instr.mapEntry t (A.eval m) (A.eval k)) (Step.same rfl) (.tuple (.cons g2 (.cons (.int .i64 _) .nil))) c2 ?_ λp hp=>by unfold execOp;rw [hp]
   have e0:0+j=j:=by omega
   rw [e0] at g3;unfold Instr.mapEntry;simp only [Sem.run_bind,run_underlying hu,Result.andThen_ok,Mw,dC,eK DE vS,eL DE g3,NT,Option.map_some,Option.getD_some,G' hsb,c1,Sem.run_pure,lP.JE g1]
   rfl
theorem J3 {C:CE}{t:TypeId}{m s x:Operand}{mx sx xx:X}(hm:aw C m=some mx)(hs:aw C s=some sx)(hx:aw C x=some xx):cE C (.entryStore t m s x) (.entryStore mx sx xx):=by
 intro ρ tm A hT hG B w0 h w R v h' hr;have rm:=au hT hG hm;have rs:=au hT hG hs;have rx:=au hT hG hx;simp only [ED.run] at hr;obtain ⟨l,es,clock,e1,hg,hr⟩:=kD hr;rw [e1] at rm;obtain ⟨b,hb,Mw⟩:=kE rm;obtain ⟨ms,lP,dC,HT⟩:=R.pO hb hg;split at hr
 ·rename_i k n e2
  rw [e2] at rs;generalize Jg:A.eval s=sv at rs;cases rs;simp only [ad,Option.some.injEq,Prod.mk.injEq] at hr;obtain ⟨se,Y',rfl,rfl⟩:=hr;obtain ⟨i,i1,i2⟩:=lP.uD rx Y';obtain ⟨c1,c2⟩:=HT se (ms.modify i λe=>{e with val:=A.eval x}) clock (by rw [Array.toList_modify];exact i2);refine cE.none (s:=Instr.entryStore t (A.eval m) (A.eval s) (A.eval x)) (Step.same rfl) c2 ?_ λp hp=>by unfold execOp;rw [hp]
  have i1':ms.findIdx? (λe=>(e.born:Int)==(Int.ofNat n))=some i:=by
   rw [<-i1];cases ms;simp
  unfold Instr.entryStore;simp only [Sem.run_bind,Mw,Sem.run_pure,Result.andThen_ok,dC,Jg,asInt,asIntOf,i1',c1]
 ·cases hr
theorem PE {C:CE}{t kt et:TypeId}{y:Operand}{x:X}(hu:C.P.underlying t=some (.map kt et))(hx:aw C y=some x):cE C (.range t y) (.rangeMap x):=by
 intro ρ tm A hT hG B w0 h w R v h' hr;have r:=au hT hG hx;simp only [ED.run] at hr;generalize XF:A.eval y=yv at r;split at hr
 ·rename_i e1
  rw [e1] at r;cases r;cases hr;have R':=R.add (o:=.mapIter none 0 [] 0) (x:=.mapIter none 0 #[] 0) (b:=(dZ.mk w.heap.size 0 0 .nilFunc)) rfl ⟨rfl,rfl⟩ ⟨rfl,none,heap_alloc_new _,rfl⟩;refine cE.ret (s:=Instr.range t (.map none)) (Step.add _ _ _ _) (.ptr 0 (aS _ _ _)) R' ?_ λp hp=>by unfold execOp;rw [hp];simp only [XF]
  simp [Instr.range,run_underlying hu]
 ·rename_i l e1
  rw [e1] at r;obtain ⟨b,hb,rfl⟩:=kE r;split at hr
  ·rename_i es clock hg
   cases hr;obtain ⟨ms,lP,dC,_⟩:=R.pO hb hg;have R':=R.add (o:=.mapIter (some l) clock [] clock) (x:=.mapIter (some b.block) clock #[] clock) (b:=(dZ.mk w.heap.size 0 0 .nilFunc)) rfl ⟨rfl,rfl⟩ ⟨rfl,some b.block,heap_alloc_new _,b,eI R.fresh _ _ hb,rfl⟩;refine cE.ret (s:=Instr.range t (.map (some b.block))) (Step.add _ _ _ _) (.ptr 0 (aS _ _ _)) R' ?_ λp hp=>by unfold execOp;rw [hp];simp only [XF]
   simp [Instr.range,run_underlying hu,dC]
  ·cases hr
 ·cases hr
theorem PF {C:CE}{t:TypeId}{y:Operand}{x:X}(hu:C.P.underlying t=some .string)(hx:aw C y=some x):cE C (.range t y) (.Dt x):=by
 intro ρ tm A hT hG B w0 h w R v h' hr;have r:=au hT hG hx;simp only [ED.run] at hr;generalize XF:A.eval y=yv at r;split at hr
 ·rename_i s e1
  rw [e1] at r;cases r with | str u=>
  cases hr;have R':=R.add (o:=.uw (ax u) 0) (x:=.stringIter u 0) (b:=(dZ.mk w.heap.size 0 0 .nilFunc)) rfl ⟨rfl,rfl⟩ ⟨u,heap_alloc_new _,rfl,rfl⟩;refine cE.ret (s:=Instr.range t (.string u)) (Step.add _ _ _ _) (.ptr 0 (aS _ _ _)) R' ?_ λp hp=>by unfold execOp;rw [hp];simp only [XF]
  simp [Instr.range,run_underlying hu]
 ·cases hr
theorem N0 (n:Nat):∀l:List Nat,dp n l=l.contains n
 | []=>rfl
 | m::l=>by
   simp only [dp,List.contains_cons,N0 n l];rw [show Nat.beq n m=(n==m) from by rw [Bool.eq_iff_iff];simp]
theorem pj.left {es:List (V×V×Nat)}{ms:List MapEntry}(r:pj ρ es ms)(seen:List Nat):pj ρ (leftOf seen es) (ms.filter λe=>!seen.contains e.born):=by
 induction r with
 | nil=>exact .nil
 | @cons k v n m es ms G6 Me Bj hs ih=>
   simp only [leftOf,List.filter_cons,N0,Bj];cases hc:seen.contains n with
   | true=>simpa using ih
   | false=>simpa using pj.cons G6 Me Bj ih
theorem pj.ze {es:List (V×V×Nat)}{ms:List MapEntry}(r:pj ρ es ms)(n:Nat):ze n es=ms.all λe=>decide (e.born>=n):=by
 induction r with
 | nil=>rfl
 | @cons k v b m es ms G6 Me Bj hs ih=>
   simp only [Dx.ze,List.all_cons,ih,Bj]
   congr 1
   rw [Bool.eq_iff_iff];simp
theorem acn {C:CE}{y:Operand}{x:X}(hx:aw C y=some x):cE C (.next y false) (.next x):=by
 intro ρ tm A hT hG B w0 h w R v h' hr;have r:=au hT hG hx;simp only [ED.run] at hr;generalize XF:A.eval y=yv at r;split at hr
 ·rename_i l e1
  rw [e1] at r;obtain ⟨b,hb,rfl⟩:=dP r;have fC:=(R.base l b hb).1;have B0:∀(p:Oper),p.op = .next y false->execOp A.eval p=(do pure (.value (<-Instr.next (.pointer (some ⟨b.block,0,none⟩)) false p.type))):=λp hp=>by
   unfold execOp;rw [hp];simp only [XF,fC]
  have fin:∀{ρ':bE} {x:Value} {w':World},Step ρ ρ' h h'->RV ρ' v x->aA B w0 ρ' h' w'->(∀ty,(Instr.next (.pointer (some ⟨b.block,0,none⟩)) false ty).run C.P w = .ok x w')->
    ∃ρ' x w',Step ρ ρ' h h'/\RV ρ' v x/\aA B w0 ρ' h' w'/\∀p:Oper,p.op = .next y false->((execOp A.eval p).run C.P w = .ok (.value x) w'\/((execOp A.eval p).run C.P w = .ok .skip w'/\x=Go.undef)):=
   λs1 s2 s3 s4=>⟨_,_,_,s1,s2,s3,λp hp=>.inl (by rw [B0 p hp];simp [s4])⟩
  unfold ahw at hr;split at hr
  ·rename_i since seen last hg
   cases hr;obtain ⟨_,m',h1,h2⟩:=R.obj l b _ hb hg;simp only at h2;subst h2;refine fin (Step.refl _ _) (.tuple (.cons (.bool false) .nil)) R λty=>?_;unfold Instr.next;simp [getObj,Sem.run,h1]
  ·rename_i m since seen last hg
   obtain ⟨_,m',h1,c,hc,h2⟩:=R.obj l b _ hb hg;subst h2;split at hr
   ·rename_i es clock Y6
    obtain ⟨ms,NT,lP⟩:=R.Sn (P:=C.P) hc Y6;simp only [ag] at hr;obtain ⟨pX,hr⟩:=hr;have hit:(getObj b.block).run C.P w = .ok (.mapIter (some c.block) since ⟨seen⟩ last) w:=by simp [getObj,Sem.run,h1]
    have ai2:(!(⟨seen⟩:Array Nat).isEmpty && !ms.isEmpty&&ms.all λe=>decide (e.born>=last))=false:=by
     rw [lP.ze] at pX;cases ms with | mk ml=>
     have:es.isEmpty=ml.isEmpty:=by
      have:=lP.length;cases es<;>cases ml<;>simp at this ⊢
     simp only [this] at pX;simp only [List.isEmpty_toArray,List.all_toArray]
     revert pX
     cases seen.isEmpty<;>cases ml.isEmpty<;>cases (ml.all λe=>decide (e.born>=last))<;>simp
    have kF:=lP.left seen;have gC:(ms.filter λe=>!(⟨seen⟩:Array Nat).contains e.born).toList=ms.toList.filter λe=>!seen.contains e.born:=by
     rw [Array.toList_filter];congr 1;funext e;simp
    have ang:∀ty,(Instr.next (.pointer (some ⟨b.block,0,none⟩)) false ty).run C.P w=((do
      let left:=ms.filter λe=>!(⟨seen⟩:Array Nat).contains e.born
      let old:=left.filter λe=>decide (e.born<since)
      let new:=left.filter λe=>decide (e.born>=since)
      let candidates:=(if old.isEmpty then #[none] else #[])++(old++new).map some
      match candidates[<-choose (.mapNext candidates.size)]? with
      | some (some e)=>
        setObj b.block (.mapIter (some c.block) since ((⟨seen⟩:Array Nat).push e.born) clock)
        pure (.tuple #[.bool true,e.key,e.val])
      | some none=>pure (.tuple #[.bool false])
      | none=>stuck "Next: no such candidate"):Sem Value).run C.P w:=λty=>by
     unfold Instr.next;simp only [Sem.run_bind,hit,Result.andThen_ok,NT,ai2,Bool.false_eq_true,if_false]
     rfl
    split at hr
    ·rename_i hl
     cases hr;rw [hl] at kF;have h0:(ms.filter λe=>!(⟨seen⟩:Array Nat).contains e.born) = #[]:=by
      apply Array.ext';rw [gC];generalize ms.toList.filter (λe=>!seen.contains e.born)=L at kF;cases kF;rfl
     refine fin (Step.refl _ _) (.tuple (.cons (.bool false) .nil)) R λty=>?_;rw [ang ty,h0];have hf:(Question.mapNext 1).forced=true:=rfl;simp [hf]
    ·rename_i k u n hl
     simp only [ag,Option.some.injEq,Prod.mk.injEq] at hr;obtain ⟨hn,rfl,rfl⟩:=hr;have hn:n<since:=by simpa using hn
     rw [hl] at kF;obtain ⟨en,h0,rk,ru,aco⟩:∃en,(ms.filter λe=>!(⟨seen⟩:Array Nat).contains e.born) = #[en]/\RV ρ k en.key/\RV ρ u en.val/\en.born=n:=by
      generalize hL:ms.toList.filter (λe=>!seen.contains e.born)=L at kF;cases kF with
      | cons h1 h2 h3 h4=>
        cases h4;exact ⟨_,by apply Array.ext';rw [gC,hL],h1,h2,h3⟩
     have R2:=R.setObj (p:=.mapIter (some m) since (seen++[n]) clock) (x:=.mapIter (some c.block) since ((⟨seen⟩:Array Nat).push n) clock) hb hg rfl λw' cG=>⟨fC,some c.block,by rw [cG];simp,c,hc,rfl⟩;refine fin (Step.same rfl) (.tuple (.cons (.bool true) (.cons rk (.cons ru .nil)))) R2 λty=>?_;rw [ang ty,h0];have hf:(Question.mapNext 1).forced=true:=rfl;have Bj:¬since<=n:=by omega
     simp [aco,hn,Bj,hf,setObj,Sem.run,h1]
    ·cases hr
   ·cases hr
  ·cases hr
 ·cases hr
theorem PG {C:CE}{args:Array Operand}{ts:Array TypeId}{t kt et:TypeId}{rest:List TypeId}{x:X}(AQ:ts.toList=t::rest)(hu:C.P.underlying t=some (.map kt et))(hx:cD C args.toList=some [x]):
  cE C (.call {callee:=.builtin .clear,args:=args,argTypes:=ts}) (.qb x):=by
 intro ρ tm A hT hG B w0 h w R v h' hr;obtain ⟨y,hy,r⟩:=JT hx hT hG;simp only [ED.run] at hr;split at hr
 ·rename_i e1
  rw [e1] at r;cases r;cases hr;refine ⟨ρ,_,w,Step.refl _ _,.tuple .nil,R,λp hp=>.inl ?_⟩;rw [cv p hp,hy];simp [Go.builtin,Builtin.clear_,ql AQ,run_underlying hu]
 ·obtain ⟨l,es,clock,e1,hg,hr⟩:=kD hr
  rw [e1] at r;obtain ⟨b,hb,rfl⟩:=kE r;obtain ⟨ms,lP,dC,HT⟩:=R.pO hb hg;cases hr;obtain ⟨c1,c2⟩:=HT [] #[] clock .nil;refine ⟨ρ,_,_,Step.same rfl,.tuple .nil,c2,λp hp=>.inl ?_⟩;rw [cv p hp,hy];simp [Go.builtin,Builtin.clear_,ql AQ,run_underlying hu,dC,c1]
theorem Vj {C:CE}{args:Array Operand}{ts:Array TypeId}{t kt et:TypeId}{rest:List TypeId}{m k:X}(AQ:ts.toList=t::rest)(hu:C.P.underlying t=some (.map kt et))(hx:cD C args.toList=some [m,k]):
  cE C (.call {callee:=.builtin .delete,args:=args,argTypes:=ts}) (.delete (Fw C.P kt) m k):=by
 intro ρ tm A hT hG B w0 h w R v h' hr;obtain ⟨y1,y2,hy,r1,r2⟩:=JU hx hT hG;simp only [ED.run,ag] at hr;obtain ⟨hpk,hr⟩:=hr;obtain ⟨d,DE,vS⟩:=IA hpk;obtain ⟨l,es,clock,e1,hg,hr⟩:=kD hr;rw [e1] at r1;obtain ⟨b,hb,rfl⟩:=kE r1;obtain ⟨ms,lP,dC,HT⟩:=R.pO hb hg;simp only [ad] at hr;obtain ⟨f,hf,hr⟩:=hr;obtain ⟨f1,f2⟩:=uL vS r2 lP hf 0;cases f with
 | none=>
   simp only [Option.some.injEq,Prod.mk.injEq] at hr;obtain ⟨rfl,rfl⟩:=hr;obtain ⟨c1,c2⟩:=HT es ms clock lP;have Y':h.set l (.map es clock) = {h with t:=h.t.set l (some (.map es clock))}:=rfl;have R2:aA B w0 ρ h {w with heap:=w.heap.setIfInBounds b.block (.map ms clock)}:=by
    have hwb:w.heap[b.block]? =some (.map ms clock):=by
     have:=dC C.P;obtain ⟨ms',q1,q2⟩:=R.obj l b _ hb hg;simp [getObj,Sem.run,q1] at this;rw [q1,this]
    have:w.heap.setIfInBounds b.block (.map ms clock)=w.heap:=by
     apply Array.ext_getElem?;intro i;rw [Array.getElem?_setIfInBounds]
     by_cases hi:b.block=i
     ·subst hi
      rw [if_pos rfl,if_pos (mS hwb),hwb]
     ·rw [if_neg hi]
    rw [this];exact R
   refine ⟨ρ,_,_,Step.refl _ _,.tuple .nil,R2,λp hp=>.inl ?_⟩;rw [cv p hp,hy];simp [Go.builtin,Builtin.delete_,ql AQ,run_underlying hu,dC,eK DE vS,eL DE (f1 rfl),c1]
 | some p=>
   obtain ⟨j,u⟩:=p;simp only [Option.some.injEq,Prod.mk.injEq] at hr;obtain ⟨rfl,rfl⟩:=hr;obtain ⟨en,g1,g2,g3⟩:=f2 j u rfl;obtain ⟨c1,c2⟩:=HT (ni es j) (ms.eraseIdxIfInBounds j) clock (by rw [Array.toList_eraseIdxIfInBounds];exact lP.erase j);refine ⟨ρ,_,_,Step.same rfl,.tuple .nil,c2,λp hp=>.inl ?_⟩;rw [cv p hp,hy];have e0:0+j=j:=by omega
   rw [e0] at g3;simp [Go.builtin,Builtin.delete_,ql AQ,run_underlying hu,dC,eK DE vS,eL DE g3,c1]
end
end Go.Dx
namespace Go.Dx
open Go Go.RowKit
section
variable {P:Program} {B:Nat} {w0:World} {ρ ρ':bE} {h h':H} {w:World}
def acp (C:CE)(o:Op)(q:CD):Prop:=∀{ρ:bE} {tm:T V} {A:Act},iU ρ C.n tm A.tmps->gv ρ C.G->∀{f:FuncId} {vs:List V},q.args (dz C.P) tm=some (f,vs)->
 ∃xs:List Value,cU ρ vs xs/\∀p:Oper,p.op=o->∀w,(execOp A.eval p).run C.P w=(callFunc f ⟨xs⟩).run C.P w
def Zb (ρ:bE)(d:FuncId×List V)(e:Deferred):Prop:=∃xs cap:List Value,e.target = .fn (.func d.1) ⟨cap⟩/\e.args=⟨xs⟩/\cU ρ d.2 (xs++cap)
def XG (C:CE)(o:Op)(q:CD):Prop:=∀{ρ:bE} {tm:T V} {A:Act},iU ρ C.n tm A.tmps->gv ρ C.G->∀{f:FuncId} {vs:List V},q.args (dz C.P) tm=some (f,vs)->
 ∃e:Deferred,Zb ρ (f,vs) e/\∀p:Oper,p.op=o->∀w,(execOp A.eval p).run C.P w = .ok (.defer e) w
structure zo (C:CE)(o:Op)(q:ED):Prop where
 eff:cE C o q
 alloc:∀t cs,q = .alloc t cs->∃z,o = .alloc t/\fg C.P t=some z/\cs=z.cells
 row:∀e cs n,q = .cI e cs n->∃(t:TypeId) (ps:Array (Nat×Operand)) (size:Nat) (z:V) (l:List (Nat×X)) (_:Unit),o = .buildSlice t n ps/\C.P.underlying t=some (.slice e)/\cd C.P e=some size/\fg C.P e=some z/\n*size<=65536/\z.cells.length=size/\0<size/\
  eF C ps.toList=some l/\eW size l (aG z.cells n)=some cs
 bytes:∀e x,q = .cY e x->∃(s t:TypeId) (y:Operand),o = .convert s t y/\C.P.underlying s=some .string/\C.P.underlying t=some (.slice e)/\C.P.underlying e=some (.int .u8)/\aw C y=some x
theorem zo.of {C:CE}{o:Op}{q:ED}(h:cE C o q)(hn:∀t cs,q≠.alloc t cs) (hr:∀e cs n,q≠.cI e cs n) (hb:∀e x,q≠.cY e x):zo C o q:=
 ⟨h,λt cs e=>absurd e (hn t cs),λa b c e=>absurd e (hr a b c),λa b e=>absurd e (hb a b)⟩
theorem zo.ai3 {C:CE}{o:Op}{e:TypeId}{cs:List V}{n:Nat}(h:cE C o (.cI e cs n))(hr:∃(t:TypeId) (ps:Array (Nat×Operand)) (size:Nat) (z:V) (l:List (Nat×X)) (_:Unit),o = .buildSlice t n ps/\C.P.underlying t=some (.slice e)/\cd C.P e=some size/\fg C.P e=some z/\n*size<=65536/\z.cells.length=size/\0<size/\
  eF C ps.toList=some l/\eW size l (aG z.cells n)=some cs):zo C o (.cI e cs n):=
 ⟨h,nofun,λ_ _ _ q=>by cases q;exact hr,nofun⟩
def ai4 (C:CE)(o:Op):D->Prop
 | .Rm x=>MOk C o x
 | .p q=>BY C o q
 | .r q=>Sp C o q
 | .e q=>zo C o q
 | .c q=>acp C o q
 | .defer q=>XG C o q
 | .stuck=>True
theorem xN {args:Array Operand}{A:Act}:args.map A.eval=⟨args.toList.map A.eval⟩:=by apply Array.ext';simp
theorem qm {f:FuncId}{a b:List V}{x:Value}(r:RV ρ (.func f a b) x):∃a' b',x = .func (.func f) ⟨a'⟩ ⟨b'⟩/\cU ρ a a'/\cU ρ b b':=by
 cases r with | func _ ha hb=>exact ⟨_,_,rfl,ha,hb⟩
theorem sZ {t:TypeId}{v:V}{x:Value}(r:RV ρ (.iface t v) x):∃y,x = .iface t y/\RV ρ v y:=by
 cases r with | iface _ h=>exact ⟨_,rfl,h⟩
theorem afy {t:TypeId}{name:String}{f:FuncId}(hm:XB P t name=some f)(x:Value)(n:Nat):(method (n+1) t x name).run P w = .ok (f,x) w:=by
 simp only [XB,ad,ag] at hm;obtain ⟨i,hi,m,hf,hp,hm⟩:=hm;have hf':i.methods.find? (λm=>m.name==name)=some m:=by
  rw [<-Array.find?_toList];exact hf
 have hpl:m.path.toList=[]:=by simpa using hp
 unfold method;simp only [Sem.run_bind,typeInfo,run_program,Result.andThen_ok,hi,Sem.run_pure,hf',hpl,follow];split at hm
 ·rename_i g u hg hu
  cases hm;simp [hg,receiverAt,run_underlying hu,Place.get]
 ·cases hm
 ·rename_i g u hnp hg hu
  cases hm;simp only [hg,receiverAt,Sem.run_bind,run_underlying hu,Result.andThen_ok];cases u<;>first | (simp [Place.get];done) | (exfalso;exact hnp _ rfl)
 ·cases hm
theorem Zc {C:CE}{c:Call}{q:CD}(h:nk C c=some q):acp C (.call c) q:=by
 intro ρ tm A hT hG f vs hq;simp only [nk,ad] at h;obtain ⟨aGn,has,h⟩:=h;have ras:=mz hT hG has;have B0:∀(p:Oper),p.op = .call c->execOp A.eval p=(do let d<-resolve A.eval c p.type;invoke d.target d.args):=λp hp=>by unfold execOp;rw [hp]
 cases hc:c.callee with
 | value fx=>
   have key:∀{x:X},aw C fx=some x->q = .value x aGn->∃xs:List Value,cU ρ vs xs/\∀p:Oper,p.op = .call c->∀w,(execOp A.eval p).run C.P w=(callFunc f ⟨xs⟩).run C.P w:=λ{x} hx hqe=>by
    subst hqe;have r:=au hT hG hx;simp only [CD.args] at hq;split at hq
    ·rename_i g a b e
     cases hq;rw [e] at r;obtain ⟨a',b',hy,ra,rb⟩:=qm r;refine ⟨a'++c.args.toList.map A.eval++b',(ra.append ras).append rb,λp hp w=>?_⟩;rw [B0 p hp];simp [resolve,hc,hy,Deferred.ofValue,invoke,xN]
    ·cases hq
   cases fx with
   | func g=>
     simp only [hc,Option.some.injEq] at h;subst h;simp only [CD.args,Option.some.injEq,Prod.mk.injEq] at hq;obtain ⟨rfl,rfl⟩:=hq;refine ⟨c.args.toList.map A.eval,ras,λp hp w=>?_⟩;rw [B0 p hp];simp [resolve,hc,Act.eval,Deferred.ofValue,invoke,xN]
   | tmp t=>simp only [hc,ad,Option.some.injEq] at h;obtain ⟨x,hx,h⟩:=h;exact key hx h.symm
   | const v=>simp only [hc,ad,Option.some.injEq] at h;obtain ⟨x,hx,h⟩:=h;exact key hx h.symm
   | global g=>simp only [hc,ad,Option.some.injEq] at h;obtain ⟨x,hx,h⟩:=h;exact key hx h.symm
 | invoke r name=>
   simp only [hc,ad,Option.some.injEq] at h;obtain ⟨x,hx,rfl⟩:=h;have rr:=au hT hG hx;simp only [CD.args] at hq;split at hq
   ·rename_i t v e
    rw [e] at rr;obtain ⟨y,hy,ry⟩:=sZ rr;simp only [ad,Option.some.injEq,Prod.mk.injEq] at hq;obtain ⟨g,hg,rfl,rfl⟩:=hq;refine ⟨y::c.args.toList.map A.eval,.cons ry ras,λp hp w=>?_⟩;rw [B0 p hp];have hd:C.P.types.size+Made.depth=(C.P.types.size+(Made.depth - 1))+1:=rfl;have hm:=afy (P:=C.P) (w:=w) hg y (C.P.types.size+(Made.depth - 1));rw [<-hd] at hm;have ht:List.take c.args.size (List.map A.eval c.args.toList)=List.map A.eval c.args.toList:=List.take_of_length_le (by simp);simp [resolve,hc,hy,invoke,callMethod,hm,xN,ht]
   ·cases hq
 | builtin b=>simp only [hc] at h;cases h
theorem Vk {C:CE}{c:Call}{q:CD}{fx:Operand}(hc:c.callee = .value fx)(h:nk C c=some q):XG C (.defer c) q:=by
 intro ρ tm A hT hG f vs hq;simp only [nk,ad] at h;obtain ⟨aGn,has,h⟩:=h;have ras:=mz hT hG has;have B0:∀(p:Oper),p.op = .defer c->execOp A.eval p=(do pure (.defer (<-resolve A.eval c p.type))):=λp hp=>by unfold execOp;rw [hp]
 have key:∀{x:X},aw C fx=some x->q = .value x aGn->∃e:Deferred,Zb ρ (f,vs) e/\∀p:Oper,p.op = .defer c->∀w,(execOp A.eval p).run C.P w = .ok (.defer e) w:=λ{x} hx hqe=>by
  subst hqe;have r:=au hT hG hx;simp only [CD.args] at hq;split at hq
  ·rename_i g a b e
   cases hq;rw [e] at r;obtain ⟨a',b',hy,ra,rb⟩:=qm r;refine ⟨{target:=.fn (.func f) ⟨b'⟩,args:=⟨a'++c.args.toList.map A.eval⟩},⟨_,_,rfl,rfl,(ra.append ras).append rb⟩,λp hp w=>?_⟩;rw [B0 p hp];simp [resolve,hc,hy,Deferred.ofValue,xN]
  ·cases hq
 cases fx with
 | func g=>
   simp only [hc,Option.some.injEq] at h;subst h;simp only [CD.args,Option.some.injEq,Prod.mk.injEq] at hq;obtain ⟨rfl,rfl⟩:=hq;refine ⟨{target:=.fn (.func g) #[],args:=⟨c.args.toList.map A.eval⟩},⟨_,[],rfl,rfl,by simpa using ras⟩,λp hp w=>?_⟩;rw [B0 p hp];simp [resolve,hc,Act.eval,Deferred.ofValue,xN]
 | tmp t=>simp only [hc,ad,Option.some.injEq] at h;obtain ⟨x,hx,h⟩:=h;exact key hx h.symm
 | const v=>simp only [hc,ad,Option.some.injEq] at h;obtain ⟨x,hx,h⟩:=h;exact key hx h.symm
 | global g=>simp only [hc,ad,Option.some.injEq] at h;obtain ⟨x,hx,h⟩:=h;exact key hx h.symm
end
end Go.Dx
namespace Go.Dx
open Go Go.RowKit
section
variable {C:CE}
theorem J4 {s t:TypeId}{y:Operand}{x:X}{d:D}(hx:aw C y=some x)(h:ib C s t x=some d):ai4 C (.convert s t y) d:=by
 unfold ib at h;split at h
 ·rename_i k1 k hs ht
  cases h;exact ab' hs ht hx
 ·rename_i k hs ht
  cases h;exact U7 hs ht hx
 ·rename_i hs ht
  cases h;exact U8 hs ht hx
 ·rename_i e hs ht
  split at h
  ·rename_i he hn
   cases h;exact zo.mk (PA hs ht he hx) nofun nofun λe' x' q=>by cases q;exact ⟨_,_,_,rfl,hs,ht,he,hx⟩
  ·cases h
 ·rename_i e0 e hs ht
  split at h
  ·rename_i he
   simp only [ag,Option.some.injEq] at h;obtain ⟨zl,rfl⟩:=h;have zl:=Nat.eq_of_beq_eq_true zl;subst zl;exact zo.of (Mx hs ht he hx) nofun nofun nofun
  ·cases h
 ·rename_i e hs ht
  split at h
  ·rename_i he hn
   cases h;exact ace hs he ht hx
  ·cases h
 ·rename_i e hs ht
  split at h
  ·rename_i n hn
   cases h;exact Pt hs ht hn hx
  ·cases h
 ·rename_i u hs ht
  split at h
  ·rename_i n hn
   cases h;exact Pu hs ht hn hx
  ·cases h
 ·cases h
theorem IC {n:Nat}(h:Nat.blt 0 n=true):0<n:=by simpa using h
theorem J5 {b:Builtin}{args:Array Operand}{ts:Array TypeId}{xs:List X}{d:D}(hx:cD C args.toList=some xs)(h:ia C b ts.toList xs=some d):
  ai4 C (.call {callee:=.builtin b,args:=args,argTypes:=ts}) d:=by
 generalize AQ:ts.toList=tl at h;unfold ia at h;split at h
 ·rename_i x t rest
  split at h
  ·rename_i hu;cases h;exact Y2 AQ hu hx
  ·rename_i e hu;cases h;exact Sj AQ hu hx
  ·rename_i n e hu;cases h;exact Y3 AQ hu hx
  ·rename_i k e hu;cases h;exact Y5 AQ hu hx
  ·cases h
 ·rename_i x t rest
  split at h
  ·rename_i e hu;cases h;exact aiV AQ hu hx
  ·cases h
 ·cases h;exact aft hx
 ·cases h;exact afu hx
 ·cases h;exact Pq hx
 ·rename_i x n t u
  split at h
  ·rename_i e hu
   split at h
   ·rename_i he hn;cases h;exact zo.of (Mt AQ hu hn hx) nofun nofun nofun
   ·cases h
  ·cases h
 ·rename_i s x t u
  split at h
  ·rename_i e ud ht hu
   simp only [ad,ag,Bool.and_eq_true] at h;obtain ⟨size,hs,bytes,hb,z,hz,⟨⟨h0,fC⟩,NV⟩,h⟩:=h;have h0:=IC h0;have fC:=IC fC;have NV:=Nat.eq_of_beq_eq_true NV;split at h
   ·rename_i k;cases h;exact zo.of (HQ AQ ht hu hs hb hz h0 fC NV hx) nofun nofun nofun
   ·rename_i e';cases h;exact zo.of (J0 AQ ht (.inl ⟨_,hu⟩) hs hb hz h0 fC NV hx) nofun nofun nofun
   ·cases h;exact zo.of (J0 AQ ht (.inr hu) hs hb hz h0 fC NV hx) nofun nofun nofun
   ·cases h
  ·cases h
 ·rename_i dd s t rest
  split at h
  ·rename_i e hu
   simp only [ad,Option.some.injEq] at h;obtain ⟨size,hs,rfl⟩:=h;exact zo.of (acm AQ hu hs hx) nofun nofun nofun
  ·cases h
 ·rename_i x t rest
  split at h
  ·rename_i k e hu;cases h;exact zo.of (PG AQ hu hx) nofun nofun nofun
  ·cases h
 ·rename_i m k t rest
  split at h
  ·rename_i kt e hu;cases h;exact zo.of (Vj AQ hu hx) nofun nofun nofun
  ·cases h
 ·cases h
theorem s5 {o:Op}{d:D}(h:aj C o=some d):ai4 C o d:=by
 cases o with
 | move y=>simp only [aj,ad,Option.some.injEq] at h;obtain ⟨x,hx,rfl⟩:=h;exact afr hx
 | assign y=>simp only [aj,ad,Option.some.injEq] at h;obtain ⟨x,hx,rfl⟩:=h;exact YZ hx
 | pick c a b=>simp only [aj,ad,Option.some.injEq] at h;obtain ⟨x,hx,y,hy,z,hz,rfl⟩:=h;exact afs hx hy hz
 | build t ps=>
   simp only [aj,ad] at h;obtain ⟨z,hz,h⟩:=h;split at h
   ·rename_i fs hu
    simp only [ad,Option.some.injEq] at h;obtain ⟨pl,hp,l,hl,rfl⟩:=h;exact JW hu hz hp hl
   ·rename_i n e hu
    simp only [ad,Option.some.injEq] at h;obtain ⟨n,hn,l,hl,rfl⟩:=h;exact Sk hu hz hn hl
   ·cases h
 | nilCheck y=>simp only [aj,ad,Option.some.injEq] at h;obtain ⟨x,hx,rfl⟩:=h;exact Sb hx
 | binOp op t y z u=>simp only [aj,ad,Option.some.injEq] at h;obtain ⟨x,hx,x2,lH,rfl⟩:=h;exact aiU hx lH
 | unOp op t y=>simp only [aj,ad,Option.some.injEq] at h;obtain ⟨x,hx,rfl⟩:=h;exact am8 hx
 | convert s t y=>simp only [aj,ad] at h;obtain ⟨x,hx,h⟩:=h;exact J4 hx h
 | makeInterface t y=>
   simp only [aj] at h;split at h
   ·cases h
   ·rename_i dd hn hu
    simp only [ad,Option.some.injEq] at h;obtain ⟨x,hx,rfl⟩:=h;exact U6 hu (λms e=>hn ms e) hx
   ·cases h
 | makeFunc f a b=>
   cases f with
   | func f=>simp only [aj,ad,Option.some.injEq] at h;obtain ⟨x,hx,x2,lH,rfl⟩:=h;exact Y0 hx lH
   | _=>simp [aj] at h
 | slice t y lo hi mx=>
   simp only [aj,ad] at h;obtain ⟨x,hx,l,hl,hh,HP,m,hm,h⟩:=h;split at h
   ·rename_i hu
    split at h
    ·cases h
     cases mx with
     | none=>exact Sc hu hx hl HP
     | some q=>simp only [gJ,ad] at hm;obtain ⟨_,_,hm⟩:=hm;cases hm
    ·cases h
   ·rename_i e hu
    simp only [ad,ag,Option.some.injEq] at h;obtain ⟨n,hn,hd,rfl⟩:=h;exact aca hu hn hx hl HP hm hd
   ·rename_i n e hu
    simp only [ad,ag,Option.some.injEq] at h;obtain ⟨size,hn,hd,rfl⟩:=h;exact Se hu hn hx hl HP hm hd
   ·cases h
 | fieldAddr t y f=>
   simp only [aj] at h;split at h
   ·rename_i fs hu
    simp only [ad,ag,Option.some.injEq] at h;obtain ⟨fd,hf,n,hn,h0,x,hx,rfl⟩:=h;exact Pm hu hf hn h0 hx
   ·cases h
 | field t y f=>
   simp only [aj] at h;split at h
   ·rename_i fs hu
    simp only [ad,Option.some.injEq] at h;obtain ⟨fd,hf,rd,uI,x,hx,rfl⟩:=h;exact acb hu hf uI hx
   ·cases h
 | indexAddr t y i=>
   simp only [aj,ad] at h;obtain ⟨x,hx,j,hj,h⟩:=h;split at h
   ·rename_i e hu
    simp only [ad,Option.some.injEq] at h;obtain ⟨n,hn,rfl⟩:=h;exact Po hu hn hx hj
   ·rename_i n e hu
    simp only [ad,Option.some.injEq] at h;obtain ⟨size,hn,rfl⟩:=h;exact Sg hu hn hx hj
   ·cases h
 | index t y i=>
   simp only [aj,ad] at h;obtain ⟨x,hx,j,hj,h⟩:=h;split at h
   ·rename_i hu;cases h;exact Sh hu hx hj
   ·rename_i n e hu
    simp only [ad,Option.some.injEq] at h;obtain ⟨size,hn,rd,uI,rfl⟩:=h;exact Si hu hn uI hx hj
   ·cases h
 | typeAssert y xt t ok=>
   simp only [aj,ad] at h;obtain ⟨x,hx,z,hz,h⟩:=h;split at h
   ·rename_i want hu;cases h;exact Vd hu hz hx
   ·rename_i dd hn hu;cases h;exact Vb hu (λms e=>hn ms e) hz hx
   ·cases h
 | entry y=>simp only [aj,ad,Option.some.injEq] at h;obtain ⟨x,hx,rfl⟩:=h;exact acf hx
 | extract y i=>simp only [aj,ad,Option.some.injEq] at h;obtain ⟨x,hx,rfl⟩:=h;exact Ve hx
 | load t y=>simp only [aj,ad,Option.some.injEq] at h;obtain ⟨rd,uI,x,hx,rfl⟩:=h;exact afw uI hx
 | lookup t m k ok=>
   simp only [aj,ad] at h;obtain ⟨x,hx,j,hj,h⟩:=h;split at h
   ·rename_i kt et hu
    simp only [ad,Option.some.injEq] at h;obtain ⟨z,hz,rfl⟩:=h;exact Y4 hu hz hx hj
   ·cases h
 | alloc t=>simp only [aj,ad,Option.some.injEq] at h;obtain ⟨z,hz,rfl⟩:=h;exact zo.mk (Y8 hz) (λt' cs e=>by cases e;exact ⟨z,rfl,hz,rfl⟩) nofun nofun
 | box t y=>simp only [aj,ad,Option.some.injEq] at h;obtain ⟨x,hx,rfl⟩:=h;exact zo.of (afx hx) nofun nofun nofun
 | buildSlice t n ps=>
   simp only [aj] at h;split at h
   ·rename_i e hu
    simp only [ad,ag,Option.some.injEq,Bool.and_eq_true] at h;obtain ⟨size,hs,z,hz,⟨⟨hn,NV⟩,h0⟩,l,hl,rfl⟩:=h;have B:cE C (.buildSlice t n ps) _:=@JZ C t e size n z ps l hu hs hz (Nat.le_of_ble_eq_true hn) (Nat.eq_of_beq_eq_true NV) (IC h0) hl;split
    ·rename_i cs hc
     refine zo.ai3 (Pv B hc) ⟨_,_,_,_,_,(),rfl,hu,hs,hz,Nat.le_of_ble_eq_true hn,Nat.eq_of_beq_eq_true NV,IC h0,hl,hc⟩
    ·exact zo.of B nofun nofun nofun
   ·cases h
 | store t a y=>simp only [aj,ad,Option.some.injEq] at h;obtain ⟨n,hn,x,hx,x2,lH,rfl⟩:=h;exact zo.of (Y7 hn hx lH) nofun nofun nofun
 | makeMap t r=>
   cases r with
   | none=>simp only [aj,Option.some.injEq] at h;subst h;exact zo.of (St) nofun nofun nofun
   | some r=>simp [aj] at h
 | makeSlice t n c=>
   simp only [aj] at h;split at h
   ·rename_i e hu
    simp only [ad,Option.some.injEq] at h;obtain ⟨size,hs,bytes,hb,z,hz,x,hx,x2,lH,rfl⟩:=h;exact zo.of (Ms hu hs hb hz hx lH) nofun nofun nofun
   ·cases h
 | mapUpdate t m k x=>
   simp only [aj] at h;split at h
   ·rename_i kt et hu
    simp only [ad,Option.some.injEq] at h;obtain ⟨m',hm,k',hk,x',hx,rfl⟩:=h;exact zo.of (My hu hm hk hx) nofun nofun nofun
   ·cases h
 | insert t m k x=>
   simp only [aj] at h;split at h
   ·rename_i kt et hu
    simp only [ad,Option.some.injEq] at h;obtain ⟨m',hm,k',hk,x',hx,rfl⟩:=h;exact zo.of (Vi hu hm hk hx) nofun nofun nofun
   ·cases h
 | mapEntry t m k=>
   simp only [aj] at h;split at h
   ·rename_i kt et hu
    simp only [ad,Option.some.injEq] at h;obtain ⟨z,hz,m',hm,k',hk,rfl⟩:=h;exact zo.of (PB hu hz hm hk) nofun nofun nofun
   ·cases h
 | entryStore t m s x=>simp only [aj,ad,Option.some.injEq] at h;obtain ⟨m',hm,s',hs,x',hx,rfl⟩:=h;exact zo.of (J3 hm hs hx) nofun nofun nofun
 | range t y=>
   simp only [aj,ad] at h;obtain ⟨x,hx,h⟩:=h;split at h
   ·rename_i hu;cases h;exact zo.of (PF hu hx) nofun nofun nofun
   ·rename_i k e hu;cases h;exact zo.of (PE hu hx) nofun nofun nofun
   ·cases h
 | next y s=>
   cases s with
   | false=>simp only [aj,ad,Option.some.injEq] at h;obtain ⟨x,hx,rfl⟩:=h;exact zo.of (acn hx) nofun nofun nofun
   | true=>simp [aj] at h
 | call c=>
   simp only [aj] at h;split at h
   ·rename_i b hc
    simp only [ad] at h;obtain ⟨xs,PH,h⟩:=h;have:=J5 (args:=c.args) (ts:=c.argTypes) PH h;obtain ⟨callee,args,ts⟩:=c;simp only at hc;subst hc;exact this
   ·simp only [ad,Option.some.injEq] at h
    obtain ⟨q,hq,rfl⟩:=h;exact Zc hq
 | defer c=>
   simp only [aj] at h;split at h
   ·rename_i fx hc
    simp only [ad,Option.some.injEq] at h;obtain ⟨q,hq,rfl⟩:=h;exact Vk hc hq
   ·cases h
 | _=>simp [aj] at h
end
end Go.Dx
namespace Go.Dx
open Go Go.RowKit
section
variable {P:Program} {B:Nat} {w0:World} {ρ ρ':bE} {h h':H} {w:World}
theorem Zb.mono (e:jI ρ ρ'){d:FuncId×List V}{x:Deferred}(r:Zb ρ d x):Zb ρ' d x:=
 let ⟨xs,cap,h1,h2,h3⟩:=r;⟨xs,cap,h1,h2,h3.mono e⟩
inductive vV (ρ:bE):List (FuncId×List V)->List Deferred->Prop
 | nil:vV ρ [] []
 | cons {d:FuncId×List V} {x:Deferred} {ds:List (FuncId×List V)} {xs:List Deferred} (h:Zb ρ d x) (hs:vV ρ ds xs):vV ρ (d::ds) (x::xs)
theorem vV.mono (e:jI ρ ρ'){ds:List (FuncId×List V)}{xs:List Deferred}(r:vV ρ ds xs):vV ρ' ds xs:=by
 induction r with
 | nil=>exact .nil
 | cons h _ ih=>exact .cons (h.mono e) ih
structure oj (ρ:bE)(n:Nat)(a:A)(x:Act):Prop where
 tmps:iU ρ n a.tmps x.tmps
 defers:vV ρ a.defers x.defers
theorem oj.mono (e:jI ρ ρ'){n:Nat}{a:A}{x:Act}(r:oj ρ n a x):oj ρ' n a x:=⟨r.tmps.mono e,r.defers.mono e⟩
theorem jj (tm:T V)(p:Lb)(v:V):bS (tm.set p (some v)) p=v:=by unfold bS;rw [T.bg]
theorem jR (tm:T V){p q:Lb}(v:V)(h:p≠q):bS (tm.set p (some v)) q=bS tm q:=by unfold bS;rw [T.br _ _ _ _ h]
theorem iU.put {n:Nat}{tm:T V}{tmps:Array Value}(r:iU ρ n tm tmps){d:Nat}(hd:d<n){v:V}{x:Value}(hv:RV ρ v x):iU ρ n (tm.set (pathOf d) (some v)) (tmps.setIfInBounds d x):=by
 have hs:=r.small;refine ⟨by simp [r.size],hs,λt ht=>?_⟩
 by_cases e:d=t
 ·subst e
  rw [jj];have:(tmps.setIfInBounds d x).getD d Go.undef=x:=by simp [r.size,hd]
  rw [this];exact hv
 ·rw [jR _ _ (λe'=>e (eX (by omega) (by omega) e'))]
  have:(tmps.setIfInBounds d x).getD t Go.undef=tmps.getD t Go.undef:=by simp [Array.getElem?_setIfInBounds_ne e]
  rw [this];exact r.get t ht
theorem J6 {C:CE}{d:Option Tmp}{d':Option Lb}(h:zg C d=some d'):(d=none/\d'=none)\/∃t,d=some t/\d'=some (pathOf t)/\t<C.n:=by
 cases d with
 | none=>simp only [zg,Option.some.injEq] at h;exact .inl ⟨rfl,h.symm⟩
 | some t=>
   simp only [zg,ag,Option.some.injEq] at h;exact .inr ⟨t,rfl,h.2.symm,by simpa using h.1⟩
theorem oj.put {C:CE}{a:A}{x:Act}(r:oj ρ C.n a x){d:Option Tmp}{d':Option Lb}(hd:zg C d=some d'){v:V}{y:Value}(hv:RV ρ v y):oj ρ C.n (a.put d' v) (x.put d y):=by
 rcases J6 hd with ⟨rfl,rfl⟩ | ⟨t,rfl,rfl,ht⟩
 ·exact r
 ·exact ⟨r.tmps.put ht hv,r.defers⟩
theorem xO {C:CE}{ops:Array Oper}{o:Oper}{g:Option (Lb×Bool)}(hg:my C ops o.guard=some g){tm:T V}{tmps:Array Value}(r:iU ρ C.n tm tmps):Region.wanted o (yielded ops tmps)=dS tm g:=by
 unfold Region.wanted;cases ho:o.guard with
 | none=>rw [ho] at hg;simp only [my,Option.some.injEq] at hg;subst hg;rfl
 | some p=>
   obtain ⟨j,want⟩:=p;rw [ho] at hg;simp only [my,ad,ag,Option.some.injEq] at hg;obtain ⟨q,hq,d,hd,bA,rfl⟩:=hg;have bA:d<C.n:=by simpa using bA
   have aU:ops[j]? =some q:=by simpa using hq
   have hx:=r.get d bA;have ft:d<tmps.size:=by rw [r.size];exact bA
   simp only [yielded,aU,Option.bind_some,hd,dS];have e1:tmps[d]? =some (tmps.getD d Go.undef):=by simp [ft]
   rw [e1];generalize tmps.getD d Go.undef=y at hx;generalize bS tm (pathOf d)=v at hx;cases hx with
   | bool b=>cases want<;>cases b<;>simp
   | sym _ _ hv=>rename_i bb _ _ _;revert hv;generalize bb.val=z;intro hv;cases z<;>first | (simp [NK] at hv;done) | (cases want<;>simp)
   | any hv=>revert hv;generalize y=z;intro hv;cases z<;>first | (simp [NK] at hv;done) | (cases want<;>simp)
   | _=>cases want<;>simp
def Good (P:Program)(f:FuncId)(xs:List Value)(w:World)(R:Value->World->Prop):Prop:=
 (∃v w',(callFunc f ⟨xs⟩).run P w = .ok (.value v) w'/\R v w')\/
 ((callFunc f ⟨xs⟩).run P w = .ok (.enter f ⟨xs⟩) w/\Calls P f ⟨xs⟩ w λe w'=>∃v,e = .returned v/\R v w')
def nq (P:Program)(G:Nat)(vQ:je):Prop:=∀{f:FuncId} {args:List V} {h:H} {v:V} {h':H},vQ f args h=some (v,h')->∀{B:Nat} {w0:World} {ρ:bE} {w:World} {xs:List Value},aA B w0 ρ h w->gv ρ G->cU ρ args xs->
 Good P f xs w λx w'=>∃ρ',Step ρ ρ' h h'/\RV ρ' v x/\aA B w0 ρ' h' w'
theorem Good.upon {f:FuncId}{xs:List Value}{R:Value->World->Prop} (g:Good P f xs w R) {o:Oper} {A:Act} {K:Act->World->Prop} {Q:Exit->Act->World->Prop} (hk:∀v w',R v w'->K (A.put o.dst v) w'):
  o.upon P A K Q ((callFunc f ⟨xs⟩).run P w):=by
 rcases g with ⟨v,w',hr,hR⟩ | ⟨hr,hc⟩
 ·rw [hr];exact hk v w' hR
 ·rw [hr]
  show Calls P f _ w _
  refine hc.mono λe w' he=>?_;obtain ⟨v,rfl,hR⟩:=he;exact hk v w' hR
theorem afz {C:CE}{call:je}(gw:nq C.P C.G call){ops:Array Oper}{o:Oper}{d:DO}(hd:gK C ops o=some d){a a':A}{A:Act}(hA:oj ρ C.n a A)(hG:gv ρ C.G)(R:aA B w0 ρ h w)
  (dW:Dv (dz C.P) call d a h=some (a',h')) {K:Act->World->Prop} {Q:Exit->Act->World->Prop} (hK:∀ρ' A' w',Step ρ ρ' h h'->oj ρ' C.n a' A'->aA B w0 ρ' h' w'->K A' w'):o.wp C.P A w K Q:=by
 simp only [gK,ad,Option.some.injEq] at hd;obtain ⟨dst,kG,g,hg,rfl⟩:=hd;unfold Oper.wp;unfold Dv at dW;simp only at dW;cases lK:aj C o.op with
 | none=>simp only [lK,Option.getD_none] at dW;cases dW
 | some op=>
   have ok:=s5 lK;simp only [lK,Option.getD_some] at dW;cases op with
   | Rm x=>
     simp only [Option.some.injEq,Prod.mk.injEq] at dW;obtain ⟨rfl,rfl⟩:=dW;obtain ⟨y,hy,hr⟩:=ok hA.tmps hG;rw [hr o rfl w,Oper.upon_value];exact hK ρ _ _ (Step.refl _ _) (hA.put kG hy) R
   | p q=>
     simp only [ad,Option.some.injEq,Prod.mk.injEq] at dW;obtain ⟨v,hv,rfl,rfl⟩:=dW;obtain ⟨y,hy,hr⟩:=ok hA.tmps hG v hv;rw [hr o rfl w,Oper.upon_value];exact hK ρ _ _ (Step.refl _ _) (hA.put kG hy) R
   | r q=>
     simp only [ad,Option.some.injEq,Prod.mk.injEq] at dW;obtain ⟨q',hq,v,hv,rfl,rfl⟩:=dW;obtain ⟨y,hy,hr⟩:=ok hA.tmps hG q' hq v R hv;rw [hr o rfl,Oper.upon_value];exact hK ρ _ _ (Step.refl _ _) (hA.put kG hy) R
   | e q=>
     simp only [ad,Option.some.injEq,Prod.mk.injEq] at dW;obtain ⟨⟨v,DG⟩,hv,rfl,rfl⟩:=dW;obtain ⟨ρ',y,w',s1,s2,s3,s4⟩:=ok.eff hA.tmps hG R hv;have E:=s1.ext R;rcases s4 o rfl with hr | ⟨hr,rfl⟩
     ·rw [hr,Oper.upon_value]
      exact hK ρ' _ _ s1 ((hA.mono E).put kG s2) s3
     ·rw [hr,Oper.upon_skip]
      exact hK ρ' _ _ s1 ((hA.mono E).put kG s2) s3
   | c q=>
     simp only [ad,Option.some.injEq,Prod.mk.injEq] at dW;obtain ⟨⟨f,vs⟩,hf,⟨v,DG⟩,hv,rfl,rfl⟩:=dW;obtain ⟨xs,PH,hr⟩:=ok hA.tmps hG hf;rw [hr o rfl w];refine (gw hv R hG PH).upon λy w' hR=>?_;obtain ⟨ρ',s1,s2,s3⟩:=hR;exact hK ρ' _ _ s1 ((hA.mono (s1.ext R)).put kG s2) s3
   | defer q=>
     simp only [ad,Option.some.injEq,Prod.mk.injEq] at dW;obtain ⟨⟨f,vs⟩,hf,rfl,rfl⟩:=dW;obtain ⟨e,he,hr⟩:=ok hA.tmps hG hf;rw [hr o rfl w,Oper.upon_defer];have hA2:oj ρ C.n {tmps:=a.tmps,defers:=(f,vs)::a.defers} {A with defers:=e::A.defers}:=⟨hA.tmps,.cons he hA.defers⟩;exact hK ρ _ _ (Step.refl _ _) (hA2.put kG (.tuple .nil)) R
   | stuck=>cases dW
theorem FE {C:CE}{call:je}(gw:nq C.P C.G call){ops:Array Oper}:∀{l:List Oper} {dl:List DO},fZ C ops l=some dl->∀{a a':A} {A:Act} {ρ:bE} {h h':H} {w:World},oj ρ C.n a A->gv ρ C.G->aA B w0 ρ h w->
  uF (dz C.P) call dl a h=some (a',h')->∀{Q:Exit->Act->World->Prop},(∀ρ' A' w',Step ρ ρ' h h'->oj ρ' C.n a' A'->aA B w0 ρ' h' w'->Q .normal A' w')->wpList C.P ops Q l A w
 | [],dl,hc,a,a',A,ρ,h,h',w,hA,hG,R,dW,Q,hQ=>by
   simp only [fZ,Option.some.injEq] at hc;subst hc;simp only [uF,Option.some.injEq,Prod.mk.injEq] at dW;obtain ⟨rfl,rfl⟩:=dW;exact hQ ρ A w (Step.refl _ _) hA R
 | o::l,dl,hc,a,a',A,ρ,h,h',w,hA,hG,R,dW,Q,hQ=>by
   simp only [fZ,ad,Option.some.injEq] at hc;obtain ⟨d,hd,ds,PI,rfl⟩:=hc;have Sf:=hd;simp only [gK,ad,Option.some.injEq] at Sf;obtain ⟨dst,kG,g,hg,xP⟩:=Sf;have hw:=xO hg hA.tmps;simp only [uF] at dW;simp only [wpList];have hgd:d.guard=g:=by rw [<-xP]
   have acq:d.dst=dst:=by rw [<-xP]
   split at dW
   ·rename_i YM
    rw [hgd] at YM;rw [if_pos (hw.trans YM)];simp only [ad] at dW;obtain ⟨⟨a1,h1⟩,hs,dW⟩:=dW;refine .inl (afz gw hd hA hG R hs λρ1 A1 w1 s1 AU R1=>?_);exact FE gw PI AU (hG.mono (s1.ext R)) R1 dW λρ2 A2 w2 s2=>hQ ρ2 A2 w2 (s1.trans s2)
   ·rename_i YM
    rw [hgd] at YM;rw [if_neg (by rw [hw,YM];exact Bool.false_ne_true)];rw [acq] at dW;exact FE gw PI (hA.put kG (.tuple .nil)) hG R dW hQ
end
end Go.Dx
