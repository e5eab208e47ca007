/-
  The client's laws. Part ZAH of the proof: The deterministic machine over labels against the model: maps.
-/
import Derived.Test.YtdjlhmmfplhhdaaGreatDoorZAG
namespace Go.Dx
open Go Go.RowKit
variable{ms:List MapEntry}{es:List (V×V×Nat)}{v:V}{l:Lb}{mx kx xx:X}{m k y:Operand}{kt:TypeId}{ts:Array TypeId}
section
variable {P:Program} {B:Nat} {w0:World} {ρ ρ':bD} {h h':H} {w:World}
theorem pO.get (r:pO ρ es ms):∀{i:Nat} {k v:V} {n:Nat},es[i]? =some (k,v,n)->∃m,ms[i]? =some m/\RV ρ k m.key/\RV ρ v m.val/\m.born=n:=by
 induction r with
 | nil=>intro i k v n h;simp at h
 | cons hk hv hn _ ih=>
   intro i k v n h;cases i with
   | zero=>simp at h;obtain ⟨rfl,rfl,rfl⟩:=h;exact ⟨_,rfl,hk,hv,hn⟩
   | succ i=>simp at h;simpa using ih h
theorem pO.push (r:pO ρ es ms){k:V}{m:MapEntry}{n:Nat}(a:RV ρ k m.key)(c:RV ρ v m.val)(b:m.born=n):pO ρ (es++[(k,v,n)]) (ms++[m]):=by
 induction r with
 | nil=>exact .cons a c b .nil
 | cons Hz MX B8 _ ih=>exact .cons Hz MX B8 ih
theorem pO.kU {es:List (V×V×Nat)}{ms:List MapEntry}(r:pO ρ es ms){k v:V}(f:MapEntry->MapEntry):∀{i:Nat},(∀m,ms[i]? =some m->RV ρ k (f m).key/\RV ρ v (f m).val/\(f m).born=m.born)->pO ρ (kU es i k v) (ms.modify i f):=by
 induction r with
 | nil=>intro i _;cases i<;>exact .nil
 | @cons k' v' n m es ms Hz MX B8 hs ih=>
   intro i d;cases i with
   | zero=>
     obtain ⟨a,b,c⟩:=d m rfl;simp only [Dx.kU,List.modify_cons];exact .cons a b (c.trans B8) hs
   | succ i=>
     simp only [Dx.kU,List.modify_cons];rw [if_neg (by omega)];exact .cons Hz MX B8 (ih λg e=>d g (by simpa using e))
theorem pO.erase (r:pO ρ es ms):∀i,pO ρ (nM es i) (ms.eraseIdx i):=by
 induction r with
 | nil=>intro i;exact .nil
 | cons Hz MX B8 hs ih=>
   intro i;cases i with
   | zero=>exact hs
   | succ i=>exact .cons Hz MX B8 (ih i)
theorem pO.Ki {es:List (V×V×Nat)}{ms:List MapEntry}(r:pO ρ es ms):∀{i:Nat} {m:MapEntry},ms[i]? =some m->Ki es i=m.born:=by
 induction r with
 | nil=>intro i m h;simp at h
 | cons Hz MX B8 hs ih=>
   intro i m h;cases i with
   | zero=>simp at h;subst h;exact B8.symm
   | succ i=>simp at h;exact ih h
theorem pO.uQ {es:List (V×V×Nat)}{ms:List MapEntry}(r:pO ρ es ms){b:Nat}{v:V}{x:Value}(f:RV ρ v x):∀{c:List (V×V×Nat)},uQ es b v=some c->
  ∃i,ms.findIdx? (λe=>(e.born:Int)==(b:Int))=some i/\pO ρ c (ms.modify i λe=>{e with val:=x}):=by
 induction r with
 | nil=>intro c h;simp [Dx.uQ] at h
 | @cons k' v' n m es ms Hz MX B8 hs ih=>
   intro c h;simp only [Dx.uQ] at h;split at h
   ·rename_i a
    cases h;have a:n=b:=Nat.eq_of_beq_eq_true a;refine ⟨0,by simp [List.findIdx?_cons,B8,a],?_⟩;simp only [List.modify_cons];exact .cons Hz f B8 hs
   ·rename_i a
    simp only [ad,Option.some.injEq] at h;obtain ⟨q,d,rfl⟩:=h;obtain ⟨i,g,j⟩:=ih d;have k:¬n=b:=λe=>by rw [e] at a;simp at a
    refine ⟨i+1,?_,?_⟩
    ·have:((m.born:Int)==(b:Int))=false:=by
      rw [B8];simp;omega
     simp [List.findIdx?_cons,this,g]
    ·simp only [List.modify_cons]
     rw [if_neg (by omega)];exact .cons Hz MX B8 j
theorem Gc {c:PK}{k:V}:∀{es:List (V×V×Nat)} {j:Nat} {v:V},rY c k es=some (some (j,v))->∃a n,es[j]? =some (a,v,n)/\gh c k a=some true
 | [],j,v,h=>by simp [rY] at h
 | (x,u,n)::es,j,v,h=>by
   simp only [rY,ad] at h;obtain ⟨b,i,h⟩:=h;cases b with
   | true=>simp at h;obtain ⟨rfl,rfl⟩:=h;exact ⟨x,n,rfl,i⟩
   | false=>
     simp only [ad,Option.some.injEq] at h;obtain ⟨q,d,h⟩:=h;cases q with
     | none=>simp at h
     | some p=>
       simp at h;obtain ⟨rfl,rfl⟩:=h;obtain ⟨a,e,g,f⟩:=Gc d;exact ⟨a,e,by simpa using g,f⟩
theorem HC {b:PK}{k u:V}{x y:Value}(a:RV ρ k x)(g:RV ρ u y)(h:gh b k u=some true)(n:Nat):Instr.sameBits n y x=true:=by
 rcases ql a g h with ⟨_,c,d,rfl,rfl,e⟩ | ⟨_,i,c,d,rfl,rfl,e⟩ | ⟨_,s,t,rfl,rfl,e⟩
 ·have:c=d:=by simpa using e.symm
  subst this;cases n<;>simp [Instr.sameBits]
 ·have:c=d:=by simpa using e.symm
  subst this;cases n<;>simp [Instr.sameBits]
 ·have f:(t==s)=true:=by
   rw [bytes_beq] at e ⊢;have:s.data.toList=t.data.toList:=by simpa using e.symm
   simp [this]
  cases n<;>simp [Instr.sameBits,f]
theorem HD {old new:Value}(h:Instr.sameBits 10000 old new=true):(Instr.keyThatStays old new).run P w = .ok new w:=by
 unfold Instr.keyThatStays;rw [if_pos h];rfl
theorem aA.qm (R:aA B w0 ρ h w){b:ej}{c:Nat}(i:ρ l=some b)(g:h.get l=some (.map es c)):
  ∃ms:Array MapEntry,pO ρ es ms.toList/\(∀P,(getObj b.block).run P w = .ok (.map ms c) w)/\∀(e:List (V×V×Nat)) (a:Array MapEntry) (d:Nat),pO ρ e a.toList->
   (∀P,(Go.setObj b.block (.map a d)).run P w = .ok () {w with heap:=w.heap.setIfInBounds b.block (.map a d)})/\aA B w0 ρ (h.set l (.map e d)) {w with heap:=w.heap.setIfInBounds b.block (.map a d)}:=by
 obtain ⟨ms,f,m⟩:=R.obj l b _ i g;refine ⟨ms,m,λP=>by simp [getObj,Sem.run,f],λe a d k=>⟨λP=>by simp [Go.setObj,Sem.run,f],?_⟩⟩;exact R.setObj i g rfl λw' j=>⟨a,j,k⟩
theorem lj {m:V}{f:Lb->List (V×V×Nat)->Nat->Option (V×H)} {r:V×H} (h':ib h m f=some r):∃l es a,m = .map l/\h.get l=some (.map es a)/\f l es a=some r:=by
 unfold ib at h';split at h'
 ·split at h'
  ·exact ⟨_,_,_,rfl,by assumption,h'⟩
  ·cases h'
 ·cases h'
theorem lz {x:Value}(r:RV ρ (.map l) x):∃b,ρ l=some b/\x = .map (some b.block):=by
 cases r with | map h=>exact ⟨_,h,rfl⟩
theorem TO {C:CE}{t:TypeId}:cI C (.makeMap t none) .makeMap:=by
 intro ρ tm A e d B w0 h w R v h' a;cases a;have R':=R.add (o:=.map [] 0) (x:=.map #[] 0) (b:=(ej.mk w.heap.size 0 0 .nilFunc)) rfl ⟨rfl,rfl⟩ ⟨#[],heap_alloc_new _,.nil⟩;refine cI.ret (s:=Instr.makeMap t none) (Step.add _ _ _ _) (.map (aU _ _ _)) R' ?_ λp c=>by unfold execOp;rw [c];rfl
 simp [Instr.makeMap]
theorem BA {C:CE}{t W:TypeId}{x:Operand}(H:C.P.underlying t=some (.map kt W))(hm:ay C m=some mx)(Y:ay C k=some kx)(hx:ay C x=some xx)
  {ρ:bD} {tm:T V} {A:Act} (F:jx ρ C.n tm A.tmps) (s:gM ρ C.G) (R:aA B w0 ρ h w)  (c:(ED.mapUpdate (F7 C.P kt) mx kx xx).run tm h=some (v,h')):
  v=undef/\∃w',Step ρ ρ h h'/\aA B w0 ρ h' w'/\(Instr.mapUpdate t (A.eval m) (A.eval k) (A.eval x)).run C.P w = .ok () w':=by
 have L:=aw F s hm;have q:=aw F s Y;have N:=aw F s hx;simp only [ED.run,ai] at c;obtain ⟨z,c⟩:=c;obtain ⟨d,Ee,y⟩:=Jd z;obtain ⟨l,es,a,e1,U,c⟩:=lj c;rw [e1] at L;obtain ⟨b,Q,KI⟩:=lz L;obtain ⟨ms,mz,M,Iv⟩:=R.qm Q U;simp only [Kj,ad,Option.some.injEq,Prod.mk.injEq] at c;obtain ⟨o,⟨f,K,g⟩,rfl,rfl⟩:=c;obtain ⟨f1,O⟩:=uW y q mz K 0;refine ⟨rfl,?_⟩;cases f with
 | none=>
   simp only [Option.some.injEq] at g;subst g;obtain ⟨E,D⟩:=Iv (es++[(kx.ev tm,xx.ev tm,a)]) (ms.push {key:=A.eval k,val:=A.eval x,born:=a}) (a+1) (by
    rw [Array.toList_push];exact mz.push q N rfl)
   refine ⟨_,Step.same rfl,D,?_⟩;unfold Instr.mapUpdate;simp only [Sem.run_bind,run_underlying H,Result.andThen_ok,KI,M,eU Ee y,eV Ee (f1 rfl),E]
 | some p=>
   obtain ⟨j,u⟩:=p;simp only [Option.some.injEq] at g;subst g;obtain ⟨P,J,g2,G⟩:=O j u rfl;obtain ⟨k',n,X,k2⟩:=Gc K;obtain ⟨en',I,Z,_,_⟩:=mz.get X;rw [J] at I;cases I;have r:=HC q Z k2 10000;have OJ:ms[j]? =some P:=by simpa using J
   obtain ⟨E,D⟩:=Iv (kU es j (kx.ev tm) (xx.ev tm)) (ms.modify j λe=>{e with key:=A.eval k,val:=A.eval x}) a (by
    rw [Array.toList_modify];exact mz.kU _ λm _=>⟨q,N,rfl⟩)
   refine ⟨_,Step.same rfl,D,?_⟩;unfold Instr.mapUpdate;have S:0+j=j:=by omega
   rw [S] at G;simp only [Sem.run_bind,run_underlying H,Result.andThen_ok,KI,M,eU Ee y,eV Ee G,OJ,Option.map_some,Option.getD_some,HD r,E]
theorem Np {C:CE}{t j:TypeId}{x:Operand}(n:C.P.underlying t=some (.map kt j))(g:ay C m=some mx)(a:ay C k=some kx)(l:ay C x=some xx):cI C (.mapUpdate t m k x) (.mapUpdate (F7 C.P kt) mx kx xx):=by
 intro ρ tm A f c B w0 h w R v h' e;obtain ⟨rfl,w',d,b,i⟩:=BA n g a l f c R e;exact cI.none d b i λp o=>by unfold execOp;rw [o]
theorem WC {C:CE}{t j:TypeId}{x:Operand}(n:C.P.underlying t=some (.map kt j))(g:ay C m=some mx)(a:ay C k=some kx)(l:ay C x=some xx):cI C (.insert t m k x) (.mapUpdate (F7 C.P kt) mx kx xx):=by
 intro ρ tm A f c B w0 h w R v h' e;obtain ⟨rfl,w',d,b,i⟩:=BA n g a l f c R e;exact cI.none d b i λp o=>by unfold execOp;rw [o]
theorem Qv {C:CE}{t K:TypeId}{z:V}(I:C.P.underlying t=some (.map kt K))(hz:fD C.P K=some z)(q:ay C m=some mx)(hk:ay C k=some kx):cI C (.mapEntry t m k) (.mapEntry (F7 C.P kt) z mx kx):=by
 intro ρ tm A O G B w0 h w R v h' c;have M:=aw O G q;have o:=aw O G hk;obtain ⟨W,Is,Z⟩:=fN (ρ:=ρ) hz;simp only [ED.run,ai] at c;obtain ⟨y,c⟩:=c;obtain ⟨d,Ee,x⟩:=Jd y;obtain ⟨l,es,a,e1,X,c⟩:=lj c;rw [e1] at M;obtain ⟨b,T,KI⟩:=lz M;obtain ⟨ms,mz,N,Iv⟩:=R.qm T X;simp only [ad] at c;obtain ⟨f,L,c⟩:=c;obtain ⟨f1,Q⟩:=uW x o mz L 0;cases f with
 | none=>
   simp only [Option.some.injEq,Prod.mk.injEq] at c;obtain ⟨rfl,rfl⟩:=c;obtain ⟨E,D⟩:=Iv (es++[(kx.ev tm,z,a)]) (ms.push {key:=A.eval k,val:=W,born:=a}) (a+1) (by
    rw [Array.toList_push];exact mz.push o Is rfl)
   refine cI.ret (s:=Instr.mapEntry t (A.eval m) (A.eval k)) (Step.same rfl) (.tuple (.cons Is (.cons (.int .i64 _) .nil))) D ?_ λp F=>by unfold execOp;rw [F]
   unfold Instr.mapEntry;simp only [Sem.run_bind,run_underlying I,Result.andThen_ok,KI,N,eU Ee x,eV Ee (f1 rfl),Z,E,Sem.run_pure]
   rfl
 | some p=>
   obtain ⟨j,u⟩:=p;simp only [Option.some.injEq,Prod.mk.injEq] at c;obtain ⟨rfl,rfl⟩:=c;obtain ⟨S,i,P,H⟩:=Q j u rfl;obtain ⟨k',n,Y,k2⟩:=Gc L;obtain ⟨en',J,q2,_,_⟩:=mz.get Y;rw [i] at J;cases J;have r:=HC o q2 k2 10000;have OJ:ms[j]? =some S:=by simpa using i
   obtain ⟨E,D⟩:=Iv (kU es j (kx.ev tm) u) (ms.modify j λe=>{e with key:=A.eval k}) a (by
    rw [Array.toList_modify];exact mz.kU _ λm q=>by
     rw [i] at q;cases q;exact ⟨o,P,rfl⟩)
   refine cI.ret (s:=Instr.mapEntry t (A.eval m) (A.eval k)) (Step.same rfl) (.tuple (.cons P (.cons (.int .i64 _) .nil))) D ?_ λp F=>by unfold execOp;rw [F]
   have U:0+j=j:=by omega
   rw [U] at H;unfold Instr.mapEntry;simp only [Sem.run_bind,run_underlying I,Result.andThen_ok,KI,N,eU Ee x,eV Ee H,OJ,Option.map_some,Option.getD_some,HD r,E,Sem.run_pure,mz.Ki i]
   rfl
theorem KK {C:CE}{t:TypeId}{s x:Operand}{sx:X}(L:ay C m=some mx)(hs:ay C s=some sx)(I:ay C x=some xx):cI C (.entryStore t m s x) (.entryStore mx sx xx):=by
 intro ρ tm A j d B w0 h w R v h' a;have q:=aw j d L;have o:=aw j d hs;have M:=aw j d I;simp only [ED.run] at a;obtain ⟨l,es,c,K,z,a⟩:=lj a;rw [K] at q;obtain ⟨b,r,KI⟩:=lz q;obtain ⟨ms,u,G,Iv⟩:=R.qm r z;split at a
 ·rename_i k n J
  rw [J] at o;generalize Qx:A.eval s=sv at o;cases o;simp only [ad,Option.some.injEq,Prod.mk.injEq] at a;obtain ⟨E,f,rfl,rfl⟩:=a;obtain ⟨i,y,H⟩:=u.uQ M f;obtain ⟨F,D⟩:=Iv E (ms.modify i λe=>{e with val:=A.eval x}) c (by rw [Array.toList_modify];exact H);refine cI.none (s:=Instr.entryStore t (A.eval m) (A.eval s) (A.eval x)) (Step.same rfl) D ?_ λp N=>by unfold execOp;rw [N]
  have g:ms.findIdx? (λe=>(e.born:Int)==(Int.ofNat n))=some i:=by
   rw [<-y];cases ms;simp
  unfold Instr.entryStore;simp only [Sem.run_bind,KI,Sem.run_pure,Result.andThen_ok,G,Qx,asInt,asIntOf,g,F]
 ·cases a
theorem Qy {C:CE}{t q:TypeId}{x:X}(g:C.P.underlying t=some (.map kt q))(n:ay C y=some x):cI C (.range t y) (.rangeMap x):=by
 intro ρ tm A m i B w0 h w R v h' c;have r:=aw m i n;simp only [ED.run] at c;generalize YP:A.eval y=u at r;split at c
 ·rename_i d
  rw [d] at r;cases r;cases c;have R':=R.add (o:=.mapIter none 0 [] 0) (x:=.mapIter none 0 #[] 0) (b:=(ej.mk w.heap.size 0 0 .nilFunc)) rfl ⟨rfl,rfl⟩ ⟨rfl,none,heap_alloc_new _,rfl⟩;refine cI.ret (s:=Instr.range t (.map none)) (Step.add _ _ _ _) (.ptr 0 (aU _ _ _)) R' ?_ λp e=>by unfold execOp;rw [e];simp only [YP]
  simp [Instr.range,run_underlying g]
 ·rename_i l d
  rw [d] at r;obtain ⟨b,f,rfl⟩:=lz r;split at c
  ·rename_i es a k
   cases c;obtain ⟨ms,z,j,_⟩:=R.qm f k;have R':=R.add (o:=.mapIter (some l) a [] a) (x:=.mapIter (some b.block) a #[] a) (b:=(ej.mk w.heap.size 0 0 .nilFunc)) rfl ⟨rfl,rfl⟩ ⟨rfl,some b.block,heap_alloc_new _,b,eS R.fresh _ _ f,rfl⟩;refine cI.ret (s:=Instr.range t (.map (some b.block))) (Step.add _ _ _ _) (.ptr 0 (aU _ _ _)) R' ?_ λp e=>by unfold execOp;rw [e];simp only [YP]
   simp [Instr.range,run_underlying g,j]
  ·cases c
 ·cases c
theorem Qz {C:CE}{t:TypeId}{x:X}(g:C.P.underlying t=some .string)(f:ay C y=some x):cI C (.range t y) (.DS x):=by
 intro ρ tm A e d B w0 h w R v h' a;have r:=aw e d f;simp only [ED.run] at a;generalize YP:A.eval y=j at r;split at a
 ·rename_i s c
  rw [c] at r;cases r with | str u=>
  cases a;have R':=R.add (o:=.uK (au u) 0) (x:=.stringIter u 0) (b:=(ej.mk w.heap.size 0 0 .nilFunc)) rfl ⟨rfl,rfl⟩ ⟨u,heap_alloc_new _,rfl,rfl⟩;refine cI.ret (s:=Instr.range t (.string u)) (Step.add _ _ _ _) (.ptr 0 (aU _ _ _)) R' ?_ λp i=>by unfold execOp;rw [i];simp only [YP]
  simp [Instr.range,run_underlying g]
 ·cases a
theorem Gd (n:Nat):∀l:List Nat,dr n l=l.contains n
 | []=>rfl
 | m::l=>by
   simp only [dr,List.contains_cons,Gd n l];rw [show Nat.beq n m=(n==m) from by rw [Bool.eq_iff_iff];simp]
theorem pO.left (r:pO ρ es ms)(a:List Nat):pO ρ (leftOf a es) (ms.filter λe=>!a.contains e.born):=by
 induction r with
 | nil=>exact .nil
 | @cons k v n m es ms Hz MX B8 hs ih=>
   simp only [leftOf,List.filter_cons,Gd,B8];cases hc:a.contains n with
   | true=>simpa using ih
   | false=>simpa using pO.cons Hz MX B8 ih
theorem pO.zZ {es:List (V×V×Nat)}{ms:List MapEntry}(r:pO ρ es ms)(n:Nat):zZ n es=ms.all λe=>decide (e.born>=n):=by
 induction r with
 | nil=>rfl
 | @cons k v b m es ms Hz MX B8 hs ih=>
   simp only [Dx.zZ,List.all_cons,ih,B8]
   congr 1
   rw [Bool.eq_iff_iff];simp
theorem adr {C:CE}{x:X}(hx:ay C y=some x):cI C (.next y false) (.next x):=by
 intro ρ tm A hT U B w0 h w R v h' d;have r:=aw hT U hx;simp only [ED.run] at d;generalize YP:A.eval y=yv at r;split at d
 ·rename_i l e1
  rw [e1] at r;obtain ⟨b,z,rfl⟩:=dy r;have T:=(R.base l b z).1;have Ci:∀(p:Oper),p.op = .next y false->execOp A.eval p=(do pure (.value (<-Instr.next (.pointer (some ⟨b.block,0,none⟩)) false p.type))):=λp O=>by
   unfold execOp;rw [O];simp only [YP,T]
  have i:∀{ρ':bD} {x:Value} {w':World},Step ρ ρ' h h'->RV ρ' v x->aA B w0 ρ' h' w'->(∀g,(Instr.next (.pointer (some ⟨b.block,0,none⟩)) false g).run C.P w = .ok x w')->
    ∃ρ' x w',Step ρ ρ' h h'/\RV ρ' v x/\aA B w0 ρ' h' w'/\∀p:Oper,p.op = .next y false->((execOp A.eval p).run C.P w = .ok (.value x) w'\/((execOp A.eval p).run C.P w = .ok .skip w'/\x=Go.undef)):=
   λs1 W Z s4=>⟨_,_,_,s1,W,Z,λp O=>.inl (by rw [Ci p O];simp [s4])⟩
  unfold aiA at d;split at d
  ·rename_i since a last D
   cases d;obtain ⟨_,m',j,q⟩:=R.obj l b _ z D;simp only at q;subst q;refine i (Step.refl _ _) (.tuple (.cons (.bool false) .nil)) R λg=>?_;unfold Instr.next;simp [getObj,Sem.run,j]
  ·rename_i m since a last D
   obtain ⟨_,m',j,c,Q,q⟩:=R.obj l b _ z D;subst q;split at d
   ·rename_i es f G
    obtain ⟨ms,OJ,mz⟩:=R.TJ (P:=C.P) Q G;simp only [ai] at d;obtain ⟨M,d⟩:=d;have I:(getObj b.block).run C.P w = .ok (.mapIter (some c.block) since ⟨a⟩ last) w:=by simp [getObj,Sem.run,j]
    have N:(!(⟨a⟩:Array Nat).isEmpty && !ms.isEmpty&&ms.all λe=>decide (e.born>=last))=false:=by
     rw [mz.zZ] at M;cases ms with | mk ml=>
     have:es.isEmpty=ml.isEmpty:=by
      have:=mz.length;cases es<;>cases ml<;>simp at this ⊢
     simp only [this] at M;simp only [List.isEmpty_toArray,List.all_toArray]
     revert M
     cases a.isEmpty<;>cases ml.isEmpty<;>cases (ml.all λe=>decide (e.born>=last))<;>simp
    have o:=mz.left a;have S:(ms.filter λe=>!(⟨a⟩:Array Nat).contains e.born).toList=ms.toList.filter λe=>!a.contains e.born:=by
     rw [Array.toList_filter];congr 1;funext e;simp
    have t:∀g,(Instr.next (.pointer (some ⟨b.block,0,none⟩)) false g).run C.P w=((do
      let left:=ms.filter λe=>!(⟨a⟩:Array Nat).contains e.born
      let old:=left.filter λe=>decide (e.born<since)
      let new:=left.filter λe=>decide (e.born>=since)
      let candidates:=(if old.isEmpty then #[none] else #[])++(old++new).map some
      match candidates[<-choose (.mapNext candidates.size)]? with
      | some (some e)=>
        setObj b.block (.mapIter (some c.block) since ((⟨a⟩:Array Nat).push e.born) f)
        pure (.tuple #[.bool true,e.key,e.val])
      | some none=>pure (.tuple #[.bool false])
      | none=>stuck "Next: no such candidate"):Sem Value).run C.P w:=λg=>by
     unfold Instr.next;simp only [Sem.run_bind,I,Result.andThen_ok,OJ,N,Bool.false_eq_true,if_false]
     rfl
    split at d
    ·rename_i J
     cases d;rw [J] at o;have h0:(ms.filter λe=>!(⟨a⟩:Array Nat).contains e.born) = #[]:=by
      apply Array.ext';rw [S];generalize ms.toList.filter (λe=>!a.contains e.born)=L at o;cases o;rfl
     refine i (Step.refl _ _) (.tuple (.cons (.bool false) .nil)) R λg=>?_;rw [t g,h0];have K:(Question.mapNext 1).forced=true:=rfl;simp [K]
    ·rename_i k u n J
     simp only [ai,Option.some.injEq,Prod.mk.injEq] at d;obtain ⟨E,rfl,rfl⟩:=d;have E:n<since:=by simpa using E
     rw [J] at o;obtain ⟨s,h0,rk,Y,F⟩:∃s,(ms.filter λe=>!(⟨a⟩:Array Nat).contains e.born) = #[s]/\RV ρ k s.key/\RV ρ u s.val/\s.born=n:=by
      generalize V:ms.toList.filter (λe=>!a.contains e.born)=L at o;cases o with
      | cons j q h3 h4=>
        cases h4;exact ⟨_,by apply Array.ext';rw [S,V],j,q,h3⟩
     have R2:=R.setObj (p:=.mapIter (some m) since (a++[n]) f) (x:=.mapIter (some c.block) since ((⟨a⟩:Array Nat).push n) f) z D rfl λw' dO=>⟨T,some c.block,by rw [dO];simp,c,Q,rfl⟩;refine i (Step.same rfl) (.tuple (.cons (.bool true) (.cons rk (.cons Y .nil)))) R2 λg=>?_;rw [t g,h0];have K:(Question.mapNext 1).forced=true:=rfl;have B8:¬since<=n:=by omega
     simp [F,E,B8,K,setObj,Sem.run,j]
    ·cases d
   ·cases d
  ·cases d
 ·cases d
theorem QA {C:CE}{args:Array Operand}{t s:TypeId}{rest:List TypeId}{x:X}(By:ts.toList=t::rest)(f:C.P.underlying t=some (.map kt s))(i:cG C args.toList=some [x]):
  cI C (.call {callee:=.builtin .clear,args:=args,argTypes:=ts}) (.qD x):=by
 intro ρ tm A q j B w0 h w R v h' c;obtain ⟨y,hy,r⟩:=Ky i q j;simp only [ED.run] at c;split at c
 ·rename_i d
  rw [d] at r;cases r;cases c;refine ⟨ρ,_,w,Step.refl _ _,.tuple .nil,R,λp e=>.inl ?_⟩;rw [cy p e,hy];simp [Go.builtin,Builtin.clear_,qN By,run_underlying f]
 ·obtain ⟨l,es,a,d,n,c⟩:=lj c
  rw [d] at r;obtain ⟨b,o,rfl⟩:=lz r;obtain ⟨ms,u,m,Iv⟩:=R.qm o n;cases c;obtain ⟨k,g⟩:=Iv [] #[] a .nil;refine ⟨ρ,_,_,Step.same rfl,.tuple .nil,g,λp e=>.inl ?_⟩;rw [cy p e,hy];simp [Go.builtin,Builtin.clear_,qN By,run_underlying f,m,k]
theorem WD {C:CE}{args:Array Operand}{t M:TypeId}{rest:List TypeId}{m k:X}(By:ts.toList=t::rest)(G:C.P.underlying t=some (.map kt M))(S:cG C args.toList=some [m,k]):
  cI C (.call {callee:=.builtin .delete,args:=args,argTypes:=ts}) (.delete (F7 C.P kt) m k):=by
 intro ρ tm A P I B w0 h w R v h' c;obtain ⟨y1,Z,hy,y,N⟩:=Kz S P I;simp only [ED.run,ai] at c;obtain ⟨o,c⟩:=c;obtain ⟨d,Ee,g⟩:=Jd o;obtain ⟨l,es,a,T,E,c⟩:=lj c;rw [T] at y;obtain ⟨b,x,rfl⟩:=lz y;obtain ⟨ms,n,r,Iv⟩:=R.qm x E;simp only [ad] at c;obtain ⟨f,O,c⟩:=c;obtain ⟨Q,J⟩:=uW g N n O 0;cases f with
 | none=>
   simp only [Option.some.injEq,Prod.mk.injEq] at c;obtain ⟨rfl,rfl⟩:=c;obtain ⟨q,F⟩:=Iv es ms a n;have L:h.set l (.map es a) = {h with t:=h.t.set l (some (.map es a))}:=rfl;have R2:aA B w0 ρ h {w with heap:=w.heap.setIfInBounds b.block (.map ms a)}:=by
    have e:w.heap[b.block]? =some (.map ms a):=by
     have:=r C.P;obtain ⟨H,D,W⟩:=R.obj l b _ x E;simp [getObj,Sem.run,D] at this;rw [D,this]
    have:w.heap.setIfInBounds b.block (.map ms a)=w.heap:=by
     apply Array.ext_getElem?;intro i;rw [Array.getElem?_setIfInBounds]
     by_cases hi:b.block=i
     ·subst hi
      rw [if_pos rfl,if_pos (nB e),e]
     ·rw [if_neg hi]
    rw [this];exact R
   refine ⟨ρ,_,_,Step.refl _ _,.tuple .nil,R2,λp s=>.inl ?_⟩;rw [cy p s,hy];simp [Go.builtin,Builtin.delete_,qN By,run_underlying G,r,eU Ee g,eV Ee (Q rfl),q]
 | some p=>
   obtain ⟨j,u⟩:=p;simp only [Option.some.injEq,Prod.mk.injEq] at c;obtain ⟨rfl,rfl⟩:=c;obtain ⟨U,V,Y,z⟩:=J j u rfl;obtain ⟨q,F⟩:=Iv (nM es j) (ms.eraseIdxIfInBounds j) a (by rw [Array.toList_eraseIdxIfInBounds];exact n.erase j);refine ⟨ρ,_,_,Step.same rfl,.tuple .nil,F,λp s=>.inl ?_⟩;rw [cy p s,hy];have K:0+j=j:=by omega
   rw [K] at z;simp [Go.builtin,Builtin.delete_,qN By,run_underlying G,r,eU Ee g,eV Ee z,q]
end
end Go.Dx
namespace Go.Dx
open Go Go.RowKit
variable{o:Op}{f:FuncId}{q:CD}
section
variable {P:Program} {B:Nat} {w0:World} {ρ ρ':bD} {h h':H} {w:World}
def adt (C:CE)(o:Op)(q:CD):Prop:=∀{ρ:bD} {tm:T V} {A:Act},jx ρ C.n tm A.tmps->gM ρ C.G->∀{f:FuncId} {vs:List V},q.args (dq C.P) tm=some (f,vs)->
 ∃xs:List Value,cZ ρ vs xs/\∀p:Oper,p.op=o->∀w,(execOp A.eval p).run C.P w=(callFunc f ⟨xs⟩).run C.P w
def aau (ρ:bD)(d:FuncId×List V)(e:Deferred):Prop:=∃xs cap:List Value,e.target = .fn (.func d.1) ⟨cap⟩/\e.args=⟨xs⟩/\cZ ρ d.2 (xs++cap)
def YQ (C:CE)(o:Op)(q:CD):Prop:=∀{ρ:bD} {tm:T V} {A:Act},jx ρ C.n tm A.tmps->gM ρ C.G->∀{f:FuncId} {vs:List V},q.args (dq C.P) tm=some (f,vs)->
 ∃e:Deferred,aau ρ (f,vs) e/\∀p:Oper,p.op=o->∀w,(execOp A.eval p).run C.P w = .ok (.defer e) w
structure Ag (C:CE)(o:Op)(q:ED):Prop where
 eff:cI C o q
 alloc:∀t cs,q = .alloc t cs->∃z,o = .alloc t/\fD C.P t=some z/\cs=z.cells
 row:∀e cs n,q = .cL e cs n->∃(t:TypeId) (ps:Array (Nat×Operand)) (size:Nat) (z:V) (l:List (Nat×X)) (_:Unit),o = .buildSlice t n ps/\C.P.underlying t=some (.slice e)/\cg C.P e=some size/\fD C.P e=some z/\n*size<=65536/\z.cells.length=size/\0<size/\
  eN C ps.toList=some l/\fj size l (aH z.cells n)=some cs
 bytes:∀e x,q = .dj e x->∃(s t:TypeId) (y:Operand),o = .convert s t y/\C.P.underlying s=some .string/\C.P.underlying t=some (.slice e)/\C.P.underlying e=some (.int .u8)/\ay C y=some x
theorem Ag.of {C:CE}{q:ED}(h:cI C o q)(d:∀t cs,q≠.alloc t cs) (g:∀e cs n,q≠.cL e cs n) (f:∀e x,q≠.dj e x):Ag C o q:=
 ⟨h,λt cs e=>absurd e (d t cs),λa b c e=>absurd e (g a b c),λa b e=>absurd e (f a b)⟩
theorem Ag.akm {C:CE}{e:TypeId}{cs:List V}{n:Nat}(h:cI C o (.cL e cs n))(a:∃(t:TypeId) (ps:Array (Nat×Operand)) (size:Nat) (z:V) (l:List (Nat×X)) (_:Unit),o = .buildSlice t n ps/\C.P.underlying t=some (.slice e)/\cg C.P e=some size/\fD C.P e=some z/\n*size<=65536/\z.cells.length=size/\0<size/\
  eN C ps.toList=some l/\fj size l (aH z.cells n)=some cs):Ag C o (.cL e cs n):=
 ⟨h,nofun,λ_ _ _ q=>by cases q;exact a,nofun⟩
def akn (C:CE)(o:Op):D->Prop
 | .SD x=>MOk C o x
 | .p q=>Cg C o q
 | .r q=>TK C o q
 | .e q=>Ag C o q
 | .c q=>adt C o q
 | .defer q=>YQ C o q
 | .stuck=>True
theorem yf {args:Array Operand}{A:Act}:args.map A.eval=⟨args.toList.map A.eval⟩:=by apply Array.ext';simp
theorem qO {a b:List V}{x:Value}(r:RV ρ (.func f a b) x):∃d c,x = .func (.func f) ⟨d⟩ ⟨c⟩/\cZ ρ a d/\cZ ρ b c:=by
 cases r with | func _ ha hb=>exact ⟨_,_,rfl,ha,hb⟩
theorem je {t:TypeId}{v:V}{x:Value}(r:RV ρ (.iface t v) x):∃y,x = .iface t y/\RV ρ v y:=by
 cases r with | iface _ h=>exact ⟨_,rfl,h⟩
theorem agG {t:TypeId}{name:String}(a:YK P t name=some f)(x:Value)(n:Nat):(method (n+1) t x name).run P w = .ok (f,x) w:=by
 simp only [YK,ad,ai] at a;obtain ⟨i,hi,m,h,j,a⟩:=a;have YE:i.methods.find? (λm=>m.name==name)=some m:=by
  rw [<-Array.find?_toList];exact h
 have c:m.path.toList=[]:=by simpa using j
 unfold method;simp only [Sem.run_bind,typeInfo,run_program,Result.andThen_ok,hi,Sem.run_pure,YE,c,follow];split at a
 ·rename_i g u b e
  cases a;simp [b,receiverAt,run_underlying e,Place.get]
 ·cases a
 ·rename_i g u d b e
  cases a;simp only [b,receiverAt,Sem.run_bind,run_underlying e,Result.andThen_ok];cases u<;>first | (simp [Place.get];done) | (exfalso;exact d _ rfl)
 ·cases a
theorem aav {C:CE}{c:Call}(h:nO C c=some q):adt C (.call c) q:=by
 intro ρ tm A o n f vs i;simp only [nO,ad] at h;obtain ⟨m,has,h⟩:=h;have k:=na o n has;have Ci:∀(p:Oper),p.op = .call c->execOp A.eval p=(do let d<-resolve A.eval c p.type;invoke d.target d.args):=λp l=>by unfold execOp;rw [l]
 cases hc:c.callee with
 | value fx=>
   have key:∀{x:X},ay C fx=some x->q = .value x m->∃xs:List Value,cZ ρ vs xs/\∀p:Oper,p.op = .call c->∀w,(execOp A.eval p).run C.P w=(callFunc f ⟨xs⟩).run C.P w:=λ{x} j s=>by
    subst s;have r:=aw o n j;simp only [CD.args] at i;split at i
    ·rename_i g a b e
     cases i;rw [e] at r;obtain ⟨E,F,hy,J,D⟩:=qO r;refine ⟨E++c.args.toList.map A.eval++F,(J.append k).append D,λp l w=>?_⟩;rw [Ci p l];simp [resolve,hc,hy,Deferred.ofValue,invoke,yf]
    ·cases i
   cases fx with
   | func g=>
     simp only [hc,Option.some.injEq] at h;subst h;simp only [CD.args,Option.some.injEq,Prod.mk.injEq] at i;obtain ⟨rfl,rfl⟩:=i;refine ⟨c.args.toList.map A.eval,k,λp l w=>?_⟩;rw [Ci p l];simp [resolve,hc,Act.eval,Deferred.ofValue,invoke,yf]
   | tmp t=>simp only [hc,ad,Option.some.injEq] at h;obtain ⟨x,j,h⟩:=h;exact key j h.symm
   | const v=>simp only [hc,ad,Option.some.injEq] at h;obtain ⟨x,j,h⟩:=h;exact key j h.symm
   | global g=>simp only [hc,ad,Option.some.injEq] at h;obtain ⟨x,j,h⟩:=h;exact key j h.symm
 | invoke r name=>
   simp only [hc,ad,Option.some.injEq] at h;obtain ⟨x,j,rfl⟩:=h;have z:=aw o n j;simp only [CD.args] at i;split at i
   ·rename_i t v e
    rw [e] at z;obtain ⟨y,hy,H⟩:=je z;simp only [ad,Option.some.injEq,Prod.mk.injEq] at i;obtain ⟨g,G,rfl,rfl⟩:=i;refine ⟨y::c.args.toList.map A.eval,.cons H k,λp l w=>?_⟩;rw [Ci p l];have B:C.P.types.size+Made.depth=(C.P.types.size+(Made.depth - 1))+1:=rfl;have u:=agG (P:=C.P) (w:=w) G y (C.P.types.size+(Made.depth - 1));rw [<-B] at u;have I:List.take c.args.size (List.map A.eval c.args.toList)=List.map A.eval c.args.toList:=List.take_of_length_le (by simp);simp [resolve,hc,hy,invoke,callMethod,u,yf,I]
   ·cases i
 | builtin b=>simp only [hc] at h;cases h
theorem WE {C:CE}{c:Call}{m:Operand}(i:c.callee = .value m)(h:nO C c=some q):YQ C (.defer c) q:=by
 intro ρ tm A u s f vs j;simp only [nO,ad] at h;obtain ⟨n,has,h⟩:=h;have k:=na u s has;have Ci:∀(p:Oper),p.op = .defer c->execOp A.eval p=(do pure (.defer (<-resolve A.eval c p.type))):=λp l=>by unfold execOp;rw [l]
 have key:∀{x:X},ay C m=some x->q = .value x n->∃e:Deferred,aau ρ (f,vs) e/\∀p:Oper,p.op = .defer c->∀w,(execOp A.eval p).run C.P w = .ok (.defer e) w:=λ{x} d o=>by
  subst o;have r:=aw u s d;simp only [CD.args] at j;split at j
  ·rename_i g a b e
   cases j;rw [e] at r;obtain ⟨z,B,hy,E,y⟩:=qO r;refine ⟨{target:=.fn (.func f) ⟨B⟩,args:=⟨z++c.args.toList.map A.eval⟩},⟨_,_,rfl,rfl,(E.append k).append y⟩,λp l w=>?_⟩;rw [Ci p l];simp [resolve,i,hy,Deferred.ofValue,yf]
  ·cases j
 cases m with
 | func g=>
   simp only [i,Option.some.injEq] at h;subst h;simp only [CD.args,Option.some.injEq,Prod.mk.injEq] at j;obtain ⟨rfl,rfl⟩:=j;refine ⟨{target:=.fn (.func g) #[],args:=⟨c.args.toList.map A.eval⟩},⟨_,[],rfl,rfl,by simpa using k⟩,λp l w=>?_⟩;rw [Ci p l];simp [resolve,i,Act.eval,Deferred.ofValue,yf]
 | tmp t=>simp only [i,ad,Option.some.injEq] at h;obtain ⟨x,d,h⟩:=h;exact key d h.symm
 | const v=>simp only [i,ad,Option.some.injEq] at h;obtain ⟨x,d,h⟩:=h;exact key d h.symm
 | global g=>simp only [i,ad,Option.some.injEq] at h;obtain ⟨x,d,h⟩:=h;exact key d h.symm
end
end Go.Dx
namespace Go.Dx
open Go Go.RowKit
variable{d:D}
section
variable {C:CE}
theorem KL {s t:TypeId}{y:Operand}{x:X}(b:ay C y=some x)(h:iH C s t x=some d):akn C (.convert s t y) d:=by
 unfold iH at h;split at h
 ·rename_i i k hs a
  cases h;exact ade hs a b
 ·rename_i k hs a
  cases h;exact Wr hs a b
 ·rename_i hs a
  cases h;exact Ws hs a b
 ·rename_i e hs a
  split at h
  ·rename_i c f
   cases h;exact Ag.mk (Qu hs a c b) nofun nofun λj l q=>by cases q;exact ⟨_,_,_,rfl,hs,a,c,b⟩
  ·cases h
 ·rename_i g e hs a
  split at h
  ·rename_i c
   simp only [ai,Option.some.injEq] at h;obtain ⟨Bx,rfl⟩:=h;have Bx:=Nat.eq_of_beq_eq_true Bx;subst Bx;exact Ag.of (No hs a c b) nofun nofun nofun
  ·cases h
 ·rename_i e hs a
  split at h
  ·rename_i c f
   cases h;exact adi hs c a b
  ·cases h
 ·rename_i e hs a
  split at h
  ·rename_i n f
   cases h;exact Qo hs a f b
  ·cases h
 ·rename_i u hs a
  split at h
  ·rename_i n f
   cases h;exact Qp hs a f b
  ·cases h
 ·cases h
theorem Jf {n:Nat}(h:Nat.blt 0 n=true):0<n:=by simpa using h
theorem KM {b:Builtin}{args:Array Operand}{ts:Array TypeId}{xs:List X}(c:cG C args.toList=some xs)(h:iG C b ts.toList xs=some d):
  akn C (.call {callee:=.builtin b,args:=args,argTypes:=ts}) d:=by
 generalize By:ts.toList=tl at h;unfold iG at h;split at h
 ·rename_i x t rest
  split at h
  ·rename_i a;cases h;exact aaj By a c
  ·rename_i e a;cases h;exact TH By a c
  ·rename_i n e a;cases h;exact aak By a c
  ·rename_i k e a;cases h;exact aam By a c
  ·cases h
 ·rename_i x t rest
  split at h
  ·rename_i e a;cases h;exact ake By a c
  ·cases h
 ·cases h;exact agB c
 ·cases h;exact agC c
 ·cases h;exact Ql c
 ·rename_i x n t u
  split at h
  ·rename_i e a
   split at h
   ·rename_i r l;cases h;exact Ag.of (Nl By a l c) nofun nofun nofun
   ·cases h
  ·cases h
 ·rename_i s x t u
  split at h
  ·rename_i e v j a
   simp only [ad,ai,Bool.and_eq_true] at h;obtain ⟨size,hs,bytes,i,z,g,⟨⟨h0,f⟩,OM⟩,h⟩:=h;have h0:=Jf h0;have f:=Jf f;have OM:=Nat.eq_of_beq_eq_true OM;split at h
   ·rename_i k;cases h;exact Ag.of (It By j a hs i g h0 f OM c) nofun nofun nofun
   ·rename_i q;cases h;exact Ag.of (KG By j (.inl ⟨_,a⟩) hs i g h0 f OM c) nofun nofun nofun
   ·cases h;exact Ag.of (KG By j (.inr a) hs i g h0 f OM c) nofun nofun nofun
   ·cases h
  ·cases h
 ·rename_i p s t rest
  split at h
  ·rename_i e a
   simp only [ad,Option.some.injEq] at h;obtain ⟨size,hs,rfl⟩:=h;exact Ag.of (adq By a hs c) nofun nofun nofun
  ·cases h
 ·rename_i x t rest
  split at h
  ·rename_i k e a;cases h;exact Ag.of (QA By a c) nofun nofun nofun
  ·cases h
 ·rename_i m k t rest
  split at h
  ·rename_i o e a;cases h;exact Ag.of (WD By a c) nofun nofun nofun
  ·cases h
 ·cases h
theorem tE {o:Op}(h:aq C o=some d):akn C o d:=by
 cases o with
 | move y=>simp only [aq,ad,Option.some.injEq] at h;obtain ⟨x,g,rfl⟩:=h;exact agz g
 | assign y=>simp only [aq,ad,Option.some.injEq] at h;obtain ⟨x,g,rfl⟩:=h;exact aag g
 | pick c a b=>simp only [aq,ad,Option.some.injEq] at h;obtain ⟨x,g,y,hy,z,w,rfl⟩:=h;exact agA g hy w
 | build t ps=>
   simp only [aq,ad] at h;obtain ⟨z,w,h⟩:=h;split at h
   ·rename_i fs p
    simp only [ad,Option.some.injEq] at h;obtain ⟨pl,X,l,D,rfl⟩:=h;exact KC p w X D
   ·rename_i n e p
    simp only [ad,Option.some.injEq] at h;obtain ⟨n,v,l,D,rfl⟩:=h;exact TI p w v D
   ·cases h
 | nilCheck y=>simp only [aq,ad,Option.some.injEq] at h;obtain ⟨x,g,rfl⟩:=h;exact Tx g
 | binOp op t y z u=>simp only [aq,ad,Option.some.injEq] at h;obtain ⟨x,g,K,F,rfl⟩:=h;exact akd g F
 | unOp op t y=>simp only [aq,ad,Option.some.injEq] at h;obtain ⟨x,g,rfl⟩:=h;exact aoi g
 | convert s t y=>simp only [aq,ad] at h;obtain ⟨x,g,h⟩:=h;exact KL g h
 | makeInterface t y=>
   simp only [aq] at h;split at h
   ·cases h
   ·rename_i U v p
    simp only [ad,Option.some.injEq] at h;obtain ⟨x,g,rfl⟩:=h;exact Wq p (λms e=>v ms e) g
   ·cases h
 | makeFunc f a b=>
   cases f with
   | func f=>simp only [aq,ad,Option.some.injEq] at h;obtain ⟨x,g,K,F,rfl⟩:=h;exact aah g F
   | _=>simp [aq] at h
 | slice t y lo hi mx=>
   simp only [aq,ad] at h;obtain ⟨x,g,l,D,hh,Ir,m,A,h⟩:=h;split at h
   ·rename_i p
    split at h
    ·cases h
     cases mx with
     | none=>exact Ty p g D Ir
     | some q=>simp only [gW,ad] at A;obtain ⟨_,_,A⟩:=A;cases A
    ·cases h
   ·rename_i e p
    simp only [ad,ai,Option.some.injEq] at h;obtain ⟨n,v,O,rfl⟩:=h;exact adf p v g D Ir A O
   ·rename_i n e p
    simp only [ad,ai,Option.some.injEq] at h;obtain ⟨size,v,O,rfl⟩:=h;exact TC p v g D Ir A O
   ·cases h
 | fieldAddr t y f=>
   simp only [aq] at h;split at h
   ·rename_i fs p
    simp only [ad,ai,Option.some.injEq] at h;obtain ⟨W,P,n,v,h0,x,g,rfl⟩:=h;exact Qj p P v h0 g
   ·cases h
 | field t y f=>
   simp only [aq] at h;split at h
   ·rename_i fs p
    simp only [ad,Option.some.injEq] at h;obtain ⟨W,P,R,I,x,g,rfl⟩:=h;exact adg p P I g
   ·cases h
 | indexAddr t y i=>
   simp only [aq,ad] at h;obtain ⟨x,g,j,G,h⟩:=h;split at h
   ·rename_i e p
    simp only [ad,Option.some.injEq] at h;obtain ⟨n,v,rfl⟩:=h;exact Qk p v g G
   ·rename_i n e p
    simp only [ad,Option.some.injEq] at h;obtain ⟨size,v,rfl⟩:=h;exact TE p v g G
   ·cases h
 | index t y i=>
   simp only [aq,ad] at h;obtain ⟨x,g,j,G,h⟩:=h;split at h
   ·rename_i p;cases h;exact TF p g G
   ·rename_i n e p
    simp only [ad,Option.some.injEq] at h;obtain ⟨size,v,R,I,rfl⟩:=h;exact TG p v I g G
   ·cases h
 | typeAssert y xt t ok=>
   simp only [aq,ad] at h;obtain ⟨x,g,z,w,h⟩:=h;split at h
   ·rename_i want p;cases h;exact Wx p w g
   ·rename_i U v p;cases h;exact Wv p (λms e=>v ms e) w g
   ·cases h
 | entry y=>simp only [aq,ad,Option.some.injEq] at h;obtain ⟨x,g,rfl⟩:=h;exact adj g
 | extract y i=>simp only [aq,ad,Option.some.injEq] at h;obtain ⟨x,g,rfl⟩:=h;exact Wy g
 | load t y=>simp only [aq,ad,Option.some.injEq] at h;obtain ⟨R,I,x,g,rfl⟩:=h;exact agE I g
 | lookup t m k ok=>
   simp only [aq,ad] at h;obtain ⟨x,g,j,G,h⟩:=h;split at h
   ·rename_i N M p
    simp only [ad,Option.some.injEq] at h;obtain ⟨z,w,rfl⟩:=h;exact aal p w g G
   ·cases h
 | alloc t=>simp only [aq,ad,Option.some.injEq] at h;obtain ⟨z,w,rfl⟩:=h;exact Ag.mk (aap w) (λt' cs e=>by cases e;exact ⟨z,rfl,w,rfl⟩) nofun nofun
 | box t y=>simp only [aq,ad,Option.some.injEq] at h;obtain ⟨x,g,rfl⟩:=h;exact Ag.of (agF g) nofun nofun nofun
 | buildSlice t n ps=>
   simp only [aq] at h;split at h
   ·rename_i e p
    simp only [ad,ai,Option.some.injEq,Bool.and_eq_true] at h;obtain ⟨size,hs,z,w,⟨⟨v,OM⟩,h0⟩,l,D,rfl⟩:=h;have B:cI C (.buildSlice t n ps) _:=@KF C t e size n z ps l p hs w (Nat.le_of_ble_eq_true v) (Nat.eq_of_beq_eq_true OM) (Jf h0) D;split
    ·rename_i cs E
     refine Ag.akm (Qq B E) ⟨_,_,_,_,_,(),rfl,p,hs,w,Nat.le_of_ble_eq_true v,Nat.eq_of_beq_eq_true OM,Jf h0,D,E⟩
    ·exact Ag.of B nofun nofun nofun
   ·cases h
 | store t a y=>simp only [aq,ad,Option.some.injEq] at h;obtain ⟨n,v,x,g,K,F,rfl⟩:=h;exact Ag.of (aao v g F) nofun nofun nofun
 | makeMap t r=>
   cases r with
   | none=>simp only [aq,Option.some.injEq] at h;subst h;exact Ag.of (TO) nofun nofun nofun
   | some r=>simp [aq] at h
 | makeSlice t n c=>
   simp only [aq] at h;split at h
   ·rename_i e p
    simp only [ad,Option.some.injEq] at h;obtain ⟨size,hs,bytes,V,z,w,x,g,K,F,rfl⟩:=h;exact Ag.of (Nk p hs V w g F) nofun nofun nofun
   ·cases h
 | mapUpdate t m k x=>
   simp only [aq] at h;split at h
   ·rename_i N M p
    simp only [ad,Option.some.injEq] at h;obtain ⟨Q,A,S,H,T,g,rfl⟩:=h;exact Ag.of (Np p A H g) nofun nofun nofun
   ·cases h
 | insert t m k x=>
   simp only [aq] at h;split at h
   ·rename_i N M p
    simp only [ad,Option.some.injEq] at h;obtain ⟨Q,A,S,H,T,g,rfl⟩:=h;exact Ag.of (WC p A H g) nofun nofun nofun
   ·cases h
 | mapEntry t m k=>
   simp only [aq] at h;split at h
   ·rename_i N M p
    simp only [ad,Option.some.injEq] at h;obtain ⟨z,w,Q,A,S,H,rfl⟩:=h;exact Ag.of (Qv p w A H) nofun nofun nofun
   ·cases h
 | entryStore t m s x=>simp only [aq,ad,Option.some.injEq] at h;obtain ⟨Q,A,Y,hs,T,g,rfl⟩:=h;exact Ag.of (KK A hs g) nofun nofun nofun
 | range t y=>
   simp only [aq,ad] at h;obtain ⟨x,g,h⟩:=h;split at h
   ·rename_i p;cases h;exact Ag.of (Qz p g) nofun nofun nofun
   ·rename_i k e p;cases h;exact Ag.of (Qy p g) nofun nofun nofun
   ·cases h
 | next y s=>
   cases s with
   | false=>simp only [aq,ad,Option.some.injEq] at h;obtain ⟨x,g,rfl⟩:=h;exact Ag.of (adr g) nofun nofun nofun
   | true=>simp [aq] at h
 | call c=>
   simp only [aq] at h;split at h
   ·rename_i b E
    simp only [ad] at h;obtain ⟨xs,QB,h⟩:=h;have:=KM (args:=c.args) (ts:=c.argTypes) QB h;obtain ⟨J,args,ts⟩:=c;simp only at E;subst E;exact this
   ·simp only [ad,Option.some.injEq] at h
    obtain ⟨q,L,rfl⟩:=h;exact aav L
 | defer c=>
   simp only [aq] at h;split at h
   ·rename_i Z E
    simp only [ad,Option.some.injEq] at h;obtain ⟨q,L,rfl⟩:=h;exact WE E L
   ·cases h
 | _=>simp [aq] at h
end
end Go.Dx
namespace Go.Dx
open Go Go.RowKit
variable{a:A}{n:Nat}{v:V}{tmps:Array Value}{tm:T V}{d':Option Lb}{d:Option Tmp}{o:Oper}
section
variable {P:Program} {B:Nat} {w0:World} {ρ ρ':bD} {h h':H} {w:World}
theorem aau.mono (e:j8 ρ ρ'){d:FuncId×List V}{x:Deferred}(r:aau ρ d x):aau ρ' d x:=
 let ⟨xs,cap,h1,h2,h3⟩:=r;⟨xs,cap,h1,h2,h3.mono e⟩
inductive v8 (ρ:bD):List (FuncId×List V)->List Deferred->Prop
 | nil:v8 ρ [] []
 | cons {d:FuncId×List V} {x:Deferred} {ds:List (FuncId×List V)} {xs:List Deferred} (h:aau ρ d x) (hs:v8 ρ ds xs):v8 ρ (d::ds) (x::xs)
theorem v8.mono (e:j8 ρ ρ'){ds:List (FuncId×List V)}{xs:List Deferred}(r:v8 ρ ds xs):v8 ρ' ds xs:=by
 induction r with
 | nil=>exact .nil
 | cons h _ ih=>exact .cons (h.mono e) ih
structure oW (ρ:bD)(n:Nat)(a:A)(x:Act):Prop where
 tmps:jx ρ n a.tmps x.tmps
 defers:v8 ρ a.defers x.defers
theorem oW.mono (e:j8 ρ ρ'){x:Act}(r:oW ρ n a x):oW ρ' n a x:=⟨r.tmps.mono e,r.defers.mono e⟩
theorem jI (tm:T V)(p:Lb)(v:V):bV (tm.set p (some v)) p=v:=by unfold bV;rw [T.aY]
theorem ki (tm:T V){p q:Lb}(v:V)(h:p≠q):bV (tm.set p (some v)) q=bV tm q:=by unfold bV;rw [T.bh _ _ _ _ h]
theorem jx.put (r:jx ρ n tm tmps){d:Nat}(c:d<n){x:Value}(b:RV ρ v x):jx ρ n (tm.set (pathOf d) (some v)) (tmps.setIfInBounds d x):=by
 have hs:=r.small;refine ⟨by simp [r.size],hs,λt f=>?_⟩
 by_cases e:d=t
 ·subst e
  rw [jI];have:(tmps.setIfInBounds d x).getD d Go.undef=x:=by simp [r.size,c]
  rw [this];exact b
 ·rw [ki _ _ (λa=>e (fk (by omega) (by omega) a))]
  have:(tmps.setIfInBounds d x).getD t Go.undef=tmps.getD t Go.undef:=by simp [Array.getElem?_setIfInBounds_ne e]
  rw [this];exact r.get t f
theorem KN {C:CE}(h:Ab C d=some d'):(d=none/\d'=none)\/∃t,d=some t/\d'=some (pathOf t)/\t<C.n:=by
 cases d with
 | none=>simp only [Ab,Option.some.injEq] at h;exact .inl ⟨rfl,h.symm⟩
 | some t=>
   simp only [Ab,ai,Option.some.injEq] at h;exact .inr ⟨t,rfl,h.2.symm,by simpa using h.1⟩
theorem oW.put {C:CE}{x:Act}(r:oW ρ C.n a x)(c:Ab C d=some d'){y:Value}(b:RV ρ v y):oW ρ C.n (a.put d' v) (x.put d y):=by
 rcases KN c with ⟨rfl,rfl⟩ | ⟨t,rfl,rfl,e⟩
 ·exact r
 ·exact ⟨r.tmps.put e b,r.defers⟩
theorem yg {C:CE}{ops:Array Oper}{g:Option (Lb×Bool)}(c:mZ C ops o.guard=some g)(r:jx ρ C.n tm tmps):Region.wanted o (yielded ops tmps)=dY tm g:=by
 unfold Region.wanted;cases ho:o.guard with
 | none=>rw [ho] at c;simp only [mZ,Option.some.injEq] at c;subst c;rfl
 | some p=>
   obtain ⟨j,want⟩:=p;rw [ho] at c;simp only [mZ,ad,ai,Option.some.injEq] at c;obtain ⟨q,n,d,k,e,rfl⟩:=c;have e:d<C.n:=by simpa using e
   have l:ops[j]? =some q:=by simpa using n
   have f:=r.get d e;have m:d<tmps.size:=by rw [r.size];exact e
   simp only [yielded,l,Option.bind_some,k,dY];have i:tmps[d]? =some (tmps.getD d Go.undef):=by simp [m]
   rw [i];generalize tmps.getD d Go.undef=y at f;generalize bV tm (pathOf d)=v at f;cases f with
   | bool b=>cases want<;>cases b<;>simp
   | sym _ _ a=>rename_i h _ _ _;revert a;generalize h.val=z;intro a;cases z<;>first | (simp [Oz] at a;done) | (cases want<;>simp)
   | any a=>revert a;generalize y=z;intro a;cases z<;>first | (simp [Oz] at a;done) | (cases want<;>simp)
   | _=>cases want<;>simp
def Good (P:Program)(f:FuncId)(xs:List Value)(w:World)(R:Value->World->Prop):Prop:=
 (∃v w',(callFunc f ⟨xs⟩).run P w = .ok (.value v) w'/\R v w')\/
 ((callFunc f ⟨xs⟩).run P w = .ok (.enter f ⟨xs⟩) w/\Calls P f ⟨xs⟩ w λe w'=>∃v,e = .returned v/\R v w')
def nQ (P:Program)(G:Nat)(a:jF):Prop:=∀{f:FuncId} {args:List V} {h:H} {v:V} {h':H},a f args h=some (v,h')->∀{B:Nat} {w0:World} {ρ:bD} {w:World} {xs:List Value},aA B w0 ρ h w->gM ρ G->cZ ρ args xs->
 Good P f xs w λx w'=>∃ρ',Step ρ ρ' h h'/\RV ρ' v x/\aA B w0 ρ' h' w'
theorem Good.upon {f:FuncId}{xs:List Value}{R:Value->World->Prop} (g:Good P f xs w R)  {A:Act} {K:Act->World->Prop} {Q:Exit->Act->World->Prop} (c:∀v w',R v w'->K (A.put o.dst v) w'):
  o.upon P A K Q ((callFunc f ⟨xs⟩).run P w):=by
 rcases g with ⟨v,w',b,a⟩ | ⟨b,d⟩
 ·rw [b];exact c v w' a
 ·rw [b]
  show Calls P f _ w _
  refine d.mono λe w' h=>?_;obtain ⟨v,rfl,a⟩:=h;exact c v w' a
theorem agH {C:CE}{call:jF}(P:nQ C.P C.G call){ops:Array Oper}{d:DO}(G:gX C ops o=some d){a H:A}{A:Act}(U:oW ρ C.n a A)(k:gM ρ C.G)(R:aA B w0 ρ h w)
  (b:DU (dq C.P) call d a h=some (H,h')) {K:Act->World->Prop} {Q:Exit->Act->World->Prop} (n:∀ρ' A' w',Step ρ ρ' h h'->oW ρ' C.n H A'->aA B w0 ρ' h' w'->K A' w'):o.wp C.P A w K Q:=by
 simp only [gX,ad,Option.some.injEq] at G;obtain ⟨M,m,g,S,rfl⟩:=G;unfold Oper.wp;unfold DU at b;simp only at b;cases kL:aq C o.op with
 | none=>simp only [kL,Option.getD_none] at b;cases b
 | some op=>
   have s:=tE kL;simp only [kL,Option.getD_some] at b;cases op with
   | SD x=>
     simp only [Option.some.injEq,Prod.mk.injEq] at b;obtain ⟨rfl,rfl⟩:=b;obtain ⟨y,hy,j⟩:=s U.tmps k;rw [j o rfl w,Oper.upon_value];exact n ρ _ _ (Step.refl _ _) (U.put m hy) R
   | p q=>
     simp only [ad,Option.some.injEq,Prod.mk.injEq] at b;obtain ⟨v,l,rfl,rfl⟩:=b;obtain ⟨y,hy,j⟩:=s U.tmps k v l;rw [j o rfl w,Oper.upon_value];exact n ρ _ _ (Step.refl _ _) (U.put m hy) R
   | r q=>
     simp only [ad,Option.some.injEq,Prod.mk.injEq] at b;obtain ⟨I,J,v,l,rfl,rfl⟩:=b;obtain ⟨y,hy,j⟩:=s U.tmps k I J v R l;rw [j o rfl,Oper.upon_value];exact n ρ _ _ (Step.refl _ _) (U.put m hy) R
   | e q=>
     simp only [ad,Option.some.injEq,Prod.mk.injEq] at b;obtain ⟨⟨v,Eg⟩,l,rfl,rfl⟩:=b;obtain ⟨ρ',y,w',W,u,z,O⟩:=s.eff U.tmps k R l;have E:=W.ext R;rcases O o rfl with j | ⟨j,rfl⟩
     ·rw [j,Oper.upon_value]
      exact n ρ' _ _ W ((U.mono E).put m u) z
     ·rw [j,Oper.upon_skip]
      exact n ρ' _ _ W ((U.mono E).put m u) z
   | c q=>
     simp only [ad,Option.some.injEq,Prod.mk.injEq] at b;obtain ⟨⟨f,vs⟩,F,⟨v,Eg⟩,l,rfl,rfl⟩:=b;obtain ⟨xs,QB,j⟩:=s U.tmps k F;rw [j o rfl w];refine (P l R k QB).upon λy w' N=>?_;obtain ⟨ρ',W,u,z⟩:=N;exact n ρ' _ _ W ((U.mono (W.ext R)).put m u) z
   | defer q=>
     simp only [ad,Option.some.injEq,Prod.mk.injEq] at b;obtain ⟨⟨f,vs⟩,F,rfl,rfl⟩:=b;obtain ⟨e,L,j⟩:=s U.tmps k F;rw [j o rfl w,Oper.upon_defer];have Y:oW ρ C.n {tmps:=a.tmps,defers:=(f,vs)::a.defers} {A with defers:=e::A.defers}:=⟨U.tmps,.cons L U.defers⟩;exact n ρ _ _ (Step.refl _ _) (Y.put m (.tuple .nil)) R
   | stuck=>cases b
theorem Ge {C:CE}{call:jF}(k:nQ C.P C.G call){ops:Array Oper}:∀{l:List Oper} {e:List DO},gm C ops l=some e->∀{a f:A} {A:Act} {ρ:bD} {h h':H} {w:World},oW ρ C.n a A->gM ρ C.G->aA B w0 ρ h w->
  uS (dq C.P) call e a h=some (f,h')->∀{Q:Exit->Act->World->Prop},(∀ρ' A' w',Step ρ ρ' h h'->oW ρ' C.n f A'->aA B w0 ρ' h' w'->Q .normal A' w')->wpList C.P ops Q l A w
 | [],e,hc,a,f,A,ρ,h,h',w,hA,hG,R,b,Q,hQ=>by
   simp only [gm,Option.some.injEq] at hc;subst hc;simp only [uS,Option.some.injEq,Prod.mk.injEq] at b;obtain ⟨rfl,rfl⟩:=b;exact hQ ρ A w (Step.refl _ _) hA R
 | o::l,e,hc,a,f,A,ρ,h,h',w,hA,hG,R,b,Q,hQ=>by
   simp only [gm,ad,Option.some.injEq] at hc;obtain ⟨d,p,ds,QC,rfl⟩:=hc;have TD:=p;simp only [gX,ad,Option.some.injEq] at TD;obtain ⟨i,s,g,x,r⟩:=TD;have n:=yg x hA.tmps;simp only [uS] at b;simp only [wpList];have c:d.guard=g:=by rw [<-r]
   have j:d.dst=i:=by rw [<-r]
   split at b
   ·rename_i ZO
    rw [c] at ZO;rw [if_pos (n.trans ZO)];simp only [ad] at b;obtain ⟨⟨a1,y⟩,hs,b⟩:=b;refine .inl (agH k p hA hG R hs λt A1 z q BB R1=>?_);exact Ge k QC BB (hG.mono (q.ext R)) R1 b λm A2 v u=>hQ m A2 v (q.trans u)
   ·rename_i ZO
    rw [c] at ZO;rw [if_neg (by rw [n,ZO];exact Bool.false_ne_true)];rw [j] at b;exact Ge k QC (hA.put s (.tuple .nil)) hG R b hQ
end
end Go.Dx
