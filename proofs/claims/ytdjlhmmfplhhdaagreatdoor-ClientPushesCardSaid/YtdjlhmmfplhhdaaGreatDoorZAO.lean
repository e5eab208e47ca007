/-
  The client's laws. Part ZAO of the proof: A region whose order is open: what comes ahead of what; stages.
-/
import Derived.Test.YtdjlhmmfplhhdaaGreatDoorZAN
namespace Go.Dx
open Go Go.RowKit
variable{o:Oper}{j n:Nat}
theorem yz {acc:List Nat}{i:Nat}:∀{es:List Edge} {e:Edge},e∈es->Region.binds .any e=true->(i=e.on\/((acc[e.on]?).getD 0).testBit i=true)->(nA acc es).testBit i=true
 | e'::es,e,c,hb,h=>by
   simp only [nA];show (Nat.lor _ _).testBit i=true
   have d:∀a b:Nat,(Nat.lor a b).testBit i=(a.testBit i||b.testBit i):=λa b=>Nat.testBit_or a b i;rw [d];rcases List.mem_cons.1 c with rfl | c
   ·rw [hb]
    simp only [d,Bool.or_eq_true]
    left
    rcases h with rfl | h
    ·left
     show (1 <<<e.on).testBit e.on=true
     simp
    ·exact .inr h
   ·rw [yz c hb h,Bool.or_true]
theorem dZ {ops:Array Oper}(f:du ops=true)(c:ops[j]? =some o){e:Edge}(d:e∈o.after)(b:Region.binds .any e=true):
  jK (bp ops.toList []) e.on j/\∀i,jK (bp ops.toList []) i e.on->jK (bp ops.toList []) i j:=by
 have h:=tH f c d b;obtain ⟨acc,a,g,h3⟩:=Gh ops.toList [] j o (by simpa using c);simp only [List.length_nil,Nat.zero_add] at a g;have Ji:e∈o.after.toList:=by simpa using d
 have key:∀i,(i=e.on\/((acc[e.on]?).getD 0).testBit i=true)->jK (bp ops.toList []) i j:=λi hi=>by
  unfold jK;rw [a,Option.getD_some];exact yz Ji b hi
 refine ⟨key _ (.inl rfl),λi hi=>key i (.inr ?_)⟩;rw [h3 e.on (by omega)];exact hi
theorem se {ops:Array Oper}(f:du ops=true){a b:Nat}:∀c,jK (bp ops.toList []) a b->jK (bp ops.toList []) b c->jK (bp ops.toList []) a c:=by
 intro c;induction c using Nat.strongRecOn with
 | ind c ih=>
   intro SF d;obtain ⟨o,i,e,j,g,h⟩:=nf d;have l:=tH f i j g;obtain ⟨m,k⟩:=dZ f i j g;rcases h with rfl | h
   ·exact k a SF
   ·exact k a (ih e.on l SF h)
def Aj (ops:Array Oper)(j:Nat):Nat->Bool:=λi=>(((bp ops.toList [])[j]?).getD 0).testBit i
section
variable {C:CE} {ops:Array Oper} {l:List DO} {tm0:T V} {v:Nat->V} {S:Nat->Bool}
theorem aaF (a:du ops=true)(j:Nat):gq ops (λi=>Aj ops j i=true):=λ_i _o d hi _e b c=>
 se a j (dZ a d b c).1 hi
theorem vd (F:qP C ops l)(c:gq ops (λi=>S i=true))   (a:ops[j]? =some o) (g:S j=false) (d:∀e∈o.after,Region.binds .any e=true->S e.on=true)
  {t:Nat} (b:t<C.n) (TY:t∈o.looksAt ops):bV (mask l tm0 v S ops.size) (pathOf t)=bV (mask l tm0 v (Aj ops j) ops.size) (pathOf t):=by
 rw [Cr F c a g d b TY];refine (Cr F (aaF F.eA j) a ?_ (λe k f=>(dZ F.eA a k f).1) b TY).symm;cases h:Aj ops j j with
 | false=>rfl
 | true=>have:=yl F.eA j j h;omega
def iP (ops:Array Oper)(l:List DO)(n:Nat)(j:Nat):Nat:=oQ (λe=>(((bp ops.toList [])[j]?).getD 0).testBit e) (aF l n)
def ag5 (ops:Array Oper)(l:List DO)(n:Nat)(j:Nat):Nat:=oQ (λe=>!(((bp ops.toList [])[e]?).getD 0).testBit j) (aF l n)
theorem Y4 (a:du ops=true){i:Nat}(h:jK (bp ops.toList []) i j):iP ops l n i<=iP ops l n j:=by
 unfold iP;rw [eO,eO];exact List.countP_mono_left λe _ b=>se a j b h
theorem Gq {p q:Nat->Bool} {x:Nat}:∀{l:List Nat},x∈l->q x=true->p x=false->(∀y∈l,p y=true->q y=true)->l.countP p+1<=l.countP q
 | y::l,a,hq,hp,hpq=>by
   rw [List.countP_cons,List.countP_cons];rcases List.mem_cons.1 a with rfl | a
   ·have:=List.countP_mono_left (l:=l) (p:=p) (q:=q) λy hy=>hpq y (List.mem_cons_of_mem _ hy)
    simp [hq,hp];omega
   ·have c:=Gq a hq hp λy hy=>hpq y (List.mem_cons_of_mem _ hy)
    have b:=hpq y (List.mem_cons_self ..);cases hy:p y with
    | true=>simp [b hy];omega
    | false=>simp;omega
theorem QS (a:du ops=true){i:Nat}(hi:i∈aF l n)(h:jK (bp ops.toList []) i j):iP ops l n i+1<=iP ops l n j:=by
 unfold iP;rw [eO,eO];refine Gq hi h ?_ λe _ b=>se a j b h;cases hb:(((bp ops.toList [])[i]?).getD 0).testBit i with
 | false=>rfl
 | true=>have:=yl a i i hb;omega
theorem lo_le (b:du ops=true)(a:gq ops (λi=>S i=true)) (d:S j=true):iP ops l n j<=(aF l n).countP S:=by
 unfold iP;rw [eO];exact List.countP_mono_left λe _ c=>dm b a j e c d
theorem aiT (b:du ops=true)(d:gq ops (λi=>S i=true)) (c:S j=true) (a:j∈aF l n):iP ops l n j+1<=(aF l n).countP S:=by
 unfold iP;rw [eO];refine Gq a c ?_ λe _ a=>dm b d j e a c;cases hb:(((bp ops.toList [])[j]?).getD 0).testBit j with
 | false=>rfl
 | true=>have:=yl b j j hb;omega
theorem Uh (d:du ops=true)(h:ops[j]? =some o)(c:gq ops (λi=>S i=true)) (f:∀e∈o.after,Region.binds .any e=true->S e.on=true):iP ops l n j<=(aF l n).countP S:=by
 unfold iP;rw [eO];refine List.countP_mono_left λe _ k=>?_;obtain ⟨m,a,q,Ji,g,h'⟩:=nf (i:=e) (j:=j) k;rw [h] at a;cases a;have hs:=f q Ji g;rcases h' with rfl | h'
 ·exact hs
 ·exact dm d c q.on e h' hs
theorem aoQ (b:du ops=true)(a:gq ops (λi=>S i=true)) (d:S j=false):(aF l n).countP S<=ag5 ops l n j:=by
 unfold ag5;rw [eO];refine List.countP_mono_left λe _ c=>?_;cases hb:(((bp ops.toList [])[e]?).getD 0).testBit j with
 | false=>rfl
 | true=>have:=dm b a e j hb c;rw [d] at this;cases this
theorem Al {i:Nat}(g:jW (bp ops.toList []) (aF l n)=true)(a:du ops=true)(hi:i∈aF l n)(m:j∈aF l n)(p:i<j):jK (bp ops.toList []) i j:=by
 have h:=pR (S:=λk=>k=j\/jK (bp ops.toList []) k j) a (λk o f b e c d=>by
  rcases b with rfl | b
  ·exact .inr (dZ a f c d).1
  ·exact .inr (se a j (dZ a f c d).1 b)) g
 rcases pT (jL _ _) h i hi j m p (.inl rfl) with e | e
 ·omega
 ·exact e
theorem aaG (d:jW (bp ops.toList []) (aF l n)=true)(b:du ops=true)(c:gq ops (λi=>S i=true)) (g:j∈aF l n) (f:S j=false) (m:ops[j]? =some o)
  (k:∀e∈o.after,Region.binds .any e=true->S e.on=true):iP ops l n j=(aF l n).countP S:=by
 refine Nat.le_antisymm (Uh b m c k) ?_;unfold iP;rw [eO];refine List.countP_mono_left λe a hs=>?_;rcases Nat.lt_trichotomy e j with h | h | h
 ·exact Al d b a g h
 ·subst h;rw [f] at hs;cases hs
 ·have:=dm b c e j (Al d b g a h) hs
  rw [f] at this;cases this
theorem Lp {i:Nat}(d:jW (bp ops.toList []) (aF l n)=true)(a:du ops=true)(hi:i∈aF l n)(c:j∈aF l n)(h:iP ops l n i=iP ops l n j):i=j:=by
 rcases Nat.lt_trichotomy i j with b | e | b
 ·have:=QS (l:=l) a hi (Al d a hi c b);omega
 ·exact e
 ·have:=QS (l:=l) a c (Al d a c hi b);omega
theorem ag6 (a:j∈aF l n)(b:S j=false):(aF l n).countP (λi=>S i||i==j)=(aF l n).countP S+1:=by
 have hs:=jL (bu l n true).1 0;unfold aF at*;generalize kV (bu l n true).1 0=L at*;induction L with
 | nil=>cases a
 | cons x L ih=>
   rw [List.pairwise_cons] at hs;rw [List.countP_cons,List.countP_cons];rcases List.mem_cons.1 a with rfl | a
   ·have:L.countP (λi=>S i||i==j)=L.countP S:=List.countP_congr λy hy=>by
     have:=hs.1 y hy;have:(y==j)=false:=by simp;omega
     simp [this]
    simp [this,b]
   ·have:=hs.1 j a
    have c:(x==j)=false:=by simp;omega
    rw [ih a hs.2];simp only [c,Bool.or_false];omega
theorem ag7 (a:¬j∈aF l n):(aF l n).countP (λi=>S i||i==j)=(aF l n).countP S:=
 List.countP_congr λy hy=>by
  have:(y==j)=false:=by simp;rintro rfl;exact a hy
  simp [this]
end
end Go.Dx
namespace Go.Dx
open Go Go.RowKit
variable{tm:T V}{k j:Nat}{o:Oper}
theorem iA.put {a:A}(s:iA a.tmps tm)(d:Option Lb)(u:V):iA (a.put d u).tmps (Cd tm d u):=by
 cases d with
 | none=>exact s
 | some p=>exact s.set p u
theorem iA.congr {a tm':T V}(s:iA a tm)(h:∀q,bV tm q=bV tm' q):iA a tm':=λp v e=>by rw [<-h];exact s p v e
def Es (ops:Array Oper)(l:List DO)(n k i j:Nat):Bool:=match (aF l n).contains j with
 | true=>decide (iP ops l n j<k)
 | false=>decide (iP ops l n j<k)||(decide (iP ops l n j=k)&&decide (j<i))
section
variable {pf:Unit->Program} {G n:Nat} {ops:Array Oper} {l:List DO} {tm0:T V} {v:Nat->V}
theorem oY {i:Nat}:Es ops l n k i j=true<->iP ops l n j<k\/(¬j∈aF l n/\iP ops l n j=k/\j<i):=by
 unfold Es;cases hc:(aF l n).contains j with
 | true=>have:j∈aF l n:=by simpa using hc
         simp [this]
 | false=>have:¬j∈aF l n:=by simpa using hc
          simp [this]
theorem Lq (b:du ops=true){i e:Nat}(c:jK (bp ops.toList []) e j)(a:Es ops l n k i j=true\/(iP ops l n j=k/\j<=i)):Es ops l n k i e=true:=by
 have f:=yl b j e c;have d:=Y4 (l:=l) (n:=n) b c;rw [oY] at a ⊢
 by_cases hc:e∈aF l n
 ·have g:=QS (l:=l) (n:=n) b hc c
  omega
 ·rcases a with (a | ⟨_,a⟩) | a
  ·omega
  ·by_cases h:iP ops l n e<k
   ·exact .inl h
   ·exact .inr ⟨hc,by omega,by omega⟩
  ·by_cases h:iP ops l n e<k
   ·exact .inl h
   ·exact .inr ⟨hc,by omega,by omega⟩
theorem Am (a:du ops=true)(k i:Nat):gq ops (λj=>Es ops l n k i j=true):=λ_j _o c d _e e b=>
 Lq a (dZ a c e b).1 (.inl d)
theorem ad4 (a:du ops=true)(c:ops[j]? =some o):∀e∈o.after,Region.binds .any e=true->Es ops l n (iP ops l n j) j e.on=true:=λ_e b d=>
 Lq a (dZ a c b d).1 (.inr ⟨rfl,Nat.le_refl _⟩)
theorem ad5 (F:qP ⟨pf (),G,n⟩ ops l)(e:ops[j]? =some o):∃a,l[j]? =some a/\gX ⟨pf (),G,n⟩ ops o=some a/\(tagged ops l n)[j]? =some (Ek (FE l true j) a (n+cj l true j),iP ops l n j,ag5 ops l n j):=by
 obtain ⟨a,b,d⟩:=(cS F.comp j).1 o (by simpa using e);have c:=kj (k:=n) (q:=true) b;have WI:=(uZ (ah:=bp ops.toList []) (effs:=aF l n) (k:=0)).2 ⟨c,rfl,rfl⟩;rw [Nat.zero_add] at WI;exact ⟨a,b,d,WI⟩
theorem sf (F:qP ⟨pf (),G,n⟩ ops l){d:DO}{lo hi:Nat}(h:(tagged ops l n)[j]? =some (d,lo,hi)):∃o a,ops[j]? =some o/\l[j]? =some a/\gX ⟨pf (),G,n⟩ ops o=some a/\d=Ek (FE l true j) a (n+cj l true j)/\lo=iP ops l n j/\hi=ag5 ops l n j/\(bT d=true<->j∈aF l n):=by
 have g:j<ops.size:=by
  have:=(List.getElem?_eq_some_iff.1 h).1;unfold tagged at this;rw [ft,ez] at this;have b:=(cS F.comp 0).2;rw [b] at this;simpa using this
 obtain ⟨a,f,b,h3⟩:=ad5 F (j:=j) (o:=ops[j]) (by simp [g]);rw [h] at h3;cases h3;refine ⟨ops[j],a,by simp [g],f,b,rfl,rfl,rfl,?_⟩;have e:=kj (k:=n) (q:=true) f;unfold aF;rw [j9];constructor
 ·intro m;exact ⟨j,_,e,m,by omega⟩
 ·rintro ⟨p,q,c,i,r⟩
  have:p=j:=by omega
  subst this;rw [e] at c;cases c;exact i
theorem NF.same (_F:qP ⟨pf (),G,n⟩ ops l){j:Nat}{o:Oper}{d0:DO}(_ho:ops[j]? =some o)(K:gX ⟨pf (),G,n⟩ ops o=some d0){q:Bool}{m:Nat}{v A:T V}(HH:∀t,t<n->t∈o.looksAt ops->bV v (pathOf t)=bV A (pathOf t)) (Hs:bV v (pathOf m)=bV A (pathOf m))
  {u:V} {hi k:Nat} {I:H} {ps:List kF} (h:NF (dq (pf ())) v (Ek q d0 m) u hi k I ps):NF (dq (pf ())) A (Ek q d0 m) u hi k I ps:=by
 have FA:=K;simp only [gX,ad,Option.some.injEq] at FA;obtain ⟨P,L,g,N,J⟩:=FA;have F:dY v (Ek q d0 m).guard=dY A (Ek q d0 m).guard:=by
  rw [(iM _ _ _).2,show d0.guard=g from by rw [<-J]];exact u5 (C:=⟨pf (),G,n⟩) N HH
 have B:d0.op=(aq ⟨pf (),G,n⟩ o.op).getD .stuck:=by rw [<-J]
 rcases h with ⟨a,b⟩ | ⟨a,b⟩
 ·exact .inl ⟨F▸a,b⟩
 ·refine .inr ⟨F▸a,?_⟩
  cases kL:aq ⟨pf (),G,n⟩ o.op with
  | none=>
    rw [kL,Option.getD_none] at B;have:(Ek q d0 m).op = .stuck:=by
     have:cv q d0=false:=by obtain ⟨a1,a2,O⟩:=d0;simp only at B;subst B;rfl
     rw [nS this];exact B
    rw [this] at b;exact b.elim
  | some p=>
    rw [kL,Option.getD_some] at B;have d:=Jh (E:=dq (pf ())) (tm:=v) (tm':=A) kL λy hy=>tF λt ht R=>HH t R (qn (by rw [<-ht];exact hy));cases ha:cv q d0 with
    | false=>
      rw [nS ha] at b ⊢;rw [B] at b ⊢;cases p with
      | SD x=>have d:x.ev v=x.ev A:=d;simp only at b ⊢;rw [<-d];exact b
      | p w=>have d:w.eval _ v=w.eval _ A:=d;simp only at b ⊢;rw [<-d];exact b
      | r w=>have d:w.px v=w.px A:=d;simp only at b ⊢;rw [<-d];exact b
      | e w=>exact b.elim
      | c w=>exact b.elim
      | defer w=>exact b.elim
      | stuck=>exact b.elim
    | true=>
      obtain ⟨a1,a2,O⟩:=d0;simp only at B;subst B;cases a2 with
      | e w=>
        cases w with
        | alloc t cs=>
          obtain ⟨Q,f,D⟩:=b;refine ⟨Q,?_,D⟩;simp only [RD.px,X.ev] at f ⊢;rw [<-Hs];exact f
        | cL t cs s=>
          obtain ⟨Q,f,D⟩:=b;refine ⟨Q,?_,D⟩;simp only [RD.px,X.ev] at f ⊢;rw [<-Hs];exact f
        | dj e x=>
          have M:q=true:=ha;subst M;obtain ⟨Q,f,D⟩:=b;refine ⟨Q,?_,D⟩;have d:∀h,(ED.dj e x).run v h=(ED.dj e x).run A h:=d;have S:x.ev v=x.ev A:=by
           have z:=d ⟨.leaf,[]⟩;simp only [ED.run] at z;simp only [RD.px] at f;split at f
           ·rename_i b1 W
            rw [W] at z ⊢;simp only [ai] at f;simp only [f.1,bO] at z;split at z
            ·rename_i Y U
             rw [U];cases hb:Nat.ble Y.length 9223372036854775807 with
             | false=>rw [hb] at z;cases z
             | true=>
               rw [hb] at z;simp only [Option.some.injEq,Prod.mk.injEq] at z;obtain ⟨_,Z⟩:=z;have:=congrArg (λh:H=>h.get []) Z;simp only [H.get,H.add,T.aY,Option.some.injEq,Dx.Obj.cells.injEq] at this;have inj:∀{a b:List Nat},ae a=ae b->a=b:=λ{a}=>by
                induction a with
                | nil=>intro b h;cases b with | nil=>rfl | cons y b=>simp [ae] at h
                | cons x a ih=>intro b h;cases b with | nil=>simp [ae] at h | cons y b=>simp [ae] at h;rw [Int.ofNat.inj h.1,ih h.2]
               rw [inj this.1]
            ·cases z
           ·cases f
          simp only [RD.px] at f ⊢;rw [<-S];simp only [X.ev] at f ⊢;rw [<-Hs];exact f
        | _=>cases ha
      | _=>cases ha
theorem qt (F:qP ⟨pf (),G,n⟩ ops l){S:Nat->Bool} {s:Nat} (hs:n+s<2 ^ 64):∀i,bV (mask l tm0 v S i) (pathOf (n+s))=bV tm0 (pathOf (n+s))
 | 0=>rfl
 | i+1=>by
   rw [jf,if_neg,qt F hs i];rintro ⟨_,c⟩;obtain ⟨o,t,_,_,b,a⟩:=Gi F.comp c;have d:n<=65536:=F.small;have a:t<n:=a;have:=fk (by omega) (by omega) b;omega
def ad6 (ops:Array Oper)(l:List DO)(tm0:T V)(k:Nat)(h:H)(K:A->List kF->Prop) (i:Nat) (a:A) (ps:List kF) (v:Nat->V):Prop:=
 ∃b f QI,K f QI/\(∀j,(j<i\/j∈aF l n\/iP ops l n j≠k)->b j=v j)/\iA f.tmps (mask l tm0 b (Es ops l n k ops.size) ops.size)/\f.defers=a.defers/\(∀p,p∈ps->p∈QI)/\
   (∀j d lo hi,i<=j->(tagged ops l n)[j]? =some (d,lo,hi)->bT d=false->lo=k->NF (dq (pf ())) (mask l tm0 b (Aj ops j) ops.size) d (b j) hi k h QI)
theorem tJ:∀(l:List DO) (q:Bool) (j:Nat),cj l q j<=l.length
 | [],_,0=>Nat.le_refl _
 | _::_,_,0=>Nat.zero_le _
 | [],_,_+1=>Nat.zero_le _
 | d::r,q,j+1=>by
   have:=tJ r (tI q d) j;simp only [cj,List.length_cons];split<;>omega
theorem QT (F:qP ⟨pf (),G,n⟩ ops l){k:Nat}{h:H}{K:A->List kF->Prop}:∀(r:List (DO×Nat×Nat)) (i:Nat) {a:A} {ps:List kF} {v:Nat->V},(∀m,r[m]? =(tagged ops l n)[i+m]?)->i+r.length=ops.size->iA a.tmps (mask l tm0 v (Es ops l n k i) ops.size)->ops.size<=65536->
  Nr pf k r a h ps K->ad6 (pf:=pf) (n:=n) ops l tm0 k h K i a ps v
 | [],i,a,ps,v,hr,hi,hs,fL,hk=>by
   have:i=ops.size:=by simpa using hi
   subst this;refine ⟨v,a,ps,hk,λ_ _=>rfl,hs,rfl,λ_ h=>h,λj d lo hi f x=>?_⟩;have:=(List.getElem?_eq_some_iff.1 x).1;unfold tagged at this;rw [ft,ez,(cS F.comp 0).2] at this;simp at this;omega
 | (d,lo,hi)::r,i,a,ps,v,hr,N,hs,fL,hk=>by
   simp only [List.length_cons] at N;have h0:(tagged ops l n)[i]? =some (d,lo,hi):=by have:=hr 0;simpa using this.symm
   obtain ⟨o,d0,O,sW,hc,yh,HB,Ir,B⟩:=sf F h0;have Co:∀m,r[m]? =(tagged ops l n)[i+1+m]?:=λm=>by have:=hr (m+1);rw [show i+1+m=i+(m+1) by omega];simpa using this
   simp only [Nr] at hk;split at hk
   ·rename_i y
    have z:i∈aF l n\/iP ops l n i≠k:=by
     simp only [Bool.and_eq_false_iff,Bool.not_eq_false'] at y;rcases y with y | y
     ·exact .inl (B.1 y)
     ·right;intro e
      rw [HB,e,Nat.beq_refl] at y;cases y
    have e1:mask l tm0 v (Es ops l n k (i+1)) ops.size=mask l tm0 v (Es ops l n k i) ops.size:=nh ops.size λj f=>by
     rw [Bool.eq_iff_iff,oY,oY]
     by_cases e:j=i
     ·subst e;rcases z with z | z<;>simp [z]
     ·constructor
      ·rintro (q | ⟨w,s,C⟩)
       ·exact .inl q
       ·exact .inr ⟨w,s,by omega⟩
      ·rintro (q | ⟨w,s,C⟩)
       ·exact .inl q
       ·exact .inr ⟨w,s,by omega⟩
    obtain ⟨M,Z,QI,w,s,C,X,P,Y⟩:=QT F r (i+1) Co (by omega) (by rw [e1];exact hs) fL hk;refine ⟨M,Z,QI,w,λj f=>?_,C,X,P,λj d' MV N f x Ji D=>?_⟩
    ·rcases f with f | f | f
     ·exact s j (.inl (by omega))
     ·exact s j (.inr (.inl f))
     ·exact s j (.inr (.inr f))
    ·by_cases e:j=i
     ·subst e
      rw [h0] at x;cases x;exfalso;rcases z with z | z
      ·rw [B.2 z] at Ji;cases Ji
      ·omega
     ·exact Y j d' MV N (by omega) x Ji D
   ·rename_i y
    simp only [Bool.and_eq_true,Bool.not_eq_true'] at y;obtain ⟨he,T⟩:=y;have E:iP ops l n i=k:=by rw [<-HB];exact Nat.eq_of_beq_eq_true T
    have cV:¬i∈aF l n:=λhm=>by rw [B.2 hm] at he;cases he
    have U:Es ops l n k i i=false:=by
     cases hh:Es ops l n k i i with
     | false=>rfl
     | true=>rw [oY] at hh;omega
    have lC:d.dst=d0.dst:=by rw [yh];exact (iM _ _ _).1
    have rN:n<=65536:=F.small;have azy:n+cj l true i<=131072:=by
     have h1:=iN l n true;have h2:l.length=ops.size:=by have:=(cS F.comp 0).2;simpa using this
     have:=tJ l true i;omega
    have step:∀{u:V} {ps1:List kF},(∀p,p∈ps->p∈ps1)->(∀QI,(∀p,p∈ps1->p∈QI)->NF (dq (pf ())) (mask l tm0 v (Es ops l n k i) ops.size) d u hi k h QI)->Nr pf k r (a.put d.dst u) h ps1 K->
      ad6 (pf:=pf) (n:=n) ops l tm0 k h K i a ps v:=λ{u ps1} hps R Hz=>by
     have O3:∀S:Nat->Bool,S i=false->mask l tm0 (λj=>if j=i then u else v j) S ops.size=mask l tm0 v S ops.size:=λS hS=>
      jg ops.size λj _ f=>by
       have:j≠i:=λe=>by rw [e,hS] at f;cases f
       simp [this]
     have Lr:iA (a.put d.dst u).tmps (mask l tm0 (λj=>if j=i then u else v j) (Es ops l n k (i+1)) ops.size):=by
      have e1:mask l tm0 (λj=>if j=i then u else v j) (Es ops l n k (i+1)) ops.size=mask l tm0 (λj=>if j=i then u else v j) (λj=>Es ops l n k i j||j==i) ops.size:=by
       refine nh ops.size λj f=>?_;rw [Bool.eq_iff_iff,Bool.or_eq_true,oY,oY,beq_iff_eq]
       by_cases e:j=i
       ·subst e;simp [cV,E]
       ·constructor
        ·rintro (q | ⟨w,s,C⟩)
         ·exact .inl (.inl q)
         ·exact .inl (.inr ⟨w,s,by omega⟩)
        ·rintro ((q | ⟨w,s,C⟩) | q)
         ·exact .inl q
         ·exact .inr ⟨w,s,by omega⟩
         ·exact absurd q e
      rw [e1];refine (hs.put d.dst u).congr λq=>?_;rw [ym F (Am F.eA k i) O U q,O3 _ U,sW];simp [lC]
     obtain ⟨M,Z,QI,w,s,C,X,P,Y⟩:=QT F r (i+1) Co (by omega) Lr fL Hz;have hvi:M i=u:=by have:=s i (.inl (by omega));simpa using this
     refine ⟨M,Z,QI,w,λj f=>?_,C,?_,λp J=>P p (hps p J),λj d' MV N f x Ji D=>?_⟩
     ·have Dp:j≠i:=λe=>by
       subst e;rcases f with f | f | f
       ·omega
       ·exact cV f
       ·exact f E
      have:=s j (f.imp (λh=>Nat.lt_succ_of_lt h) id);simpa [Dp] using this
     ·rw [X];exact (jJ _ _ _).2
     ·by_cases e:j=i
      ·subst e
       rw [h0] at x;cases x;rw [hvi];have:=R QI P;rw [yh] at this ⊢;refine NF.same F O hc (λt x hl=>?_) ?_ this
       ·have e2:mask l tm0 M (Aj ops j) ops.size=mask l tm0 v (Aj ops j) ops.size:=jg ops.size λW _ JG=>by
         have bA:=yl F.eA j W JG;have:=s W (.inl (by omega));rw [this];simp [show W≠j by omega]
        rw [e2];have uU:=ad4 (l:=l) (n:=n) F.eA O;rw [E] at uU;exact vd F (Am F.eA k j) O U uU x hl
       ·rw [qt F (by omega),qt F (by omega)]
      ·exact Y j d' MV N (by omega) x Ji D
    have Yx:∀{u:V},dY (mask l tm0 v (Es ops l n k i) ops.size) d.guard=true->ad3 pf d a h (λv q=>Nr pf k r (a.put d.dst v) h (QR q v hi ps) K)->ad6 (pf:=pf) (n:=n) ops l tm0 k h K i a ps v:=λ{_} hw Hz=>by
     obtain ⟨u,q,k1,k2⟩:=ag4 hs hw Hz;refine step (u:=u) (ps1:=QR q u hi ps) (λp J=>?_) (λQI J=>k2 k hi QI λQ hQ=>J _ (by subst hQ;exact List.mem_cons_self ..)) k1;cases q with
     | none=>exact J
     | some q=>exact List.mem_cons_of_mem _ J
    split at hk
    ·rename_i L
     exact Yx (u:=undef) (by rw [L];rfl) hk
    ·rename_i p want L
     have hk:=(bd hs hk).1;split at hk
     ·rename_i b e
      have e:bV (mask l tm0 v (Es ops l n k i) ops.size) p = .bool b:=e;have ZO:=Ln (want:=want) e;split at hk
      ·rename_i I
       exact Yx (u:=undef) (by rw [L,ZO];exact I) hk
      ·rename_i I
       exact step (u:=undef) (ps1:=ps) (λ_ h=>h) (λQI _=>.inl ⟨by rw [L,ZO];exact I,rfl⟩) hk
     ·rename_i c e
      have e:bV (mask l tm0 v (Es ops l n k i) ops.size) p = .tuple c:=e;exact step (u:=undef) (ps1:=ps) (λ_ h=>h) (λQI _=>.inl ⟨by rw [L];simp only [dY,e],rfl⟩) hk
     ·exact hk.elim
end
end Go.Dx
namespace Go.Dx
open Go Go.RowKit
def ag8 (P:Program)(n:Nat)(ops:Array Oper)(l:List DO)(ds:List (FuncId×List V))(G:Nat)(h h0:H)(tm0:T V)(v:Nat->V) (hk:H) (B:Nat) (w0:World) (ρ0:bD) (S:Nat->Bool) (x:Act) (w:World):Prop:=
 ∃ρ,(∀m,val m<val h.next->ρ m=ρ0 m)/\aA B w0 ρ hk w/\val h0.next<=val hk.next/\
  (∀i d L,l[i]? =some d->cv (FE l true i) d=true->S i=false->val L=val h.next+cj l true i->ρ L=none)/\jx ρ n (mask l tm0 v S ops.size) x.tmps/\v8 ρ ds x.defers/\GB P B w0 ρ G
section
variable {P:Program} {G n:Nat} {ops:Array Oper} {l:List DO} {tm0:T V} {v:Nat->V} {h h0 hk:H} {ds:List (FuncId×List V)} {B:Nat} {w0:World} {ρ0:bD}
theorem aoR (F:qP ⟨P,G,n⟩ ops l)(fL:ops.size<=65536)(yo:∀p,p<(bu l n true).2.length->∃L,val L=val h.next+p/\bV tm0 (pathOf (n+p)) = .ptr L 0) (next:val h0.next=val h.next+(bu l n true).2.length)
  {S:Nat->Bool} {x:Act} {w:World} (FB:gq ops (λi=>S i=true)) (inv:ag8 P n ops l ds G h h0 tm0 v hk B w0 ρ0 S x w) {j:Nat} {o:Oper} (ho:ops[j]? =some o) (hj:S j=false)
  (gv:∀e∈o.after,Region.binds .any e=true->S e.on=true) {d:DO} {lo hi k:Nat} {ps:List kF} (htg:(tagged ops l n)[j]? =some (d,lo,hi)) (_hne0:bT d=false) (khi:k<=hi)
  (f:NF (dq P) (mask l tm0 v (Aj ops j) ops.size) d (v j) hi k hk ps) {K:Act->World->Prop} {Q:Exit->Act->World->Prop} (hK:∀x' w',ag8 P n ops l ds G h h0 tm0 v hk B w0 ρ0 (λi=>S i||i==j) x' w'->K x' w'):wpOp P ops Q j K x w:=by
 have hjs:j<ops.size:=(Array.getElem?_eq_some_iff.1 ho).1;have hll:l.length=ops.size:=by have:=(cS F.comp 0).2;simpa using this
 obtain ⟨ρ,i1,i2,i3,i4,i5,i6,i7⟩:=inv;obtain ⟨o',d0,rK,sW,hc,yh,_,_,_⟩:=sf (pf:=λ_=>P) F htg;rw [ho] at rK;cases rK;have yh:=yh.symm;have lC:d.dst=d0.dst:=by rw [<-yh];exact (iM _ _ _).1
 have ako:d.guard=d0.guard:=by rw [<-yh];exact (iM _ _ _).2
 have J:∀t,t<n->t∈o.looksAt ops->bV (mask l tm0 v S ops.size) (pathOf t)=bV (mask l tm0 v (Aj ops j) ops.size) (pathOf t):=λt ht hl=>vd F FB ho hj gv ht hl;have FA:=hc;simp only [gX,ad,Option.some.injEq] at FA;obtain ⟨dst,hcd,g,hg,KV⟩:=FA;have hg0:d0.guard=g:=by rw [<-KV]
 have T0:d0.dst=dst:=by rw [<-KV]
 have iO:d0.op=(aq ⟨P,G,n⟩ o.op).getD .stuck:=by rw [<-KV]
 have HG:Region.wanted o (yielded ops x.tmps)=dY (mask l tm0 v (Aj ops j) ops.size) d.guard:=by
  rw [ako,hg0,yg hg i5];exact u5 hg J
 have fin:∀{H:bD} {y:Value} {x':Act} {w':World},x'=x.put o.dst y->(∀m,val m<val h.next->H m=ρ0 m)->j8 ρ H->aA B w0 H hk w'->val h0.next<=val hk.next->
   (∀i d L,l[i]? =some d->cv (FE l true i) d=true->S i=false->i≠j->val L=val h.next+cj l true i->H L=none)->RV H (v j) y->K x' w':=λ{H y x' w'} hx q1 q2 q3 q4 q5 q6=>by
  subst hx;have hA:oW H n (A.put {tmps:=mask l tm0 v S ops.size,defers:=ds} dst (v j)) (x.put o.dst y):=
   oW.put (C:=⟨P,G,n⟩) (a:={tmps:=mask l tm0 v S ops.size,defers:=ds}) ⟨i5.mono q2,i6.mono q2⟩ hcd q6
  refine hK _ _ ⟨H,q1,q3,q4,λi d L N R h3 h4=>?_,?_,?_,i7.mono q2⟩
  ·simp only [Bool.or_eq_false_iff] at h3
   exact q5 i d L N R h3.1 (by simpa using h3.2) h4
  ·refine ⟨hA.tmps.size,hA.tmps.small,λt ht=>?_⟩
   rw [ym F FB ho hj];have:=hA.tmps.get t ht;rw [(jJ _ _ _).1] at this;rw [sW];simpa [T0] using this
  ·have:=hA.defers
   rw [(jJ _ _ _).2] at this;exact this
 have O:∀{y:Value},RV ρ (v j) y->K (x.put o.dst y) w:=λ{y} hv=>fin rfl i1 (j8.refl ρ) i2 i3 (λi d L N R h3 _ h4=>i4 i d L N R h3 h4) hv;unfold wpOp;simp only [ho];rcases f with ⟨hw,hv⟩ | ⟨hw,f⟩
 ·rw [if_neg (by rw [HG,hw];exact Bool.false_ne_true)]
  exact O (by rw [hv];exact .tuple .nil)
 ·rw [if_pos (by rw [HG,hw])]
  refine .inl ?_;unfold Oper.wp;cases kL:aq ⟨P,G,n⟩ o.op with
  | none=>
    exfalso;have:d.op = .stuck:=by
     rw [kL,Option.getD_none] at iO;have:cv (FE l true j) d0=false:=by obtain ⟨a1,a2,a3⟩:=d0;simp only at iO;subst iO;rfl
     rw [<-yh,nS this];exact iO
    rw [this] at f;exact f
  | some q=>
    rw [kL,Option.getD_some] at iO;have ok:=tE kL;have s:=Jh (E:=dq P) (tm:=mask l tm0 v S ops.size) (tm':=mask l tm0 v (Aj ops j) ops.size) kL λy hy=>tF λt ht bA=>J t bA (qn (by rw [<-ht];exact hy))
    by_cases I:cv (FE l true j) d0=true
    ·
     have I:=I;obtain ⟨atu,op1,g1⟩:=d0;simp only at iO;subst iO;cases op1 with
     | e q1=>
       cases q1 with
       | alloc t cs=>
         have nV:d.op = .r (.fresh t cs (.t (pathOf (n+cj l true j)))):=by rw [<-yh];rfl
         rw [nV] at f;obtain ⟨Q',M,wF⟩:=f;have bA:=gS (k:=n) (q:=true) sW I;obtain ⟨L,hL,nW⟩:=yo _ bA;have KW:bV (mask l tm0 v (Aj ops j) ops.size) (pathOf (n+cj l true j)) = .ptr L 0:=by
          rw [qt (pf:=λ_=>P) F (by have N:=tJ l true j;have h4:n<=65536:=F.small;omega)];exact nW
         simp only [RD.px,X.ev,KW,eK,Option.some.injEq] at M;subst M;have D:=wF.1 khi;simp only [Dx.Q.ask] at D;split at D
         ·rename_i vs e Z
          simp only [ai,Bool.and_eq_true,Option.some.injEq] at D;obtain ⟨⟨⟨Y,V⟩,_⟩,W⟩:=D;have Y:e=t:=Nat.eq_of_beq_eq_true Y;have V:=jX V;subst Y;subst V;have fO:ρ L=none:=i4 j _ L sW I hj hL;obtain ⟨z,Gj,hz,hvz⟩:=(show Ag ⟨P,G,n⟩ o.op (.alloc e vs) from ok).alloc e vs rfl;subst hvz;obtain ⟨y,hy,hyr⟩:=fN (ρ:=ρ) hz;have hE:j8 ρ (uG ρ L (ej.mk w.heap.size 0 (y.cells.toList++([]:List Value)).length .nilFunc)):=eS fO;have U:val L<val (hk).next:=by have:=next;omega
          have TN:dE (uG ρ L (ej.mk w.heap.size 0 (y.cells.toList++[]).length .nilFunc)) (ej.mk w.heap.size 0 (y.cells.toList++[]).length .nilFunc) z.cells e 0 .yes (w.alloc (.cells ⟨y.cells.toList++[]⟩ e)):=dE.new (rest:=[]) ((hy.mono hE).cells) e 0 .yes;have R':=i2.laid (o:=.cells z.cells e 0 .yes) (x:=.cells ⟨y.cells.toList++[]⟩ e) (b:=(ej.mk w.heap.size 0 (y.cells.toList++([]:List Value)).length .nilFunc)) rfl ⟨rfl,rfl⟩ fO U (Nat.le_refl _) Z (λ_ _=>rfl) TN;have cV:bT d=false:=by unfold bT;rw [show d=⟨d.dst,d.op,d.guard⟩ from rfl,nV]
          have ed:(execOp x.eval o).run P w = .ok (.value (.pointer (some ⟨w.heap.size,0,none⟩))) (w.alloc (.cells ⟨y.cells.toList++[]⟩ e)):=by
           unfold execOp;rw [Gj];simp [Instr.alloc,hyr,newVar,newRow]
          rw [ed,Oper.upon_value];refine fin rfl (λm hm=>?_) hE R' i3 (λi d' L' N R h3 h4 h5=>?_) ?_
          ·rw [ca (λT=>by rw [T] at hm;omega)];exact i1 m hm
          ·have Cs:L'≠L:=λT=>by
            rw [T,hL] at h5;rcases Nat.lt_or_gt_of_ne h4 with rM | KX
            ·have:=dC rM N R;omega
            ·have:=dC KX sW I;omega
           rw [ca Cs];exact i4 i d' L' N R h3 h5
          ·rw [<-W]
           exact .ptr 0 (aU _ _ _)
         ·cases D
       | cL t cs m=>
         have nV:d.op = .r (.freshS t cs m (.t (pathOf (n+cj l true j)))):=by rw [<-yh];rfl
         rw [nV] at f;obtain ⟨Q',M,wF⟩:=f;have bA:=gS (k:=n) (q:=true) sW I;obtain ⟨L,hL,nW⟩:=yo _ bA;have KW:bV (mask l tm0 v (Aj ops j) ops.size) (pathOf (n+cj l true j)) = .ptr L 0:=by
          rw [qt (pf:=λ_=>P) F (by have N:=tJ l true j;have h4:n<=65536:=F.small;omega)];exact nW
         simp only [RD.px,X.ev,KW,eK,Option.some.injEq] at M;subst M;have D:=wF.1 khi;simp only [Dx.Q.ask] at D;split at D
         ·rename_i vs e Z
          simp only [ai,Bool.and_eq_true,Option.some.injEq] at D;obtain ⟨⟨⟨Y,V⟩,_⟩,W⟩:=D;have Y:e=t:=Nat.eq_of_beq_eq_true Y;have V:=jX V;subst Y;subst V;have fO:ρ L=none:=i4 j _ L sW I hj hL;obtain ⟨t0,ps,size,z,l0,_,Gj,k1,k2,k3,k4,k5,k6,k7,k8⟩:=(show Ag ⟨P,G,n⟩ o.op (.cL e vs m) from ok).row e vs m rfl;have U:val L<val (hk).next:=by have:=next;omega
          obtain ⟨tot,w',R',KY⟩:=vZ (C:=⟨P,G,n⟩) (A:=x) i5 i7.rel k1 k2 k3 k4 k5 k6 k7 k8 i2 fO U Z;have cV:bT d=false:=by unfold bT;rw [show d=⟨d.dst,d.op,d.guard⟩ from rfl,nV]
          have ed:(execOp x.eval o).run P w = .ok (.value (.slice (some ⟨w.heap.size,0,none⟩) m m)) w':=by
           unfold execOp;rw [Gj];exact u6 KY
          rw [ed,Oper.upon_value];refine fin rfl (λm hm=>?_) (eS fO) R' i3 (λi d' L' N R h3 h4 h5=>?_) ?_
          ·rw [ca (λT=>by rw [T] at hm;omega)];exact i1 m hm
          ·have Cs:L'≠L:=λT=>by
            rw [T,hL] at h5;rcases Nat.lt_or_gt_of_ne h4 with rM | KX
            ·have:=dC rM N R;omega
            ·have:=dC KX sW I;omega
           rw [ca Cs];exact i4 i d' L' N R h3 h5
          ·rw [<-W]
           exact .slice 0 m m (aU _ _ _)
         ·cases D
       | dj e0 x0=>
         have hqt:FE l true j=true:=I;have nV:d.op = .r (.freshB e0 x0 (.t (pathOf (n+cj l true j)))):=by rw [<-yh,hqt];rfl
         rw [nV] at f;obtain ⟨Q',M,wF⟩:=f;have bA:=gS (k:=n) (q:=true) sW I;obtain ⟨L,hL,nW⟩:=yo _ bA;have KW:bV (mask l tm0 v (Aj ops j) ops.size) (pathOf (n+cj l true j)) = .ptr L 0:=by
          rw [qt (pf:=λ_=>P) F (by have N:=tJ l true j;have h4:n<=65536:=F.small;omega)];exact nW
         obtain ⟨t1,t2,y0,Gj,k1,k2,k3,k4⟩:=(show Ag ⟨P,G,n⟩ o.op (.dj e0 x0) from ok).bytes e0 x0 rfl;have kG:x0.ev (mask l tm0 v (Aj ops j) ops.size)=x0.ev (mask l tm0 v S ops.size):=by
          have:=tF (C:=⟨P,G,n⟩) (y:=y0) (tm:=mask l tm0 v S ops.size) (tm':=mask l tm0 v (Aj ops j) ops.size) λt ht bA=>J t bA (qn (by rw [Gj,ht];simp [Op.operands]));exact (this x0 k4).symm
         have rx:=aw (C:=⟨P,G,n⟩) i5 i7.rel k4;rw [<-kG] at rx;simp only [RD.px,X.ev,KW] at M;split at M
         ·rename_i b hxb
          have hxb:x0.ev (mask l tm0 v (Aj ops j) ops.size) = .str b:=hxb;rw [hxb] at rx;simp only [ai,eK,Option.some.injEq] at M;obtain ⟨_,M⟩:=M;subst M;have D:=wF.1 khi;simp only [Dx.Q.ask] at D;split at D
          ·rename_i vs e Z
           simp only [ai,Bool.and_eq_true,Option.some.injEq] at D;obtain ⟨⟨⟨Y,V⟩,_⟩,W⟩:=D;have Y:e=e0:=Nat.eq_of_beq_eq_true Y;have V:=jX V;subst Y;subst V;have fO:ρ L=none:=i4 j _ L sW I hj hL;have U:val L<val (hk).next:=by have:=next;omega
           generalize YP:x.eval y0=yv at rx;cases rx with | str u=>
           obtain ⟨cap,w',jl,R',KY⟩:=Bz (P:=P) k1 k2 k3 i2 fO U Z;have cV:bT d=false:=by unfold bT;rw [show d=⟨d.dst,d.op,d.guard⟩ from rfl,nV]
           have ed:(execOp x.eval o).run P w = .ok (.value (.slice (some ⟨w.heap.size,0,none⟩) u.size cap)) w':=by
            unfold execOp;rw [Gj];simp only [YP];exact u6 KY
           rw [ed,Oper.upon_value];refine fin rfl (λm hm=>?_) (eS fO) R' i3 (λi d' L' N R h3 h4 h5=>?_) ?_
           ·rw [ca (λT=>by rw [T] at hm;omega)];exact i1 m hm
           ·have Cs:L'≠L:=λT=>by
             rw [T,hL] at h5;rcases Nat.lt_or_gt_of_ne h4 with rM | KX
             ·have:=dC rM N R;omega
             ·have:=dC KX sW I;omega
            rw [ca Cs];exact i4 i d' L' N R h3 h5
           ·rw [<-W]
            have:=RV.sliceEnd (ρ:=uG ρ L (ej.mk w.heap.size 0 cap .nilFunc)) 0 (au u).length 1 cap (aU _ _ _) (by rw [cA];exact jl) (by simp);simpa [cA] using this
          ·cases D
         ·cases M
       | _=>cases I
     | _=>cases I
    ·have I:cv (FE l true j) d0=false:=by simpa using I
     have nV:d.op=q:=by rw [<-yh,nS I];exact iO
     rw [nV] at f;cases q with
     | SD y=>
       obtain ⟨z,hz,hr⟩:=ok i5 i7.rel;have s:y.ev _=y.ev _:=s;rw [hr o rfl w,Oper.upon_value];refine O ?_;have f:v j=y.ev (mask l tm0 v (Aj ops j) ops.size):=f;rw [f,<-s];exact hz
     | p q=>
       have s:q.eval _ _=q.eval _ _:=s;have f:q.eval (dq P) (mask l tm0 v (Aj ops j) ops.size)=some (v j):=f;obtain ⟨z,hz,hr⟩:=ok i5 i7.rel (v j) (s.trans f);rw [hr o rfl w,Oper.upon_value];exact O hz
     | r q=>
       have s:q.px _=q.px _:=s;obtain ⟨Q',M,wF⟩:=f;have D:=wF.1 khi;obtain ⟨z,hz,hr⟩:=ok i5 i7.rel Q' (s.trans M) (v j) i2 D;rw [hr o rfl,Oper.upon_value];exact O hz
     | e q=>exact f.elim
     | c q=>exact f.elim
     | defer q=>exact f.elim
     | stuck=>exact f.elim
end
end Go.Dx
