/-
  The client's laws. Part ZAK of the proof: The deterministic machine over labels against the model: a region whose order is open.
-/
import Derived.Test.YtdjlhmmfplhhdaaGreatDoorZAJ
import Derived.Test.YtdjlhmmfplhhdaaGreatDoorZAB
namespace Go.Dx
open Go Go.RowKit
variable{o:Oper}{w:World}
theorem BF:∀{r:List (DO×Nat×Nat)} {j:Nat} {d:DO} {lo hi:Nat},r[j]? =some (d,lo,hi)->aV r (j+1)=aV r j+(if bT d then 1 else 0)
 | [],j,d,lo,hi,h=>by simp at h
 | x::r,0,d,lo,hi,h=>by simp at h;subst h;simp [aV]
 | x::r,j+1,d,lo,hi,h=>by
   have:=BF (r:=r) (j:=j) (d:=d) (lo:=lo) (hi:=hi) (by simpa using h);simp only [aV] at this ⊢;omega
theorem pT {R:Nat->Nat->Prop}:∀{l:List Nat},l.Pairwise (· < ·)->l.Pairwise R->∀a,a∈l->∀b,b∈l->a<b->R a b
 | [],_,_,a,ha,_,_,_=>by cases ha
 | x::l,h1,h2,a,ha,b,hb,SF=>by
   rw [List.pairwise_cons] at h1 h2;rcases List.mem_cons.1 ha with d | c
   ·rcases List.mem_cons.1 hb with e | DB
    ·omega
    ·rw [d];exact h2.1 b DB
   ·rcases List.mem_cons.1 hb with e | DB
    ·have:=h1.1 a c;omega
    ·exact pT h1.2 h2.2 a c b DB SF
section
variable {P:Program} {G n:Nat} {ops:Array Oper} {l:List DO} {call:jF} {a a':A} {h h0 h':H} {tm0:T V} {v:Nat->V} {tm:Nat->T V} {hp:Nat->H} {B:Nat} {w0:World} {ρ0:bD}
def aF (l:List DO)(n:Nat):List Nat:=kV (bu l n true).1 0
def tagged (ops:Array Oper)(l:List DO)(n:Nat):List (DO×Nat×Nat):=oR (bp ops.toList []) (aF l n) (bu l n true).1 0
structure Reg (P:Program)(G n:Nat)(ops:Array Oper)(l:List DO)(call:jF)(a a':A)(h h0 h':H)(tm0:T V)(v:Nat->V) (tm:Nat->T V) (hp:Nat->H):Prop where
 facts:qP ⟨P,G,n⟩ ops l
 chain:jW (bp ops.toList []) (aF l n)=true
 size:ops.size<=65536
 trace:Trace (dq P) call (tagged ops l n) 0 {tmps:=tm0,defers:=a.defers} [] h0 [] a' h' v tm hp
 yo:∀p,p<(bu l n true).2.length->∃L,val L=val h.next+p/\bV tm0 (pathOf (n+p)) = .ptr L 0
 next:val h0.next=val h.next+(bu l n true).2.length
structure Inv (P:Program)(G n:Nat)(ops:Array Oper)(l:List DO)(a:A)(h h0:H)(tm0:T V)(v:Nat->V) (hp:Nat->H) (B:Nat) (w0:World) (ρ0:bD) (S:Nat->Bool) (x:Act) (w:World):Prop where
 closed:gq ops (λi=>S i=true)
 rel:∃ρ,(∀m,val m<val h.next->ρ m=ρ0 m)/\aA B w0 ρ (hp ((aF l n).countP S)) w/\val h0.next<=val (hp ((aF l n).countP S)).next/\
  (∀i d L,l[i]? =some d->cv (FE l true i) d=true->S i=false->val L=val h.next+cj l true i->ρ L=none)/\jx ρ n (mask l tm0 v S ops.size) x.tmps/\v8 ρ a.defers x.defers/\gM ρ G
theorem Reg.len (r:Reg P G n ops l call a a' h h0 h' tm0 v tm hp):l.length=ops.size:=by
 have:=(cS r.facts.comp 0).2;simpa using this
theorem Reg.tms (r:Reg P G n ops l call a a' h h0 h' tm0 v tm hp):∀i,i<=ops.size->tm i=mask l tm0 v (λ_=>true) i:=by
 intro i;induction i with
 | zero=>intro _;exact r.trace.tm0
 | succ i ih=>
   intro hi;have c:i<l.length:=by rw [r.len];omega
   have b:l[i]? =some l[i]:=List.getElem?_eq_getElem c;have d:=kj (k:=n) (q:=true) b;have e:=(uZ (ah:=bp ops.toList []) (effs:=aF l n) (k:=0)).2 ⟨d,rfl,rfl⟩;have:=(r.trace.ops i _ _ _ e).2;rw [this,ih (by omega)];simp only [mask,if_true,b,Option.bind_some,(iM _ _ _).1]
theorem Reg.slot (r:Reg P G n ops l call a a' h h0 h' tm0 v tm hp){i p:Nat}(hi:i<=ops.size)(e:n+p<2 ^ 64):bV (tm i) (pathOf (n+p))=bV tm0 (pathOf (n+p)):=by
 rw [r.tms i hi];have c:=r.facts.small;induction i with
 | zero=>rfl
 | succ i ih=>
   rw [jf,if_neg,ih (by omega)];rintro ⟨_,f⟩;obtain ⟨o,t,_,_,d,b⟩:=Gi r.facts.comp f;have c:n<=65536:=c;have b:t<n:=b;have:=fk (by omega) (by omega) d;omega
theorem u5 {C:CE}{g:Option (Lb×Bool)}(a:mZ C ops o.guard=some g){b c:T V}(H:∀t,t<C.n->t∈o.looksAt ops->bV b (pathOf t)=bV c (pathOf t)):dY b g=dY c g:=by
 cases ho:o.guard with
 | none=>rw [ho] at a;simp only [mZ,Option.some.injEq] at a;subst a;rfl
 | some p=>
   obtain ⟨j,want⟩:=p;rw [ho] at a;simp only [mZ,ad,ai,Option.some.injEq] at a;obtain ⟨q,h,d,e,i,rfl⟩:=a;have f:ops[j]? =some q:=by simpa using h
   have k:d∈o.looksAt ops:=by
    unfold Oper.looksAt;refine List.mem_append_right _ ?_;simp [ho,f,e]
   have:=H d (by simpa using i) k;simp only [dY,this]
theorem u6 {s:Sem Value}{x:Value}{w':World}(h:s.run P w = .ok x w'):(do let y<-s;pure (Next.value y):Sem Next).run P w = .ok (.value x) w':=by simp [h]
theorem ady (gN:nQ P G call)(r:Reg P G n ops l call a a' h h0 h' tm0 v tm hp){S:Nat->Bool} {x:Act}  (inv:Inv P G n ops l a h h0 tm0 v hp B w0 ρ0 S x w) {j:Nat}  (ho:ops[j]? =some o) (hj:S j=false)
  (gv:∀e∈o.after,Region.binds .any e=true->S e.on=true) {K:Act->World->Prop} {Q:Exit->Act->World->Prop} (hK:∀x' w',Inv P G n ops l a h h0 tm0 v hp B w0 ρ0 (λi=>S i||i==j) x' w'->K x' w'):wpOp P ops Q j K x w:=by
 have F:=r.facts;have hjs:j<ops.size:=(Array.getElem?_eq_some_iff.1 ho).1;obtain ⟨ρ,i1,i2,i3,i4,i5,i6,i7⟩:=inv.rel;obtain ⟨d0,sW,hc⟩:=(cS F.comp j).1 o (by simpa using ho);have hd:=kj (k:=n) (q:=true) sW;have WI:=(uZ (ah:=bp ops.toList []) (effs:=aF l n) (k:=0)).2 ⟨hd,rfl,rfl⟩;rw [Nat.zero_add] at WI;obtain ⟨fact,_⟩:=r.trace.ops j _ _ _ WI;generalize yh:Ek (FE l true j) d0 (n+cj l true j)=d at fact WI hd;have lC:d.dst=d0.dst:=by rw [<-yh];exact (iM _ _ _).1
 have ako:d.guard=d0.guard:=by rw [<-yh];exact (iM _ _ _).2
 have V:∀t,t<n->t∈o.looksAt ops->bV (mask l tm0 v S ops.size) (pathOf t)=bV (tm j) (pathOf t):=λt ht hl=>by
  rw [r.tms j (by omega)];exact Cr F inv.closed ho hj gv ht hl
 have FA:=hc;simp only [gX,ad,Option.some.injEq] at FA;obtain ⟨dst,hcd,g,hg,KV⟩:=FA;have hg0:d0.guard=g:=by rw [<-KV]
 have T0:d0.dst=dst:=by rw [<-KV]
 have iO:d0.op=(aq ⟨P,G,n⟩ o.op).getD .stuck:=by rw [<-KV]
 have HG:Region.wanted o (yielded ops x.tmps)=dY (tm j) d.guard:=by
  rw [ako,hg0,yg hg i5];exact u5 hg V
 have El:gq ops (λi=>(S i||i==j)=true):=λi o' rK hi e I hb=>by
  simp only [Bool.or_eq_true,beq_iff_eq] at hi ⊢;rcases hi with hi | rfl
  ·exact .inl (inv.closed i o' rK hi e I hb)
  ·rw [ho] at rK;cases rK
   exact .inl (gv e I hb)
 have agN:∀e∈aF l n,e<(tagged ops l n).length:=λe I=>by
  obtain ⟨p,q,M,_,rfl⟩:=j9.1 I;unfold tagged;rw [ft];have:=(List.getElem?_eq_some_iff.1 M).1;omega
 have cnt:∀k,aV (tagged ops l n) k=(aF l n).countP λe=>decide (e<k):=λk=>by
  have:=u4 (ah:=bp ops.toList []) (effs:=aF l n) (bu l n true).1 0 k;rw [Nat.zero_add] at this;exact this
 have agO:bT d=true->(aF l n).countP S=aV (tagged ops l n) j/\(aF l n).countP (λi=>S i||i==j)=aV (tagged ops l n) j+1:=λI=>by
  have gw:j∈aF l n:=j9.2 ⟨j,d,hd,I,by omega⟩;have YU:=jL (bu l n true).1 0;have p1:=pT YU (pR F.eA inv.closed r.chain);have p2:=pT YU (pR F.eA El r.chain);have key:∀e∈aF l n,S e=decide (e<j):=λe N=>by
   rcases Nat.lt_trichotomy e j with bA | heq | YV
   ·have:=p2 e N j gw bA (by simp)
    simp only [Bool.or_eq_true,beq_iff_eq] at this;rcases this with this | this
    ·simp [this,bA]
    ·omega
   ·subst heq;simp [hj]
   ·have cV:S e=false:=by
     cases hs:S e with
     | false=>rfl
     | true=>have:=p1 j gw e N YV hs;rw [hj] at this;cases this
    rw [cV];simp;omega
  constructor
  ·rw [cnt];exact List.countP_congr λe N=>by rw [key e N]
  ·have:=BF WI
   rw [I,if_pos rfl] at this;have this:aV (tagged ops l n) (j+1)=aV (tagged ops l n) j+1:=this;rw [<-this,cnt];refine List.countP_congr λe N=>?_;rw [key e N];simp;omega
 have T1:bT d=false->(aF l n).countP (λi=>S i||i==j)=(aF l n).countP S:=λI=>by
  refine List.countP_congr λe N=>?_;have:e≠j:=λU=>by
   subst U;obtain ⟨p,q,M,O,h3⟩:=j9.1 N;have:p=e:=by omega
   subst this;rw [hd] at M;cases M;rw [I] at O;cases O
  simp [this]
 have cLo:oQ (λe=>(((bp ops.toList [])[j]?).getD 0).testBit e) (aF l n)<=(aF l n).countP S:=by
  rw [eO];refine List.countP_mono_left λe _ I=>?_;obtain ⟨o',rK,U,Ji,hb,h'⟩:=nf (i:=e) (j:=j) I;rw [ho] at rK;cases rK;have hs:=gv U Ji hb;rcases h' with rfl | h'
  ·exact hs
  ·exact dm F.eA inv.closed U.on e h' hs
 have cHi:(aF l n).countP S<=oQ (λe=>!(((bp ops.toList [])[e]?).getD 0).testBit j) (aF l n):=by
  rw [eO];refine List.countP_mono_left λe _ I=>?_;cases hb:(((bp ops.toList [])[e]?).getD 0).testBit j with
  | false=>rfl
  | true=>have:=dm F.eA inv.closed e j hb I;rw [hj] at this;cases this
 have agP:(aF l n).countP S<=aV (tagged ops l n) (tagged ops l n).length:=by
  rw [cnt];refine List.countP_mono_left λe N _=>?_;have:=agN e N;simpa using this
 have fin:∀{J:bD} {y:Value} {x':Act} {w':World},x'=x.put o.dst y->(∀m,val m<val h.next->J m=ρ0 m)->j8 ρ J->aA B w0 J (hp ((aF l n).countP (λi=>S i||i==j))) w'->val h0.next<=val (hp ((aF l n).countP (λi=>S i||i==j))).next->
   (∀i d L,l[i]? =some d->cv (FE l true i) d=true->S i=false->i≠j->val L=val h.next+cj l true i->J L=none)->RV J (v j) y->K x' w':=λ{J y x' w'} hx q1 q2 q3 q4 q5 q6=>by
  subst hx;have hA:oW J n (A.put {tmps:=mask l tm0 v S ops.size,defers:=a.defers} dst (v j)) (x.put o.dst y):=
   oW.put (C:=⟨P,G,n⟩) (a:={tmps:=mask l tm0 v S ops.size,defers:=a.defers}) ⟨i5.mono q2,i6.mono q2⟩ hcd q6
  refine hK _ _ ⟨El,J,q1,q3,q4,λi d L M O h3 h4=>?_,?_,?_,i7.mono q2⟩
  ·simp only [Bool.or_eq_false_iff] at h3
   exact q5 i d L M O h3.1 (by simpa using h3.2) h4
  ·refine ⟨hA.tmps.size,hA.tmps.small,λt ht=>?_⟩
   rw [ym F inv.closed ho hj];have:=hA.tmps.get t ht;rw [(jJ _ _ _).1] at this;rw [sW];simpa [T0] using this
  ·have:=hA.defers
   rw [(jJ _ _ _).2] at this;exact this
 have Z:∀{y:Value},bT d=false->RV ρ (v j) y->K (x.put o.dst y) w:=λ{y} I hv=>
  fin rfl i1 (j8.refl ρ) (by rw [T1 I];exact i2) (by rw [T1 I];exact i3) (λi d L M O h3 _ h4=>i4 i d L M O h3 h4) hv
 have move:∀{J:bD} {y:Value} {w':World},bT d=true->Step ρ J (hp (aV (tagged ops l n) j)) (hp (aV (tagged ops l n) j+1))->RV J (v j) y->aA B w0 J (hp (aV (tagged ops l n) j+1)) w'->K (x.put o.dst y) w':=λ{J y w'} I s hv R'=>by
  obtain ⟨e1,e2⟩:=agO I;rw [e1] at i2 i3;refine fin rfl (λm hm=>?_) (s.ext i2) (by rw [e2];exact R') (by rw [e2];exact Nat.le_trans i3 s.next) (λi d L M O h3 _ h4=>?_) hv
  ·rw [s.old m (by have:=r.next;omega)];exact i1 m hm
  ·have bA:=gS (k:=n) (q:=true) M O
   rw [s.old L (by have:=r.next;omega)];exact i4 i d L M O h3 h4
 unfold wpOp;simp only [ho];rcases fact with ⟨hw,hv,hh⟩ | ⟨hw,fact⟩
 ·rw [if_neg (by rw [HG,hw];exact Bool.false_ne_true)]
  have hu:RV ρ (v j) Go.undef:=by rw [hv];exact .tuple .nil
  cases I:bT d with
  | false=>exact Z I hu
  | true=>
    have hhe:=hh I;rw [Nat.zero_add] at hhe;obtain ⟨e1,e2⟩:=agO I;have R':=i2;rw [e1,<-hhe] at R';exact move I ⟨λ_ _=>rfl,by rw [hhe];exact Nat.le_refl _⟩ hu R'
 ·rw [if_pos (by rw [HG,hw])]
  refine .inl ?_;unfold Oper.wp;cases kL:aq ⟨P,G,n⟩ o.op with
  | none=>
    exfalso;have:d.op = .stuck:=by
     rw [kL,Option.getD_none] at iO;have:cv (FE l true j) d0=false:=by obtain ⟨a1,a2,a3⟩:=d0;simp only at iO;subst iO;rfl
     rw [<-yh,nS this];exact iO
    rw [this] at fact;exact fact
  | some q=>
    rw [kL,Option.getD_some] at iO;have ok:=tE kL;have same:=Jh (E:=dq P) (tm:=mask l tm0 v S ops.size) (tm':=tm j) kL λy hy=>tF λt ht bA=>V t bA (qn (by rw [<-ht];exact hy))
    by_cases T:cv (FE l true j) d0=true
    ·
     have T:=T;obtain ⟨atu,op1,g1⟩:=d0;simp only at iO;subst iO;cases op1 with
     | e q1=>
       cases q1 with
       | alloc t cs=>
         have W:d.op = .r (.fresh t cs (.t (pathOf (n+cj l true j)))):=by rw [<-yh];rfl
         rw [W] at fact;obtain ⟨Q',Y,wF⟩:=fact;have bA:=gS (k:=n) (q:=true) sW T;obtain ⟨L,hL,nW⟩:=r.yo _ bA;have KW:bV (tm j) (pathOf (n+cj l true j)) = .ptr L 0:=by
          rw [r.slot (by omega) (by have M:=iN l n true;have O:=r.len;have h3:=r.size;have h4:n<=65536:=F.small;omega)];exact nW
         simp only [RD.px,X.ev,KW,eK,Option.some.injEq] at Y;subst Y;have R:=wF ((aF l n).countP S) cLo cHi (by rw [Nat.zero_add];exact agP);simp only [Dx.Q.ask] at R;split at R
         ·rename_i vs e hgL
          simp only [ai,Bool.and_eq_true,Option.some.injEq] at R;obtain ⟨⟨⟨I,kM⟩,_⟩,hvj⟩:=R;have I:e=t:=Nat.eq_of_beq_eq_true I;have kM:=jX kM;subst I;subst kM;have fO:ρ L=none:=i4 j _ L sW T hj hL;obtain ⟨z,Gj,hz,hvz⟩:=(show Ag ⟨P,G,n⟩ o.op (.alloc e vs) from ok).alloc e vs rfl;subst hvz;obtain ⟨y,hy,hyr⟩:=fN (ρ:=ρ) hz;have hE:j8 ρ (uG ρ L (ej.mk w.heap.size 0 (y.cells.toList++([]:List Value)).length .nilFunc)):=eS fO;have hLn:val L<val (hp ((aF l n).countP S)).next:=by have:=r.next;omega
          have TN:dE (uG ρ L (ej.mk w.heap.size 0 (y.cells.toList++[]).length .nilFunc)) (ej.mk w.heap.size 0 (y.cells.toList++[]).length .nilFunc) z.cells e 0 .yes (w.alloc (.cells ⟨y.cells.toList++[]⟩ e)):=dE.new (rest:=[]) ((hy.mono hE).cells) e 0 .yes;have R':=i2.laid (o:=.cells z.cells e 0 .yes) (x:=.cells ⟨y.cells.toList++[]⟩ e) (b:=(ej.mk w.heap.size 0 (y.cells.toList++([]:List Value)).length .nilFunc)) rfl ⟨rfl,rfl⟩ fO hLn (Nat.le_refl _) hgL (λ_ _=>rfl) TN;have cV:bT d=false:=by unfold bT;rw [show d=⟨d.dst,d.op,d.guard⟩ from rfl,W]
          have ed:(execOp x.eval o).run P w = .ok (.value (.pointer (some ⟨w.heap.size,0,none⟩))) (w.alloc (.cells ⟨y.cells.toList++[]⟩ e)):=by
           unfold execOp;rw [Gj];simp [Instr.alloc,hyr,newVar,newRow]
          rw [ed,Oper.upon_value];refine fin rfl (λm hm=>?_) hE (by rw [T1 cV];exact R') (by rw [T1 cV];exact i3) (λi d' L' M O h3 h4 h5=>?_) ?_
          ·rw [ca (λU=>by rw [U] at hm;omega)];exact i1 m hm
          ·have Cs:L'≠L:=λU=>by
            rw [U,hL] at h5;rcases Nat.lt_or_gt_of_ne h4 with rM | KX
            ·have:=dC rM M O;omega
            ·have:=dC KX sW T;omega
           rw [ca Cs];exact i4 i d' L' M O h3 h5
          ·rw [<-hvj]
           exact .ptr 0 (aU _ _ _)
         ·cases R
       | cL t cs m=>
         have W:d.op = .r (.freshS t cs m (.t (pathOf (n+cj l true j)))):=by rw [<-yh];rfl
         rw [W] at fact;obtain ⟨Q',Y,wF⟩:=fact;have bA:=gS (k:=n) (q:=true) sW T;obtain ⟨L,hL,nW⟩:=r.yo _ bA;have KW:bV (tm j) (pathOf (n+cj l true j)) = .ptr L 0:=by
          rw [r.slot (by omega) (by have M:=iN l n true;have O:=r.len;have h3:=r.size;have h4:n<=65536:=F.small;omega)];exact nW
         simp only [RD.px,X.ev,KW,eK,Option.some.injEq] at Y;subst Y;have R:=wF ((aF l n).countP S) cLo cHi (by rw [Nat.zero_add];exact agP);simp only [Dx.Q.ask] at R;split at R
         ·rename_i vs e hgL
          simp only [ai,Bool.and_eq_true,Option.some.injEq] at R;obtain ⟨⟨⟨I,kM⟩,_⟩,hvj⟩:=R;have I:e=t:=Nat.eq_of_beq_eq_true I;have kM:=jX kM;subst I;subst kM;have fO:ρ L=none:=i4 j _ L sW T hj hL;obtain ⟨t0,ps,size,z,l0,_,Gj,k1,k2,k3,k4,k5,k6,k7,k8⟩:=(show Ag ⟨P,G,n⟩ o.op (.cL e vs m) from ok).row e vs m rfl;have hLn:val L<val (hp ((aF l n).countP S)).next:=by have:=r.next;omega
          obtain ⟨tot,w',R',KY⟩:=vZ (C:=⟨P,G,n⟩) (A:=x) i5 i7 k1 k2 k3 k4 k5 k6 k7 k8 i2 fO hLn hgL;have cV:bT d=false:=by unfold bT;rw [show d=⟨d.dst,d.op,d.guard⟩ from rfl,W]
          have ed:(execOp x.eval o).run P w = .ok (.value (.slice (some ⟨w.heap.size,0,none⟩) m m)) w':=by
           unfold execOp;rw [Gj];exact u6 KY
          rw [ed,Oper.upon_value];refine fin rfl (λm hm=>?_) (eS fO) (by rw [T1 cV];exact R') (by rw [T1 cV];exact i3) (λi d' L' M O h3 h4 h5=>?_) ?_
          ·rw [ca (λU=>by rw [U] at hm;omega)];exact i1 m hm
          ·have Cs:L'≠L:=λU=>by
            rw [U,hL] at h5;rcases Nat.lt_or_gt_of_ne h4 with rM | KX
            ·have:=dC rM M O;omega
            ·have:=dC KX sW T;omega
           rw [ca Cs];exact i4 i d' L' M O h3 h5
          ·rw [<-hvj]
           exact .slice 0 m m (aU _ _ _)
         ·cases R
       | dj e0 x0=>
         have hqt:FE l true j=true:=T;have W:d.op = .r (.freshB e0 x0 (.t (pathOf (n+cj l true j)))):=by rw [<-yh,hqt];rfl
         rw [W] at fact;obtain ⟨Q',Y,wF⟩:=fact;have bA:=gS (k:=n) (q:=true) sW T;obtain ⟨L,hL,nW⟩:=r.yo _ bA;have KW:bV (tm j) (pathOf (n+cj l true j)) = .ptr L 0:=by
          rw [r.slot (by omega) (by have M:=iN l n true;have O:=r.len;have h3:=r.size;have h4:n<=65536:=F.small;omega)];exact nW
         obtain ⟨t1,t2,y0,Gj,k1,k2,k3,k4⟩:=(show Ag ⟨P,G,n⟩ o.op (.dj e0 x0) from ok).bytes e0 x0 rfl;have kG:x0.ev (tm j)=x0.ev (mask l tm0 v S ops.size):=by
          have:=tF (C:=⟨P,G,n⟩) (y:=y0) (tm:=mask l tm0 v S ops.size) (tm':=tm j) λt ht bA=>V t bA (qn (by rw [Gj,ht];simp [Op.operands]));exact (this x0 k4).symm
         have rx:=aw (C:=⟨P,G,n⟩) i5 i7 k4;rw [<-kG] at rx;simp only [RD.px,X.ev,KW] at Y;split at Y
         ·rename_i b hxb
          have hxb:x0.ev (tm j) = .str b:=hxb;rw [hxb] at rx;simp only [ai,eK,Option.some.injEq] at Y;obtain ⟨_,Y⟩:=Y;subst Y;have R:=wF ((aF l n).countP S) cLo cHi (by rw [Nat.zero_add];exact agP);simp only [Dx.Q.ask] at R;split at R
          ·rename_i vs e hgL
           simp only [ai,Bool.and_eq_true,Option.some.injEq] at R;obtain ⟨⟨⟨I,kM⟩,_⟩,hvj⟩:=R;have I:e=e0:=Nat.eq_of_beq_eq_true I;have kM:=jX kM;subst I;subst kM;have fO:ρ L=none:=i4 j _ L sW T hj hL;have hLn:val L<val (hp ((aF l n).countP S)).next:=by have:=r.next;omega
           generalize YP:x.eval y0=yv at rx;cases rx with | str u=>
           obtain ⟨cap,w',jl,R',KY⟩:=Bz (P:=P) k1 k2 k3 i2 fO hLn hgL;have cV:bT d=false:=by unfold bT;rw [show d=⟨d.dst,d.op,d.guard⟩ from rfl,W]
           have ed:(execOp x.eval o).run P w = .ok (.value (.slice (some ⟨w.heap.size,0,none⟩) u.size cap)) w':=by
            unfold execOp;rw [Gj];simp only [YP];exact u6 KY
           rw [ed,Oper.upon_value];refine fin rfl (λm hm=>?_) (eS fO) (by rw [T1 cV];exact R') (by rw [T1 cV];exact i3) (λi d' L' M O h3 h4 h5=>?_) ?_
           ·rw [ca (λU=>by rw [U] at hm;omega)];exact i1 m hm
           ·have Cs:L'≠L:=λU=>by
             rw [U,hL] at h5;rcases Nat.lt_or_gt_of_ne h4 with rM | KX
             ·have:=dC rM M O;omega
             ·have:=dC KX sW T;omega
            rw [ca Cs];exact i4 i d' L' M O h3 h5
           ·rw [<-hvj]
            have:=RV.sliceEnd (ρ:=uG ρ L (ej.mk w.heap.size 0 cap .nilFunc)) 0 (au u).length 1 cap (aU _ _ _) (by rw [cA];exact jl) (by simp);simpa [cA] using this
          ·cases R
         ·cases Y
       | _=>cases T
     | _=>cases T
    ·have T:cv (FE l true j) d0=false:=by simpa using T
     have W:d.op=q:=by rw [<-yh,nS T];exact iO
     rw [W] at fact;cases q with
     | SD y=>
       obtain ⟨z,hz,hr⟩:=ok i5 i7;have same:y.ev _=y.ev _:=same;rw [hr o rfl w,Oper.upon_value];refine Z (by unfold bT;rw [show d=⟨d.dst,d.op,d.guard⟩ from rfl,W]) ?_;have fact:v j=y.ev (tm j):=fact;rw [fact,<-same];exact hz
     | p q=>
       have same:q.eval _ _=q.eval _ _:=same;have fact:q.eval (dq P) (tm j)=some (v j):=fact;obtain ⟨z,hz,hr⟩:=ok i5 i7 (v j) (same.trans fact);rw [hr o rfl w,Oper.upon_value];exact Z (by unfold bT;rw [show d=⟨d.dst,d.op,d.guard⟩ from rfl,W]) hz
     | r q=>
       have same:q.px _=q.px _:=same;obtain ⟨Q',Y,wF⟩:=fact;have R:=wF ((aF l n).countP S) cLo cHi (by rw [Nat.zero_add];exact agP);obtain ⟨z,hz,hr⟩:=ok i5 i7 Q' (same.trans Y) (v j) i2 R;rw [hr o rfl,Oper.upon_value];exact Z (by unfold bT;rw [show d=⟨d.dst,d.op,d.guard⟩ from rfl,W]) hz
     | e q=>
       have I:bT d=true:=by unfold bT;rw [show d=⟨d.dst,d.op,d.guard⟩ from rfl,W]
       have same:∀h,q.run _ h=q.run _ h:=same;have fact:q.run (tm j) (hp (0+aV (tagged ops l n) j))=some (v j,hp (0+aV (tagged ops l n) j+1)):=fact;rw [Nat.zero_add] at fact;have R':=i2;rw [(agO I).1] at R';obtain ⟨J,y,w',s1,s2,s3,s4⟩:=ok.eff i5 i7 R' ((same _).trans fact);rcases s4 o rfl with hr | ⟨hr,rfl⟩
       ·rw [hr,Oper.upon_value];exact move I s1 s2 s3
       ·rw [hr,Oper.upon_skip];exact move I s1 s2 s3
     | c q=>
       have I:bT d=true:=by unfold bT;rw [show d=⟨d.dst,d.op,d.guard⟩ from rfl,W]
       have same:q.args _ _=q.args _ _:=same;obtain ⟨⟨f,vs⟩,hf,FB⟩:=fact;rw [Nat.zero_add] at FB;have R':=i2;rw [(agO I).1] at R';obtain ⟨xs,QB,hr⟩:=ok i5 i7 (same.trans hf);rw [hr o rfl w];refine (gN FB R' i7 QB).upon λy w' hR=>?_;obtain ⟨J,s1,s2,s3⟩:=hR;exact move I s1 s2 s3
     | defer q=>exact fact.elim
     | stuck=>exact fact.elim
end
end Go.Dx
namespace Go.Dx
open Go Go.RowKit
variable{m:Nat}
section
variable {P:Program} {G n:Nat} {ops:Array Oper} {l:List DO} {call:jF} {a a':A} {h h0 h':H} {tm0:T V} {v:Nat->V} {tm:Nat->T V} {hp:Nat->H} {B:Nat} {w0:World} {ρ ρ0:bD} {w:World}
theorem aA.more (R:aA B w0 ρ h w)(d:∀m,val m<val h.next->h0.get m=h.get m) (i:val h.next<=val h0.next):aA B w0 ρ h0 w:=by
 have g:∀m b,ρ m=some b->h0.get m=h.get m:=λm b a=>d m (R.lt m b a);refine ⟨λm b o a e=>R.obj m b o a (by rw [<-g m b a];exact e),λm b a=>Nat.lt_of_lt_of_le (R.lt m b a) i,R.base,λm k b c a f j l=>R.inj m k b c a f (by rw [<-g m b a];exact j) (by rw [<-g k c f];exact l),λm b o a e=>R.own m b o a (by rw [<-g m b a];exact e),R.size,R.below⟩
def unl (m:Nat)(S:Nat->Bool):Nat:=(List.range m).countP λi=>!S i
theorem YW {j:Nat}{S:Nat->Bool} (c:j<m) (hs:S j=false):unl m (λi=>S i||i==j)+1<=unl m S:=by
 unfold unl;have a:(List.range m).countP (λi=>!(S i||i==j))=((List.range m).filter λi=>!S i).countP λi=>!(i==j):=by
  rw [List.countP_filter];refine List.countP_congr λi _=>?_;cases S i<;>simp
 rw [a];have d:(List.range m).countP (λi=>!S i)=((List.range m).filter λi=>!S i).length:=List.countP_eq_length_filter;rw [d];have b:j∈(List.range m).filter λi=>!S i:=List.mem_filter.2 ⟨List.mem_range.2 c,by simp [hs]⟩;have h3:=List.length_eq_countP_add_countP (λi=>i==j) (l:=(List.range m).filter λi=>!S i);have h4:0<((List.range m).filter λi=>!S i).countP (λi=>i==j):=List.countP_pos_iff.2 ⟨j,b,by simp⟩;have e:((List.range m).filter λi=>!S i).countP (λi=>!(i==j))=((List.range m).filter λi=>!S i).countP (λi=>decide ¬((i==j)=true)):=by
  refine List.countP_congr λi _=>?_;cases (i==j)<;>simp
 omega
theorem T' {S:Nat->Bool} (h:unl m S=0):∀i,i<m->S i=true:=λi hi=>by
 have:=(List.countP_eq_zero.1 h) i (List.mem_range.2 hi);simpa using this
theorem akr (E:nQ P G call)(r:Reg P G n ops l call a a' h h0 h' tm0 v tm hp){Q:Exit->Act->World->Prop} (WJ:∀S x w,Inv P G n ops l a h h0 tm0 v hp B w0 ρ0 S x w->(∀i,i<ops.size->S i=true)->Q .normal x w):
  ∀(fuel:Nat) (J:Array Bool) (x:Act) (w:World),J.size=ops.size->Inv P G n ops l a h h0 tm0 v hp B w0 ρ0 (λi=>J.getD i false) x w->unl ops.size (λi=>J.getD i false)<=fuel->wpAny P .any ops Q fuel J x w:=by
 have done:∀(J:Array Bool) (x:Act) (w:World),J.size=ops.size->Inv P G n ops l a h h0 tm0 v hp B w0 ρ0 (λi=>J.getD i false) x w->Region.ready .any ops J=[]->Q .normal x w:=λJ x w g inv f=>by
  refine WJ _ x w inv λi hi=>?_;induction i using Nat.strongRecOn with
  | _ i ih=>
    cases hs:J.getD i false with
    | true=>rfl
    | false=>
      exfalso;have:i∈Region.ready .any ops J:=by
       rw [mem_ready];refine ⟨?_,ops[i],by simp [hi],λe s p=>?_⟩
       ·have c:i<J.size:=by omega
        simp only [Array.getD_eq_getD_getElem?,Array.getElem?_eq_getElem c,Option.getD_some] at hs ⊢;exact hs
       ·have c:=tH r.facts.eA (j:=i) (o:=ops[i]) (by simp [hi]) s p
        exact ih e.on c (by omega)
      rw [f] at this;cases this
 intro fuel;induction fuel with
 | zero=>
   intro J x w g inv A;have q:=T' (Nat.le_zero.1 A);have WK:Region.ready .any ops J=[]:=by
    cases f:Region.ready .any ops J with
    | nil=>rfl
    | cons i rs=>
      exfalso;have z:i∈Region.ready .any ops J:=by rw [f];exact List.mem_cons_self ..
      rw [mem_ready] at z;obtain ⟨d,o,k,_⟩:=z;have c:i<ops.size:=(Array.getElem?_eq_some_iff.1 k).1;have u:=q i c;have m:i<J.size:=by omega
      simp only [Array.getD_eq_getD_getElem?,Array.getElem?_eq_getElem m,Option.getD_some] at d u;rw [d] at u;cases u
   exact ⟨WK,done J x w g inv WK⟩
 | succ fuel ih=>
   intro J x w g inv A;refine ⟨λf=>done J x w g inv f,λj F=>?_⟩;obtain ⟨d,o,k,q⟩:=mem_ready.1 F;have c:j<ops.size:=(Array.getElem?_eq_some_iff.1 k).1;have m:j<J.size:=by omega
   have hs:J.getD j false=false:=by
    simp only [Array.getD_eq_getD_getElem?,Array.getElem?_eq_getElem m,Option.getD_some] at d ⊢;exact d
   have y:(λi=>(J.setIfInBounds j true).getD i false)=λi=>J.getD i false||i==j:=by
    funext i
    by_cases e:i=j
    ·subst e;simp [m]
    ·have C:(i==j)=false:=by simpa using e
     rw [C,Bool.or_false];exact getD_set_ne false (Ne.symm e)
   refine ady E r inv k hs (λe s p=>q e s p) λD w' t=>?_;refine ih _ D w' (by simp [g]) (by rw [y];exact t) ?_;rw [y];have:=YW (S:=λi=>J.getD i false) c hs;omega
theorem agQ (M:P.follows .mixedOrders=true)(gN:nQ P G call):WG P G call:=by
 intro n id ops l m dl V g a a' x ρ h h' w B w0 C hG R f eF ed Q hQ;unfold jG at g;simp only at g;split at g
 ·rename_i s
  simp only [Bool.and_eq_true] at s;obtain ⟨⟨⟨⟨k1,k2⟩,k3⟩,k4⟩,I⟩:=s;have I:=Nat.le_of_ble_eq_true I;simp only [DC.draw.injEq] at g;obtain ⟨rfl,rfl⟩:=g;have N:n<=65536:=C.tmps.small;have c:l.length=ops.size:=by have:=(cS V 0).2;simpa using this
  have W:=Nq eF;have Io:f.length=(bu l n true).2.length:=by have:=congrArg List.length W;simpa using this
  obtain ⟨m1,T,m3,H⟩:=Cq f n a.tmps h (λp y hp=>by
   have e:=congrArg (λl=>l[p]?) W;simp only [List.getElem?_map,hp,Option.map_some] at e;cases hq:(bu l n true).2[p]? with
   | none=>rw [hq] at e;cases e
   | some z=>
     rw [hq] at e;simp only [Option.map_some,Option.some.injEq] at e;rw [e];exact pS hq) (by rw [Io];have:=iN l n true;omega)
  rw [Io] at T H;obtain ⟨v,tm,hp,t⟩:=Ej (n:=0) (hs:=[]) (ps:=[]) rfl (λq v b M=>by simp at M) ed;have r:Reg P G n ops l call a a' h (makeAll f a.tmps h).2 h' (makeAll f a.tmps h).1 v tm hp:=⟨⟨V,N,k3,k2⟩,k1,I,t,T,H⟩;have h0:hp 0=(makeAll f a.tmps h).2:=t.now;refine wp_region_any M (akr (B:=B) (w0:=w0) (ρ0:=ρ) gN r (λS y w1 inv O=>?_) ops.size (Array.replicate ops.size false) x _ (by simp) ?_ ?_)
  ·
   obtain ⟨D,i1,i2,i3,i4,i5,i6,i7⟩:=inv.rel;obtain ⟨F,l2,l3⟩:=t.last;have Ct:(tagged ops l n).length=ops.size:=by unfold tagged;rw [ft,ez,c]
   have Ix:(aF l n).countP S=aV (tagged ops l n) (tagged ops l n).length:=by
    have K:=u4 (ah:=bp ops.toList []) (effs:=aF l n) (bu l n true).1 0 (tagged ops l n).length;have K:aV (tagged ops l n) (tagged ops l n).length=(aF l n).countP λe=>decide (e<0+(tagged ops l n).length):=K;rw [K];refine List.countP_congr λe he=>?_;obtain ⟨p,q,U,_,rfl⟩:=j9.1 he;have bA:=(List.getElem?_eq_some_iff.1 U).1;rw [ez,c] at bA;have E:S (0+p)=true:=O (0+p) (by omega);have Z:0+p<0+(tagged ops l n).length:=by rw [Ct];omega
    simp only [E,decide_eq_true Z]
   have u:h'=hp ((aF l n).countP S):=by rw [Ix,l2];congr 1;exact Nat.zero_add _
   have J:mask l (makeAll f a.tmps h).1 v S ops.size=a'.tmps:=by
    rw [nh (S':=λ_=>true) ops.size (λk hk=>O k hk),<-r.tms ops.size (Nat.le_refl _)];have F:a'.tmps=tm (tagged ops l n).length:=F;rw [F,Ct]
   refine hQ D y w1 ⟨i1,?_⟩ ⟨?_,?_⟩ ?_
   ·rw [u];have:=r.next;omega
   ·rw [<-J];exact i5
   ·rw [l3];exact i6
   ·rw [u];exact i2
  ·
   have Y:(λi=>(Array.replicate ops.size false).getD i false)=λ_=>false:=by
    funext i
    simp [Array.getD_eq_getD_getElem?,Array.getElem?_replicate];split<;>rfl
   rw [Y];have A:(aF l n).countP (λ_=>false)=0:=by rw [List.countP_eq_zero];simp
   refine ⟨λj o _ hj=>(by cases hj),ρ,λ_ _=>rfl,?_,?_,λi d L U h2 _ h4=>?_,?_,C.defers,hG⟩
   ·rw [A,h0]
    exact (R.drew).more m3 (by rw [H];omega)
   ·rw [A,h0];exact Nat.le_refl _
   ·cases hr:ρ L with
    | none=>rfl
    | some b=>have:=R.lt L b hr;omega
   ·have:mask l (makeAll f a.tmps h).1 v (λ_=>false) ops.size=(makeAll f a.tmps h).1:=by
     generalize ops.size=k;induction k with
     | zero=>rfl
     | succ k ih=>simp only [mask,ih];rfl
    rw [this];exact ⟨C.tmps.size,N,λt X=>by rw [m1 t X];exact C.tmps.get t X⟩
  ·unfold unl
   have:=List.countP_le_length (p:=λi=>!(Array.replicate ops.size false).getD i false) (l:=List.range ops.size);simpa using this
 ·cases g
theorem WL {c:jF}{b:FuncId->List V->H->Option H} {a:T br} (f:P.follows .mixedOrders=true) (TV:nQ P G c) (d:Cl P G b) (QE:TS P G a) (n:Nat):nQ P G (acZ (dq P) a c b n).call:=
 (YT (λe=>agQ f e) TV d QE n).2
end
end Go.Dx
namespace Go.Dx
open Go
def agR:List (V×V×Nat)->List (V×V×Nat)->Bool
 | [],[]=>true
 | (a,b,c)::r,(x,y,z)::s=>ti a x&&ti b y&&Nat.beq c z&&agR r s
 | _,_=>false
def aiK:Own->Own->Bool
 | .no,.no=>true
 | .yes,.yes=>true
 | .marked,.marked=>true
 | _,_=>false
def aiL:Option Lb->Option Lb->Bool
 | none,none=>true
 | some a,some b=>nJ a b
 | _,_=>false
def OV:Obj->Obj->Bool
 | .cells a e f o,.cells b e' f' o'=>wD a b&&Nat.beq e e'&&Nat.beq f f'&&aiK o o'
 | .map a c,.map b d=>agR a b&&Nat.beq c d
 | .uK s p,.uK t q=>fh s t&&Nat.beq p q
 | .mapIter m a s b,.mapIter n c t d=>aiL m n&&Nat.beq a c&&fh s t&&Nat.beq b d
 | _,_=>false
def holds (h:H)(l:Lb)(o:Obj):Bool:=match h.get l with
 | some x=>OV x o
 | none=>false
def hasAll (h:H):List (Lb×Obj)->Bool
 | []=>true
 | (l,o)::r=>match holds h l o with
   | true=>hasAll h r
   | false=>false
def aow:Cap->Cap->Bool
 | .exact a,.exact b=>Nat.beq a b
 | .toEnd a,.toEnd b=>Nat.beq a b
 | _,_=>false
inductive Key where
 | s (b:List Nat)
 | b (b:List Nat) (c:Cap)
 | nil (c:Nat)
 | emp
def adE (l:Lb):List (Lb×Obj)->Bool
 | []=>false
 | (m,_)::r=>nJ l m||adE l r
def keyOf (a:TypeId)(gl:List (Lb×Obj))(h:H):V->Option (Lb×Key)
 | .slice l off n cap=>match h.get l with
   | some (.cells vs e _ _)=>bO (Nat.beq off 0&&Nat.beq e a && !adE l gl) (ob (takeN n vs) λr=>ob (ny r) λb=>some (l,.b b cap))
   | _=>none
 | .str b=>some ([],.s b)
 | .nilSlice c=>some ([],.nil c)
 | .empty=>some ([],.emp)
 | _=>none
def keysOf (a:TypeId)(gl:List (Lb×Obj))(h:H):List V->Option (List (Lb×Key))
 | []=>some []
 | v::vs=>ob (keyOf a gl h v) λk=>ob (keysOf a gl h vs) λks=>some (k::ks)
def WM (l:Lb):List (Lb×Key)->Bool
 | []=>false
 | (m,.b _ _)::r=>nJ l m||WM l r
 | _::r=>WM l r
def WN:List (Lb×Key)->Bool
 | []=>true
 | (l,.b _ _)::r=>!WM l r&&WN r
 | _::r=>WN r
def aox:Key->Key->Bool
 | .s a,.s b=>fh a b
 | .b a c,.b b d=>fh a b&&aow c d
 | .nil c,.nil d=>Nat.beq c d
 | .emp,.emp=>true
 | _,_=>false
def adF:List (Lb×Key)->List Key->Bool
 | [],[]=>true
 | (_,k)::r,k'::s=>aox k k'&&adF r s
 | _,_=>false
def aku (h:H):Option (Lb×Int×Int×TypeId)->Bool
 | none=>true
 | some (l,lo,hi,t)=>match h.get l with
   | some (.cells (.eG a b::_) e _ _)=>Nat.beq e t&&pw a lo&&pw b hi
   | _=>false
def aty (a:Option (Lb×Int×Int×TypeId))(gl:List (Lb×Obj)):List (Lb×Obj):=match a with
 | none=>gl
 | some (l,lo,hi,t)=>(l,.cells [.eG lo hi] t 0 .no)::gl
def YX (ks:List (Lb×Key)):List (List Key×V)->Option V
 | []=>none
 | (k,v)::r=>match adF ks k with
   | true=>some v
   | false=>YX ks r
inductive Ext where
 | nop
 | mark
 | same
 | YY
 | YZ
 | clone
 | WO (et:TypeId)
 | indexByte
 | WQ (et:TypeId)
 | compare
 | aIo (at_:Lb) (rt:TypeId) (g:Lb) (err:TypeId) (ps:List (TypeId×TypeId×Nat)) (hs ms:List (TypeId×TypeId))
 | typeOf (rt:TypeId) (g:Lb) (ts:List TypeId)
 | comparable (g:Lb) (ts:List TypeId)
 | akv
 | adG (size:Nat)
 | index (mg:Lb) (et:TypeId)
 | tab (et:TypeId) (gl:List (Lb×Obj)) (rg:Option (Lb×Int×Int×TypeId)) (ts:List (List Key×V))
 | seq (keys:Bool) (e:TypeId) (size bytes:Nat) (g0 g1:List FuncId)
def Jj (a b:List Nat):Int:=match gJ a b with
 | true=>Int.negSucc 0
 | false=>match fh a b with
   | true=>Int.ofNat 0
   | false=>Int.ofNat 1
def fP (c:Nat):List Nat->Nat->Int
 | [],_=>Int.negSucc 0
 | b::r,i=>match Nat.beq b c with
   | true=>Int.ofNat i
   | false=>fP c r (i+1)
def cellAt (h:H)(l:Lb)(off:Nat):Option V:=Q.ask h (.load .one l off)
def aiM (h:H)(e:TypeId)(size bytes:Nat)(s x:V):Option (V×H):=
 bO (Nat.beq x.cells.length size&&Nat.blt 0 size&&Nat.blt 0 bytes&&aZ x.cells) (eR h e size bytes s 1 x.cells)
def akw:V->Bool
 | .int .i64 _=>true
 | _=>false
def KZ (h:H)(l:Lb):Option (List (V×V×Nat)):=match cellAt h l 0 with
 | some (.map r)=>match h.get r with
   | some (.map [] _)=>some []
   | some (.map [x] c)=>bO (Nat.blt x.2.2 c) (some [x])
   | _=>none
 | some .aP=>some []
 | _=>none
def Y0:List Nat->List Nat->Bool
 | [],_=>true
 | _::_,[]=>false
 | a::x,b::y=>match Nat.beq a b with
   | true=>Y0 x y
   | false=>false
def Ua (t:List Nat):List Nat->Nat->Int
 | [],i=>match t with
   | []=>Int.ofNat i
   | _::_=>Int.negSucc 0
 | b::r,i=>match Y0 t (b::r) with
   | true=>Int.ofNat i
   | false=>Ua t r (i+1)
def QJ (a:TypeId)(h:H):V->Option (List Nat)
 | .str b=>some b
 | .slice l off n _=>match h.get l with
   | some (.cells vs e _ _)=>bO (Nat.beq e a) (ob (rowFrom vs off n) ny)
   | _=>none
 | _=>none
def adH:V->V->Bool
 | .str _,.str _=>true
 | .slice _ _ _ _,.slice _ _ _ _=>true
 | _,_=>false
def agS (h:H)(l:Lb)(n:Nat):Bool:=match h.get l with
 | some (.cells (.eG a _::_) _ _ _)=>!kS a (Int.ofNat n)
 | _=>false
def QK (t d n:Nat):List (TypeId×TypeId×Nat)->Bool
 | []=>false
 | (a,b,c)::r=>(Nat.beq a t&&Nat.beq b d&&Nat.beq c n)||QK t d n r
def QL (t c:Nat):List (TypeId×TypeId)->Bool
 | []=>false
 | (a,b)::r=>(Nat.beq a t&&Nat.beq b c)||QL t c r
def fJ (P:Program)(k:Ext)(args:List V)(h:H):Option (V×H):=
 match k with
 | .nop=>match args with
   | []=>some (.tuple [],h)
   | _=>none
 | .mark=>match args with
   | [.ptr _ _]=>some (.tuple [],h)
   | _=>none
 | .same=>match args with
   | [x]=>some (x,h)
   | _=>none
 | .YY=>match args with
   | [.ptr l off,.int .i32 x,.int .i32 y]=>match cellAt h l off with
     | some (.int .i32 v)=>bO (pw v x) (ob (eu h l off [.int .i32 y]) λh'=>some (.bool true,h'))
     | _=>none
   | _=>none
 | .YZ=>match args with
   | [.ptr l off,.int .i32 y]=>match cellAt h l off with
     | some (.int .i32 v)=>ob (eu h l off [.int .i32 (bU .i32 (v+y))]) λh'=>some (.int .i32 (bU .i32 (v+y)),h')
     | _=>none
   | _=>none
 | .clone=>match args with
   | [.iface t (.map r)]=>match h.get r with
     | some (.map es c)=>some (.iface t (.map h.next),h.add (.map es c))
     | _=>none
   | _=>none
 | .WO et=>match args with
   | [.int .i64 (.ofNat n)]=>bO (Nat.ble n 1048576) (some (.slice h.next 0 n (.toEnd 1),h.add (.cells [] et 0 .yes)))
   | _=>none
 | .indexByte=>match args with
   | [.str s,.int .u8 (.ofNat c)]=>bO (Nat.blt c 256) (some (.int .i64 (fP c s 0),h))
   | _=>none
 | .WQ et=>match args with
   | [.slice l off n cap,.int .u8 (.ofNat c)]=>bO (Nat.blt c 256) (ob (QJ et h (.slice l off n cap)) λs=>some (.int .i64 (fP c s 0),h))
   | _=>none
 | .compare=>match args with
   | [.str a,.str b]=>some (.int .i64 (Jj a b),h)
   | _=>none
 | .aIo at_ rt g err ps hs ms=>match args with
   | [.nilIface,_]=>some (.bool false,h)
   | [.iface t (.agg cs),.iface tp (.ptr l off)]=>match cellAt h at_ 0 with
     | some (.iface r (.agg [.ptr l2 e]))=>bO (Nat.beq r rt&&nJ l2 g&&Nat.beq e err&&QK t tp cs.length ps) (ob (eu h l off cs) λh'=>some (.bool true,h'))
     | _=>none
   | [.iface t (.int .i64 n),.iface tp (.ptr l off)]=>match cellAt h at_ 0 with
     | some (.iface r (.agg [.ptr l2 e]))=>bO (Nat.beq r rt&&nJ l2 g&&Nat.beq e err) (match QL t tp ms with
       | true=>some (.bool false,h)
       | false=>bO (QL t tp hs) (ob (eu h l off [.int .i64 n]) λh'=>some (.bool true,h')))
     | _=>none
   | _=>none
 | .typeOf rt g ts=>match args with
   | [.iface t _]=>bO (dr t ts) (some (.iface rt (.agg [.ptr g t]),h))
   | _=>none
 | .comparable g ts=>match args with
   | [.agg [.ptr l t]]=>bO (nJ l g&&dr t ts) (ob (P.info? t) λi=>some (.bool i.comparable,h))
   | _=>none
 | .akv=>match args with
   | [.sym _ 3]=>some (.bool true,h)
   | [.sym _ 2]=>some (.bool false,h)
   | _=>none
 | .adG size=>match args with
   | [.sym _ n]=>bO (Nat.beq n size) (some (.any,h))
   | _=>none
 | .index mg et=>match args with
   | [x,y]=>ob (QJ et h x) λa=>ob (QJ et h y) λb=>bO (adH x y&&Nat.ble 2 b.length&&Nat.blt a.length 4294967281&&agS h mg b.length) (some (.int .i64 (Ua b a 0),h))
   | _=>none
 | .tab et gl rg ts=>ob (keysOf et (aty rg gl) h args) λks=>bO (WN ks&&hasAll h gl&&aku h rg) (ob (YX ks ts) λv=>some (v,h))
 | .seq keys e size bytes g0 g1=>match args with
   | [.nilSlice 0,.func g [] [.ptr l 0]]=>match KZ h l with
     | some []=>bO (dr g g0) (some (.nilSlice 0,h))
     | some [x]=>bO (dr g g1&&(match keys with | true=>akw x.1 | false=>true)) (aiM h e size bytes (.nilSlice 0) (match keys with | true=>x.1 | false=>x.2.1))
     | _=>none
   | _=>none
def Em:List (FuncId×Ext)->FuncId->Option Ext
 | [],_=>none
 | (g,k)::r,f=>match Nat.beq g f with
   | true=>some k
   | false=>Em r f
def adI (P:Program)(a:List (FuncId×Ext)):jF:=λf args h=>ob (Em a f) λk=>fJ P k args h
end Go.Dx
