/-
  The sequencer's laws. Part ZAK of the proof: The deterministic machine over labels against the model: a region whose order is open.
-/
import Derived.Test.YteajeefphbjnmaaGreatDoorZAJ
import Derived.Test.YteajeefphbjnmaaGreatDoorZAB
namespace Go.Dx
open Go Go.RowKit
theorem AX:∀{r:List (DO×Nat×Nat)} {j:Nat} {d:DO} {lo hi:Nat},r[j]? =some (d,lo,hi)->aT r (j+1)=aT r j+(if bQ d then 1 else 0)
 | [],j,d,lo,hi,h=>by simp at h
 | x::r,0,d,lo,hi,h=>by simp at h;subst h;simp [aT]
 | x::r,j+1,d,lo,hi,h=>by
   have:=AX (r:=r) (j:=j) (d:=d) (lo:=lo) (hi:=hi) (by simpa using h);simp only [aT] at this ⊢;omega
theorem px {R:Nat->Nat->Prop}:∀{l:List Nat},l.Pairwise (· < ·)->l.Pairwise R->∀a,a∈l->∀b,b∈l->a<b->R a b
 | [],_,_,a,ha,_,_,_=>by cases ha
 | x::l,h1,h2,a,ha,b,hb,Pp=>by
   rw [List.pairwise_cons] at h1 h2;rcases List.mem_cons.1 ha with e1 | ha'
   ·rcases List.mem_cons.1 hb with e2 | G3
    ·omega
    ·rw [e1];exact h2.1 b G3
   ·rcases List.mem_cons.1 hb with e2 | G3
    ·have:=h1.1 a ha';omega
    ·exact px h1.2 h2.2 a ha' b G3 Pp
section
variable {P:Program} {G n:Nat} {ops:Array Oper} {l:List DO} {call:je} {a a':A} {h h0 h':H} {tm0:T V} {v:Nat->V} {tm:Nat->T V} {hp:Nat->H} {B:Nat} {w0:World} {ρ0:bE}
def aB (l:List DO)(n:Nat):List Nat:=ku (bu l n true).1 0
def tagged (ops:Array Oper)(l:List DO)(n:Nat):List (DO×Nat×Nat):=oa (bh ops.toList []) (aB l n) (bu l n true).1 0
structure Reg (P:Program)(G n:Nat)(ops:Array Oper)(l:List DO)(call:je)(a a':A)(h h0 h':H)(tm0:T V)(v:Nat->V) (tm:Nat->T V) (hp:Nat->H):Prop where
 facts:qn ⟨P,G,n⟩ ops l
 chain:jC (bh ops.toList []) (aB l n)=true
 size:ops.size<=65536
 trace:Trace (dz P) call (tagged ops l n) 0 {tmps:=tm0,defers:=a.defers} [] h0 [] a' h' v tm hp
 xT:∀p,p<(bu l n true).2.length->∃L,val L=val h.next+p/\bS tm0 (pathOf (n+p)) = .ptr L 0
 next:val h0.next=val h.next+(bu l n true).2.length
structure Inv (P:Program)(G n:Nat)(ops:Array Oper)(l:List DO)(a:A)(h h0:H)(tm0:T V)(v:Nat->V) (hp:Nat->H) (B:Nat) (w0:World) (ρ0:bE) (S:Nat->Bool) (x:Act) (w:World):Prop where
 closed:gd ops (λi=>S i=true)
 rel:∃ρ,(∀m,val m<val h.next->ρ m=ρ0 m)/\aA B w0 ρ (hp ((aB l n).countP S)) w/\val h0.next<=val (hp ((aB l n).countP S)).next/\
  (∀i d L,l[i]? =some d->cu (Fb l true i) d=true->S i=false->val L=val h.next+cj l true i->ρ L=none)/\iU ρ n (mask l tm0 v S ops.size) x.tmps/\vV ρ a.defers x.defers/\gv ρ G
theorem Reg.len (r:Reg P G n ops l call a a' h h0 h' tm0 v tm hp):l.length=ops.size:=by
 have:=(cN r.facts.comp 0).2;simpa using this
theorem Reg.tms (r:Reg P G n ops l call a a' h h0 h' tm0 v tm hp):∀i,i<=ops.size->tm i=mask l tm0 v (λ_=>true) i:=by
 intro i;induction i with
 | zero=>intro _;exact r.trace.tm0
 | succ i ih=>
   intro hi;have bA:i<l.length:=by rw [r.len];omega
   have sq:l[i]? =some l[i]:=List.getElem?_eq_getElem bA;have hd:=jS (k:=n) (q:=true) sq;have ht:=(uO (ah:=bh ops.toList []) (effs:=aB l n) (k:=0)).2 ⟨hd,rfl,rfl⟩;have:=(r.trace.ops i _ _ _ ht).2;rw [this,ih (by omega)];simp only [mask,if_true,sq,Option.bind_some,(ig _ _ _).1]
theorem Reg.slot (r:Reg P G n ops l call a a' h h0 h' tm0 v tm hp){i p:Nat}(hi:i<=ops.size)(hpn:n+p<2 ^ 64):bS (tm i) (pathOf (n+p))=bS tm0 (pathOf (n+p)):=by
 rw [r.tms i hi];have qY:=r.facts.small;induction i with
 | zero=>rfl
 | succ i ih=>
   rw [iI,if_neg,ih (by omega)];rintro ⟨_,h2⟩;obtain ⟨o,t,_,_,hq,ht⟩:=FI r.facts.comp h2;have qY:n<=65536:=qY;have ht:t<n:=ht;have:=eX (by omega) (by omega) hq;omega
theorem uQ {C:CE}{o:Oper}{g:Option (Lb×Bool)}(hg:my C ops o.guard=some g){t1 t2:T V}(H:∀t,t<C.n->t∈o.looksAt ops->bS t1 (pathOf t)=bS t2 (pathOf t)):dS t1 g=dS t2 g:=by
 cases ho:o.guard with
 | none=>rw [ho] at hg;simp only [my,Option.some.injEq] at hg;subst hg;rfl
 | some p=>
   obtain ⟨j,want⟩:=p;rw [ho] at hg;simp only [my,ad,ag,Option.some.injEq] at hg;obtain ⟨q,hq,d,hd,bA,rfl⟩:=hg;have aU:ops[j]? =some q:=by simpa using hq
   have hl:d∈o.looksAt ops:=by
    unfold Oper.looksAt;refine List.mem_append_right _ ?_;simp [ho,aU,hd]
   have:=H d (by simpa using bA) hl;simp only [dS,this]
theorem uR {s:Sem Value}{x:Value}{w w':World}(h:s.run P w = .ok x w'):(do let y<-s;pure (Next.value y):Sem Next).run P w = .ok (.value x) w':=by simp [h]
theorem acv (gw:nq P G call)(r:Reg P G n ops l call a a' h h0 h' tm0 v tm hp){S:Nat->Bool} {x:Act} {w:World} (inv:Inv P G n ops l a h h0 tm0 v hp B w0 ρ0 S x w) {j:Nat} {o:Oper} (ho:ops[j]? =some o) (hj:S j=false)
  (gh:∀e∈o.after,Region.binds .any e=true->S e.on=true) {K:Act->World->Prop} {Q:Exit->Act->World->Prop} (hK:∀x' w',Inv P G n ops l a h h0 tm0 v hp B w0 ρ0 (λi=>S i||i==j) x' w'->K x' w'):wpOp P ops Q j K x w:=by
 have F:=r.facts;have hjs:j<ops.size:=(Array.getElem?_eq_some_iff.1 ho).1;obtain ⟨ρ,i1,i2,i3,i4,i5,i6,i7⟩:=inv.rel;obtain ⟨d0,sq,hc⟩:=(cN F.comp j).1 o (by simpa using ho);have hd:=jS (k:=n) (q:=true) sq;have Vn:=(uO (ah:=bh ops.toList []) (effs:=aB l n) (k:=0)).2 ⟨hd,rfl,rfl⟩;rw [Nat.zero_add] at Vn;obtain ⟨fact,_⟩:=r.trace.ops j _ _ _ Vn;generalize xP:DL (Fb l true j) d0 (n+cj l true j)=d at fact Vn hd;have kG:d.dst=d0.dst:=by rw [<-xP];exact (ig _ _ _).1
 have ai5:d.guard=d0.guard:=by rw [<-xP];exact (ig _ _ _).2
 have agree:∀t,t<n->t∈o.looksAt ops->bS (mask l tm0 v S ops.size) (pathOf t)=bS (tm j) (pathOf t):=λt ht hl=>by
  rw [r.tms j (by omega)];exact Ca F inv.closed ho hj gh ht hl
 have Hb:=hc;simp only [gK,ad,Option.some.injEq] at Hb;obtain ⟨dst,hcd,g,hg,Kc⟩:=Hb;have hg0:d0.guard=g:=by rw [<-Kc]
 have SG:d0.dst=dst:=by rw [<-Kc]
 have ik:d0.op=(aj ⟨P,G,n⟩ o.op).getD .stuck:=by rw [<-Kc]
 have Hc:Region.wanted o (yielded ops x.tmps)=dS (tm j) d.guard:=by
  rw [ai5,hg0,xO hg i5];exact uQ hg agree
 have DM:gd ops (λi=>(S i||i==j)=true):=λi o' oe hi e he hb=>by
  simp only [Bool.or_eq_true,beq_iff_eq] at hi ⊢;rcases hi with hi | rfl
  ·exact .inl (inv.closed i o' oe hi e he hb)
  ·rw [ho] at oe;cases oe
   exact .inl (gh e he hb)
 have afF:∀e∈aB l n,e<(tagged ops l n).length:=λe he=>by
  obtain ⟨p,q,h1,_,rfl⟩:=jK.1 he;unfold tagged;rw [eY];have:=(List.getElem?_eq_some_iff.1 h1).1;omega
 have cnt:∀k,aT (tagged ops l n) k=(aB l n).countP λe=>decide (e<k):=λk=>by
  have:=uP (ah:=bh ops.toList []) (effs:=aB l n) (bu l n true).1 0 k;rw [Nat.zero_add] at this;exact this
 have afG:bQ d=true->(aB l n).countP S=aT (tagged ops l n) j/\(aB l n).countP (λi=>S i||i==j)=aT (tagged ops l n) j+1:=λhe=>by
  have gi:j∈aB l n:=jK.2 ⟨j,d,hd,he,by omega⟩;have XK:=jo (bu l n true).1 0;have p1:=px XK (pr F.ei inv.closed r.chain);have p2:=px XK (pr F.ei DM r.chain);have key:∀e∈aB l n,S e=decide (e<j):=λe Ze=>by
   rcases Nat.lt_trichotomy e j with bA | heq | Iq
   ·have:=p2 e Ze j gi bA (by simp)
    simp only [Bool.or_eq_true,beq_iff_eq] at this;rcases this with this | this
    ·simp [this,bA]
    ·omega
   ·subst heq;simp [hj]
   ·have dj:S e=false:=by
     cases hs:S e with
     | false=>rfl
     | true=>have:=p1 j gi e Ze Iq hs;rw [hj] at this;cases this
    rw [dj];simp;omega
  constructor
  ·rw [cnt];exact List.countP_congr λe Ze=>by rw [key e Ze]
  ·have:=AX Vn
   rw [he,if_pos rfl] at this;have this:aT (tagged ops l n) (j+1)=aT (tagged ops l n) j+1:=this;rw [<-this,cnt];refine List.countP_congr λe Ze=>?_;rw [key e Ze];simp;omega
 have SI:bQ d=false->(aB l n).countP (λi=>S i||i==j)=(aB l n).countP S:=λhe=>by
  refine List.countP_congr λe Ze=>?_;have:e≠j:=λe'=>by
   subst e';obtain ⟨p,q,h1,h2,h3⟩:=jK.1 Ze;have:p=e:=by omega
   subst this;rw [hd] at h1;cases h1;rw [he] at h2;cases h2
  simp [this]
 have cLo:nZ (λe=>(((bh ops.toList [])[j]?).getD 0).testBit e) (aB l n)<=(aB l n).countP S:=by
  rw [eG];refine List.countP_mono_left λe _ he=>?_;obtain ⟨o',oe,e',It,hb,h'⟩:=mB (i:=e) (j:=j) he;rw [ho] at oe;cases oe;have hs:=gh e' It hb;rcases h' with rfl | h'
  ·exact hs
  ·exact db F.ei inv.closed e'.on e h' hs
 have cHi:(aB l n).countP S<=nZ (λe=>!(((bh ops.toList [])[e]?).getD 0).testBit j) (aB l n):=by
  rw [eG];refine List.countP_mono_left λe _ he=>?_;cases hb:(((bh ops.toList [])[e]?).getD 0).testBit j with
  | false=>rfl
  | true=>have:=db F.ei inv.closed e j hb he;rw [hj] at this;cases this
 have afH:(aB l n).countP S<=aT (tagged ops l n) (tagged ops l n).length:=by
  rw [cnt];refine List.countP_mono_left λe Ze _=>?_;have:=afF e Ze;simpa using this
 have fin:∀{ρ':bE} {y:Value} {x':Act} {w':World},x'=x.put o.dst y->(∀m,val m<val h.next->ρ' m=ρ0 m)->jI ρ ρ'->aA B w0 ρ' (hp ((aB l n).countP (λi=>S i||i==j))) w'->val h0.next<=val (hp ((aB l n).countP (λi=>S i||i==j))).next->
   (∀i d L,l[i]? =some d->cu (Fb l true i) d=true->S i=false->i≠j->val L=val h.next+cj l true i->ρ' L=none)->RV ρ' (v j) y->K x' w':=λ{ρ' y x' w'} hx q1 q2 q3 q4 q5 q6=>by
  subst hx;have hA:oj ρ' n (A.put {tmps:=mask l tm0 v S ops.size,defers:=a.defers} dst (v j)) (x.put o.dst y):=
   oj.put (C:=⟨P,G,n⟩) (a:={tmps:=mask l tm0 v S ops.size,defers:=a.defers}) ⟨i5.mono q2,i6.mono q2⟩ hcd q6
  refine hK _ _ ⟨DM,ρ',q1,q3,q4,λi d L h1 h2 h3 h4=>?_,?_,?_,i7.mono q2⟩
  ·simp only [Bool.or_eq_false_iff] at h3
   exact q5 i d L h1 h2 h3.1 (by simpa using h3.2) h4
  ·refine ⟨hA.tmps.size,hA.tmps.small,λt ht=>?_⟩
   rw [xS F inv.closed ho hj];have:=hA.tmps.get t ht;rw [(jk _ _ _).1] at this;rw [sq];simpa [SG] using this
  ·have:=hA.defers
   rw [(jk _ _ _).2] at this;exact this
 have stay:∀{y:Value},bQ d=false->RV ρ (v j) y->K (x.put o.dst y) w:=λ{y} he hv=>
  fin rfl i1 (jI.refl ρ) (by rw [SI he];exact i2) (by rw [SI he];exact i3) (λi d L h1 h2 h3 _ h4=>i4 i d L h1 h2 h3 h4) hv
 have move:∀{ρ':bE} {y:Value} {w':World},bQ d=true->Step ρ ρ' (hp (aT (tagged ops l n) j)) (hp (aT (tagged ops l n) j+1))->RV ρ' (v j) y->aA B w0 ρ' (hp (aT (tagged ops l n) j+1)) w'->K (x.put o.dst y) w':=λ{ρ' y w'} he s hv R'=>by
  obtain ⟨e1,e2⟩:=afG he;rw [e1] at i2 i3;refine fin rfl (λm hm=>?_) (s.ext i2) (by rw [e2];exact R') (by rw [e2];exact Nat.le_trans i3 s.next) (λi d L h1 h2 h3 _ h4=>?_) hv
  ·rw [s.old m (by have:=r.next;omega)];exact i1 m hm
  ·have bA:=gE (k:=n) (q:=true) h1 h2
   rw [s.old L (by have:=r.next;omega)];exact i4 i d L h1 h2 h3 h4
 unfold wpOp;simp only [ho];rcases fact with ⟨hw,hv,hh⟩ | ⟨hw,fact⟩
 ·rw [if_neg (by rw [Hc,hw];exact Bool.false_ne_true)]
  have hu:RV ρ (v j) Go.undef:=by rw [hv];exact .tuple .nil
  cases he:bQ d with
  | false=>exact stay he hu
  | true=>
    have hhe:=hh he;rw [Nat.zero_add] at hhe;obtain ⟨e1,e2⟩:=afG he;have R':=i2;rw [e1,<-hhe] at R';exact move he ⟨λ_ _=>rfl,by rw [hhe];exact Nat.le_refl _⟩ hu R'
 ·rw [if_pos (by rw [Hc,hw])]
  refine .inl ?_;unfold Oper.wp;cases lK:aj ⟨P,G,n⟩ o.op with
  | none=>
    exfalso;have:d.op = .stuck:=by
     rw [lK,Option.getD_none] at ik;have:cu (Fb l true j) d0=false:=by obtain ⟨a1,a2,a3⟩:=d0;simp only at ik;subst ik;rfl
     rw [<-xP,nu this];exact ik
    rw [this] at fact;exact fact
  | some q=>
    rw [lK,Option.getD_some] at ik;have ok:=s5 lK;have same:=IF (E:=dz P) (tm:=mask l tm0 v S ops.size) (tm':=tm j) lK λy hy=>s6 λt ht bA=>agree t bA (pP (by rw [<-ht];exact hy))
    by_cases sN:cu (Fb l true j) d0=true
    ·
     have sN:=sN;obtain ⟨asd,op1,g1⟩:=d0;simp only at ik;subst ik;cases op1 with
     | e q1=>
       cases q1 with
       | alloc t cs=>
         have ny:d.op = .r (.fresh t cs (.t (pathOf (n+cj l true j)))):=by rw [<-xP];rfl
         rw [ny] at fact;obtain ⟨Q',hq,wx⟩:=fact;have bA:=gE (k:=n) (q:=true) sq sN;obtain ⟨L,hL,mD⟩:=r.xT _ bA;have Kd:bS (tm j) (pathOf (n+cj l true j)) = .ptr L 0:=by
          rw [r.slot (by omega) (by have h1:=ij l n true;have h2:=r.len;have h3:=r.size;have h4:n<=65536:=F.small;omega)];exact mD
         simp only [RD.oO,X.ev,Kd,eD,Option.some.injEq] at hq;subst hq;have gV:=wx ((aB l n).countP S) cLo cHi (by rw [Nat.zero_add];exact afH);simp only [Dx.Q.ask] at gV;split at gV
         ·rename_i vs e hgL
          simp only [ag,Bool.and_eq_true,Option.some.injEq] at gV;obtain ⟨⟨⟨he,jQ⟩,_⟩,Zf⟩:=gV;have he:e=t:=Nat.eq_of_beq_eq_true he;have jQ:=jD jQ;subst he;subst jQ;have fE:ρ L=none:=i4 j _ L sq sN hj hL;obtain ⟨z,FJ,hz,hvz⟩:=(show zo ⟨P,G,n⟩ o.op (.alloc e vs) from ok).alloc e vs rfl;subst hvz;obtain ⟨y,hy,hyr⟩:=fD (ρ:=ρ) hz;have hE:jI ρ (uc ρ L (dZ.mk w.heap.size 0 (y.cells.toList++([]:List Value)).length .nilFunc)):=eI fE;have hLn:val L<val (hp ((aB l n).countP S)).next:=by have:=r.next;omega
          have Ss:dO (uc ρ L (dZ.mk w.heap.size 0 (y.cells.toList++[]).length .nilFunc)) (dZ.mk w.heap.size 0 (y.cells.toList++[]).length .nilFunc) z.cells e 0 .yes (w.alloc (.cells ⟨y.cells.toList++[]⟩ e)):=dO.new (rest:=[]) ((hy.mono hE).cells) e 0 .yes;have R':=i2.laid (o:=.cells z.cells e 0 .yes) (x:=.cells ⟨y.cells.toList++[]⟩ e) (b:=(dZ.mk w.heap.size 0 (y.cells.toList++([]:List Value)).length .nilFunc)) rfl ⟨rfl,rfl⟩ fE hLn (Nat.le_refl _) hgL (λ_ _=>rfl) Ss;have dj:bQ d=false:=by unfold bQ;rw [show d=⟨d.dst,d.op,d.guard⟩ from rfl,ny]
          have dW:(execOp x.eval o).run P w = .ok (.value (.pointer (some ⟨w.heap.size,0,none⟩))) (w.alloc (.cells ⟨y.cells.toList++[]⟩ e)):=by
           unfold execOp;rw [FJ];simp [Instr.alloc,hyr,newVar,newRow]
          rw [dW,Oper.upon_value];refine fin rfl (λm hm=>?_) hE (by rw [SI dj];exact R') (by rw [SI dj];exact i3) (λi d' L' h1 h2 h3 h4 h5=>?_) ?_
          ·rw [bW (λe'=>by rw [e'] at hm;omega)];exact i1 m hm
          ·have Cb:L'≠L:=λe'=>by
            rw [e',hL] at h5;rcases Nat.lt_or_gt_of_ne h4 with qX | Ke
            ·have:=dr qX h1 h2;omega
            ·have:=dr Ke sq sN;omega
           rw [bW Cb];exact i4 i d' L' h1 h2 h3 h5
          ·rw [<-Zf]
           exact .ptr 0 (aS _ _ _)
         ·cases gV
       | cI t cs m=>
         have ny:d.op = .r (.freshS t cs m (.t (pathOf (n+cj l true j)))):=by rw [<-xP];rfl
         rw [ny] at fact;obtain ⟨Q',hq,wx⟩:=fact;have bA:=gE (k:=n) (q:=true) sq sN;obtain ⟨L,hL,mD⟩:=r.xT _ bA;have Kd:bS (tm j) (pathOf (n+cj l true j)) = .ptr L 0:=by
          rw [r.slot (by omega) (by have h1:=ij l n true;have h2:=r.len;have h3:=r.size;have h4:n<=65536:=F.small;omega)];exact mD
         simp only [RD.oO,X.ev,Kd,eD,Option.some.injEq] at hq;subst hq;have gV:=wx ((aB l n).countP S) cLo cHi (by rw [Nat.zero_add];exact afH);simp only [Dx.Q.ask] at gV;split at gV
         ·rename_i vs e hgL
          simp only [ag,Bool.and_eq_true,Option.some.injEq] at gV;obtain ⟨⟨⟨he,jQ⟩,_⟩,Zf⟩:=gV;have he:e=t:=Nat.eq_of_beq_eq_true he;have jQ:=jD jQ;subst he;subst jQ;have fE:ρ L=none:=i4 j _ L sq sN hj hL;obtain ⟨t0,ps,size,z,l0,_,FJ,k1,k2,k3,k4,k5,k6,k7,k8⟩:=(show zo ⟨P,G,n⟩ o.op (.cI e vs m) from ok).row e vs m rfl;have hLn:val L<val (hp ((aB l n).countP S)).next:=by have:=r.next;omega
          obtain ⟨tot,w',R',Kg⟩:=vU (C:=⟨P,G,n⟩) (A:=x) i5 i7 k1 k2 k3 k4 k5 k6 k7 k8 i2 fE hLn hgL;have dj:bQ d=false:=by unfold bQ;rw [show d=⟨d.dst,d.op,d.guard⟩ from rfl,ny]
          have dW:(execOp x.eval o).run P w = .ok (.value (.slice (some ⟨w.heap.size,0,none⟩) m m)) w':=by
           unfold execOp;rw [FJ];exact uR Kg
          rw [dW,Oper.upon_value];refine fin rfl (λm hm=>?_) (eI fE) (by rw [SI dj];exact R') (by rw [SI dj];exact i3) (λi d' L' h1 h2 h3 h4 h5=>?_) ?_
          ·rw [bW (λe'=>by rw [e'] at hm;omega)];exact i1 m hm
          ·have Cb:L'≠L:=λe'=>by
            rw [e',hL] at h5;rcases Nat.lt_or_gt_of_ne h4 with qX | Ke
            ·have:=dr qX h1 h2;omega
            ·have:=dr Ke sq sN;omega
           rw [bW Cb];exact i4 i d' L' h1 h2 h3 h5
          ·rw [<-Zf]
           exact .slice 0 m m (aS _ _ _)
         ·cases gV
       | cY e0 x0=>
         have hqt:Fb l true j=true:=sN;have ny:d.op = .r (.freshB e0 x0 (.t (pathOf (n+cj l true j)))):=by rw [<-xP,hqt];rfl
         rw [ny] at fact;obtain ⟨Q',hq,wx⟩:=fact;have bA:=gE (k:=n) (q:=true) sq sN;obtain ⟨L,hL,mD⟩:=r.xT _ bA;have Kd:bS (tm j) (pathOf (n+cj l true j)) = .ptr L 0:=by
          rw [r.slot (by omega) (by have h1:=ij l n true;have h2:=r.len;have h3:=r.size;have h4:n<=65536:=F.small;omega)];exact mD
         obtain ⟨t1,t2,y0,FJ,k1,k2,k3,k4⟩:=(show zo ⟨P,G,n⟩ o.op (.cY e0 x0) from ok).bytes e0 x0 rfl;have lN:x0.ev (tm j)=x0.ev (mask l tm0 v S ops.size):=by
          have:=s6 (C:=⟨P,G,n⟩) (y:=y0) (tm:=mask l tm0 v S ops.size) (tm':=tm j) λt ht bA=>agree t bA (pP (by rw [FJ,ht];simp [Op.operands]));exact (this x0 k4).symm
         have rx:=au (C:=⟨P,G,n⟩) i5 i7 k4;rw [<-lN] at rx;simp only [RD.oO,X.ev,Kd] at hq;split at hq
         ·rename_i b hxb
          have hxb:x0.ev (tm j) = .str b:=hxb;rw [hxb] at rx;simp only [ag,eD,Option.some.injEq] at hq;obtain ⟨_,hq⟩:=hq;subst hq;have gV:=wx ((aB l n).countP S) cLo cHi (by rw [Nat.zero_add];exact afH);simp only [Dx.Q.ask] at gV;split at gV
          ·rename_i vs e hgL
           simp only [ag,Bool.and_eq_true,Option.some.injEq] at gV;obtain ⟨⟨⟨he,jQ⟩,_⟩,Zf⟩:=gV;have he:e=e0:=Nat.eq_of_beq_eq_true he;have jQ:=jD jQ;subst he;subst jQ;have fE:ρ L=none:=i4 j _ L sq sN hj hL;have hLn:val L<val (hp ((aB l n).countP S)).next:=by have:=r.next;omega
           generalize XF:x.eval y0=yv at rx;cases rx with | str u=>
           obtain ⟨cap,w',jb,R',Kg⟩:=AR (P:=P) k1 k2 k3 i2 fE hLn hgL;have dj:bQ d=false:=by unfold bQ;rw [show d=⟨d.dst,d.op,d.guard⟩ from rfl,ny]
           have dW:(execOp x.eval o).run P w = .ok (.value (.slice (some ⟨w.heap.size,0,none⟩) u.size cap)) w':=by
            unfold execOp;rw [FJ];simp only [XF];exact uR Kg
           rw [dW,Oper.upon_value];refine fin rfl (λm hm=>?_) (eI fE) (by rw [SI dj];exact R') (by rw [SI dj];exact i3) (λi d' L' h1 h2 h3 h4 h5=>?_) ?_
           ·rw [bW (λe'=>by rw [e'] at hm;omega)];exact i1 m hm
           ·have Cb:L'≠L:=λe'=>by
             rw [e',hL] at h5;rcases Nat.lt_or_gt_of_ne h4 with qX | Ke
             ·have:=dr qX h1 h2;omega
             ·have:=dr Ke sq sN;omega
            rw [bW Cb];exact i4 i d' L' h1 h2 h3 h5
           ·rw [<-Zf]
            have:=RV.sliceEnd (ρ:=uc ρ L (dZ.mk w.heap.size 0 cap .nilFunc)) 0 (ax u).length 1 cap (aS _ _ _) (by rw [cw];exact jb) (by simp);simpa [cw] using this
          ·cases gV
         ·cases hq
       | _=>cases sN
     | _=>cases sN
    ·have sN:cu (Fb l true j) d0=false:=by simpa using sN
     have ny:d.op=q:=by rw [<-xP,nu sN];exact ik
     rw [ny] at fact;cases q with
     | Rm y=>
       obtain ⟨z,hz,hr⟩:=ok i5 i7;have same:y.ev _=y.ev _:=same;rw [hr o rfl w,Oper.upon_value];refine stay (by unfold bQ;rw [show d=⟨d.dst,d.op,d.guard⟩ from rfl,ny]) ?_;have fact:v j=y.ev (tm j):=fact;rw [fact,<-same];exact hz
     | p q=>
       have same:q.eval _ _=q.eval _ _:=same;have fact:q.eval (dz P) (tm j)=some (v j):=fact;obtain ⟨z,hz,hr⟩:=ok i5 i7 (v j) (same.trans fact);rw [hr o rfl w,Oper.upon_value];exact stay (by unfold bQ;rw [show d=⟨d.dst,d.op,d.guard⟩ from rfl,ny]) hz
     | r q=>
       have same:q.oO _=q.oO _:=same;obtain ⟨Q',hq,wx⟩:=fact;have gV:=wx ((aB l n).countP S) cLo cHi (by rw [Nat.zero_add];exact afH);obtain ⟨z,hz,hr⟩:=ok i5 i7 Q' (same.trans hq) (v j) i2 gV;rw [hr o rfl,Oper.upon_value];exact stay (by unfold bQ;rw [show d=⟨d.dst,d.op,d.guard⟩ from rfl,ny]) hz
     | e q=>
       have he:bQ d=true:=by unfold bQ;rw [show d=⟨d.dst,d.op,d.guard⟩ from rfl,ny]
       have same:∀h,q.run _ h=q.run _ h:=same;have fact:q.run (tm j) (hp (0+aT (tagged ops l n) j))=some (v j,hp (0+aT (tagged ops l n) j+1)):=fact;rw [Nat.zero_add] at fact;have R':=i2;rw [(afG he).1] at R';obtain ⟨ρ',y,w',s1,s2,s3,s4⟩:=ok.eff i5 i7 R' ((same _).trans fact);rcases s4 o rfl with hr | ⟨hr,rfl⟩
       ·rw [hr,Oper.upon_value];exact move he s1 s2 s3
       ·rw [hr,Oper.upon_skip];exact move he s1 s2 s3
     | c q=>
       have he:bQ d=true:=by unfold bQ;rw [show d=⟨d.dst,d.op,d.guard⟩ from rfl,ny]
       have same:q.args _ _=q.args _ _:=same;obtain ⟨⟨f,vs⟩,hf,sL⟩:=fact;rw [Nat.zero_add] at sL;have R':=i2;rw [(afG he).1] at R';obtain ⟨xs,PH,hr⟩:=ok i5 i7 (same.trans hf);rw [hr o rfl w];refine (gw sL R' i7 PH).upon λy w' hR=>?_;obtain ⟨ρ',s1,s2,s3⟩:=hR;exact move he s1 s2 s3
     | defer q=>exact fact.elim
     | stuck=>exact fact.elim
end
end Go.Dx
namespace Go.Dx
open Go Go.RowKit
section
variable {P:Program} {G n:Nat} {ops:Array Oper} {l:List DO} {call:je} {a a':A} {h h0 h':H} {tm0:T V} {v:Nat->V} {tm:Nat->T V} {hp:Nat->H} {B:Nat} {w0:World} {ρ ρ0:bE} {w:World}
theorem aA.more (R:aA B w0 ρ h w)(hold:∀m,val m<val h.next->h0.get m=h.get m) (hn:val h.next<=val h0.next):aA B w0 ρ h0 w:=by
 have g:∀m b,ρ m=some b->h0.get m=h.get m:=λm b hm=>hold m (R.lt m b hm);refine ⟨λm b o hm ho=>R.obj m b o hm (by rw [<-g m b hm];exact ho),λm b hm=>Nat.lt_of_lt_of_le (R.lt m b hm) hn,R.base,λm k b c hm hk h1 h2=>R.inj m k b c hm hk (by rw [<-g m b hm];exact h1) (by rw [<-g k c hk];exact h2),λm b o hm ho=>R.own m b o hm (by rw [<-g m b hm];exact ho),R.size,R.below⟩
def unl (m:Nat)(S:Nat->Bool):Nat:=(List.range m).countP λi=>!S i
theorem XL {m j:Nat}{S:Nat->Bool} (hj:j<m) (hs:S j=false):unl m (λi=>S i||i==j)+1<=unl m S:=by
 unfold unl;have h1:(List.range m).countP (λi=>!(S i||i==j))=((List.range m).filter λi=>!S i).countP λi=>!(i==j):=by
  rw [List.countP_filter];refine List.countP_congr λi _=>?_;cases S i<;>simp
 rw [h1];have h2:(List.range m).countP (λi=>!S i)=((List.range m).filter λi=>!S i).length:=List.countP_eq_length_filter;rw [h2];have gi:j∈(List.range m).filter λi=>!S i:=List.mem_filter.2 ⟨List.mem_range.2 hj,by simp [hs]⟩;have h3:=List.length_eq_countP_add_countP (λi=>i==j) (l:=(List.range m).filter λi=>!S i);have h4:0<((List.range m).filter λi=>!S i).countP (λi=>i==j):=List.countP_pos_iff.2 ⟨j,gi,by simp⟩;have h5:((List.range m).filter λi=>!S i).countP (λi=>!(i==j))=((List.range m).filter λi=>!S i).countP (λi=>decide ¬((i==j)=true)):=by
  refine List.countP_congr λi _=>?_;cases (i==j)<;>simp
 omega
theorem SJ {m:Nat}{S:Nat->Bool} (h:unl m S=0):∀i,i<m->S i=true:=λi hi=>by
 have:=(List.countP_eq_zero.1 h) i (List.mem_range.2 hi);simpa using this
theorem ai8 (gw:nq P G call)(r:Reg P G n ops l call a a' h h0 h' tm0 v tm hp){Q:Exit->Act->World->Prop} (Vo:∀S x w,Inv P G n ops l a h h0 tm0 v hp B w0 ρ0 S x w->(∀i,i<ops.size->S i=true)->Q .normal x w):
  ∀(fuel:Nat) (listed:Array Bool) (x:Act) (w:World),listed.size=ops.size->Inv P G n ops l a h h0 tm0 v hp B w0 ρ0 (λi=>listed.getD i false) x w->unl ops.size (λi=>listed.getD i false)<=fuel->wpAny P .any ops Q fuel listed x w:=by
 have done:∀(listed:Array Bool) (x:Act) (w:World),listed.size=ops.size->Inv P G n ops l a h h0 tm0 v hp B w0 ρ0 (λi=>listed.getD i false) x w->Region.ready .any ops listed=[]->Q .normal x w:=λlisted x w ft inv hr=>by
  refine Vo _ x w inv λi hi=>?_;induction i using Nat.strongRecOn with
  | _ i ih=>
    cases hs:listed.getD i false with
    | true=>rfl
    | false=>
      exfalso;have:i∈Region.ready .any ops listed:=by
       rw [mem_ready];refine ⟨?_,ops[i],by simp [hi],λe he hb=>?_⟩
       ·have bA:i<listed.size:=by omega
        simp only [Array.getD_eq_getD_getElem?,Array.getElem?_eq_getElem bA,Option.getD_some] at hs ⊢;exact hs
       ·have bA:=s8 r.facts.ei (j:=i) (o:=ops[i]) (by simp [hi]) he hb
        exact ih e.on bA (by omega)
      rw [hr] at this;cases this
 intro fuel;induction fuel with
 | zero=>
   intro listed x w ft inv hu;have cf:=SJ (Nat.le_zero.1 hu);have Vp:Region.ready .any ops listed=[]:=by
    cases hr:Region.ready .any ops listed with
    | nil=>rfl
    | cons i rs=>
      exfalso;have hm:i∈Region.ready .any ops listed:=by rw [hr];exact List.mem_cons_self ..
      rw [mem_ready] at hm;obtain ⟨h1,o,ho,_⟩:=hm;have bA:i<ops.size:=(Array.getElem?_eq_some_iff.1 ho).1;have h2:=cf i bA;have qX:i<listed.size:=by omega
      simp only [Array.getD_eq_getD_getElem?,Array.getElem?_eq_getElem qX,Option.getD_some] at h1 h2;rw [h1] at h2;cases h2
   exact ⟨Vp,done listed x w ft inv Vp⟩
 | succ fuel ih=>
   intro listed x w ft inv hu;refine ⟨λhr=>done listed x w ft inv hr,λj hj=>?_⟩;obtain ⟨h1,o,ho,cf⟩:=mem_ready.1 hj;have bA:j<ops.size:=(Array.getElem?_eq_some_iff.1 ho).1;have qX:j<listed.size:=by omega
   have hs:listed.getD j false=false:=by
    simp only [Array.getD_eq_getD_getElem?,Array.getElem?_eq_getElem qX,Option.getD_some] at h1 ⊢;exact h1
   have hS:(λi=>(listed.setIfInBounds j true).getD i false)=λi=>listed.getD i false||i==j:=by
    funext i
    by_cases e:i=j
    ·subst e;simp [qX]
    ·have dj:(i==j)=false:=by simpa using e
     rw [dj,Bool.or_false];exact getD_set_ne false (Ne.symm e)
   refine acv gw r inv ho hs (λe he hb=>cf e he hb) λx' w' ai9=>?_;refine ih _ x' w' (by simp [ft]) (by rw [hS];exact ai9) ?_;rw [hS];have:=XL (S:=λi=>listed.getD i false) bA hs;omega
theorem afI (hm:P.follows .mixedOrders=true)(gw:nq P G call):Vl P G call:=by
 intro n id ops l m dl hl hd a a' x ρ h h' w B w0 hA hG R m' dY dW Q hQ;unfold jf at hd;simp only at hd;split at hd
 ·rename_i acy
  simp only [Bool.and_eq_true] at acy;obtain ⟨⟨⟨⟨k1,k2⟩,k3⟩,k4⟩,k5⟩:=acy;have k5:=Nat.le_of_ble_eq_true k5;simp only [DC.draw.injEq] at hd;obtain ⟨rfl,rfl⟩:=hd;have qY:n<=65536:=hA.tmps.small;have hlen:l.length=ops.size:=by have:=(cN hl 0).2;simpa using this
  have mD:=Mz dY;have PT:m'.length=(bu l n true).2.length:=by have:=congrArg List.length mD;simpa using this
  obtain ⟨m1,m2,m3,m4⟩:=B' m' n a.tmps h (λp y hp=>by
   have e:=congrArg (λl=>l[p]?) mD;simp only [List.getElem?_map,hp,Option.map_some] at e;cases hq:(bu l n true).2[p]? with
   | none=>rw [hq] at e;cases e
   | some z=>
     rw [hq] at e;simp only [Option.map_some,Option.some.injEq] at e;rw [e];exact pw hq) (by rw [PT];have:=ij l n true;omega)
  rw [PT] at m2 m4;obtain ⟨v,tm,hp,t⟩:=DK (n:=0) (hs:=[]) (ps:=[]) rfl (λq v b hm=>by simp at hm) dW;have r:Reg P G n ops l call a a' h (makeAll m' a.tmps h).2 h' (makeAll m' a.tmps h).1 v tm hp:=⟨⟨hl,qY,k3,k2⟩,k1,k5,t,m2,m4⟩;have h0:hp 0=(makeAll m' a.tmps h).2:=t.now;refine wp_region_any hm (ai8 (B:=B) (w0:=w0) (ρ0:=ρ) gw r (λS y w1 inv cf=>?_) ops.size (Array.replicate ops.size false) x _ (by simp) ?_ ?_)
  ·
   obtain ⟨ρ1,i1,i2,i3,i4,i5,i6,i7⟩:=inv.rel;obtain ⟨l1,l2,l3⟩:=t.last;have Cc:(tagged ops l n).length=ops.size:=by unfold tagged;rw [eY,eh,hlen]
   have HU:(aB l n).countP S=aT (tagged ops l n) (tagged ops l n).length:=by
    have e1:=uP (ah:=bh ops.toList []) (effs:=aB l n) (bu l n true).1 0 (tagged ops l n).length;have e1:aT (tagged ops l n) (tagged ops l n).length=(aB l n).countP λe=>decide (e<0+(tagged ops l n).length):=e1;rw [e1];refine List.countP_congr λe he=>?_;obtain ⟨p,q,h1,_,rfl⟩:=jK.1 he;have bA:=(List.getElem?_eq_some_iff.1 h1).1;rw [eh,hlen] at bA;have hp':S (0+p)=true:=cf (0+p) (by omega);have aU:0+p<0+(tagged ops l n).length:=by rw [Cc];omega
    simp only [hp',decide_eq_true aU]
   have l2':h'=hp ((aB l n).countP S):=by rw [HU,l2];congr 1;exact Nat.zero_add _
   have acz:mask l (makeAll m' a.tmps h).1 v S ops.size=a'.tmps:=by
    rw [mC (S':=λ_=>true) ops.size (λk hk=>cf k hk),<-r.tms ops.size (Nat.le_refl _)];have l1:a'.tmps=tm (tagged ops l n).length:=l1;rw [l1,Cc]
   refine hQ ρ1 y w1 ⟨i1,?_⟩ ⟨?_,?_⟩ ?_
   ·rw [l2'];have:=r.next;omega
   ·rw [<-acz];exact i5
   ·rw [l3];exact i6
   ·rw [l2'];exact i2
  ·
   have hS:(λi=>(Array.replicate ops.size false).getD i false)=λ_=>false:=by
    funext i
    simp [Array.getD_eq_getD_getElem?,Array.getElem?_replicate];split<;>rfl
   rw [hS];have hc0:(aB l n).countP (λ_=>false)=0:=by rw [List.countP_eq_zero];simp
   refine ⟨λj o _ hj=>(by cases hj),ρ,λ_ _=>rfl,?_,?_,λi d L h1 h2 _ h4=>?_,?_,hA.defers,hG⟩
   ·rw [hc0,h0]
    exact (R.drew).more m3 (by rw [m4];omega)
   ·rw [hc0,h0];exact Nat.le_refl _
   ·cases hr:ρ L with
    | none=>rfl
    | some b=>have:=R.lt L b hr;omega
   ·have:mask l (makeAll m' a.tmps h).1 v (λ_=>false) ops.size=(makeAll m' a.tmps h).1:=by
     generalize ops.size=k;induction k with
     | zero=>rfl
     | succ k ih=>simp only [mask,ih];rfl
    rw [this];exact ⟨hA.tmps.size,qY,λt ht=>by rw [m1 t ht];exact hA.tmps.get t ht⟩
  ·unfold unl
   have:=List.countP_le_length (p:=λi=>!(Array.replicate ops.size false).getD i false) (l:=List.range ops.size);simpa using this
 ·cases hd
theorem Vq {vQ:je}{iF:FuncId->List V->H->Option H} {fns:T bC} (hm:P.follows .mixedOrders=true) (SC:nq P G vQ) (hd:B5 P G iF) (PL:Sy P G fns) (n:Nat):nq P G (abV (dz P) fns vQ iF n).call:=
 (XJ (λhc=>afI hm hc) SC hd PL n).2
end
end Go.Dx
namespace Go.Dx
open Go
def afJ:List (V×V×Nat)->List (V×V×Nat)->Bool
 | [],[]=>true
 | (a,b,c)::r,(x,y,z)::s=>sO a x&&sO b y&&Nat.beq c z&&afJ r s
 | _,_=>false
def ahF:Own->Own->Bool
 | .no,.no=>true
 | .yes,.yes=>true
 | .marked,.marked=>true
 | _,_=>false
def ahG:Option Lb->Option Lb->Bool
 | none,none=>true
 | some a,some b=>na a b
 | _,_=>false
def N6:Obj->Obj->Bool
 | .cells a e f o,.cells b e' f' o'=>wq a b&&Nat.beq e e'&&Nat.beq f f'&&ahF o o'
 | .map a c,.map b d=>afJ a b&&Nat.beq c d
 | .uw s p,.uw t q=>eV s t&&Nat.beq p q
 | .mapIter m a s b,.mapIter n c t d=>ahG m n&&Nat.beq a c&&eV s t&&Nat.beq b d
 | _,_=>false
def holds (h:H)(l:Lb)(o:Obj):Bool:=match h.get l with
 | some x=>N6 x o
 | none=>false
def hasAll (h:H):List (Lb×Obj)->Bool
 | []=>true
 | (l,o)::r=>match holds h l o with
   | true=>hasAll h r
   | false=>false
def anm:Cap->Cap->Bool
 | .exact a,.exact b=>Nat.beq a b
 | .toEnd a,.toEnd b=>Nat.beq a b
 | _,_=>false
inductive Key where
 | s (b:List Nat)
 | b (b:List Nat) (c:Cap)
 | nil (c:Nat)
 | emp
def acA (l:Lb):List (Lb×Obj)->Bool
 | []=>false
 | (m,_)::r=>na l m||acA l r
def keyOf (et:TypeId)(gl:List (Lb×Obj))(h:H):V->Option (Lb×Key)
 | .slice l off n cap=>match h.get l with
   | some (.cells vs e _ _)=>bN (Nat.beq off 0&&Nat.beq e et && !acA l gl) (ob (takeN n vs) λr=>ob (mQ r) λb=>some (l,.b b cap))
   | _=>none
 | .str b=>some ([],.s b)
 | .nilSlice c=>some ([],.nil c)
 | .empty=>some ([],.emp)
 | _=>none
def keysOf (et:TypeId)(gl:List (Lb×Obj))(h:H):List V->Option (List (Lb×Key))
 | []=>some []
 | v::vs=>ob (keyOf et gl h v) λk=>ob (keysOf et gl h vs) λks=>some (k::ks)
def Vr (l:Lb):List (Lb×Key)->Bool
 | []=>false
 | (m,.b _ _)::r=>na l m||Vr l r
 | _::r=>Vr l r
def Vs:List (Lb×Key)->Bool
 | []=>true
 | (l,.b _ _)::r=>!Vr l r&&Vs r
 | _::r=>Vs r
def ann:Key->Key->Bool
 | .s a,.s b=>eV a b
 | .b a c,.b b d=>eV a b&&anm c d
 | .nil c,.nil d=>Nat.beq c d
 | .emp,.emp=>true
 | _,_=>false
def acB:List (Lb×Key)->List Key->Bool
 | [],[]=>true
 | (_,k)::r,k'::s=>ann k k'&&acB r s
 | _,_=>false
def aja (h:H):Option (Lb×Int×Int×TypeId)->Bool
 | none=>true
 | some (l,lo,hi,t)=>match h.get l with
   | some (.cells (.lG a b::_) e _ _)=>Nat.beq e t&&oN a lo&&oN b hi
   | _=>false
def asi (rg:Option (Lb×Int×Int×TypeId))(gl:List (Lb×Obj)):List (Lb×Obj):=match rg with
 | none=>gl
 | some (l,lo,hi,t)=>(l,.cells [.lG lo hi] t 0 .no)::gl
def XM (ks:List (Lb×Key)):List (List Key×V)->Option V
 | []=>none
 | (k,v)::r=>match acB ks k with
   | true=>some v
   | false=>XM ks r
inductive Ext where
 | nop
 | mark
 | same
 | XN
 | XO
 | clone
 | Vt (et:TypeId)
 | indexByte
 | Vu (et:TypeId)
 | compare
 | aGn (at_:Lb) (rt:TypeId) (g:Lb) (err:TypeId) (ps:List (TypeId×TypeId×Nat)) (hs ms:List (TypeId×TypeId))
 | typeOf (rt:TypeId) (g:Lb) (ts:List TypeId)
 | comparable (g:Lb) (ts:List TypeId)
 | ajb
 | acC (size:Nat)
 | index (mg:Lb) (et:TypeId)
 | tab (et:TypeId) (gl:List (Lb×Obj)) (rg:Option (Lb×Int×Int×TypeId)) (ts:List (List Key×V))
 | seq (keys:Bool) (e:TypeId) (size bytes:Nat) (g0 g1:List FuncId)
def IG (a b:List Nat):Int:=match gq a b with
 | true=>Int.negSucc 0
 | false=>match eV a b with
   | true=>Int.ofNat 0
   | false=>Int.ofNat 1
def fF (c:Nat):List Nat->Nat->Int
 | [],_=>Int.negSucc 0
 | b::r,i=>match Nat.beq b c with
   | true=>Int.ofNat i
   | false=>fF c r (i+1)
def cellAt (h:H)(l:Lb)(off:Nat):Option V:=Q.ask h (.load .one l off)
def ahH (h:H)(e:TypeId)(size bytes:Nat)(s x:V):Option (V×H):=
 bN (Nat.beq x.cells.length size&&Nat.blt 0 size&&Nat.blt 0 bytes&&bd x.cells) (eH h e size bytes s 1 x.cells)
def ajc:V->Bool
 | .int .i64 _=>true
 | _=>false
def Kh (h:H)(l:Lb):Option (List (V×V×Nat)):=match cellAt h l 0 with
 | some (.map r)=>match h.get r with
   | some (.map [] _)=>some []
   | some (.map [x] c)=>bN (Nat.blt x.2.2 c) (some [x])
   | _=>none
 | some .aP=>some []
 | _=>none
def XP:List Nat->List Nat->Bool
 | [],_=>true
 | _::_,[]=>false
 | a::x,b::y=>match Nat.beq a b with
   | true=>XP x y
   | false=>false
def SK (t:List Nat):List Nat->Nat->Int
 | [],i=>match t with
   | []=>Int.ofNat i
   | _::_=>Int.negSucc 0
 | b::r,i=>match XP t (b::r) with
   | true=>Int.ofNat i
   | false=>SK t r (i+1)
def PU (et:TypeId)(h:H):V->Option (List Nat)
 | .str b=>some b
 | .slice l off n _=>match h.get l with
   | some (.cells vs e _ _)=>bN (Nat.beq e et) (ob (rowFrom vs off n) mQ)
   | _=>none
 | _=>none
def acD:V->V->Bool
 | .str _,.str _=>true
 | .slice _ _ _ _,.slice _ _ _ _=>true
 | _,_=>false
def afK (h:H)(l:Lb)(n:Nat):Bool:=match h.get l with
 | some (.cells (.lG a _::_) _ _ _)=>!ko a (Int.ofNat n)
 | _=>false
def XQ (t tp n:Nat):List (TypeId×TypeId×Nat)->Bool
 | []=>false
 | (a,b,c)::r=>(Nat.beq a t&&Nat.beq b tp&&Nat.beq c n)||XQ t tp n r
def Vv (t tp:Nat):List (TypeId×TypeId)->Bool
 | []=>false
 | (a,b)::r=>(Nat.beq a t&&Nat.beq b tp)||Vv t tp r
def iV (P:Program)(k:Ext)(args:List V)(h:H):Option (V×H):=
 match k with
 | .nop=>match args with
   | []=>some (.tuple [],h)
   | _=>none
 | .mark=>match args with
   | [.ptr _ _]=>some (.tuple [],h)
   | _=>none
 | .same=>match args with
   | [x]=>some (x,h)
   | _=>none
 | .XN=>match args with
   | [.ptr l off,.int .i32 x,.int .i32 y]=>match cellAt h l off with
     | some (.int .i32 v)=>bN (oN v x) (ob (eb h l off [.int .i32 y]) λh'=>some (.bool true,h'))
     | _=>none
   | _=>none
 | .XO=>match args with
   | [.ptr l off,.int .i32 y]=>match cellAt h l off with
     | some (.int .i32 v)=>ob (eb h l off [.int .i32 (bR .i32 (v+y))]) λh'=>some (.int .i32 (bR .i32 (v+y)),h')
     | _=>none
   | _=>none
 | .clone=>match args with
   | [.iface t (.map r)]=>match h.get r with
     | some (.map es c)=>some (.iface t (.map h.next),h.add (.map es c))
     | _=>none
   | _=>none
 | .Vt et=>match args with
   | [.int .i64 (.ofNat n)]=>bN (Nat.ble n 1048576) (some (.slice h.next 0 n (.toEnd 1),h.add (.cells [] et 0 .yes)))
   | _=>none
 | .indexByte=>match args with
   | [.str s,.int .u8 (.ofNat c)]=>bN (Nat.blt c 256) (some (.int .i64 (fF c s 0),h))
   | _=>none
 | .Vu et=>match args with
   | [.slice l off n cap,.int .u8 (.ofNat c)]=>bN (Nat.blt c 256) (ob (PU et h (.slice l off n cap)) λs=>some (.int .i64 (fF c s 0),h))
   | _=>none
 | .compare=>match args with
   | [.str a,.str b]=>some (.int .i64 (IG a b),h)
   | _=>none
 | .aGn at_ rt g err ps hs ms=>match args with
   | [.nilIface,_]=>some (.bool false,h)
   | [.iface t (.agg cs),.iface tp (.ptr l off)]=>match cellAt h at_ 0 with
     | some (.iface r (.agg [.ptr l2 e]))=>bN (Nat.beq r rt&&na l2 g&&Nat.beq e err&&XQ t tp cs.length ps) (ob (eb h l off cs) λh'=>some (.bool true,h'))
     | _=>none
   | [.iface t (.int .i64 n),.iface tp (.ptr l off)]=>match cellAt h at_ 0 with
     | some (.iface r (.agg [.ptr l2 e]))=>bN (Nat.beq r rt&&na l2 g&&Nat.beq e err) (match Vv t tp ms with
       | true=>some (.bool false,h)
       | false=>bN (Vv t tp hs) (ob (eb h l off [.int .i64 n]) λh'=>some (.bool true,h')))
     | _=>none
   | _=>none
 | .typeOf rt g ts=>match args with
   | [.iface t _]=>bN (dp t ts) (some (.iface rt (.agg [.ptr g t]),h))
   | _=>none
 | .comparable g ts=>match args with
   | [.agg [.ptr l t]]=>bN (na l g&&dp t ts) (ob (P.info? t) λi=>some (.bool i.comparable,h))
   | _=>none
 | .ajb=>match args with
   | [.sym _ 3]=>some (.bool true,h)
   | [.sym _ 2]=>some (.bool false,h)
   | _=>none
 | .acC size=>match args with
   | [.sym _ n]=>bN (Nat.beq n size) (some (.any,h))
   | _=>none
 | .index mg et=>match args with
   | [x,y]=>ob (PU et h x) λa=>ob (PU et h y) λb=>bN (acD x y&&Nat.ble 2 b.length&&Nat.blt a.length 4294967281&&afK h mg b.length) (some (.int .i64 (SK b a 0),h))
   | _=>none
 | .tab et gl rg ts=>ob (keysOf et (asi rg gl) h args) λks=>bN (Vs ks&&hasAll h gl&&aja h rg) (ob (XM ks ts) λv=>some (v,h))
 | .seq keys e size bytes g0 g1=>match args with
   | [.nilSlice 0,.func g [] [.ptr l 0]]=>match Kh h l with
     | some []=>bN (dp g g0) (some (.nilSlice 0,h))
     | some [x]=>bN (dp g g1&&(match keys with | true=>ajc x.1 | false=>true)) (ahH h e size bytes (.nilSlice 0) (match keys with | true=>x.1 | false=>x.2.1))
     | _=>none
   | _=>none
def DN:List (FuncId×Ext)->FuncId->Option Ext
 | [],_=>none
 | (g,k)::r,f=>match Nat.beq g f with
   | true=>some k
   | false=>DN r f
def acE (P:Program)(ids:List (FuncId×Ext)):je:=λf args h=>ob (DN ids f) λk=>iV P k args h
end Go.Dx
