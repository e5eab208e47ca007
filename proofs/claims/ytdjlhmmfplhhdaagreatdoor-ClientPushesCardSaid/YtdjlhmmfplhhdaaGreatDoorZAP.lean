/-
  The client's laws. Part ZAP of the proof: A region whose order is open: one effect; the whole.
-/
import Derived.Test.YtdjlhmmfplhhdaaGreatDoorZAO
import Derived.Test.YtdjlhmmfplhhdaaGreatDoorZAN
namespace Go.Dx
open Go Go.RowKit
variable{hi j k:Nat}{d:DO}
def EF (pf:Unit->Program) (G:Nat) (b:List (DO×Nat×Nat)) (f k:Nat) (a:A) (h:H) (ps:List kF) (K:A->H->Prop) (Pn:A->V->H->Prop):Prop:=match Uf k b with
 | none=>K a h
 | some d=>wpG pf G d a h (λa h'=>fu h' (qR (k+1) ps) (Ns pf G b f (k+1) a h' ps K Pn)) Pn
theorem Y5:∀{a:List (DO×Nat×Nat)} {j k:Nat} {d:DO} {hi:Nat},a[j]? =some (d,k,hi)->bT d=true->(∀i d' c,a[i]? =some (d',k,c)->bT d'=true->i=j)->Uf k a=some d
 | [],j,k,d,hi,h,_,_=>by simp at h
 | (d1,Dq,Je)::r,0,k,d,hi,h,he,_=>by
   simp at h;obtain ⟨rfl,rfl,rfl⟩:=h;simp [Uf,he]
 | (d1,Dq,Je)::r,j+1,k,d,hi,h,he,hu=>by
   have h:r[j]? =some (d,k,hi):=by simpa using h
   simp only [Uf];split
   ·rename_i l
    simp only [Bool.and_eq_true] at l;have e:=Nat.eq_of_beq_eq_true l.2;have:=hu 0 d1 Je (by rw [<-e];rfl) l.1;omega
   ·exact Y5 h he λi d' c f g=>by have:=hu (i+1) d' c (by simpa using f) g;omega
theorem O4:∀{c:List (DO×Nat×Nat)} {k:Nat},(∀(i:Nat) (d':DO) (lo b:Nat),c[i]? =some (d',lo,b)->bT d'=true->lo<k)->Uf k c=none
 | [],_,_=>rfl
 | (d1,Dq,Je)::r,k,hu=>by
   simp only [Uf];split
   ·rename_i a
    simp only [Bool.and_eq_true] at a;have e:=Nat.eq_of_beq_eq_true a.2;have:=hu 0 d1 Dq Je rfl a.1;omega
   ·exact O4 λi d' lo b d f=>hu (i+1) d' lo b (by simpa using d) f
section
variable {pf:Unit->Program} {G n:Nat} {ops:Array Oper} {l:List DO} {tm0:T V} {h h0:H} {ds:List (FuncId×List V)} {B:Nat} {w0:World} {ρ0:bD} {Kf:A->H->Prop} {Px:A->V->H->Prop}
structure aaI (pf:Unit->Program) (G n:Nat) (ops:Array Oper) (l:List DO) (tm0:T V) (h h0:H) (ds:List (FuncId×List V)) (B:Nat) (w0:World) (ρ0:bD) (Kf:A->H->Prop) (Px:A->V->H->Prop) (S:Nat->Bool) (x:Act) (w:World):Prop where
 closed:gq ops (λi=>S i=true)
 rest:∃v k hk ps ak f,(aF l n).countP S=k/\iA ak.tmps (mask l tm0 v (Es ops l n k ops.size) ops.size)/\ak.defers=ds/\
  (∀j d lo hi,(tagged ops l n)[j]? =some (d,lo,hi)->bT d=false->lo<=k->NF (dq (pf ())) (mask l tm0 v (Aj ops j) ops.size) d (v j) hi k hk ps)/\
  EF pf G (tagged ops l n) f k ak hk ps Kf Px/\ag8 (pf ()) n ops l ds G h h0 tm0 v hk B w0 ρ0 S x w
theorem ad8 (F:qP ⟨pf (),G,n⟩ ops l)(c:jW (bp ops.toList []) (aF l n)=true){i:Nat}{d':DO}{f:Nat}(e:(tagged ops l n)[j]? =some (d,k,hi))(b:bT d=true)(h:(tagged ops l n)[i]? =some (d',k,f))(g:bT d'=true):i=j:=by
 obtain ⟨_,_,_,_,_,_,o,_,m⟩:=sf F e;obtain ⟨_,_,_,_,_,_,p,_,a⟩:=sf F h;exact Lp c F.eA (a.1 g) (m.1 b) (by omega)
theorem Xa (F:qP ⟨pf (),G,n⟩ ops l)(Z:jW (bp ops.toList []) (aF l n)=true)(fL:ops.size<=65536){S:Nat->Bool}    (z:(tagged ops l n)[j]? =some (d,k,hi)) (he:bT d=true) (X:S j=false) (y:gq ops (λi=>S i=true)) (FB:gq ops (λi=>(S i||i==j)=true)) (Ix:(aF l n).countP S=k)
  {v:Nat->V} {hk h':H} {ps:List kF} {w:A} {f:Nat} {u:V} (Lr:iA w.tmps (mask l tm0 v (Es ops l n k ops.size) ops.size)) (QC:w.defers=ds)
  (r:∀j d lo hi,(tagged ops l n)[j]? =some (d,lo,hi)->bT d=false->lo<=k->NF (dq (pf ())) (mask l tm0 v (Aj ops j) ops.size) d (v j) hi k hk ps)
  (form:fu h' (qR (k+1) ps) (Ns pf G (tagged ops l n) f (k+1) (w.put d.dst u) h' ps Kf Px)) {U:Act} {w':World}
  (rel:∀g:Nat->V,g j=u->(∀i,S i=true->g i=v i)->ag8 (pf ()) n ops l ds G h h0 tm0 g h' B w0 ρ0 (λi=>S i||i==j) U w'):aaI pf G n ops l tm0 h h0 ds B w0 ρ0 Kf Px (λi=>S i||i==j) U w':=by
 obtain ⟨o,d0,O,sW,hcc,yh,HB,Ir,hef⟩:=sf F z;have Gr:=hef.1 he;obtain ⟨st,form⟩:=form.out;have lC:d.dst=d0.dst:=by rw [yh];exact (iM _ _ _).1
 have hjs:j<ops.size:=(Array.getElem?_eq_some_iff.1 O).1;cases f with
 | zero=>exact form.elim
 | succ f=>
   have P:Es ops l n k ops.size j=false:=by
    cases s:Es ops l n k ops.size j with
    | false=>rfl
    | true=>rw [oY] at s;rcases s with s | s
            ·omega
            ·exact absurd Gr s.1
   have O3:∀S:Nat->Bool,S j=false->mask l tm0 (λi=>if i=j then u else v i) S ops.size=mask l tm0 v S ops.size:=λS Y=>
    jg ops.size λi _ hi=>by
     have:i≠j:=λe=>by rw [e,Y] at hi;cases hi
     simp [this]
   have K:iA (w.put d.dst u).tmps (mask l tm0 (λi=>if i=j then u else v i) (Es ops l n (k+1) 0) ops.size):=by
    have e1:mask l tm0 (λi=>if i=j then u else v i) (Es ops l n (k+1) 0) ops.size=mask l tm0 (λi=>if i=j then u else v i) (λi=>Es ops l n k ops.size i||i==j) ops.size:=by
     refine nh ops.size λi hi=>?_;rw [Bool.eq_iff_iff,Bool.or_eq_true,oY,oY,beq_iff_eq];constructor
     ·rintro (q | ⟨_,_,q⟩)
      ·rcases Nat.lt_or_ge (iP ops l n i) k with M | M
       ·exact .inl (.inl M)
       ·by_cases hie:i∈aF l n
        ·exact .inr (Lp Z F.eA hie Gr (by omega))
        ·exact .inl (.inr ⟨hie,by omega,hi⟩)
      ·omega
     ·rintro ((q | ⟨_,q,_⟩) | q)
      ·exact .inl (by omega)
      ·exact .inl (by omega)
      ·subst q;exact .inl (by omega)
    rw [e1];refine (Lr.put d.dst u).congr λq=>?_;rw [ym F (Am F.eA k ops.size) O P q,O3 _ P,sW];simp [lC]
   have N:(tagged ops l n).length=ops.size:=by
    unfold tagged;rw [ft,ez,(cS F.comp 0).2];simp
   obtain ⟨g,a',QI,q1,T,q3,q4,q5,q6⟩:=QT F (tagged ops l n) 0 (λm=>by rw [Nat.zero_add]) (by omega) K fL form;have E:g j=u:=by have:=T j (.inr (.inl Gr));simpa using this
   have p:∀i,i≠j->(i∈aF l n\/iP ops l n i≠k+1)->g i=v i:=λi L hi=>by have:=T i (.inr hi);simpa [L] using this
   have t:∀i,S i=true->i≠j/\(i∈aF l n\/iP ops l n i≠k+1):=λi hi=>
    ⟨λe=>(by rw [e,X] at hi;cases hi),.inr (by have:=lo_le (l:=l) (n:=n) F.eA y hi;omega)⟩
   refine ⟨FB,g,k+1,h',QI,a',f,by rw [ag6 Gr X,Ix],q3,by rw [q4,(jJ _ _ _).2,QC],λi d' MV W I Ji aat=>?_,q1,rel g E λi hi=>p i (t i hi).1 (t i hi).2⟩;obtain ⟨o2,d2,mh,ya,HQ,aCc,akT,at0,at1⟩:=sf F I;rcases Nat.lt_or_ge MV (k+1) with bA | jl
   ·have cV:¬i∈aF l n:=λJ=>by rw [at1.2 J] at Ji;cases Ji
    have L:i≠j:=λe=>by subst e;exact cV Gr
    have hv:=p i L (.inr (by omega));have J:mask l tm0 g (Aj ops i) ops.size=mask l tm0 v (Aj ops i) ops.size:=jg ops.size λi2 _ Ip=>by
     have gb:=Y4 (l:=l) (n:=n) F.eA Ip;refine p i2 (λe=>?_) (.inr (by omega));subst e;have:=QS (l:=l) F.eA Gr Ip;omega
    have:=r i d' MV W I Ji (by omega);rw [J,hv];rcases this with ⟨a,b⟩ | ⟨a,b⟩
    ·exact .inl ⟨a,b⟩
    ·refine .inr ⟨a,?_⟩
     split at b
     ·exact b
     ·exact b
     ·obtain ⟨Q,b1,b2,R⟩:=b
      exact ⟨Q,b1,λC=>st _ (Cv R C),q5 _ R⟩
     ·exact b
   ·exact q6 i d' MV W (Nat.zero_le _) I Ji (by omega)
theorem ag9 (F:qP ⟨pf (),G,n⟩ ops l)(hc:jW (bp ops.toList []) (aF l n)=true)(fL:ops.size<=65536)(yo:∀p,p<(bu l n true).2.length->∃L,val L=val h.next+p/\bV tm0 (pathOf (n+p)) = .ptr L 0) (next:val h0.next=val h.next+(bu l n true).2.length)
  {S:Nat->Bool} {x:Act} {w:World} (inv:aaI pf G n ops l tm0 h h0 ds B w0 ρ0 Kf Px S x w)  {o:Oper} (P:ops[j]? =some o) (hj:S j=false)
  (gv:∀e∈o.after,Region.binds .any e=true->S e.on=true) {K:Act->World->Prop} {Q:Exit->Act->World->Prop} (hK:∀x' w',aaI pf G n ops l tm0 h h0 ds B w0 ρ0 Kf Px (λi=>S i||i==j) x' w'->K x' w')
  (hX:∀v h',Px {tmps:=.leaf,defers:=ds} v h'->BH B w0 n ρ0 h {tmps:=.leaf,defers:=ds} v h' Q):wpOp (pf ()) ops Q j K x w:=by
 obtain ⟨v,k,hk,ps,ak,f,Ix,Lr,QC,O,form,rel⟩:=inv.rest;obtain ⟨d0,sW,at2,M⟩:=ad5 F P;have El:gq ops (λi=>(S i||i==j)=true):=λi o' rK hi e D W=>by
  simp only [Bool.or_eq_true,beq_iff_eq] at hi ⊢;rcases hi with hi | rfl
  ·exact .inl (inv.closed i o' rK hi e D W)
  ·rw [P] at rK;cases rK
   exact .inl (gv e D W)
 generalize yh:Ek (FE l true j) d0 (n+cj l true j)=d at M;obtain ⟨_,_,_,_,_,_,_,_,hef⟩:=sf F M;have HB:=Uh (l:=l) (n:=n) F.eA P inv.closed gv;rw [Ix] at HB;cases D:bT d with
 | false=>
   have cV:¬j∈aF l n:=λhm=>by rw [hef.2 hm] at D;cases D
   refine aoR F fL yo next inv.closed rel P hj gv M D (by rw [<-Ix];exact aoQ F.eA inv.closed hj) (O j d _ _ M D HB) λx' w' r'=>hK x' w' ⟨El,v,k,hk,ps,ak,f,by rw [ag7 cV];exact Ix,Lr,QC,O,form,r'⟩
 | true=>
   have Gr:=hef.1 D;have hlk:iP ops l n j=k:=by rw [<-Ix];exact aaG hc F.eA inv.closed Gr hj P gv
   rw [hlk] at M;have wc:cv (FE l true j) d0=false:=by
    cases ha:cv (FE l true j) d0 with
    | false=>rfl
    | true=>
      exfalso;rw [<-yh] at D;obtain ⟨a1,a2,a3⟩:=d0;cases a2 with
      | e q=>cases q with
        | alloc t cs=>cases D
        | cL t cs m=>cases D
        | dj e0 x0=>rw [show FE l true j=true from ha] at D;cases D
        | _=>cases ha
      | _=>cases ha
   have hd:d=d0:=by rw [<-yh];exact nS wc _
   subst hd;unfold EF at form;rw [Y5 M D λi d' jB X N=>ad8 F hc M D X N] at form;simp only at form;have dp:Es ops l n k ops.size j=false:=by
    cases hh:Es ops l n k ops.size j with
    | false=>rfl
    | true=>
      rw [oY] at hh;rcases hh with hh | hh
      ·omega
      ·exact absurd Gr hh.1
   have rdy:∀e∈o.after,Region.binds .any e=true->Es ops l n k ops.size e.on=true:=λe D W=>
    Lq F.eA (dZ F.eA P D W).1 (.inr ⟨hlk,by have:=(Array.getElem?_eq_some_iff.1 P).1;omega⟩)
   have R:∀t,t<n->t∈o.looksAt ops->bV (mask l tm0 v S ops.size) (pathOf t)=bV (mask l tm0 v (Es ops l n k ops.size) ops.size) (pathOf t):=λt ht hl=>
    (vd F inv.closed P hj gv ht hl).trans (vd F (Am F.eA k ops.size) P dp rdy ht hl).symm
   obtain ⟨ρ,i1,i2,i3,i4,i5,i6,i7⟩:=rel;have FA:=at2;simp only [gX,ad,Option.some.injEq] at FA;obtain ⟨dst,hcd,g,hg,KV⟩:=FA;have hg0:d.guard=g:=by rw [<-KV]
   have T0:d.dst=dst:=by rw [<-KV]
   have Y:d.op=(aq ⟨pf (),G,n⟩ o.op).getD .stuck:=by rw [<-KV]
   have HG:Region.wanted o (yielded ops x.tmps)=dY (mask l tm0 v (Es ops l n k ops.size) ops.size) d.guard:=by
    rw [hg0,yg (C:=⟨pf (),G,n⟩) hg i5];exact u5 (C:=⟨pf (),G,n⟩) hg R
   have U:∀{u:V} {h':H} {I:bD} {y:Value} {w':World},fu h' (qR (k+1) ps) (Ns pf G (tagged ops l n) f (k+1) (ak.put d.dst u) h' ps Kf Px)->Step ρ I hk h'->RV I u y->aA B w0 I h' w'->K (x.put o.dst y) w':=λ{u h' I y w'} fm s hv R'=>by
    have E:=s.ext i2;refine hK _ _ (Xa F hc fL M D hj inv.closed El Ix Lr QC O fm λv' e1 e2=>?_);have em:mask l tm0 v S ops.size=mask l tm0 v' S ops.size:=jg ops.size λi _ hi=>(e2 i hi).symm;have hA:oW I n (A.put {tmps:=mask l tm0 v S ops.size,defers:=ds} dst u) (x.put o.dst y):=
     oW.put (C:=⟨pf (),G,n⟩) (a:={tmps:=mask l tm0 v S ops.size,defers:=ds}) ⟨i5.mono E,i6.mono E⟩ hcd hv
    refine ⟨I,λm hm=>?_,R',Nat.le_trans i3 s.next,λi d' L X N h3 h4=>?_,?_,?_,i7.mono E⟩
    ·rw [s.old m (by omega)];exact i1 m hm
    ·simp only [Bool.or_eq_false_iff] at h3
     have bA:=gS (k:=n) (q:=true) X N;rw [s.old L (by omega)];exact i4 i d' L X N h3.1 h4
    ·refine ⟨hA.tmps.size,hA.tmps.small,λt ht=>?_⟩
     rw [ym F inv.closed P hj,<-em,e1];have:=hA.tmps.get t ht;rw [(jJ _ _ _).1] at this;rw [sW];simpa [T0] using this
    ·have:=hA.defers
     rw [(jJ _ _ _).2] at this;exact this
   unfold wpOp;simp only [P];have yes:dY (mask l tm0 v (Es ops l n k ops.size) ops.size) d.guard=true->wpD pf G d ak hk (λa h'=>fu h' (qR (k+1) ps) (Ns pf G (tagged ops l n) f (k+1) a h' ps Kf Px)) (λa v h=>Px {tmps:=.leaf,defers:=a.defers} v h)->(if Region.wanted o (yielded ops x.tmps)=true then o.wp (pf ()) x w K Q\/o.asks (pf ()) x w/\LetsOut Q else K (x.put o.dst Go.undef) w):=λX N=>by
    rw [if_pos (HG.trans X)];refine .inl ?_;unfold Oper.wp;cases kL:aq ⟨pf (),G,n⟩ o.op with
    | none=>rw [kL,Option.getD_none] at Y;unfold wpD at N;rw [Y] at N;exact N.elim
    | some q=>
      rw [kL,Option.getD_some] at Y;have ok:=tE kL;have J:=Jh (E:=dq (pf ())) (tm:=mask l tm0 v S ops.size) (tm':=mask l tm0 v (Es ops l n k ops.size) ops.size) kL λy hy=>tF λt ht bA=>R t bA (qn (by rw [<-ht];exact hy));unfold wpD at N;rw [Y] at N;cases q with
      | e q=>
        have J:∀h,q.run _ h=q.run _ h:=J;have N:wpE ak.tmps hk q (λv h'=>fu h' (qR (k+1) ps) (Ns pf G (tagged ops l n) f (k+1) (ak.put d.dst v) h' ps Kf Px)):=N;obtain ⟨u,h',e1,e2⟩:=adV Lr N;obtain ⟨I,y,w',Z,s2,s3,s4⟩:=ok.eff i5 i7.rel i2 ((J _).trans e1);rcases s4 o rfl with hr | ⟨hr,rfl⟩
        ·rw [hr,Oper.upon_value];exact U e2 Z s2 s3
        ·rw [hr,Oper.upon_skip]
         exact U e2 Z s2 s3
      | c q=>
        have J:q.args _ _=q.args _ _:=J;obtain ⟨f',vs,e1,e2⟩:=O1 Lr N;obtain ⟨xs,QB,hr⟩:=ok i5 i7.rel (J.trans e1);rw [hr o rfl w];refine (e2.out i2 i7 QB).upon (λy w' hR=>?_) λy w' hR=>?_
        ·obtain ⟨u,h',I,e3,Z,s2,s3⟩:=hR
         exact U e3 Z s2 s3
        ·obtain ⟨u,h',I,e3,Z,s2,s3⟩:=hR
         rw [QC] at e3;have E:=Z.ext i2;exact hX u h' e3 I x w' y ⟨λm hm=>by rw [Z.old m (by omega)];exact i1 m hm,Nat.le_trans (by omega) Z.next⟩ ⟨⟨_,λp v e=>(by rw [show (T.leaf:T V).get p=none from T.kW p] at e;cases e),i5.mono E,i6.mono E⟩⟩ s2 s3
      | SD y=>exfalso;unfold bT at D;rw [show d=⟨d.dst,d.op,d.guard⟩ from rfl,Y] at D;cases D
      | p q=>exfalso;unfold bT at D;rw [show d=⟨d.dst,d.op,d.guard⟩ from rfl,Y] at D;cases D
      | r q=>exfalso;unfold bT at D;rw [show d=⟨d.dst,d.op,d.guard⟩ from rfl,Y] at D;cases D
      | defer q=>exfalso;unfold bT at D;rw [show d=⟨d.dst,d.op,d.guard⟩ from rfl,Y] at D;cases D
      | stuck=>exact N.elim
   have no:dY (mask l tm0 v (Es ops l n k ops.size) ops.size) d.guard=false->fu hk (qR (k+1) ps) (Ns pf G (tagged ops l n) f (k+1) (ak.put d.dst undef) hk ps Kf Px)->(if Region.wanted o (yielded ops x.tmps)=true then o.wp (pf ()) x w K Q\/o.asks (pf ()) x w/\LetsOut Q else K (x.put o.dst Go.undef) w):=λX N=>by
    rw [if_neg (by rw [HG,X];exact Bool.false_ne_true)];exact U N (Step.refl _ _) (.tuple .nil) i2
   unfold wpG at form;cases hdg:d.guard with
   | none=>rw [hdg] at form yes;exact yes rfl form
   | some p=>
     obtain ⟨p,want⟩:=p;rw [hdg] at form yes no;have form:=(bd Lr form).1;split at form
     ·rename_i b e
      have e:bV (mask l tm0 v (Es ops l n k ops.size) ops.size) p = .bool b:=e;have ZO:=Ln (want:=want) e;split at form
      ·rename_i W;exact yes (ZO.trans W) form
      ·rename_i W;exact no (ZO.trans W) form
     ·rename_i c e
      have e:bV (mask l tm0 v (Es ops l n k ops.size) ops.size) p = .tuple c:=e;exact no (by simp only [dY,e]) form
     ·exact form.elim
end
end Go.Dx
namespace Go.Dx
open Go Go.RowKit
variable{Pn:A->V->H->Prop}{a:A}{dl:List (DO×Nat×Nat)}{m:List Made}
section
variable {pf:Unit->Program} {G n:Nat} {ops:Array Oper} {l:List DO} {tm0:T V} {h h0:H} {ds:List (FuncId×List V)} {B:Nat} {w0:World} {ρ0:bD} {Kf:A->H->Prop} {Px:A->V->H->Prop}
theorem akU (F:qP ⟨pf (),G,n⟩ ops l)(C:jW (bp ops.toList []) (aF l n)=true)(m:ops.size<=65536)(E:∀p,p<(bu l n true).2.length->∃L,val L=val h.next+p/\bV tm0 (pathOf (n+p)) = .ptr L 0) (next:val h0.next=val h.next+(bu l n true).2.length)
  {Q:Exit->Act->World->Prop} (WJ:∀S x w,aaI pf G n ops l tm0 h h0 ds B w0 ρ0 Kf Px S x w->(∀i,i<ops.size->S i=true)->Q .normal x w) (I:∀v h',Px {tmps:=.leaf,defers:=ds} v h'->BH B w0 n ρ0 h {tmps:=.leaf,defers:=ds} v h' Q):
  ∀(fuel:Nat) (a:Array Bool) (x:Act) (w:World),a.size=ops.size->aaI pf G n ops l tm0 h h0 ds B w0 ρ0 Kf Px (λi=>a.getD i false) x w->unl ops.size (λi=>a.getD i false)<=fuel->wpAny (pf ()) .any ops Q fuel a x w:=by
 have done:∀(a:Array Bool) (x:Act) (w:World),a.size=ops.size->aaI pf G n ops l tm0 h h0 ds B w0 ρ0 Kf Px (λi=>a.getD i false) x w->Region.ready .any ops a=[]->Q .normal x w:=λa x w m inv f=>by
  refine WJ _ x w inv λi hi=>?_;induction i using Nat.strongRecOn with
  | _ i ih=>
    cases hs:a.getD i false with
    | true=>rfl
    | false=>
      exfalso;have:i∈Region.ready .any ops a:=by
       rw [mem_ready];refine ⟨?_,ops[i],by simp [hi],λe s q=>?_⟩
       ·have b:i<a.size:=by omega
        simp only [Array.getD_eq_getD_getElem?,Array.getElem?_eq_getElem b,Option.getD_some] at hs ⊢;exact hs
       ·have b:=tH F.eA (j:=i) (o:=ops[i]) (by simp [hi]) s q
        exact ih e.on b (by omega)
      rw [f] at this;cases this
 intro fuel;induction fuel with
 | zero=>
   intro a x w m inv A;have r:=T' (Nat.le_zero.1 A);have WK:Region.ready .any ops a=[]:=by
    cases f:Region.ready .any ops a with
    | nil=>rfl
    | cons i rs=>
      exfalso;have z:i∈Region.ready .any ops a:=by rw [f];exact List.mem_cons_self ..
      rw [mem_ready] at z;obtain ⟨d,o,g,_⟩:=z;have b:i<ops.size:=(Array.getElem?_eq_some_iff.1 g).1;have u:=r i b;have k:i<a.size:=by omega
      simp only [Array.getD_eq_getD_getElem?,Array.getElem?_eq_getElem k,Option.getD_some] at d u;rw [d] at u;cases u
   exact ⟨WK,done a x w m inv WK⟩
 | succ fuel ih=>
   intro a x w c inv A;refine ⟨λf=>done a x w c inv f,λj J=>?_⟩;obtain ⟨d,o,g,r⟩:=mem_ready.1 J;have b:j<ops.size:=(Array.getElem?_eq_some_iff.1 g).1;have k:j<a.size:=by omega
   have hs:a.getD j false=false:=by
    simp only [Array.getD_eq_getD_getElem?,Array.getElem?_eq_getElem k,Option.getD_some] at d ⊢;exact d
   have y:(λi=>(a.setIfInBounds j true).getD i false)=λi=>a.getD i false||i==j:=by
    funext i
    by_cases e:i=j
    ·subst e;simp [k]
    ·have D:(i==j)=false:=by simpa using e
     rw [D,Bool.or_false];exact getD_set_ne false (Ne.symm e)
   refine ag9 F C m E next inv g hs (λe s q=>r e s q) (λH w' t=>?_) I
   refine ih _ H w' (by simp [c]) (by rw [y];exact t) ?_;rw [y];have:=YW (S:=λi=>a.getD i false) b hs;omega
theorem Ui {K:T V->H->Prop}:∀{m:List Made} {b tm:T V} {h:H},iA b tm->Ug m b h K->∃a,iA a (makeAll m tm h).1/\K a (makeAll m tm h).2
 | [],b,_tm,_h,s,hk=>⟨b,s,hk⟩
 | (p,_t,_cs,_o)::r,_tp,_tm,h,s,hk=>Ui (m:=r) (s.set p (.ptr h.next 0)) hk.out
theorem HN.of' (hm:(pf ()).follows .mixedOrders=true){K:A->H->Prop}  (f:Nat) (g:List Made->List Made) (Uj:∀m,(g m).length=m.length) (Iy:∀(m:List Made) (p:Nat) (x:Made),(g m)[p]? =some x->∃y:Made,m[p]? =some y/\y.1=x.1) (E:Ug (g m) a.tmps h λtp h'=>Ns pf G dl f 0 {tmps:=tp,defers:=a.defers} h' [] K Pn):HN pf G n m dl a h K Pn:=by
 refine ⟨λid ops l Y r=>⟨λ{B w0 ρ w x Qw} hA hG R k kx=>?_⟩⟩;obtain ⟨tm,st,J⟩:=hA.out;unfold jG at r;simp only at r;split at r
 ·rename_i u
  simp only [Bool.and_eq_true] at u;obtain ⟨⟨⟨⟨k1,k2⟩,k3⟩,k4⟩,I⟩:=u;have I:=Nat.le_of_ble_eq_true I;simp only [DC.draw.injEq] at r;obtain ⟨rfl,rfl⟩:=r;have T:n<=65536:=J.tmps.small;have s:l.length=ops.size:=by have:=(cS Y 0).2;simpa using this
  have F:qP ⟨pf (),G,n⟩ ops l:=⟨Y,T,k3,k2⟩;obtain ⟨m1,U,m3,P⟩:=Cq (g (bu l n true).2) n tm h (λp y hp=>by obtain ⟨z,hz,e⟩:=Iy _ _ _ hp;rw [<-e];exact pS hz) (by rw [Uj];have:=iN l n true;omega);rw [Uj] at U P;obtain ⟨tp',s1,E⟩:=Ui st E;generalize aCe:(makeAll (g (bu l n true).2) tm h).1=tm0 at*;generalize hh0:(makeAll (g (bu l n true).2) tm h).2=h0 at*;have bA:(tagged ops l n).length=ops.size:=by unfold tagged;rw [ft,ez,s]
  cases f with
  | zero=>exact E.elim
  | succ f=>
    have C:∀(v:Nat->V) (S:Nat->Bool),(∀i,S i=false)->mask l tm0 v S ops.size=tm0:=λv S N=>by
     generalize ops.size=q;induction q with
     | zero=>rfl
     | succ q ih=>simp only [mask,ih,N q];rfl
    obtain ⟨v,a',ps,q1,_,q3,q4,_,q6⟩:=QT F (tm0:=tm0) (v:=λ_=>undef) (tagged ops l n) 0 (λm=>by rw [Nat.zero_add]) (by omega) (by
     rw [C _ _ λi=>by
      cases hh:Es ops l n 0 0 i with
      | false=>rfl
      | true=>rw [oY] at hh;omega]
     exact s1) I E
    refine wp_region_any hm (akU (pf:=pf) (B:=B) (w0:=w0) (ρ0:=ρ) (ds:=a.defers) (Kf:=K) (Px:=Pn) F k1 I U P (λS y w1 inv D=>?_) (λv h' q=>kx _ v h' q) ops.size (Array.replicate ops.size false) x _ (by simp) ?_ ?_)
    ·
     obtain ⟨v,X,Hz,ps,ak,f',Ix,Lr,QC,_,c,O,i1,i2,i3,i4,i5,i6,i7⟩:=inv.rest;have Q:mask l tm0 v S ops.size=mask l tm0 v (Es ops l n X ops.size) ops.size:=nh ops.size λi hi=>by
      rw [D i hi];refine (oY.2 ?_).symm
      by_cases hie:i∈aF l n
      ·have:=aiT (l:=l) (n:=n) F.eA inv.closed (D i hi) hie
       exact .inl (by omega)
      ·have:=lo_le (l:=l) (n:=n) F.eA inv.closed (D i hi)
       rcases Nat.lt_or_ge (iP ops l n i) X with q | q
       ·exact .inl q
       ·exact .inr ⟨hie,by omega,hi⟩
     unfold EF at c;rw [O4 λi d' lo jB W Z=>by
      obtain ⟨o,_,ho,_,_,_,e1,_,e2⟩:=sf F W;have:=aiT (l:=l) (n:=n) F.eA inv.closed (D i (Array.getElem?_eq_some_iff.1 ho).1) (e2.1 Z);omega] at c
     refine k .normal ak Hz ⟨rfl,c⟩ O y w1 ⟨i1,by omega⟩ ⟨_,Lr,?_,by rw [QC];exact i6⟩ i2;rw [<-Q];exact i5
    ·
     have N:(λi=>(Array.replicate ops.size false).getD i false)=λ_=>false:=by
      funext i
      simp [Array.getD_eq_getD_getElem?,Array.getElem?_replicate];split<;>rfl
     rw [N];refine ⟨λj o _ hj=>(by cases hj),v,0,h0,ps,a',f,by rw [List.countP_eq_zero];simp,q3,q4,λj d lo hi M he HB=>q6 j d lo hi (Nat.zero_le _) M he (by omega),q1,ρ,λ_ _=>rfl,?_,Nat.le_refl _,λi d L W Z _ h4=>?_,?_,J.defers,hG⟩
     ·exact (R.drew).more m3 (by rw [P];omega)
     ·cases hr:ρ L with
      | none=>rfl
      | some b=>have:=R.lt L b hr;omega
     ·rw [C v _ λ_=>rfl]
      exact ⟨J.tmps.size,T,λt M=>by rw [m1 t M];exact J.tmps.get t M⟩
    ·unfold unl
     have:=List.countP_le_length (p:=λi=>!(Array.replicate ops.size false).getD i false) (l:=List.range ops.size);simpa using this
 ·cases r
theorem HN.of (d:(pf ()).follows .mixedOrders=true){K:A->H->Prop}  (f:Nat) (b:Ug m a.tmps h λc h'=>Ns pf G dl f 0 {tmps:=c,defers:=a.defers} h' [] K Pn):HN pf G n m dl a h K Pn:=
 .of' d f id (λ_=>rfl) (λ_ _ x h=>⟨x,h,rfl⟩) b
def QU (b:List V):List Made->List Made
 | []=>[]
 | (p,t,cs,o)::r=>(p,t,(match Tr o with | true=>b | false=>cs),o)::QU b r
theorem Uk (b:List V):∀m,(QU b m).length=m.length
 | []=>rfl
 | (p,t,cs,o)::r=>by simp [QU,Uk b r]
theorem Ul (b:List V):∀(m:List Made) (i:Nat) (x:Made),(QU b m)[i]? =some x->∃y:Made,m[i]? =some y/\y.1=x.1
 | [],i,x,h=>by simp [QU] at h
 | (p,t,cs,o)::r,0,x,h=>by simp [QU] at h;subst h;exact ⟨_,rfl,rfl⟩
 | (p,t,cs,o)::r,i+1,x,h=>by simpa using Ul b r i x (by simpa [QU] using h)
theorem HN.ofB (e:(pf ()).follows .mixedOrders=true){K:A->H->Prop}  (f:Nat) (b:List V) (c:Ug (QU b m) a.tmps h λd h'=>Ns pf G dl f 0 {tmps:=d,defers:=a.defers} h' [] K Pn):HN pf G n m dl a h K Pn:=
 .of' e f (QU b) (Uk b) (Ul b) c
end
end Go.Dx
namespace Go.Dx
open Go Go.RowKit
variable{v:V}{k:List Nat}{ps:List kF}{hi:Nat}{cs:List V}
abbrev bH:=List (List Nat×V×Nat)
def cd:bH->List (V×V×Nat)
 | []=>[]
 | (k,v,b)::r=>(.str k,v,b)::cd r
def cO:bH->List Nat->Option V
 | [],_=>none
 | (x,v,_)::r,k=>if x=k then some v else cO r k
def dt:bH->List Nat->V->Nat->bH
 | [],k,v,c=>[(k,v,c)]
 | (x,w,b)::r,k,v,c=>if x=k then (k,v,b)::r else (x,w,b)::dt r k v c
def gY:bH->List Nat->bH
 | [],_=>[]
 | (x,w,b)::r,k=>if x=k then r else (x,w,b)::gY r k
def cF (m:bH):List (List Nat):=m.map (·.1)
def eB (m:bH)(k:List Nat)(c:Nat):Nat:=match cO m k with
 | some _=>c
 | none=>c+1
theorem eh (m:bH)(k a:List Nat)(v:V)(c:Nat):cO (dt m k v c) a=if a=k then some v else cO m a:=by
 induction m with
 | nil=>simp only [dt,cO];by_cases h:k=a<;>simp [h,eq_comm]
 | cons e r ih=>
   obtain ⟨x,w,b⟩:=e;simp only [dt]
   by_cases h:x=k
   ·subst h
    simp only [if_true,cO]
    by_cases h2:x=a
    ·simp [h2]
    ·have:¬a=x:=λe=>h2 e.symm
     simp [h2,this]
   ·simp only [if_neg h,cO,ih]
    by_cases h2:x=a
    ·subst h2;simp [h]
    ·simp [h2]
theorem Xb (m:bH)(k:List Nat)(v:V)(c:Nat):cF (dt m k v c)=if k∈cF m then cF m else cF m++[k]:=by
 induction m with
 | nil=>simp [dt,cF]
 | cons e r ih=>
   obtain ⟨x,w,b⟩:=e;simp only [dt]
   by_cases h:x=k
   ·subst h;simp [cF]
   ·have h':¬k=x:=λe=>h e.symm
    simp only [if_neg h,cF,List.map_cons] at ih ⊢;rw [ih]
    by_cases h2:k∈List.map (·.1) r
    ·simp [h2]
    ·simp [h2,h']
theorem Xc {m:bH}(d:(cF m).Nodup)(k:List Nat)(v:V)(c:Nat):(cF (dt m k v c)).Nodup:=by
 rw [Xb];split
 ·exact d
 ·rename_i h
  rw [List.nodup_append];exact ⟨d,by simp,λa g b f=>by simp at f;subst f;exact λe=>h (e▸g)⟩
theorem Xd {m:bH}(d:(cF m).Nodup)(k:List Nat):cF (gY m k)=(cF m).erase k:=by
 induction m with
 | nil=>simp [gY,cF]
 | cons e r a=>
   obtain ⟨x,w,b⟩:=e;simp only [cF,List.map_cons,List.nodup_cons] at d;simp only [gY]
   by_cases h:x=k
   ·subst h;simp [cF]
   ·have a:=a d.2
    simp only [cF] at a;simp only [if_neg h,cF,List.map_cons,a];rw [List.erase_cons_tail (by simpa using h)]
theorem Xe {m:bH}(a:(cF m).Nodup)(k:List Nat):(cF (gY m k)).Nodup:=by
 rw [Xd a];exact a.erase k
theorem An (m:bH)(k:List Nat):∃r,rY .str (.str k) (cd m)=some r/\r.map (·.2)=cO m k/\∀i v,r=some (i,v)->(∀w,kU (cd m) i (.str k) w=cd (dt m k w 0))/\nM (cd m) i=cd (gY m k):=by
 induction m with
 | nil=>exact ⟨none,rfl,rfl,λi v h=>by cases h⟩
 | cons e r ih=>
   obtain ⟨x,w,b⟩:=e;obtain ⟨q,c,a,h3⟩:=ih;simp only [cd,rY,gh,ob,iZ]
   by_cases h:k=x
   ·subst h
    simp only [beq_self_eq_true];exact ⟨_,rfl,by simp [cO],λi v e=>by cases e;exact ⟨λw=>by simp [kU,dt,cd],by simp [nM,gY]⟩⟩
   ·have d:(k==x)=false:=by simpa using h
    have h':¬x=k:=λe=>h e.symm;rw [d];simp only [c];cases q with
    | none=>exact ⟨none,rfl,by simp [cO,h',<-a],λi v e=>by cases e⟩
    | some p=>
      obtain ⟨i,v⟩:=p;obtain ⟨a1,a2⟩:=h3 i v rfl;refine ⟨some (i+1,v),rfl,by simp [cO,h',<-a],λj u e=>?_⟩;cases e;exact ⟨λw=>by simp [kU,dt,h',cd,a1],by simp [nM,gY,h',cd,a2]⟩
theorem ad' {m:bH}(c a:Nat)(h:(cO m k).isSome=true):dt m k v c=dt m k v a:=by
 induction m with
 | nil=>simp [cO] at h
 | cons e r ih=>
   obtain ⟨x,w,b⟩:=e;simp only [cO,dt] at h ⊢
   by_cases hx:x=k
   ·simp [hx]
   ·rw [if_neg hx] at h;rw [if_neg hx,if_neg hx,ih h]
theorem aaJ {m:bH}{c:Nat}(h:cO m k=none):cd m++[(.str k,v,c)]=cd (dt m k v c):=by
 induction m with
 | nil=>rfl
 | cons e r ih=>
   obtain ⟨x,w,b⟩:=e;simp only [cO] at h
   by_cases hx:x=k
   ·simp [hx] at h
   ·rw [if_neg hx] at h
    simp only [dt,if_neg hx,cd,List.cons_append,ih h]
section
variable {h:H} {l:Lb} {m:bH} {c:Nat} {k:List Nat}
theorem VP.hit {z:V}{b:Bool}{K:V->Prop} (g:h.get l=some (.map (cd m) c)) (e:cO m k=some v) (d:K (okV b v true)):VP h .str z b (.map l) (.str k) K:=by
 obtain ⟨r,f,a,_⟩:=An m k;rw [e] at a;cases r with
 | none=>cases a
 | some p=>
   obtain ⟨i,u⟩:=p;simp only [Option.map_some,Option.some.injEq] at a;subst a;exact ⟨rfl,_,by simp only [Q.ask,g,f,ob],d⟩
theorem VP.Gs {z:V}{a:Bool}{K:V->Prop} (g:h.get l=some (.map (cd m) c)) (e:cO m k=none) (d:K (okV a z false)):VP h .str z a (.map l) (.str k) K:=by
 obtain ⟨r,f,b,_⟩:=An m k;rw [e] at b;cases r with
 | some p=>cases b
 | none=>exact ⟨rfl,_,by simp only [Q.ask,g,f,ob],d⟩
theorem MuN.of {K:H->Prop} (j:Wf h) (b:h.get l=some (.map (cd m) c)) (f:∀h',h'.get l=some (.map (cd (dt m k v c)) (eB m k c))->Mod h h' [l]->Wf h'->K h'):MuN h .str (.map l) (.str k) v K:=by
 obtain ⟨r,g,a,h3⟩:=An m k;cases r with
 | none=>
   have a:cO m k=none:=a.symm;have e:=aaJ (v:=v) (c:=c) a;obtain ⟨a1,a2,d⟩:=H.eD j b rfl (.map (cd (dt m k v c)) (eB m k c));refine ⟨rfl,undef,_,?_,rfl,f _ a1 a2 d⟩;simp only [ib,b,Kj,g,ob,e,eB,a]
 | some p=>
   obtain ⟨i,u⟩:=p;have a:cO m k=some u:=a.symm;obtain ⟨n,_⟩:=h3 i u rfl;obtain ⟨a1,a2,d⟩:=H.eD j b rfl (.map (cd (dt m k v c)) (eB m k c));refine ⟨rfl,undef,_,?_,rfl,f _ a1 a2 d⟩;simp only [ib,b,Kj,g,ob,n,eB,a,ad' 0 c (show (cO m k).isSome=true by rw [a];rfl)]
theorem O5 {m:bH}(h:cO m k=none):gY m k=m:=by
 induction m with
 | nil=>rfl
 | cons e r ih=>
   obtain ⟨x,w,b⟩:=e;simp only [cO] at h
   by_cases hx:x=k
   ·simp [hx] at h
   ·rw [if_neg hx] at h;simp only [gY,if_neg hx,ih h]
theorem DlN.of {K:H->Prop} (f:Wf h) (a:h.get l=some (.map (cd m) c)) (d:∀h',h'.get l=some (.map (cd (gY m k)) c)->Mod h h' [l]->Wf h'->K h'):DlN h .str (.map l) (.str k) K:=by
 obtain ⟨r,e,n,h3⟩:=An m k;cases r with
 | none=>
   have n:cO m k=none:=n.symm;refine ⟨rfl,undef,h,?_,rfl,d h (by rw [O5 n];exact a) (Mod.refl _ _) f⟩;simp only [ib,a,e,ob]
 | some p=>
   obtain ⟨i,u⟩:=p;obtain ⟨_,g⟩:=h3 i u rfl;obtain ⟨a1,a2,j⟩:=H.eD f a rfl (.map (cd (gY m k)) c);exact ⟨rfl,undef,_,by simp only [ib,a,e,ob,g],rfl,d _ a1 a2 j⟩
theorem fu.nil {K:Prop}(k:K):fu h [] K:=⟨λ_ a=>(by cases a),k⟩
theorem fu.cons {q:Q}{v:V}{hi:Nat}{ps:List kF}{K:Prop}(e:q.ask h=some v)(k:fu h ps K):fu h ((q,v,hi)::ps) K:=
 ⟨λp a=>by rcases List.mem_cons.1 a with rfl | a
           ·exact e
           ·exact k.out.1 p a,k.out.2⟩
theorem fu.load {b:Rd}{off:Nat}{K:Prop}{vs:List V}{e:TypeId}{c:Nat}{a:Own}(f:h.get l=some (.cells vs e c a))(d:dB b vs off=some v)(k:fu h ps K):fu h ((.load b l off,v,hi)::ps) K:=
 .cons (by simp only [Q.ask,f,d]) k
theorem u7.fresh {t:TypeId}{K:V->Prop} (c:h.get l=some (.cells cs t 0 .yes)) (b:wD cs cs=true) (a:K (.ptr l 0)):u7 h (.fresh t cs l 0) K:=⟨_,by simp only [Q.ask,c,Nat.beq_refl,b,Bool.and_self,bO],a⟩
theorem u7.freshS {t:TypeId}{n:Nat}{K:V->Prop} (c:h.get l=some (.cells cs t 0 .yes)) (b:wD cs cs=true) (a:K (.slice l 0 n (.exact n))):u7 h (.freshS t cs n l 0) K:=⟨_,by simp only [Q.ask,c,Nat.beq_refl,b,Bool.and_self,bO],a⟩
theorem Um:∀b:List Nat,wD (ae b) (ae b)=true
 | []=>rfl
 | x::r=>by
   show (ti _ _&&wD _ _)=true
   rw [Um r,Bool.and_true];simp [ti,cE,aR]
theorem FbN.of {e:TypeId}{b:List Nat}{K:Q->V->Prop} (c:h.get l=some (.cells cs e 0 .marked)) (a:cs=ae b) (d:b.length<=9223372036854775807) (f:∀v,v = .slice l 0 b.length (.toEnd 1)->K (.freshB e cs b.length l 0) v):FbN h e (.str b) (.ptr l 0) K:=
 ⟨b,cs,l,0,_,rfl,a,rfl,d,by subst a;simp only [Q.ask,c,Nat.beq_refl,Um,Bool.and_self,bO],f _ rfl⟩
theorem fu.fresh {t:TypeId}{K:Prop}(b:h.get l=some (.cells cs t 0 .yes))(a:wD cs cs=true)(k:fu h ps K):fu h ((.fresh t cs l 0,.ptr l 0,hi)::ps) K:=
 .cons (by simp only [Q.ask,b,Nat.beq_refl,a,Bool.and_self,bO]) k
end
end Go.Dx
namespace Go.Dx
open Go Go.RowKit
variable{v:V}{k seen:List Nat}{m:bH}{n since:Nat}
structure fS (m:bH)(c:Nat):Prop where
 keys:(cF m).Nodup
 Eu:(m.map λe=>e.2.2).Nodup
 old:∀e,e∈m->e.2.2<c
theorem fS.nil (c:Nat):fS [] c:=⟨by simp [cF],by simp,λ_ h=>by cases h⟩
theorem lD {c:Nat}:∀{e:List Nat×V×Nat},e∈dt m k v c->e∈m\/e.1=k/\e.2.1=v/\(e.2.2=c/\cO m k=none\/e.2.2∈m.map λe=>e.2.2):=by
 induction m with
 | nil=>intro e h;simp only [dt,List.mem_singleton] at h;subst h;exact .inr ⟨rfl,rfl,.inl ⟨rfl,rfl⟩⟩
 | cons p r ih=>
   obtain ⟨x,w,b⟩:=p;intro e h;simp only [dt] at h
   by_cases hx:x=k
   ·rw [if_pos hx] at h
    rcases List.mem_cons.1 h with rfl | h
    ·exact .inr ⟨rfl,rfl,.inr (by simp)⟩
    ·exact .inl (List.mem_cons_of_mem _ h)
   ·rw [if_neg hx] at h
    rcases List.mem_cons.1 h with rfl | h
    ·exact .inl (List.mem_cons_self ..)
    ·rcases ih h with q | ⟨f,g,q⟩
     ·exact .inl (List.mem_cons_of_mem _ q)
     ·refine .inr ⟨f,g,?_⟩
      rcases q with ⟨a,d⟩ | q
      ·exact .inl ⟨a,by simp only [cO,if_neg hx];exact d⟩
      ·exact .inr (by simp only [List.map_cons,List.mem_cons];exact .inr q)
theorem Xf (m:bH)(k:List Nat)(v:V)(c:Nat):(dt m k v c).map (λe=>e.2.2)=if k∈cF m then m.map (λe=>e.2.2) else m.map (λe=>e.2.2)++[c]:=by
 induction m with
 | nil=>simp [dt,cF]
 | cons e r ih=>
   obtain ⟨x,w,b⟩:=e;simp only [dt]
   by_cases h:x=k
   ·subst h;simp [cF]
   ·have h':¬k=x:=λe=>h e.symm
    simp only [if_neg h,List.map_cons,ih]
    by_cases h2:k∈cF r
    ·have:k∈cF ((x,w,b)::r):=by simp only [cF,List.map_cons,List.mem_cons];exact .inr h2
     simp [h2,this]
    ·have:¬k∈cF ((x,w,b)::r):=by simp only [cF,List.map_cons,List.mem_cons,h',false_or];exact h2
     simp [h2,this]
theorem fS.set {c:Nat}(h:fS m c)(k:List Nat)(v:V):fS (dt m k v c) (eB m k c):=by
 have j:c<=eB m k c:=by unfold eB;split<;>omega
 have g:∀b,b∈m.map (λe=>e.2.2)->b<c:=λb d=>by
  obtain ⟨e,f,rfl⟩:=List.mem_map.1 d;exact h.old e f
 refine ⟨Xc h.keys k v c,?_,λe f=>?_⟩
 ·rw [Xf]
  split
  ·exact h.Eu
  ·rw [List.nodup_append]
   exact ⟨h.Eu,by simp,λa i b d=>by simp at d;subst d;have:=g a i;omega⟩
 ·rcases lD f with q | ⟨_,_,q | q⟩
  ·have:=h.old e q;omega
  ·have:eB m k c=c+1:=by unfold eB;rw [q.2]
   omega
  ·have:=g _ q;omega
theorem Ls {e:List Nat×V×Nat}(h:e∈gY m k):e∈m:=by
 induction m with
 | nil=>cases h
 | cons p r ih=>
   obtain ⟨x,w,b⟩:=p;simp only [gY] at h;split at h
   ·exact List.mem_cons_of_mem _ h
   ·rcases List.mem_cons.1 h with rfl | h
    ·exact List.mem_cons_self ..
    ·exact List.mem_cons_of_mem _ (ih h)
theorem aea (m:bH)(k:List Nat):(gY m k).Sublist m:=by
 induction m with
 | nil=>exact .slnil
 | cons p r ih=>
   obtain ⟨x,w,b⟩:=p;simp only [gY];split
   ·exact List.sublist_cons_self _ _
   ·exact ih.cons_cons _
theorem fS.del {c:Nat}(h:fS m c)(k:List Nat):fS (gY m k) c:=
 ⟨Xe h.keys k,h.Eu.sublist ((aea m k).map _),λe a=>h.old e (Ls a)⟩
def gd (m:bH)(seen:List Nat):bH:=m.filter λe=>!dr e.2.2 seen
theorem nj {l:List Nat}:dr n l=true<->n∈l:=by
 induction l with
 | nil=>simp [dr]
 | cons a l ih=>simp only [dr,Bool.or_eq_true,ih,List.mem_cons];simp
theorem HR (m:bH)(seen:List Nat):Dx.leftOf seen (cd m)=cd (gd m seen):=by
 induction m with
 | nil=>rfl
 | cons e r ih=>
   obtain ⟨x,w,b⟩:=e;simp only [cd,Dx.leftOf,gd,List.filter_cons];cases dr b seen with
   | true=>simpa [gd] using ih
   | false=>simpa [gd,cd] using ih
theorem Un {k:V}{b:Nat}(h:(k,v,b)∈cd m):∃s,k = .str s/\(s,v,b)∈m:=by
 induction m with
 | nil=>cases h
 | cons e r ih=>
   obtain ⟨x,w,d⟩:=e;rcases List.mem_cons.1 h with e | h
   ·cases e;exact ⟨x,rfl,List.mem_cons_self ..⟩
   ·obtain ⟨s,a,c⟩:=ih h;exact ⟨s,a,List.mem_cons_of_mem _ c⟩
theorem aeb (h:cd m=[]):m=[]:=by cases m with | nil=>rfl | cons e r=>cases h
theorem Uo {e:List Nat×V×Nat}(h:e∈gd m seen):(gd m (seen++[e.2.2])).length<(gd m seen).length:=by
 have key:gd m (seen++[e.2.2])=(gd m seen).filter λx=>!(x.2.2==e.2.2):=by
  unfold gd;rw [List.filter_filter];refine List.filter_congr λx _=>?_;have:dr x.2.2 (seen++[e.2.2])=(dr x.2.2 seen||(x.2.2==e.2.2)):=by
   rw [Bool.eq_iff_iff,Bool.or_eq_true,nj,nj,List.mem_append];simp
  rw [this];cases dr x.2.2 seen<;>cases (x.2.2==e.2.2)<;>rfl
 rw [key];exact List.length_filter_lt_length_iff_exists.2 ⟨e,h,by simp⟩
section
variable {h:H} {l mm:Lb} {m:bH} {c:Nat}
theorem EdN.rangeMap {x:X}{a:T V}{K:V->H->Prop} (f:x.VI a=some (.map mm)) (g:Wf h) (e:h.get mm=some (.map (cd m) c)) (b:∀l h',h'.get l=some (.mapIter (some mm) c [] c)->h.get l=none->Mod h h' []->Wf h'->K (.ptr l 0) h'):EdN (.rangeMap x) a h K:=by
 obtain ⟨a1,a2,i,d⟩:=H.add_mod g (.mapIter (some mm) c [] c);exact ⟨λtm s=>⟨_,_,by simp only [ED.run,qz s f,e],b _ _ a1 a2 i d⟩⟩
theorem NxW.of {K:V->H->Prop} {last:Nat}  (o:Wf h) (f:h.get l=some (.mapIter (some mm) since seen last)) (j:h.get mm=some (.map (cd m) c)) (hs:since<=last) (i:∀e,e∈m->e.2.2<since)
  (n:gd m seen=[]->K (.tuple [.bool false]) h) (g:∀k v b,(k,v,b)∈gd m seen->∀h',h'.get l=some (.mapIter (some mm) since (seen++[b]) c)->Mod h h' [l]->Wf h'->K (.tuple [.bool true,.str k,v]) h'):NxW h (.ptr l 0) K:=by
 refine ⟨l,rfl,.inr ⟨mm,since,seen,last,cd m,c,f,j,hs,λk v b a=>?_,λa=>?_,λk v b a=>?_⟩⟩
 ·obtain ⟨s,_,d⟩:=Un a;exact i _ d
 ·rw [HR] at a;exact n (aeb a)
 ·rw [HR] at a
  obtain ⟨s,rfl,d⟩:=Un a;obtain ⟨a1,a2,p⟩:=H.eD o f rfl (.mapIter (some mm) since (seen++[b]) c);exact g s v b d _ a1 a2 p
theorem Lt:∀(l:List Nat) (b:Nat),Tq (l++[b])=some b
 | [],b=>rfl
 | [x],b=>rfl
 | x::y::l,b=>by show Tq (y::l++[b])=_;exact Lt (y::l) b
theorem aaK {b:Nat}(a:(m.map λe=>e.2.2).Nodup) (h:(k,v,b)∈m):Ow b (cd m)=some (.str k,v):=by
 induction m with
 | nil=>cases h
 | cons e r ih=>
   obtain ⟨x,w,c⟩:=e;simp only [List.map_cons,List.nodup_cons] at a;simp only [cd,Ow];rcases List.mem_cons.1 h with e | h
   ·cases e;simp
   ·have:c≠b:=λe=>a.1 (by rw [e];exact List.mem_map.2 ⟨_,h,rfl⟩)
    rw [show Nat.beq c b=false from by rw [<-Bool.not_eq_true];exact λe=>this (Nat.eq_of_beq_eq_true e)];exact ih a.2 h
theorem u7.entry {K:V->Prop}     {b:Nat} (g:h.get l=some (.mapIter (some mm) since (seen++[b]) c)) (e:h.get mm=some (.map (cd m) c)) (d:fS m c) (f:(k,v,b)∈m) (a:K (.tuple [.str k,v])):u7 h (.entry l 0) K:=
 ⟨_,by simp only [Q.ask,g,e,Nat.beq_refl,Bool.and_self,bO,Lt,ob,aaK d.Eu f],a⟩
theorem qu {e:List Nat×V×Nat}(h:e∈gd m seen):e∈m:=(List.mem_filter.1 h).1
theorem Up (m:bH):(cd m).length=m.length:=by
 induction m with
 | nil=>rfl
 | cons e r ih=>obtain ⟨x,w,b⟩:=e;simp [cd,ih]
theorem u7.mapLen {K:V->Prop} (b:h.get mm=some (.map (cd m) c)) (a:∀n:Int,0<=n->n.toNat=m.length->K (.int .i64 n)):u7 h (.mapLen (.map mm)) K:=
 ⟨_,by simp only [Q.ask,b],a (Int.ofNat (cd m).length) (by simp) (by simp [Up])⟩
theorem bE.at3 {pf:Unit->Program} {size b:Nat}  {cs:List V} {K:V->Prop} (s:Sl h size v n cs) (d:∀c,v = .nilSlice c->n=0->cs=[]->K (.bool true)) (a:K (.bool false)):bE pf .eql .slice v (.nilSlice b) K:=by
 cases s with
 | nil c=>exact ⟨_,rfl,d c rfl rfl rfl⟩
 | empty=>exact ⟨_,rfl,a⟩
 | row hg hr=>exact ⟨_,rfl,a⟩
end
end Go.Dx
namespace Go.Dx
open Go Go.RowKit
variable{k:IntKind}
section
variable {h h0:H} {e:TypeId} {size bytes:Nat} {s x v:V} {n m:Nat} {cs new:List V}
theorem we (z:List V):∀k,(aH z k).length=k*z.length
 | 0=>by simp [aH]
 | k+1=>by simp [aH,we z k,Nat.add_mul];omega
theorem si {z:List V}(a:aZ z=true):∀k,aZ (aH z k)=true
 | 0=>rfl
 | k+1=>eW a (si a k)
theorem yA:∀k,aH [.int .u8 0] k=ae (List.replicate k 0)
 | 0=>rfl
 | k+1=>by rw [List.replicate_succ];show _::aH _ k=_::_;rw [yA k];rfl
theorem AzN.loc {z:List V}{i:Int}{K:V->H->Prop} (a:Loc h0 h s) (o:aG h e size s n cs) (hi:0<=i) (Ip:i<=1000000) (f:z.length=size) (t:aZ z=true) (b:bytes<=1000) (p:4*(n+i.toNat)*bytes<=1099511627776) (k:0<size:=by decide)
  (d:∀v h',aG h' e size v (n+i.toNat) (cs++aH z i.toNat)->Loc h0 h' v->Mod h h' (ag s)->K v h'):AzN h e size bytes z s (.int .i64 i) K:=by
 obtain ⟨q,rfl⟩:=Int.eq_ofNat_of_zero_le hi;have j:q<=1000000:=by omega
 obtain ⟨v,h',l,u⟩:=HO (K:=K) (m:=q) (new:=aH z q) a.wf o (by rw [we,f]) (si t q) (by unfold bg;simpa using p) k λv h' r g c w=>d v h' (by simpa using r) (a.grow g c w) c;refine ⟨v,h',?_,u⟩;show (bO (Nat.ble q 1048576&&Nat.ble (q*bytes) bg) (eR h e size bytes s q (aH z q)))=_
 have h3:q*bytes<=1000000*1000:=Nat.mul_le_mul j b
 rw [Nat.ble_eq_true_of_le (show q<=1048576 by omega),Nat.ble_eq_true_of_le (show q*bytes<=bg by unfold bg;omega)];exact l
theorem Lu:∀{vs cs:List V} {a:Nat},takeN a vs=some cs->∀b,b<=a->takeN b vs=some (cs.take b)
 | vs,cs,a,h,0,_=>by simp [takeN]
 | [],cs,0,h,b+1,hb=>by omega
 | [],cs,a+1,h,b+1,hb=>by simp [takeN] at h
 | v::vs,cs,0,h,b+1,hb=>by omega
 | v::vs,cs,a+1,h,b+1,hb=>by
   simp only [takeN,ad] at h;obtain ⟨r,c,h⟩:=h;cases h;simp only [takeN,Lu c b (by omega),ob];rfl
theorem dR {q m:Nat}(h:q<=m):bound (.int k (q:Int)) m=some q:=by
 show bO (Nat.ble q m) (some q)=_
 rw [Nat.ble_eq_true_of_le h];rfl
theorem Ld.front {i:Int}{K:V->Prop} (r:Ro h size s n cs) (hi:0<=i) (d:i.toNat<=n) (a:∀v,Ro h size v i.toNat (cs.take (i.toNat*size))->K v):Ld size s none (some (.int k i)) none K:=by
 obtain ⟨q,rfl⟩:=Int.eq_ofNat_of_zero_le hi;have d:q<=n:=by simpa using d
 have a:∀v,Ro h size v q (cs.take (q*size))->K v:=by simpa using a
 cases r with
 | nil=>
   have:q=0:=by omega
   subst this;exact ⟨.nilSlice 0,rfl,a _ (by simpa using Ro.nil)⟩
 | @row l off _ cap row _ e fz hg hr b=>
   have Co:rowFrom row off (q*size)=some (cs.take (q*size)):=Lu hr _ (Nat.mul_le_mul_right _ d);cases cap with
   | exact c=>
     have b:n<=c:=b;refine ⟨sliceEnd l off size 0 q c,?_,a _ ?_⟩
     ·simp only [dV,bB,dR (show q<=c by omega),ob]
     ·have:sliceEnd l off size 0 q c = .slice l off q (.exact c):=by
       unfold sliceEnd;rw [Nat.zero_mul,Nat.add_zero,Nat.sub_zero,Nat.sub_zero];cases Nat.beq c 0<;>rfl
      rw [this];exact .row hg Co (show q<=c by omega)
   | toEnd es=>
     have b:es=size:=b;subst b;refine ⟨.slice l off q (.toEnd es),?_,a _ (.row hg Co rfl)⟩;simp only [dV,bB,dR d,ob,Nat.beq_refl,bO,Bool.or_true,Nat.zero_mul,Nat.add_zero,Nat.sub_zero]
inductive aec (size:Nat):V->Nat->Nat->V->Prop
 | none {s:V} {n:Nat} {v:V}:aec size s n n v
 | some {l:Lb} {n i:Nat} {cap Nt:Cap} (h:i<n):aec size (.slice l 0 n cap) n i (.slice l (i*size) (n - i) Nt)
theorem Ld.back {i:Int}{K:V->Prop} (o:aG h e size s n cs) (hi:0<=i) (b:i.toNat<=n) (a:∀v,aec size s n i.toNat v->K v):Ld size s (some (.int k i)) none none K:=by
 obtain ⟨q,rfl⟩:=Int.eq_ofNat_of_zero_le hi;have b:q<=n:=by simpa using b
 have a:∀v,aec size s n q v->K v:=by simpa using a
 cases o with
 | nil=>
   have:q=0:=by omega
   subst this;exact ⟨.nilSlice 0,rfl,a _ .none⟩
 | @exact l _ _ hg hl=>
   refine ⟨sliceEnd l 0 size q n n,by simp only [dV,bB,dR b,ob],a _ ?_⟩
   by_cases hq:q=n
   ·subst hq;exact .none
   ·have:sliceEnd l 0 size q n n = .slice l (q*size) (n - q) (.exact (n - q)):=by
     unfold sliceEnd;rw [show Nat.beq n q=false from by rw [<-Bool.not_eq_true];exact λe=>hq (Nat.eq_of_beq_eq_true e).symm,Nat.zero_add]
    rw [this];exact .some (by omega)
 | @ends l _ _ hg hl=>
   by_cases hq:q=n
   ·subst hq
    cases h0:(Nat.blt q q||Nat.beq q 0) with
    | true=>exact ⟨.slice l (0+q*size) (q - q) (.toEnd size),by simp only [dV,bB,dR b,ob,Nat.beq_refl,bO,h0],a _ .none⟩
    | false=>exact ⟨.empty,by simp only [dV,bB,dR b,ob,Nat.beq_refl,bO,h0],a _ .none⟩
   ·refine ⟨.slice l (0+q*size) (n - q) (.toEnd size),?_,a _ (by rw [Nat.zero_add];exact .some (by omega))⟩
    simp only [dV,bB,dR b,ob,Nat.beq_refl,bO];rw [show (Nat.blt q n||Nat.beq q 0)=true from by rw [Bool.or_eq_true];left;simpa using (show q<n by omega)]
theorem sj:∀{vs cs:List V} {i:Nat},i+cs.length<=vs.length->aX vs i cs=some (vs.take i++cs++vs.drop (i+cs.length))
 | vs,[],0,_=>by simp [aX]
 | [],c::cs,0,h=>by simp at h
 | v::vs,c::cs,0,h=>by
   have:=sj (vs:=vs) (cs:=cs) (i:=0) (by simpa using h);simp only [aX,this,ob];simp
 | [],cs,i+1,h=>by simp at h
 | v::vs,cs,i+1,h=>by
   have:=sj (vs:=vs) (cs:=cs) (i:=i) (by simp at h;omega);simp only [aX,this,ob];simp [show i+1+cs.length=(i+cs.length)+1 by omega]
theorem CpN.tail {i:Nat}{d:V}{K:V->H->Prop} (a:Loc h0 h s) (o:aG h e size s n cs) (t:aec size s n i d) (q:Sl h size x m new) (A:0<m) (G:i+m<=n) (z:aZ new=true) (v:0<size)
  (C:∀r h',aG h' e size s n (cs.take (i*size)++new++cs.drop (i*size+new.length))->Loc h0 h' s->Mod h h' (ag s)->K r h'):CpN h size d x K:=by
 have D:=o.sl.len;have M:=q.len;cases t with
 | none=>omega
 | @some l _ _ cap Nt bA=>
   have j:Nat.min m (n - i)=m:=Nat.min_eq_left (by omega);have w:takeN (m*size) new=some new:=by rw [<-M];exact qk new
   cases new with
   | nil=>
     have:m*size=0:=by simpa using M.symm
     rcases Nat.mul_eq_zero.1 this with h | h<;>omega
   | cons c r=>
     have J:i*size+(c::r).length<=cs.length:=by rw [M,D,<-Nat.add_mul];exact Nat.mul_le_mul_right _ G
     have Bx:∃h',eu h l (i*size) (c::r)=some h'/\h'.get l=some (.cells (cs.take (i*size)++(c::r)++cs.drop (i*size+(c::r).length)) e 0 .yes)/\Mod h h' [l]/\Wf h':=by
      have f:h.get l=some (.cells cs e 0 .yes):=by cases o<;>assumption
      obtain ⟨u,F,y⟩:=H.eD a.wf f rfl (.cells (cs.take (i*size)++(c::r)++cs.drop (i*size+(c::r).length)) e 0 .yes);exact ⟨_,by simp only [eu,f,Own.may,z,Nat.zero_le,Nat.ble_eq_true_of_le,Bool.and_self,bO,sj J,ob],u,F,y⟩
     obtain ⟨h',E,p,k,I⟩:=Bx;have b:(cs.take (i*size)++(c::r)++cs.drop (i*size+(c::r).length)).length=n*size:=by
      simp only [List.length_append,List.length_take,List.length_drop];omega
     refine ⟨.int .i64 (Int.ofNat m),h',?_,C _ h' ?_ (a.grow (λL B=>.inr B) k I) k⟩
     ·simp only [copyV,q.elems,ob,j,w,E]
     ·cases o with
      | ends f hl=>exact .ends p b
      | exact f hl=>exact .exact p b
end
end Go.Dx
