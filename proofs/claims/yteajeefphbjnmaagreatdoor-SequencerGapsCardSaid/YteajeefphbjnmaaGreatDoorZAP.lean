/-
  The sequencer's laws. Part ZAP of the proof: A region whose order is open: one effect; the whole.
-/
import Derived.Test.YteajeefphbjnmaaGreatDoorZAO
import Derived.Test.YteajeefphbjnmaaGreatDoorZAN
namespace Go.Dx
open Go Go.RowKit
def EF (pf:Unit->Program) (G:Nat) (tg:List (DO×Nat×Nat)) (f k:Nat) (a:A) (h:H) (ps:List jH) (K:A->H->Prop) (Pn:A->V->H->Prop):Prop:=match SR k tg with
 | none=>K a h
 | some d=>wpG pf G d a h (λa h'=>dN h' (qq (k+1) ps) (MF pf G tg f (k+1) a h' ps K Pn)) Pn
theorem XV:∀{tg:List (DO×Nat×Nat)} {j k:Nat} {d:DO} {hi:Nat},tg[j]? =some (d,k,hi)->bQ d=true->(∀i d' ja,tg[i]? =some (d',k,ja)->bQ d'=true->i=j)->SR k tg=some d
 | [],j,k,d,hi,h,_,_=>by simp at h
 | (d1,HV,Fa)::r,0,k,d,hi,h,he,_=>by
   simp at h;obtain ⟨rfl,rfl,rfl⟩:=h;simp [SR,he]
 | (d1,HV,Fa)::r,j+1,k,d,hi,h,he,hu=>by
   have h:r[j]? =some (d,k,hi):=by simpa using h
   simp only [SR];split
   ·rename_i hb
    simp only [Bool.and_eq_true] at hb;have e:=Nat.eq_of_beq_eq_true hb.2;have:=hu 0 d1 Fa (by rw [<-e];rfl) hb.1;omega
   ·exact XV h he λi d' ja h1 h2=>by have:=hu (i+1) d' ja (by simpa using h1) h2;omega
theorem Oc:∀{tg:List (DO×Nat×Nat)} {k:Nat},(∀(i:Nat) (d':DO) (lo ja:Nat),tg[i]? =some (d',lo,ja)->bQ d'=true->lo<k)->SR k tg=none
 | [],_,_=>rfl
 | (d1,HV,Fa)::r,k,hu=>by
   simp only [SR];split
   ·rename_i hb
    simp only [Bool.and_eq_true] at hb;have e:=Nat.eq_of_beq_eq_true hb.2;have:=hu 0 d1 HV Fa rfl hb.1;omega
   ·exact Oc λi d' lo ja h1 h2=>hu (i+1) d' lo ja (by simpa using h1) h2
section
variable {pf:Unit->Program} {G n:Nat} {ops:Array Oper} {l:List DO} {tm0:T V} {h h0:H} {ds:List (FuncId×List V)} {B:Nat} {w0:World} {ρ0:bE} {Kf:A->H->Prop} {Px:A->V->H->Prop}
structure Zp (pf:Unit->Program) (G n:Nat) (ops:Array Oper) (l:List DO) (tm0:T V) (h h0:H) (ds:List (FuncId×List V)) (B:Nat) (w0:World) (ρ0:bE) (Kf:A->H->Prop) (Px:A->V->H->Prop) (S:Nat->Bool) (x:Act) (w:World):Prop where
 closed:gd ops (λi=>S i=true)
 rest:∃v k hk ps ak f,(aB l n).countP S=k/\gU ak.tmps (mask l tm0 v (Es ops l n k ops.size) ops.size)/\ak.defers=ds/\
  (∀j d lo hi,(tagged ops l n)[j]? =some (d,lo,hi)->bQ d=false->lo<=k->NF (dz (pf ())) (mask l tm0 v (Aj ops j) ops.size) d (v j) hi k hk ps)/\
  EF pf G (tagged ops l n) f k ak hk ps Kf Px/\af2 (pf ()) n ops l ds G h h0 tm0 v hk B w0 ρ0 S x w
theorem ac1 (F:qn ⟨pf (),G,n⟩ ops l)(hc:jC (bh ops.toList []) (aB l n)=true){i j k:Nat}{d d':DO}{hi ja:Nat}(h1:(tagged ops l n)[j]? =some (d,k,hi))(e1:bQ d=true)(h2:(tagged ops l n)[i]? =some (d',k,ja))(e2:bQ d'=true):i=j:=by
 obtain ⟨_,_,_,_,_,_,l1,_,m1⟩:=rM F h1;obtain ⟨_,_,_,_,_,_,l2,_,m2⟩:=rM F h2;exact Kv hc F.ei (m2.1 e2) (m1.1 e1) (by omega)
theorem VF (F:qn ⟨pf (),G,n⟩ ops l)(hc:jC (bh ops.toList []) (aB l n)=true)(ft:ops.size<=65536){S:Nat->Bool} {j k:Nat} {d:DO} {hi:Nat} (htg:(tagged ops l n)[j]? =some (d,k,hi)) (he:bQ d=true) (hj:S j=false) (asI:gd ops (λi=>S i=true)) (sL:gd ops (λi=>(S i||i==j)=true)) (HU:(aB l n).countP S=k)
  {v:Nat->V} {hk h':H} {ps:List jH} {ak:A} {f:Nat} {u:V} (Ky:gU ak.tmps (mask l tm0 v (Es ops l n k ops.size) ops.size)) (PI:ak.defers=ds)
  (facts:∀j d lo hi,(tagged ops l n)[j]? =some (d,lo,hi)->bQ d=false->lo<=k->NF (dz (pf ())) (mask l tm0 v (Aj ops j) ops.size) d (v j) hi k hk ps)
  (form:dN h' (qq (k+1) ps) (MF pf G (tagged ops l n) f (k+1) (ak.put d.dst u) h' ps Kf Px)) {x':Act} {w':World}
  (rel:∀v':Nat->V,v' j=u->(∀i,S i=true->v' i=v i)->af2 (pf ()) n ops l ds G h h0 tm0 v' h' B w0 ρ0 (λi=>S i||i==j) x' w'):Zp pf G n ops l tm0 h h0 ds B w0 ρ0 Kf Px (λi=>S i||i==j) x' w':=by
 obtain ⟨o,d0,ho,sq,hcc,xP,IB,HP,hef⟩:=rM F htg;have FR:=hef.1 he;obtain ⟨st,form⟩:=form.out;have kG:d.dst=d0.dst:=by rw [xP];exact (ig _ _ _).1
 have hjs:j<ops.size:=(Array.getElem?_eq_some_iff.1 ho).1;cases f with
 | zero=>exact form.elim
 | succ f=>
   have dG:Es ops l n k ops.size j=false:=by
    cases hh:Es ops l n k ops.size j with
    | false=>rfl
    | true=>rw [om] at hh;rcases hh with hh | hh
            ·omega
            ·exact absurd FR hh.1
   have MG:∀S:Nat->Bool,S j=false->mask l tm0 (λi=>if i=j then u else v i) S ops.size=mask l tm0 v S ops.size:=λS hS=>
    iJ ops.size λi _ hi=>by
     have:i≠j:=λe=>by rw [e,hS] at hi;cases hi
     simp [this]
   have anK:gU (ak.put d.dst u).tmps (mask l tm0 (λi=>if i=j then u else v i) (Es ops l n (k+1) 0) ops.size):=by
    have e1:mask l tm0 (λi=>if i=j then u else v i) (Es ops l n (k+1) 0) ops.size=mask l tm0 (λi=>if i=j then u else v i) (λi=>Es ops l n k ops.size i||i==j) ops.size:=by
     refine mC ops.size λi hi=>?_;rw [Bool.eq_iff_iff,Bool.or_eq_true,om,om,beq_iff_eq];constructor
     ·rintro (q | ⟨_,_,q⟩)
      ·rcases Nat.lt_or_ge (ix ops l n i) k with q' | q'
       ·exact .inl (.inl q')
       ·by_cases hie:i∈aB l n
        ·exact .inr (Kv hc F.ei hie FR (by omega))
        ·exact .inl (.inr ⟨hie,by omega,hi⟩)
      ·omega
     ·rintro ((q | ⟨_,q,_⟩) | q)
      ·exact .inl (by omega)
      ·exact .inl (by omega)
      ·subst q;exact .inl (by omega)
    rw [e1];refine (Ky.put d.dst u).congr λq=>?_;rw [xS F (zv F.ei k ops.size) ho dG q,MG _ dG,sq];simp [kG]
   have hlen:(tagged ops l n).length=ops.size:=by
    unfold tagged;rw [eY,eh,(cN F.comp 0).2];simp
   obtain ⟨v',a',PS,q1,q2,q3,q4,q5,q6⟩:=P5 F (tagged ops l n) 0 (λm=>by rw [Nat.zero_add]) (by omega) anK ft form;have Zf:v' j=u:=by have:=q2 j (.inr (.inl FR));simpa using this
   have hvS:∀i,i≠j->(i∈aB l n\/ix ops l n i≠k+1)->v' i=v i:=λi zO hi=>by have:=q2 i (.inr hi);simpa [zO] using this
   have loS:∀i,S i=true->i≠j/\(i∈aB l n\/ix ops l n i≠k+1):=λi hi=>
    ⟨λe=>(by rw [e,hj] at hi;cases hi),.inr (by have:=lo_le (l:=l) (n:=n) F.ei asI hi;omega)⟩
   refine ⟨sL,v',k+1,h',PS,a',f,by rw [af0 FR hj,HU],q3,by rw [q4,(jk _ _ _).2,PI],λi d' Md ja ht It Za=>?_,q1,rel v' Zf λi hi=>hvS i (loS i hi).1 (loS i hi).2⟩;obtain ⟨o2,d2,ke,vS,E5,aAB,ajB,asK,asL⟩:=rM F ht;rcases Nat.lt_or_ge Md (k+1) with bA | jb
   ·have dj:¬i∈aB l n:=λhm=>by rw [asL.2 hm] at It;cases It
    have zO:i≠j:=λe=>by subst e;exact dj FR
    have hv:=hvS i zO (.inr (by omega));have hm:mask l tm0 v' (Aj ops i) ops.size=mask l tm0 v (Aj ops i) ops.size:=iJ ops.size λi2 _ DI=>by
     have jc:=XU (l:=l) (n:=n) F.ei DI;refine hvS i2 (λe=>?_) (.inr (by omega));subst e;have:=P4 (l:=l) F.ei FR DI;omega
    have:=facts i d' Md ja ht It (by omega);rw [hm,hv];rcases this with ⟨a,b⟩ | ⟨a,b⟩
    ·exact .inl ⟨a,b⟩
    ·refine .inr ⟨a,?_⟩
     split at b
     ·exact b
     ·exact b
     ·obtain ⟨Q,b1,b2,b3⟩:=b
      exact ⟨Q,b1,λhle=>st _ (Ce b3 hle),q5 _ b3⟩
     ·exact b
   ·exact q6 i d' Md ja (Nat.zero_le _) ht It (by omega)
theorem af3 (F:qn ⟨pf (),G,n⟩ ops l)(hc:jC (bh ops.toList []) (aB l n)=true)(ft:ops.size<=65536)(xT:∀p,p<(bu l n true).2.length->∃L,val L=val h.next+p/\bS tm0 (pathOf (n+p)) = .ptr L 0) (next:val h0.next=val h.next+(bu l n true).2.length)
  {S:Nat->Bool} {x:Act} {w:World} (inv:Zp pf G n ops l tm0 h h0 ds B w0 ρ0 Kf Px S x w) {j:Nat} {o:Oper} (ho:ops[j]? =some o) (hj:S j=false)
  (gh:∀e∈o.after,Region.binds .any e=true->S e.on=true) {K:Act->World->Prop} {Q:Exit->Act->World->Prop} (hK:∀x' w',Zp pf G n ops l tm0 h h0 ds B w0 ρ0 Kf Px (λi=>S i||i==j) x' w'->K x' w')
  (hX:∀v h',Px {tmps:=.leaf,defers:=ds} v h'->AZ B w0 n ρ0 h {tmps:=.leaf,defers:=ds} v h' Q):wpOp (pf ()) ops Q j K x w:=by
 obtain ⟨v,k,hk,ps,ak,f,HU,Ky,PI,facts,form,rel⟩:=inv.rest;obtain ⟨d0,sq,asM,htg⟩:=acZ F ho;have DM:gd ops (λi=>(S i||i==j)=true):=λi o' oe hi e he hb=>by
  simp only [Bool.or_eq_true,beq_iff_eq] at hi ⊢;rcases hi with hi | rfl
  ·exact .inl (inv.closed i o' oe hi e he hb)
  ·rw [ho] at oe;cases oe
   exact .inl (gh e he hb)
 generalize xP:DL (Fb l true j) d0 (n+cj l true j)=d at htg;obtain ⟨_,_,_,_,_,_,_,_,hef⟩:=rM F htg;have IB:=SU (l:=l) (n:=n) F.ei ho inv.closed gh;rw [HU] at IB;cases he:bQ d with
 | false=>
   have dj:¬j∈aB l n:=λhm=>by rw [hef.2 hm] at he;cases he
   refine anJ F ft xT next inv.closed rel ho hj gh htg he (by rw [<-HU];exact anI F.ei inv.closed hj) (facts j d _ _ htg he IB) λx' w' r'=>hK x' w' ⟨DM,v,k,hk,ps,ak,f,by rw [af1 dj];exact HU,Ky,PI,facts,form,r'⟩
 | true=>
   have FR:=hef.1 he;have O8:ix ops l n j=k:=by rw [<-HU];exact Zo hc F.ei inv.closed FR hj ho gh
   rw [O8] at htg;have sN:cu (Fb l true j) d0=false:=by
    cases ha:cu (Fb l true j) d0 with
    | false=>rfl
    | true=>
      exfalso;rw [<-xP] at he;obtain ⟨a1,a2,a3⟩:=d0;cases a2 with
      | e q=>cases q with
        | alloc t cs=>cases he
        | cI t cs m=>cases he
        | cY e0 x0=>rw [show Fb l true j=true from ha] at he;cases he
        | _=>cases ha
      | _=>cases ha
   have hd:d=d0:=by rw [<-xP];exact nu sN _
   subst hd;unfold EF at form;rw [XV htg he λi d' ja h1 h2=>ac1 F hc htg he h1 h2] at form;simp only at form;have dG:Es ops l n k ops.size j=false:=by
    cases hh:Es ops l n k ops.size j with
    | false=>rfl
    | true=>
      rw [om] at hh;rcases hh with hh | hh
      ·omega
      ·exact absurd FR hh.1
   have rdy:∀e∈o.after,Region.binds .any e=true->Es ops l n k ops.size e.on=true:=λe he hb=>
    Kx F.ei (dT F.ei ho he hb).1 (.inr ⟨O8,by have:=(Array.getElem?_eq_some_iff.1 ho).1;omega⟩)
   have agree:∀t,t<n->t∈o.looksAt ops->bS (mask l tm0 v S ops.size) (pathOf t)=bS (mask l tm0 v (Es ops l n k ops.size) ops.size) (pathOf t):=λt ht hl=>
    (uU F inv.closed ho hj gh ht hl).trans (uU F (zv F.ei k ops.size) ho dG rdy ht hl).symm
   obtain ⟨ρ,i1,i2,i3,i4,i5,i6,i7⟩:=rel;have Hb:=asM;simp only [gK,ad,Option.some.injEq] at Hb;obtain ⟨dst,hcd,g,hg,Kc⟩:=Hb;have hg0:d.guard=g:=by rw [<-Kc]
   have SG:d.dst=dst:=by rw [<-Kc]
   have ik:d.op=(aj ⟨pf (),G,n⟩ o.op).getD .stuck:=by rw [<-Kc]
   have Hc:Region.wanted o (yielded ops x.tmps)=dS (mask l tm0 v (Es ops l n k ops.size) ops.size) d.guard:=by
    rw [hg0,xO (C:=⟨pf (),G,n⟩) hg i5];exact uQ (C:=⟨pf (),G,n⟩) hg agree
   have fin:∀{u:V} {h':H} {ρ':bE} {y:Value} {w':World},dN h' (qq (k+1) ps) (MF pf G (tagged ops l n) f (k+1) (ak.put d.dst u) h' ps Kf Px)->Step ρ ρ' hk h'->RV ρ' u y->aA B w0 ρ' h' w'->K (x.put o.dst y) w':=λ{u h' ρ' y w'} fm s hv R'=>by
    have E:=s.ext i2;refine hK _ _ (VF F hc ft htg he hj inv.closed DM HU Ky PI facts fm λv' e1 e2=>?_);have em:mask l tm0 v S ops.size=mask l tm0 v' S ops.size:=iJ ops.size λi _ hi=>(e2 i hi).symm;have hA:oj ρ' n (A.put {tmps:=mask l tm0 v S ops.size,defers:=ds} dst u) (x.put o.dst y):=
     oj.put (C:=⟨pf (),G,n⟩) (a:={tmps:=mask l tm0 v S ops.size,defers:=ds}) ⟨i5.mono E,i6.mono E⟩ hcd hv
    refine ⟨ρ',λm hm=>?_,R',Nat.le_trans i3 s.next,λi d' L h1 h2 h3 h4=>?_,?_,?_,i7.mono E⟩
    ·rw [s.old m (by omega)];exact i1 m hm
    ·simp only [Bool.or_eq_false_iff] at h3
     have bA:=gE (k:=n) (q:=true) h1 h2;rw [s.old L (by omega)];exact i4 i d' L h1 h2 h3.1 h4
    ·refine ⟨hA.tmps.size,hA.tmps.small,λt ht=>?_⟩
     rw [xS F inv.closed ho hj,<-em,e1];have:=hA.tmps.get t ht;rw [(jk _ _ _).1] at this;rw [sq];simpa [SG] using this
    ·have:=hA.defers
     rw [(jk _ _ _).2] at this;exact this
   unfold wpOp;simp only [ho];have yes:dS (mask l tm0 v (Es ops l n k ops.size) ops.size) d.guard=true->wpD pf G d ak hk (λa h'=>dN h' (qq (k+1) ps) (MF pf G (tagged ops l n) f (k+1) a h' ps Kf Px)) (λa v h=>Px {tmps:=.leaf,defers:=a.defers} v h)->(if Region.wanted o (yielded ops x.tmps)=true then o.wp (pf ()) x w K Q\/o.asks (pf ()) x w/\LetsOut Q else K (x.put o.dst Go.undef) w):=λh1 h2=>by
    rw [if_pos (Hc.trans h1)];refine .inl ?_;unfold Oper.wp;cases lK:aj ⟨pf (),G,n⟩ o.op with
    | none=>rw [lK,Option.getD_none] at ik;unfold wpD at h2;rw [ik] at h2;exact h2.elim
    | some q=>
      rw [lK,Option.getD_some] at ik;have ok:=s5 lK;have same:=IF (E:=dz (pf ())) (tm:=mask l tm0 v S ops.size) (tm':=mask l tm0 v (Es ops l n k ops.size) ops.size) lK λy hy=>s6 λt ht bA=>agree t bA (pP (by rw [<-ht];exact hy));unfold wpD at h2;rw [ik] at h2;cases q with
      | e q=>
        have same:∀h,q.run _ h=q.run _ h:=same;have h2:wpE ak.tmps hk q (λv h'=>dN h' (qq (k+1) ps) (MF pf G (tagged ops l n) f (k+1) (ak.put d.dst v) h' ps Kf Px)):=h2;obtain ⟨u,h',e1,e2⟩:=acO Ky h2;obtain ⟨ρ',y,w',s1,s2,s3,s4⟩:=ok.eff i5 i7.rel i2 ((same _).trans e1);rcases s4 o rfl with hr | ⟨hr,rfl⟩
        ·rw [hr,Oper.upon_value];exact fin e2 s1 s2 s3
        ·rw [hr,Oper.upon_skip]
         exact fin e2 s1 s2 s3
      | c q=>
        have same:q.args _ _=q.args _ _:=same;obtain ⟨f',vs,e1,e2⟩:=Oa Ky h2;obtain ⟨xs,PH,hr⟩:=ok i5 i7.rel (same.trans e1);rw [hr o rfl w];refine (e2.out i2 i7 PH).upon (λy w' hR=>?_) λy w' hR=>?_
        ·obtain ⟨u,h',ρ',e3,s1,s2,s3⟩:=hR
         exact fin e3 s1 s2 s3
        ·obtain ⟨u,h',ρ',e3,s1,s2,s3⟩:=hR
         rw [PI] at e3;have E:=s1.ext i2;exact hX u h' e3 ρ' x w' y ⟨λm hm=>by rw [s1.old m (by omega)];exact i1 m hm,Nat.le_trans (by omega) s1.next⟩ ⟨⟨_,λp v e=>(by rw [show (T.leaf:T V).get p=none from T.kz p] at e;cases e),i5.mono E,i6.mono E⟩⟩ s2 s3
      | Rm y=>exfalso;unfold bQ at he;rw [show d=⟨d.dst,d.op,d.guard⟩ from rfl,ik] at he;cases he
      | p q=>exfalso;unfold bQ at he;rw [show d=⟨d.dst,d.op,d.guard⟩ from rfl,ik] at he;cases he
      | r q=>exfalso;unfold bQ at he;rw [show d=⟨d.dst,d.op,d.guard⟩ from rfl,ik] at he;cases he
      | defer q=>exfalso;unfold bQ at he;rw [show d=⟨d.dst,d.op,d.guard⟩ from rfl,ik] at he;cases he
      | stuck=>exact h2.elim
   have no:dS (mask l tm0 v (Es ops l n k ops.size) ops.size) d.guard=false->dN hk (qq (k+1) ps) (MF pf G (tagged ops l n) f (k+1) (ak.put d.dst undef) hk ps Kf Px)->(if Region.wanted o (yielded ops x.tmps)=true then o.wp (pf ()) x w K Q\/o.asks (pf ()) x w/\LetsOut Q else K (x.put o.dst Go.undef) w):=λh1 h2=>by
    rw [if_neg (by rw [Hc,h1];exact Bool.false_ne_true)];exact fin h2 (Step.refl _ _) (.tuple .nil) i2
   unfold wpG at form;cases hdg:d.guard with
   | none=>rw [hdg] at form yes;exact yes rfl form
   | some p=>
     obtain ⟨p,want⟩:=p;rw [hdg] at form yes no;have form:=(bf Ky form).1;split at form
     ·rename_i b e
      have e:bS (mask l tm0 v (Es ops l n k ops.size) ops.size) p = .bool b:=e;have YM:=Ku (want:=want) e;split at form
      ·rename_i hb;exact yes (YM.trans hb) form
      ·rename_i hb;exact no (YM.trans hb) form
     ·rename_i c e
      have e:bS (mask l tm0 v (Es ops l n k ops.size) ops.size) p = .tuple c:=e;exact no (by simp only [dS,e]) form
     ·exact form.elim
end
end Go.Dx
namespace Go.Dx
open Go Go.RowKit
section
variable {pf:Unit->Program} {G n:Nat} {ops:Array Oper} {l:List DO} {tm0:T V} {h h0:H} {ds:List (FuncId×List V)} {B:Nat} {w0:World} {ρ0:bE} {Kf:A->H->Prop} {Px:A->V->H->Prop}
theorem ajC (F:qn ⟨pf (),G,n⟩ ops l)(hc:jC (bh ops.toList []) (aB l n)=true)(ft:ops.size<=65536)(xT:∀p,p<(bu l n true).2.length->∃L,val L=val h.next+p/\bS tm0 (pathOf (n+p)) = .ptr L 0) (next:val h0.next=val h.next+(bu l n true).2.length)
  {Q:Exit->Act->World->Prop} (Vo:∀S x w,Zp pf G n ops l tm0 h h0 ds B w0 ρ0 Kf Px S x w->(∀i,i<ops.size->S i=true)->Q .normal x w) (hX:∀v h',Px {tmps:=.leaf,defers:=ds} v h'->AZ B w0 n ρ0 h {tmps:=.leaf,defers:=ds} v h' Q):
  ∀(fuel:Nat) (listed:Array Bool) (x:Act) (w:World),listed.size=ops.size->Zp pf G n ops l tm0 h h0 ds B w0 ρ0 Kf Px (λi=>listed.getD i false) x w->unl ops.size (λi=>listed.getD i false)<=fuel->wpAny (pf ()) .any ops Q fuel listed x w:=by
 have done:∀(listed:Array Bool) (x:Act) (w:World),listed.size=ops.size->Zp pf G n ops l tm0 h h0 ds B w0 ρ0 Kf Px (λi=>listed.getD i false) x w->Region.ready .any ops listed=[]->Q .normal x w:=λlisted x w ft inv hr=>by
  refine Vo _ x w inv λi hi=>?_;induction i using Nat.strongRecOn with
  | _ i ih=>
    cases hs:listed.getD i false with
    | true=>rfl
    | false=>
      exfalso;have:i∈Region.ready .any ops listed:=by
       rw [mem_ready];refine ⟨?_,ops[i],by simp [hi],λe he hb=>?_⟩
       ·have bA:i<listed.size:=by omega
        simp only [Array.getD_eq_getD_getElem?,Array.getElem?_eq_getElem bA,Option.getD_some] at hs ⊢;exact hs
       ·have bA:=s8 F.ei (j:=i) (o:=ops[i]) (by simp [hi]) he hb
        exact ih e.on bA (by omega)
      rw [hr] at this;cases this
 intro fuel;induction fuel with
 | zero=>
   intro listed x w ft inv hu;have cf:=SJ (Nat.le_zero.1 hu);have Vp:Region.ready .any ops listed=[]:=by
    cases hr:Region.ready .any ops listed with
    | nil=>rfl
    | cons i rs=>
      exfalso;have hm:i∈Region.ready .any ops listed:=by rw [hr];exact List.mem_cons_self ..
      rw [mem_ready] at hm;obtain ⟨h1,o,ho,_⟩:=hm;have bA:i<ops.size:=(Array.getElem?_eq_some_iff.1 ho).1;have h2:=cf i bA;have qX:i<listed.size:=by omega
      simp only [Array.getD_eq_getD_getElem?,Array.getElem?_eq_getElem qX,Option.getD_some] at h1 h2;rw [h1] at h2;cases h2
   exact ⟨Vp,done listed x w ft inv Vp⟩
 | succ fuel ih=>
   intro listed x w anL inv hu;refine ⟨λhr=>done listed x w anL inv hr,λj hj=>?_⟩;obtain ⟨h1,o,ho,cf⟩:=mem_ready.1 hj;have bA:j<ops.size:=(Array.getElem?_eq_some_iff.1 ho).1;have qX:j<listed.size:=by omega
   have hs:listed.getD j false=false:=by
    simp only [Array.getD_eq_getD_getElem?,Array.getElem?_eq_getElem qX,Option.getD_some] at h1 ⊢;exact h1
   have hS:(λi=>(listed.setIfInBounds j true).getD i false)=λi=>listed.getD i false||i==j:=by
    funext i
    by_cases e:i=j
    ·subst e;simp [qX]
    ·have dj:(i==j)=false:=by simpa using e
     rw [dj,Bool.or_false];exact getD_set_ne false (Ne.symm e)
   refine af3 F hc ft xT next inv ho hs (λe he hb=>cf e he hb) (λx' w' ai9=>?_) hX
   refine ih _ x' w' (by simp [anL]) (by rw [hS];exact ai9) ?_;rw [hS];have:=XL (S:=λi=>listed.getD i false) bA hs;omega
theorem SV {K:T V->H->Prop}:∀{m:List Made} {tp tm:T V} {h:H},gU tp tm->SS m tp h K->∃tp',gU tp' (makeAll m tm h).1/\K tp' (makeAll m tm h).2
 | [],tp,_tm,_h,s,hk=>⟨tp,s,hk⟩
 | (p,_t,_cs,_o)::r,_tp,_tm,h,s,hk=>SV (m:=r) (s.set p (.ptr h.next 0)) hk.out
theorem Hf.of' (hm:(pf ()).follows .mixedOrders=true){m:List Made}{dl:List (DO×Nat×Nat)}{a:A}{K:A->H->Prop} {Pn:A->V->H->Prop} (f:Nat) (g:List Made->List Made) (Mf:∀m,(g m).length=m.length) (PX:∀(m:List Made) (p:Nat) (x:Made),(g m)[p]? =some x->∃y:Made,m[p]? =some y/\y.1=x.1) (hk:SS (g m) a.tmps h λtp h'=>MF pf G dl f 0 {tmps:=tp,defers:=a.defers} h' [] K Pn):Hf pf G n m dl a h K Pn:=by
 refine ⟨λid ops l hl hd=>⟨λ{B w0 ρ w x Qw} hA hG R k kx=>?_⟩⟩;obtain ⟨tm,st,hT⟩:=hA.out;unfold jf at hd;simp only at hd;split at hd
 ·rename_i acy
  simp only [Bool.and_eq_true] at acy;obtain ⟨⟨⟨⟨k1,k2⟩,k3⟩,k4⟩,k5⟩:=acy;have k5:=Nat.le_of_ble_eq_true k5;simp only [DC.draw.injEq] at hd;obtain ⟨rfl,rfl⟩:=hd;have qY:n<=65536:=hT.tmps.small;have hlen:l.length=ops.size:=by have:=(cN hl 0).2;simpa using this
  have F:qn ⟨pf (),G,n⟩ ops l:=⟨hl,qY,k3,k2⟩;obtain ⟨m1,m2,m3,m4⟩:=B' (g (bu l n true).2) n tm h (λp y hp=>by obtain ⟨z,hz,e⟩:=PX _ _ _ hp;rw [<-e];exact pw hz) (by rw [Mf];have:=ij l n true;omega);rw [Mf] at m2 m4;obtain ⟨tp',s1,hk⟩:=SV st hk;generalize aAD:(makeAll (g (bu l n true).2) tm h).1=tm0 at*;generalize hh0:(makeAll (g (bu l n true).2) tm h).2=h0 at*;have bA:(tagged ops l n).length=ops.size:=by unfold tagged;rw [eY,eh,hlen]
  cases f with
  | zero=>exact hk.elim
  | succ f=>
    have ac2:∀(v:Nat->V) (S:Nat->Bool),(∀i,S i=false)->mask l tm0 v S ops.size=tm0:=λv S hS=>by
     generalize ops.size=q;induction q with
     | zero=>rfl
     | succ q ih=>simp only [mask,ih,hS q];rfl
    obtain ⟨v,a',ps,q1,_,q3,q4,_,q6⟩:=P5 F (tm0:=tm0) (v:=λ_=>undef) (tagged ops l n) 0 (λm=>by rw [Nat.zero_add]) (by omega) (by
     rw [ac2 _ _ λi=>by
      cases hh:Es ops l n 0 0 i with
      | false=>rfl
      | true=>rw [om] at hh;omega]
     exact s1) k5 hk
    refine wp_region_any hm (ajC (pf:=pf) (B:=B) (w0:=w0) (ρ0:=ρ) (ds:=a.defers) (Kf:=K) (Px:=Pn) F k1 k5 m2 m4 (λS y w1 inv cf=>?_) (λv h' q=>kx _ v h' q) ops.size (Array.replicate ops.size false) x _ (by simp) ?_ ?_)
    ·
     obtain ⟨v,kk,G6,ps,ak,f',HU,Ky,PI,_,form,ρ1,i1,i2,i3,i4,i5,i6,i7⟩:=inv.rest;have acz:mask l tm0 v S ops.size=mask l tm0 v (Es ops l n kk ops.size) ops.size:=mC ops.size λi hi=>by
      rw [cf i hi];refine (om.2 ?_).symm
      by_cases hie:i∈aB l n
      ·have:=ahO (l:=l) (n:=n) F.ei inv.closed (cf i hi) hie
       exact .inl (by omega)
      ·have:=lo_le (l:=l) (n:=n) F.ei inv.closed (cf i hi)
       rcases Nat.lt_or_ge (ix ops l n i) kk with q | q
       ·exact .inl q
       ·exact .inr ⟨hie,by omega,hi⟩
     unfold EF at form;rw [Oc λi d' lo ja h1 h2=>by
      obtain ⟨o,_,ho,_,_,_,e1,_,e2⟩:=rM F h1;have:=ahO (l:=l) (n:=n) F.ei inv.closed (cf i (Array.getElem?_eq_some_iff.1 ho).1) (e2.1 h2);omega] at form
     refine k .normal ak G6 ⟨rfl,form⟩ ρ1 y w1 ⟨i1,by omega⟩ ⟨_,Ky,?_,by rw [PI];exact i6⟩ i2;rw [<-acz];exact i5
    ·
     have hS:(λi=>(Array.replicate ops.size false).getD i false)=λ_=>false:=by
      funext i
      simp [Array.getD_eq_getD_getElem?,Array.getElem?_replicate];split<;>rfl
     rw [hS];refine ⟨λj o _ hj=>(by cases hj),v,0,h0,ps,a',f,by rw [List.countP_eq_zero];simp,q3,q4,λj d lo hi ht he IB=>q6 j d lo hi (Nat.zero_le _) ht he (by omega),q1,ρ,λ_ _=>rfl,?_,Nat.le_refl _,λi d L h1 h2 _ h4=>?_,?_,hT.defers,hG⟩
     ·exact (R.drew).more m3 (by rw [m4];omega)
     ·cases hr:ρ L with
      | none=>rfl
      | some b=>have:=R.lt L b hr;omega
     ·rw [ac2 v _ λ_=>rfl]
      exact ⟨hT.tmps.size,qY,λt ht=>by rw [m1 t ht];exact hT.tmps.get t ht⟩
    ·unfold unl
     have:=List.countP_le_length (p:=λi=>!(Array.replicate ops.size false).getD i false) (l:=List.range ops.size);simpa using this
 ·cases hd
theorem Hf.of (hm:(pf ()).follows .mixedOrders=true){m:List Made}{dl:List (DO×Nat×Nat)}{a:A}{K:A->H->Prop} {Pn:A->V->H->Prop} (f:Nat) (hk:SS m a.tmps h λtp h'=>MF pf G dl f 0 {tmps:=tp,defers:=a.defers} h' [] K Pn):Hf pf G n m dl a h K Pn:=
 .of' hm f id (λ_=>rfl) (λ_ _ x h=>⟨x,h,rfl⟩) hk
def P6 (b:List V):List Made->List Made
 | []=>[]
 | (p,t,cs,o)::r=>(p,t,(match RT o with | true=>b | false=>cs),o)::P6 b r
theorem SX (b:List V):∀m,(P6 b m).length=m.length
 | []=>rfl
 | (p,t,cs,o)::r=>by simp [P6,SX b r]
theorem SY (b:List V):∀(m:List Made) (i:Nat) (x:Made),(P6 b m)[i]? =some x->∃y:Made,m[i]? =some y/\y.1=x.1
 | [],i,x,h=>by simp [P6] at h
 | (p,t,cs,o)::r,0,x,h=>by simp [P6] at h;subst h;exact ⟨_,rfl,rfl⟩
 | (p,t,cs,o)::r,i+1,x,h=>by simpa using SY b r i x (by simpa [P6] using h)
theorem Hf.ofB (hm:(pf ()).follows .mixedOrders=true){m:List Made}{dl:List (DO×Nat×Nat)}{a:A}{K:A->H->Prop} {Pn:A->V->H->Prop} (f:Nat) (b:List V) (hk:SS (P6 b m) a.tmps h λtp h'=>MF pf G dl f 0 {tmps:=tp,defers:=a.defers} h' [] K Pn):Hf pf G n m dl a h K Pn:=
 .of' hm f (P6 b) (SX b) (SY b) hk
end
end Go.Dx
namespace Go.Dx
open Go Go.RowKit
abbrev bF:=List (List Nat×V×Nat)
def cg:bF->List (V×V×Nat)
 | []=>[]
 | (k,v,b)::r=>(.str k,v,b)::cg r
def cK:bF->List Nat->Option V
 | [],_=>none
 | (x,v,_)::r,k=>if x=k then some v else cK r k
def dh:bF->List Nat->V->Nat->bF
 | [],k,v,c=>[(k,v,c)]
 | (x,w,b)::r,k,v,c=>if x=k then (k,v,b)::r else (x,w,b)::dh r k v c
def fA:bF->List Nat->bF
 | [],_=>[]
 | (x,w,b)::r,k=>if x=k then r else (x,w,b)::fA r k
def cB (m:bF):List (List Nat):=m.map (·.1)
def dQ (m:bF)(k:List Nat)(c:Nat):Nat:=match cK m k with
 | some _=>c
 | none=>c+1
theorem dX (m:bF)(k k':List Nat)(v:V)(c:Nat):cK (dh m k v c) k'=if k'=k then some v else cK m k':=by
 induction m with
 | nil=>simp only [dh,cK];by_cases h:k=k'<;>simp [h,eq_comm]
 | cons e r ih=>
   obtain ⟨x,w,b⟩:=e;simp only [dh]
   by_cases h:x=k
   ·subst h
    simp only [if_true,cK]
    by_cases h2:x=k'
    ·simp [h2]
    ·have:¬k'=x:=λe=>h2 e.symm
     simp [h2,this]
   ·simp only [if_neg h,cK,ih]
    by_cases h2:x=k'
    ·subst h2;simp [h]
    ·simp [h2]
theorem VG (m:bF)(k:List Nat)(v:V)(c:Nat):cB (dh m k v c)=if k∈cB m then cB m else cB m++[k]:=by
 induction m with
 | nil=>simp [dh,cB]
 | cons e r ih=>
   obtain ⟨x,w,b⟩:=e;simp only [dh]
   by_cases h:x=k
   ·subst h;simp [cB]
   ·have h':¬k=x:=λe=>h e.symm
    simp only [if_neg h,cB,List.map_cons] at ih ⊢;rw [ih]
    by_cases h2:k∈List.map (·.1) r
    ·simp [h2]
    ·simp [h2,h']
theorem VH {m:bF}(hn:(cB m).Nodup)(k:List Nat)(v:V)(c:Nat):(cB (dh m k v c)).Nodup:=by
 rw [VG];split
 ·exact hn
 ·rename_i h
  rw [List.nodup_append];exact ⟨hn,by simp,λa ha b hb=>by simp at hb;subst hb;exact λe=>h (e▸ha)⟩
theorem VI {m:bF}(hn:(cB m).Nodup)(k:List Nat):cB (fA m k)=(cB m).erase k:=by
 induction m with
 | nil=>simp [fA,cB]
 | cons e r ih=>
   obtain ⟨x,w,b⟩:=e;simp only [cB,List.map_cons,List.nodup_cons] at hn;simp only [fA]
   by_cases h:x=k
   ·subst h;simp [cB]
   ·have ih:=ih hn.2
    simp only [cB] at ih;simp only [if_neg h,cB,List.map_cons,ih];rw [List.erase_cons_tail (by simpa using h)]
theorem VJ {m:bF}(hn:(cB m).Nodup)(k:List Nat):(cB (fA m k)).Nodup:=by
 rw [VI hn];exact hn.erase k
theorem zw (m:bF)(k:List Nat):∃r,rE .str (.str k) (cg m)=some r/\r.map (·.2)=cK m k/\∀i v,r=some (i,v)->(∀w,kr (cg m) i (.str k) w=cg (dh m k w 0))/\ni (cg m) i=cg (fA m k):=by
 induction m with
 | nil=>exact ⟨none,rfl,rfl,λi v h=>by cases h⟩
 | cons e r ih=>
   obtain ⟨x,w,b⟩:=e;obtain ⟨q,h1,h2,h3⟩:=ih;simp only [cg,rE,gY,ob,jM]
   by_cases h:k=x
   ·subst h
    simp only [beq_self_eq_true];exact ⟨_,rfl,by simp [cK],λi v e=>by cases e;exact ⟨λw=>by simp [kr,dh,cg],by simp [ni,fA]⟩⟩
   ·have hb:(k==x)=false:=by simpa using h
    have h':¬x=k:=λe=>h e.symm;rw [hb];simp only [h1];cases q with
    | none=>exact ⟨none,rfl,by simp [cK,h',<-h2],λi v e=>by cases e⟩
    | some p=>
      obtain ⟨i,v⟩:=p;obtain ⟨a1,a2⟩:=h3 i v rfl;refine ⟨some (i+1,v),rfl,by simp [cK,h',<-h2],λj u e=>?_⟩;cases e;exact ⟨λw=>by simp [kr,dh,h',cg,a1],by simp [ni,fA,h',cg,a2]⟩
theorem ac3 {m:bF}{k:List Nat}{v:V}(c c':Nat)(h:(cK m k).isSome=true):dh m k v c=dh m k v c':=by
 induction m with
 | nil=>simp [cK] at h
 | cons e r ih=>
   obtain ⟨x,w,b⟩:=e;simp only [cK,dh] at h ⊢
   by_cases hx:x=k
   ·simp [hx]
   ·rw [if_neg hx] at h;rw [if_neg hx,if_neg hx,ih h]
theorem Zq {m:bF}{k:List Nat}{v:V}{c:Nat}(h:cK m k=none):cg m++[(.str k,v,c)]=cg (dh m k v c):=by
 induction m with
 | nil=>rfl
 | cons e r ih=>
   obtain ⟨x,w,b⟩:=e;simp only [cK] at h
   by_cases hx:x=k
   ·simp [hx] at h
   ·rw [if_neg hx] at h
    simp only [dh,if_neg hx,cg,List.cons_append,ih h]
section
variable {h:H} {l:Lb} {m:bF} {c:Nat} {k:List Nat}
theorem RJ.hit {z v:V}{ok:Bool}{K:V->Prop} (hl:h.get l=some (.map (cg m) c)) (hg:cK m k=some v) (hk:K (okV ok v true)):RJ h .str z ok (.map l) (.str k) K:=by
 obtain ⟨r,h1,h2,_⟩:=zw m k;rw [hg] at h2;cases r with
 | none=>cases h2
 | some p=>
   obtain ⟨i,u⟩:=p;simp only [Option.map_some,Option.some.injEq] at h2;subst h2;exact ⟨rfl,_,by simp only [Q.ask,hl,h1,ob],hk⟩
theorem RJ.Fp {z:V}{ok:Bool}{K:V->Prop} (hl:h.get l=some (.map (cg m) c)) (hg:cK m k=none) (hk:K (okV ok z false)):RJ h .str z ok (.map l) (.str k) K:=by
 obtain ⟨r,h1,h2,_⟩:=zw m k;rw [hg] at h2;cases r with
 | some p=>cases h2
 | none=>exact ⟨rfl,_,by simp only [Q.ask,hl,h1,ob],hk⟩
theorem MuN.of {v:V}{K:H->Prop} (hw:Wf h) (hl:h.get l=some (.map (cg m) c)) (hk:∀h',h'.get l=some (.map (cg (dh m k v c)) (dQ m k c))->Mod h h' [l]->Wf h'->K h'):MuN h .str (.map l) (.str k) v K:=by
 obtain ⟨r,h1,h2,h3⟩:=zw m k;cases r with
 | none=>
   have h2:cK m k=none:=h2.symm;have e:=Zq (v:=v) (c:=c) h2;obtain ⟨a1,a2,a3⟩:=H.eM hw hl rfl (.map (cg (dh m k v c)) (dQ m k c));refine ⟨rfl,undef,_,?_,rfl,hk _ a1 a2 a3⟩;simp only [gM,hl,JF,h1,ob,e,dQ,h2]
 | some p=>
   obtain ⟨i,u⟩:=p;have h2:cK m k=some u:=h2.symm;obtain ⟨b1,_⟩:=h3 i u rfl;obtain ⟨a1,a2,a3⟩:=H.eM hw hl rfl (.map (cg (dh m k v c)) (dQ m k c));refine ⟨rfl,undef,_,?_,rfl,hk _ a1 a2 a3⟩;simp only [gM,hl,JF,h1,ob,b1,dQ,h2,ac3 0 c (show (cK m k).isSome=true by rw [h2];rfl)]
theorem yY {m:bF}{k:List Nat}(h:cK m k=none):fA m k=m:=by
 induction m with
 | nil=>rfl
 | cons e r ih=>
   obtain ⟨x,w,b⟩:=e;simp only [cK] at h
   by_cases hx:x=k
   ·simp [hx] at h
   ·rw [if_neg hx] at h;simp only [fA,if_neg hx,ih h]
theorem DlN.of {K:H->Prop} (hw:Wf h) (hl:h.get l=some (.map (cg m) c)) (hk:∀h',h'.get l=some (.map (cg (fA m k)) c)->Mod h h' [l]->Wf h'->K h'):DlN h .str (.map l) (.str k) K:=by
 obtain ⟨r,h1,h2,h3⟩:=zw m k;cases r with
 | none=>
   have h2:cK m k=none:=h2.symm;refine ⟨rfl,undef,h,?_,rfl,hk h (by rw [yY h2];exact hl) (Mod.refl _ _) hw⟩;simp only [gM,hl,h1,ob]
 | some p=>
   obtain ⟨i,u⟩:=p;obtain ⟨_,b2⟩:=h3 i u rfl;obtain ⟨a1,a2,a3⟩:=H.eM hw hl rfl (.map (cg (fA m k)) c);exact ⟨rfl,undef,_,by simp only [gM,hl,h1,ob,b2],rfl,hk _ a1 a2 a3⟩
theorem dN.nil {K:Prop}(k:K):dN h [] K:=⟨λ_ hp=>(by cases hp),k⟩
theorem dN.cons {q:Q}{v:V}{hi:Nat}{ps:List jH}{K:Prop}(e:q.ask h=some v)(k:dN h ps K):dN h ((q,v,hi)::ps) K:=
 ⟨λp hp=>by rcases List.mem_cons.1 hp with rfl | hp
            ·exact e
            ·exact k.out.1 p hp,k.out.2⟩
theorem dN.load {rd:Rd}{off hi:Nat}{v:V}{ps:List jH}{K:Prop}{vs:List V}{e:TypeId}{fz:Nat}{own:Own}(hl:h.get l=some (.cells vs e fz own))(hv:dI rd vs off=some v)(k:dN h ps K):dN h ((.load rd l off,v,hi)::ps) K:=
 .cons (by simp only [Q.ask,hl,hv]) k
theorem uS.fresh {t:TypeId}{cs:List V}{K:V->Prop} (hl:h.get l=some (.cells cs t 0 .yes)) (hv:wq cs cs=true) (hk:K (.ptr l 0)):uS h (.fresh t cs l 0) K:=⟨_,by simp only [Q.ask,hl,Nat.beq_refl,hv,Bool.and_self,bN],hk⟩
theorem uS.freshS {t:TypeId}{n:Nat}{cs:List V}{K:V->Prop} (hl:h.get l=some (.cells cs t 0 .yes)) (hv:wq cs cs=true) (hk:K (.slice l 0 n (.exact n))):uS h (.freshS t cs n l 0) K:=⟨_,by simp only [Q.ask,hl,Nat.beq_refl,hv,Bool.and_self,bN],hk⟩
theorem SZ:∀b:List Nat,wq (ae b) (ae b)=true
 | []=>rfl
 | x::r=>by
   show (sO _ _&&wq _ _)=true
   rw [SZ r,Bool.and_true];simp [sO,bO,aV]
theorem FbN.of {e:TypeId}{b:List Nat}{cs:List V}{K:Q->V->Prop} (hl:h.get l=some (.cells cs e 0 .marked)) (jQ:cs=ae b) (hb:b.length<=9223372036854775807) (hk:∀v,v = .slice l 0 b.length (.toEnd 1)->K (.freshB e cs b.length l 0) v):FbN h e (.str b) (.ptr l 0) K:=
 ⟨b,cs,l,0,_,rfl,jQ,rfl,hb,by subst jQ;simp only [Q.ask,hl,Nat.beq_refl,SZ,Bool.and_self,bN],hk _ rfl⟩
theorem dN.fresh {t:TypeId}{cs:List V}{hi:Nat}{ps:List jH}{K:Prop}(hl:h.get l=some (.cells cs t 0 .yes))(hv:wq cs cs=true)(k:dN h ps K):dN h ((.fresh t cs l 0,.ptr l 0,hi)::ps) K:=
 .cons (by simp only [Q.ask,hl,Nat.beq_refl,hv,Bool.and_self,bN]) k
end
end Go.Dx
namespace Go.Dx
open Go Go.RowKit
structure fG (m:bF)(c:Nat):Prop where
 keys:(cB m).Nodup
 DV:(m.map λe=>e.2.2).Nodup
 old:∀e,e∈m->e.2.2<c
theorem fG.nil (c:Nat):fG [] c:=⟨by simp [cB],by simp,λ_ h=>by cases h⟩
theorem ki {m:bF}{k:List Nat}{v:V}{c:Nat}:∀{e:List Nat×V×Nat},e∈dh m k v c->e∈m\/e.1=k/\e.2.1=v/\(e.2.2=c/\cK m k=none\/e.2.2∈m.map λe=>e.2.2):=by
 induction m with
 | nil=>intro e h;simp only [dh,List.mem_singleton] at h;subst h;exact .inr ⟨rfl,rfl,.inl ⟨rfl,rfl⟩⟩
 | cons p r ih=>
   obtain ⟨x,w,b⟩:=p;intro e h;simp only [dh] at h
   by_cases hx:x=k
   ·rw [if_pos hx] at h
    rcases List.mem_cons.1 h with rfl | h
    ·exact .inr ⟨rfl,rfl,.inr (by simp)⟩
    ·exact .inl (List.mem_cons_of_mem _ h)
   ·rw [if_neg hx] at h
    rcases List.mem_cons.1 h with rfl | h
    ·exact .inl (List.mem_cons_self ..)
    ·rcases ih h with q | ⟨q1,q2,q⟩
     ·exact .inl (List.mem_cons_of_mem _ q)
     ·refine .inr ⟨q1,q2,?_⟩
      rcases q with ⟨q3,q4⟩ | q
      ·exact .inl ⟨q3,by simp only [cK,if_neg hx];exact q4⟩
      ·exact .inr (by simp only [List.map_cons,List.mem_cons];exact .inr q)
theorem VK (m:bF)(k:List Nat)(v:V)(c:Nat):(dh m k v c).map (λe=>e.2.2)=if k∈cB m then m.map (λe=>e.2.2) else m.map (λe=>e.2.2)++[c]:=by
 induction m with
 | nil=>simp [dh,cB]
 | cons e r ih=>
   obtain ⟨x,w,b⟩:=e;simp only [dh]
   by_cases h:x=k
   ·subst h;simp [cB]
   ·have h':¬k=x:=λe=>h e.symm
    simp only [if_neg h,List.map_cons,ih]
    by_cases h2:k∈cB r
    ·have:k∈cB ((x,w,b)::r):=by simp only [cB,List.map_cons,List.mem_cons];exact .inr h2
     simp [h2,this]
    ·have:¬k∈cB ((x,w,b)::r):=by simp only [cB,List.map_cons,List.mem_cons,h',false_or];exact h2
     simp [h2,this]
theorem fG.set {m:bF}{c:Nat}(h:fG m c)(k:List Nat)(v:V):fG (dh m k v c) (dQ m k c):=by
 have hc:c<=dQ m k c:=by unfold dQ;split<;>omega
 have bA:∀b,b∈m.map (λe=>e.2.2)->b<c:=λb hb=>by
  obtain ⟨e,he,rfl⟩:=List.mem_map.1 hb;exact h.old e he
 refine ⟨VH h.keys k v c,?_,λe he=>?_⟩
 ·rw [VK]
  split
  ·exact h.DV
  ·rw [List.nodup_append]
   exact ⟨h.DV,by simp,λa ha b hb=>by simp at hb;subst hb;have:=bA a ha;omega⟩
 ·rcases ki he with q | ⟨_,_,q | q⟩
  ·have:=h.old e q;omega
  ·have:dQ m k c=c+1:=by unfold dQ;rw [q.2]
   omega
  ·have:=bA _ q;omega
theorem Kz {m:bF}{k:List Nat}{e:List Nat×V×Nat}(h:e∈fA m k):e∈m:=by
 induction m with
 | nil=>cases h
 | cons p r ih=>
   obtain ⟨x,w,b⟩:=p;simp only [fA] at h;split at h
   ·exact List.mem_cons_of_mem _ h
   ·rcases List.mem_cons.1 h with rfl | h
    ·exact List.mem_cons_self ..
    ·exact List.mem_cons_of_mem _ (ih h)
theorem ac4 (m:bF)(k:List Nat):(fA m k).Sublist m:=by
 induction m with
 | nil=>exact .slnil
 | cons p r ih=>
   obtain ⟨x,w,b⟩:=p;simp only [fA];split
   ·exact List.sublist_cons_self _ _
   ·exact ih.cons_cons _
theorem fG.del {m:bF}{c:Nat}(h:fG m c)(k:List Nat):fG (fA m k) c:=
 ⟨VJ h.keys k,h.DV.sublist ((ac4 m k).map _),λe he=>h.old e (Kz he)⟩
def fQ (m:bF)(seen:List Nat):bF:=m.filter λe=>!dp e.2.2 seen
theorem mG {n:Nat}{l:List Nat}:dp n l=true<->n∈l:=by
 induction l with
 | nil=>simp [dp]
 | cons a l ih=>simp only [dp,Bool.or_eq_true,ih,List.mem_cons];simp
theorem Hk (m:bF)(seen:List Nat):Dx.leftOf seen (cg m)=cg (fQ m seen):=by
 induction m with
 | nil=>rfl
 | cons e r ih=>
   obtain ⟨x,w,b⟩:=e;simp only [cg,Dx.leftOf,fQ,List.filter_cons];cases dp b seen with
   | true=>simpa [fQ] using ih
   | false=>simpa [fQ,cg] using ih
theorem Ta {m:bF}{k v:V}{b:Nat}(h:(k,v,b)∈cg m):∃s,k = .str s/\(s,v,b)∈m:=by
 induction m with
 | nil=>cases h
 | cons e r ih=>
   obtain ⟨x,w,b'⟩:=e;rcases List.mem_cons.1 h with e | h
   ·cases e;exact ⟨x,rfl,List.mem_cons_self ..⟩
   ·obtain ⟨s,h1,h2⟩:=ih h;exact ⟨s,h1,List.mem_cons_of_mem _ h2⟩
theorem ac5 {m:bF}(h:cg m=[]):m=[]:=by cases m with | nil=>rfl | cons e r=>cases h
theorem Tb {m:bF}{seen:List Nat}{e:List Nat×V×Nat}(h:e∈fQ m seen):(fQ m (seen++[e.2.2])).length<(fQ m seen).length:=by
 have key:fQ m (seen++[e.2.2])=(fQ m seen).filter λx=>!(x.2.2==e.2.2):=by
  unfold fQ;rw [List.filter_filter];refine List.filter_congr λx _=>?_;have:dp x.2.2 (seen++[e.2.2])=(dp x.2.2 seen||(x.2.2==e.2.2)):=by
   rw [Bool.eq_iff_iff,Bool.or_eq_true,mG,mG,List.mem_append];simp
  rw [this];cases dp x.2.2 seen<;>cases (x.2.2==e.2.2)<;>rfl
 rw [key];exact List.length_filter_lt_length_iff_exists.2 ⟨e,h,by simp⟩
section
variable {h:H} {l mm:Lb} {m:bF} {c:Nat}
theorem EdN.rangeMap {x:X}{tp:T V}{K:V->H->Prop} (hx:x.Vz tp=some (.map mm)) (hw:Wf h) (hm:h.get mm=some (.map (cg m) c)) (hk:∀l h',h'.get l=some (.mapIter (some mm) c [] c)->h.get l=none->Mod h h' []->Wf h'->K (.ptr l 0) h'):EdN (.rangeMap x) tp h K:=by
 obtain ⟨a1,a2,a3,a4⟩:=H.add_mod hw (.mapIter (some mm) c [] c);exact ⟨λtm s=>⟨_,_,by simp only [ED.run,sr s hx,hm],hk _ _ a1 a2 a3 a4⟩⟩
theorem NxW.of {K:V->H->Prop} {since last:Nat} {seen:List Nat} (hw:Wf h) (hl:h.get l=some (.mapIter (some mm) since seen last)) (hm:h.get mm=some (.map (cg m) c)) (hs:since<=last) (hb:∀e,e∈m->e.2.2<since)
  (bq:fQ m seen=[]->K (.tuple [.bool false]) h) (bw:∀k v b,(k,v,b)∈fQ m seen->∀h',h'.get l=some (.mapIter (some mm) since (seen++[b]) c)->Mod h h' [l]->Wf h'->K (.tuple [.bool true,.str k,v]) h'):NxW h (.ptr l 0) K:=by
 refine ⟨l,rfl,.inr ⟨mm,since,seen,last,cg m,c,hl,hm,hs,λk v b hh=>?_,λhh=>?_,λk v b hh=>?_⟩⟩
 ·obtain ⟨s,_,h2⟩:=Ta hh;exact hb _ h2
 ·rw [Hk] at hh;exact bq (ac5 hh)
 ·rw [Hk] at hh
  obtain ⟨s,rfl,h2⟩:=Ta hh;obtain ⟨a1,a2,a3⟩:=H.eM hw hl rfl (.mapIter (some mm) since (seen++[b]) c);exact bw s v b h2 _ a1 a2 a3
theorem KA:∀(l:List Nat) (b:Nat),RS (l++[b])=some b
 | [],b=>rfl
 | [x],b=>rfl
 | x::y::l,b=>by show RS (y::l++[b])=_;exact KA (y::l) b
theorem Zr {m:bF}{k:List Nat}{v:V}{b:Nat}(hn:(m.map λe=>e.2.2).Nodup) (h:(k,v,b)∈m):NH b (cg m)=some (.str k,v):=by
 induction m with
 | nil=>cases h
 | cons e r ih=>
   obtain ⟨x,w,b'⟩:=e;simp only [List.map_cons,List.nodup_cons] at hn;simp only [cg,NH];rcases List.mem_cons.1 h with e | h
   ·cases e;simp
   ·have:b'≠b:=λe=>hn.1 (by rw [e];exact List.mem_map.2 ⟨_,h,rfl⟩)
    rw [show Nat.beq b' b=false from by rw [<-Bool.not_eq_true];exact λe=>this (Nat.eq_of_beq_eq_true e)];exact ih hn.2 h
theorem uS.entry {K:V->Prop} {since:Nat} {seen:List Nat} {k:List Nat} {v:V} {b:Nat} (hl:h.get l=some (.mapIter (some mm) since (seen++[b]) c)) (hm:h.get mm=some (.map (cg m) c)) (ok:fG m c) (gi:(k,v,b)∈m) (hk:K (.tuple [.str k,v])):uS h (.entry l 0) K:=
 ⟨_,by simp only [Q.ask,hl,hm,Nat.beq_refl,Bool.and_self,bN,KA,ob,Zr ok.DV gi],hk⟩
theorem pT {seen:List Nat}{e:List Nat×V×Nat}(h:e∈fQ m seen):e∈m:=(List.mem_filter.1 h).1
theorem Tc (m:bF):(cg m).length=m.length:=by
 induction m with
 | nil=>rfl
 | cons e r ih=>obtain ⟨x,w,b⟩:=e;simp [cg,ih]
theorem uS.mapLen {K:V->Prop} (hm:h.get mm=some (.map (cg m) c)) (hk:∀n:Int,0<=n->n.toNat=m.length->K (.int .i64 n)):uS h (.mapLen (.map mm)) K:=
 ⟨_,by simp only [Q.ask,hm],hk (Int.ofNat (cg m).length) (by simp) (by simp [Tc])⟩
theorem bI.asN {pf:Unit->Program} {size n c':Nat} {v:V} {cs:List V} {K:V->Prop} (s:Sl h size v n cs) (ht:∀c,v = .nilSlice c->n=0->cs=[]->K (.bool true)) (hf:K (.bool false)):bI pf .eql .slice v (.nilSlice c') K:=by
 cases s with
 | nil c=>exact ⟨_,rfl,ht c rfl rfl rfl⟩
 | empty=>exact ⟨_,rfl,hf⟩
 | row hg hr=>exact ⟨_,rfl,hf⟩
end
end Go.Dx
namespace Go.Dx
open Go Go.RowKit
section
variable {h h0:H} {e:TypeId} {size bytes:Nat} {s x v:V} {n m:Nat} {cs new:List V}
theorem vX (z:List V):∀k,(aG z k).length=k*z.length
 | 0=>by simp [aG]
 | k+1=>by simp [aG,vX z k,Nat.add_mul];omega
theorem rN {z:List V}(hz:bd z=true):∀k,bd (aG z k)=true
 | 0=>rfl
 | k+1=>eN hz (rN hz k)
theorem xZ:∀k,aG [.int .u8 0] k=ae (List.replicate k 0)
 | 0=>rfl
 | k+1=>by rw [List.replicate_succ];show _::aG _ k=_::_;rw [xZ k];rfl
theorem AzN.loc {z:List V}{i:Int}{K:V->H->Prop} (a:Loc h0 h s) (o:aE h e size s n cs) (hi:0<=i) (DI:i<=1000000) (hz:z.length=size) (gC:bd z=true) (hby:bytes<=1000) (hb:4*(n+i.toNat)*bytes<=1099511627776) (ft:0<size:=by decide)
  (hk:∀v h',aE h' e size v (n+i.toNat) (cs++aG z i.toNat)->Loc h0 h' v->Mod h h' (af s)->K v h'):AzN h e size bytes z s (.int .i64 i) K:=by
 obtain ⟨q,rfl⟩:=Int.eq_ofNat_of_zero_le hi;have hq:q<=1000000:=by omega
 obtain ⟨v,h',h1,h2⟩:=Hh (K:=K) (m:=q) (new:=aG z q) a.wf o (by rw [vX,hz]) (rN gC q) (by unfold bz;simpa using hb) ft λv h' o' g m' w=>hk v h' (by simpa using o') (a.grow g m' w) m';refine ⟨v,h',?_,h2⟩;show (bN (Nat.ble q 1048576&&Nat.ble (q*bytes) bz) (eH h e size bytes s q (aG z q)))=_
 have h3:q*bytes<=1000000*1000:=Nat.mul_le_mul hq hby
 rw [Nat.ble_eq_true_of_le (show q<=1048576 by omega),Nat.ble_eq_true_of_le (show q*bytes<=bz by unfold bz;omega)];exact h1
theorem KC:∀{vs cs:List V} {a:Nat},takeN a vs=some cs->∀b,b<=a->takeN b vs=some (cs.take b)
 | vs,cs,a,h,0,_=>by simp [takeN]
 | [],cs,0,h,b+1,hb=>by omega
 | [],cs,a+1,h,b+1,hb=>by simp [takeN] at h
 | v::vs,cs,0,h,b+1,hb=>by omega
 | v::vs,cs,a+1,h,b+1,hb=>by
   simp only [takeN,ad] at h;obtain ⟨r,hr,h⟩:=h;cases h;simp only [takeN,KC hr b (by omega),ob];rfl
theorem dm {k:IntKind}{q m:Nat}(h:q<=m):bound (.int k (q:Int)) m=some q:=by
 show bN (Nat.ble q m) (some q)=_
 rw [Nat.ble_eq_true_of_le h];rfl
theorem Km.front {k:IntKind}{i:Int}{K:V->Prop} (r:Ro h size s n cs) (hi:0<=i) (hn:i.toNat<=n) (hk:∀v,Ro h size v i.toNat (cs.take (i.toNat*size))->K v):Km size s none (some (.int k i)) none K:=by
 obtain ⟨q,rfl⟩:=Int.eq_ofNat_of_zero_le hi;have hn:q<=n:=by simpa using hn
 have hk:∀v,Ro h size v q (cs.take (q*size))->K v:=by simpa using hk
 cases r with
 | nil=>
   have:q=0:=by omega
   subst this;exact ⟨.nilSlice 0,rfl,hk _ (by simpa using Ro.nil)⟩
 | @row l off _ cap row _ e fz hg hr hc=>
   have B8:rowFrom row off (q*size)=some (cs.take (q*size)):=KC hr _ (Nat.mul_le_mul_right _ hn);cases cap with
   | exact c=>
     have hc:n<=c:=hc;refine ⟨sliceEnd l off size 0 q c,?_,hk _ ?_⟩
     ·simp only [ez,bD,dm (show q<=c by omega),ob]
     ·have:sliceEnd l off size 0 q c = .slice l off q (.exact c):=by
       unfold sliceEnd;rw [Nat.zero_mul,Nat.add_zero,Nat.sub_zero,Nat.sub_zero];cases Nat.beq c 0<;>rfl
      rw [this];exact .row hg B8 (show q<=c by omega)
   | toEnd es=>
     have hc:es=size:=hc;subst hc;refine ⟨.slice l off q (.toEnd es),?_,hk _ (.row hg B8 rfl)⟩;simp only [ez,bD,dm hn,ob,Nat.beq_refl,bN,Bool.or_true,Nat.zero_mul,Nat.add_zero,Nat.sub_zero]
inductive ac6 (size:Nat):V->Nat->Nat->V->Prop
 | none {s:V} {n:Nat} {v:V}:ac6 size s n n v
 | some {l:Lb} {n i:Nat} {cap MH:Cap} (h:i<n):ac6 size (.slice l 0 n cap) n i (.slice l (i*size) (n - i) MH)
theorem Km.back {k:IntKind}{i:Int}{K:V->Prop} (o:aE h e size s n cs) (hi:0<=i) (hn:i.toNat<=n) (hk:∀v,ac6 size s n i.toNat v->K v):Km size s (some (.int k i)) none none K:=by
 obtain ⟨q,rfl⟩:=Int.eq_ofNat_of_zero_le hi;have hn:q<=n:=by simpa using hn
 have hk:∀v,ac6 size s n q v->K v:=by simpa using hk
 cases o with
 | nil=>
   have:q=0:=by omega
   subst this;exact ⟨.nilSlice 0,rfl,hk _ .none⟩
 | @exact l _ _ hg hl=>
   refine ⟨sliceEnd l 0 size q n n,by simp only [ez,bD,dm hn,ob],hk _ ?_⟩
   by_cases hq:q=n
   ·subst hq;exact .none
   ·have:sliceEnd l 0 size q n n = .slice l (q*size) (n - q) (.exact (n - q)):=by
     unfold sliceEnd;rw [show Nat.beq n q=false from by rw [<-Bool.not_eq_true];exact λe=>hq (Nat.eq_of_beq_eq_true e).symm,Nat.zero_add]
    rw [this];exact .some (by omega)
 | @ends l _ _ hg hl=>
   by_cases hq:q=n
   ·subst hq
    cases h0:(Nat.blt q q||Nat.beq q 0) with
    | true=>exact ⟨.slice l (0+q*size) (q - q) (.toEnd size),by simp only [ez,bD,dm hn,ob,Nat.beq_refl,bN,h0],hk _ .none⟩
    | false=>exact ⟨.empty,by simp only [ez,bD,dm hn,ob,Nat.beq_refl,bN,h0],hk _ .none⟩
   ·refine ⟨.slice l (0+q*size) (n - q) (.toEnd size),?_,hk _ (by rw [Nat.zero_add];exact .some (by omega))⟩
    simp only [ez,bD,dm hn,ob,Nat.beq_refl,bN];rw [show (Nat.blt q n||Nat.beq q 0)=true from by rw [Bool.or_eq_true];left;simpa using (show q<n by omega)]
theorem rO:∀{vs cs:List V} {i:Nat},i+cs.length<=vs.length->aX vs i cs=some (vs.take i++cs++vs.drop (i+cs.length))
 | vs,[],0,_=>by simp [aX]
 | [],c::cs,0,h=>by simp at h
 | v::vs,c::cs,0,h=>by
   have:=rO (vs:=vs) (cs:=cs) (i:=0) (by simpa using h);simp only [aX,this,ob];simp
 | [],cs,i+1,h=>by simp at h
 | v::vs,cs,i+1,h=>by
   have:=rO (vs:=vs) (cs:=cs) (i:=i) (by simp at h;omega);simp only [aX,this,ob];simp [show i+1+cs.length=(i+cs.length)+1 by omega]
theorem CpN.tail {i:Nat}{d:V}{K:V->H->Prop} (a:Loc h0 h s) (o:aE h e size s n cs) (t:ac6 size s n i d) (sl:Sl h size x m new) (hm0:0<m) (hm:i+m<=n) (gC:bd new=true) (h0s:0<size)
  (hk:∀r h',aE h' e size s n (cs.take (i*size)++new++cs.drop (i*size+new.length))->Loc h0 h' s->Mod h h' (af s)->K r h'):CpN h size d x K:=by
 have jQ:=o.sl.len;have uJ:=sl.len;cases t with
 | none=>omega
 | @some l _ _ cap MH bA=>
   have asO:Nat.min m (n - i)=m:=Nat.min_eq_left (by omega);have fh:takeN (m*size) new=some new:=by rw [<-uJ];exact pM new
   cases new with
   | nil=>
     have:m*size=0:=by simpa using uJ.symm
     rcases Nat.mul_eq_zero.1 this with h | h<;>omega
   | cons c r=>
     have uH:i*size+(c::r).length<=cs.length:=by rw [uJ,jQ,<-Nat.add_mul];exact Nat.mul_le_mul_right _ hm
     have zl:∃h',eb h l (i*size) (c::r)=some h'/\h'.get l=some (.cells (cs.take (i*size)++(c::r)++cs.drop (i*size+(c::r).length)) e 0 .yes)/\Mod h h' [l]/\Wf h':=by
      have hg:h.get l=some (.cells cs e 0 .yes):=by cases o<;>assumption
      obtain ⟨b1,b2,b3⟩:=H.eM a.wf hg rfl (.cells (cs.take (i*size)++(c::r)++cs.drop (i*size+(c::r).length)) e 0 .yes);exact ⟨_,by simp only [eb,hg,Own.may,gC,Nat.zero_le,Nat.ble_eq_true_of_le,Bool.and_self,bN,rO uH,ob],b1,b2,b3⟩
     obtain ⟨h',e1,e2,e3,e4⟩:=zl;have hlen:(cs.take (i*size)++(c::r)++cs.drop (i*size+(c::r).length)).length=n*size:=by
      simp only [List.length_append,List.length_take,List.length_drop];omega
     refine ⟨.int .i64 (Int.ofNat m),h',?_,hk _ h' ?_ (a.grow (λl' pn=>.inr pn) e3 e4) e3⟩
     ·simp only [copyV,sl.elems,ob,asO,fh,e1]
     ·cases o with
      | ends hg hl=>exact .ends e2 hlen
      | exact hg hl=>exact .exact e2 hlen
end
end Go.Dx
