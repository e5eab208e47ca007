/-
  The sequencer's laws. Part ZAO of the proof: A region whose order is open: what comes ahead of what; stages.
-/
import Derived.Test.YteajeefphbjnmaaGreatDoorZAN
namespace Go.Dx
open Go Go.RowKit
theorem xY {acc:List Nat}{i:Nat}:∀{es:List Edge} {e:Edge},e∈es->Region.binds .any e=true->(i=e.on\/((acc[e.on]?).getD 0).testBit i=true)->(mR acc es).testBit i=true
 | e'::es,e,hm,hb,h=>by
   simp only [mR];show (Nat.lor _ _).testBit i=true
   have ho:∀a b:Nat,(Nat.lor a b).testBit i=(a.testBit i||b.testBit i):=λa b=>Nat.testBit_or a b i;rw [ho];rcases List.mem_cons.1 hm with rfl | hm
   ·rw [hb]
    simp only [ho,Bool.or_eq_true]
    left
    rcases h with rfl | h
    ·left
     show (1 <<<e.on).testBit e.on=true
     simp
    ·exact .inr h
   ·rw [xY hm hb h,Bool.or_true]
theorem dT {ops:Array Oper}(hE:dk ops=true){j:Nat}{o:Oper}(ho:ops[j]? =some o){e:Edge}(he:e∈o.after)(hb:Region.binds .any e=true):
  jl (bh ops.toList []) e.on j/\∀i,jl (bh ops.toList []) i e.on->jl (bh ops.toList []) i j:=by
 have bA:=s8 hE ho he hb;obtain ⟨acc,h1,h2,h3⟩:=FH ops.toList [] j o (by simpa using ho);simp only [List.length_nil,Nat.zero_add] at h1 h2;have It:e∈o.after.toList:=by simpa using he
 have key:∀i,(i=e.on\/((acc[e.on]?).getD 0).testBit i=true)->jl (bh ops.toList []) i j:=λi hi=>by
  unfold jl;rw [h1,Option.getD_some];exact xY It hb hi
 refine ⟨key _ (.inl rfl),λi hi=>key i (.inr ?_)⟩;rw [h3 e.on (by omega)];exact hi
theorem rL {ops:Array Oper}(hE:dk ops=true){a b:Nat}:∀c,jl (bh ops.toList []) a b->jl (bh ops.toList []) b c->jl (bh ops.toList []) a c:=by
 intro c;induction c using Nat.strongRecOn with
 | ind c ih=>
   intro Pp hbc;obtain ⟨o,ho,e,he,hb,h⟩:=mB hbc;have bA:=s8 hE ho he hb;obtain ⟨k1,k2⟩:=dT hE ho he hb;rcases h with rfl | h
   ·exact k2 a Pp
   ·exact k2 a (ih e.on bA Pp h)
def Aj (ops:Array Oper)(j:Nat):Nat->Bool:=λi=>(((bh ops.toList [])[j]?).getD 0).testBit i
section
variable {C:CE} {ops:Array Oper} {l:List DO} {tm0:T V} {v:Nat->V} {S:Nat->Bool}
theorem Zn (hE:dk ops=true)(j:Nat):gd ops (λi=>Aj ops j i=true):=λ_i _o ho hi _e he hb=>
 rL hE j (dT hE ho he hb).1 hi
theorem uU (F:qn C ops l)(hS:gd ops (λi=>S i=true)) {j:Nat} {o:Oper} (ho:ops[j]? =some o) (hj:S j=false) (gh:∀e∈o.after,Region.binds .any e=true->S e.on=true)
  {t:Nat} (ht:t<C.n) (SF:t∈o.looksAt ops):bS (mask l tm0 v S ops.size) (pathOf t)=bS (mask l tm0 v (Aj ops j) ops.size) (pathOf t):=by
 rw [Ca F hS ho hj gh ht SF];refine (Ca F (Zn F.ei j) ho ?_ (λe he hb=>(dT F.ei ho he hb).1) ht SF).symm;cases h:Aj ops j j with
 | false=>rfl
 | true=>have:=xR F.ei j j h;omega
def ix (ops:Array Oper)(l:List DO)(n:Nat)(j:Nat):Nat:=nZ (λe=>(((bh ops.toList [])[j]?).getD 0).testBit e) (aB l n)
def afZ (ops:Array Oper)(l:List DO)(n:Nat)(j:Nat):Nat:=nZ (λe=>!(((bh ops.toList [])[e]?).getD 0).testBit j) (aB l n)
theorem XU (hE:dk ops=true){n i j:Nat}(h:jl (bh ops.toList []) i j):ix ops l n i<=ix ops l n j:=by
 unfold ix;rw [eG,eG];exact List.countP_mono_left λe _ he=>rL hE j he h
theorem FQ {p q:Nat->Bool} {x:Nat}:∀{l:List Nat},x∈l->q x=true->p x=false->(∀y∈l,p y=true->q y=true)->l.countP p+1<=l.countP q
 | y::l,hm,hq,hp,hpq=>by
   rw [List.countP_cons,List.countP_cons];rcases List.mem_cons.1 hm with rfl | hm
   ·have:=List.countP_mono_left (l:=l) (p:=p) (q:=q) λy hy=>hpq y (List.mem_cons_of_mem _ hy)
    simp [hq,hp];omega
   ·have ih:=FQ hm hq hp λy hy=>hpq y (List.mem_cons_of_mem _ hy)
    have h1:=hpq y (List.mem_cons_self ..);cases hy:p y with
    | true=>simp [h1 hy];omega
    | false=>simp;omega
theorem P4 (hE:dk ops=true){n i j:Nat}(hi:i∈aB l n)(h:jl (bh ops.toList []) i j):ix ops l n i+1<=ix ops l n j:=by
 unfold ix;rw [eG,eG];refine FQ hi h ?_ λe _ he=>rL hE j he h;cases hb:(((bh ops.toList [])[i]?).getD 0).testBit i with
 | false=>rfl
 | true=>have:=xR hE i i hb;omega
theorem lo_le (hE:dk ops=true){n j:Nat}(hS:gd ops (λi=>S i=true)) (hj:S j=true):ix ops l n j<=(aB l n).countP S:=by
 unfold ix;rw [eG];exact List.countP_mono_left λe _ he=>db hE hS j e he hj
theorem ahO (hE:dk ops=true){n j:Nat}(hS:gd ops (λi=>S i=true)) (hj:S j=true) (he:j∈aB l n):ix ops l n j+1<=(aB l n).countP S:=by
 unfold ix;rw [eG];refine FQ he hj ?_ λe _ he=>db hE hS j e he hj;cases hb:(((bh ops.toList [])[j]?).getD 0).testBit j with
 | false=>rfl
 | true=>have:=xR hE j j hb;omega
theorem SU (hE:dk ops=true){n j:Nat}{o:Oper}(ho:ops[j]? =some o)(hS:gd ops (λi=>S i=true)) (gh:∀e∈o.after,Region.binds .any e=true->S e.on=true):ix ops l n j<=(aB l n).countP S:=by
 unfold ix;rw [eG];refine List.countP_mono_left λe _ he=>?_;obtain ⟨o',oe,e',It,hb,h'⟩:=mB (i:=e) (j:=j) he;rw [ho] at oe;cases oe;have hs:=gh e' It hb;rcases h' with rfl | h'
 ·exact hs
 ·exact db hE hS e'.on e h' hs
theorem anI (hE:dk ops=true){n j:Nat}(hS:gd ops (λi=>S i=true)) (hj:S j=false):(aB l n).countP S<=afZ ops l n j:=by
 unfold afZ;rw [eG];refine List.countP_mono_left λe _ he=>?_;cases hb:(((bh ops.toList [])[e]?).getD 0).testBit j with
 | false=>rfl
 | true=>have:=db hE hS e j hb he;rw [hj] at this;cases this
theorem zu {n i j:Nat}(hc:jC (bh ops.toList []) (aB l n)=true)(hE:dk ops=true)(hi:i∈aB l n)(hj:j∈aB l n)(zO:i<j):jl (bh ops.toList []) i j:=by
 have h:=pr (S:=λk=>k=j\/jl (bh ops.toList []) k j) hE (λk o ho hk e he hb=>by
  rcases hk with rfl | hk
  ·exact .inr (dT hE ho he hb).1
  ·exact .inr (rL hE j (dT hE ho he hb).1 hk)) hc
 rcases px (jo _ _) h i hi j hj zO (.inl rfl) with e | e
 ·omega
 ·exact e
theorem Zo {n j:Nat}{o:Oper}(hc:jC (bh ops.toList []) (aB l n)=true)(hE:dk ops=true)(hS:gd ops (λi=>S i=true)) (he:j∈aB l n) (hj:S j=false) (ho:ops[j]? =some o)
  (gh:∀e∈o.after,Region.binds .any e=true->S e.on=true):ix ops l n j=(aB l n).countP S:=by
 refine Nat.le_antisymm (SU hE ho hS gh) ?_;unfold ix;rw [eG];refine List.countP_mono_left λe Ze hs=>?_;rcases Nat.lt_trichotomy e j with h | h | h
 ·exact zu hc hE Ze he h
 ·subst h;rw [hj] at hs;cases hs
 ·have:=db hE hS e j (zu hc hE he Ze h) hs
  rw [hj] at this;cases this
theorem Kv {n i j:Nat}(hc:jC (bh ops.toList []) (aB l n)=true)(hE:dk ops=true)(hi:i∈aB l n)(hj:j∈aB l n)(h:ix ops l n i=ix ops l n j):i=j:=by
 rcases Nat.lt_trichotomy i j with bA | e | bA
 ·have:=P4 (l:=l) hE hi (zu hc hE hi hj bA);omega
 ·exact e
 ·have:=P4 (l:=l) hE hj (zu hc hE hj hi bA);omega
theorem af0 {n j:Nat}(he:j∈aB l n)(hj:S j=false):(aB l n).countP (λi=>S i||i==j)=(aB l n).countP S+1:=by
 have hs:=jo (bu l n true).1 0;unfold aB at*;generalize ku (bu l n true).1 0=L at*;induction L with
 | nil=>cases he
 | cons x L ih=>
   rw [List.pairwise_cons] at hs;rw [List.countP_cons,List.countP_cons];rcases List.mem_cons.1 he with rfl | he
   ·have:L.countP (λi=>S i||i==j)=L.countP S:=List.countP_congr λy hy=>by
     have:=hs.1 y hy;have:(y==j)=false:=by simp;omega
     simp [this]
    simp [this,hj]
   ·have:=hs.1 j he
    have dj:(x==j)=false:=by simp;omega
    rw [ih he hs.2];simp only [dj,Bool.or_false];omega
theorem af1 {n j:Nat}(he:¬j∈aB l n):(aB l n).countP (λi=>S i||i==j)=(aB l n).countP S:=
 List.countP_congr λy hy=>by
  have:(y==j)=false:=by simp;rintro rfl;exact he hy
  simp [this]
end
end Go.Dx
namespace Go.Dx
open Go Go.RowKit
theorem gU.put {a:A}{tm:T V}(s:gU a.tmps tm)(d:Option Lb)(u:V):gU (a.put d u).tmps (BV tm d u):=by
 cases d with
 | none=>exact s
 | some p=>exact s.set p u
theorem gU.congr {tp tm tm':T V}(s:gU tp tm)(h:∀q,bS tm q=bS tm' q):gU tp tm':=λp v e=>by rw [<-h];exact s p v e
def Es (ops:Array Oper)(l:List DO)(n k i j:Nat):Bool:=match (aB l n).contains j with
 | true=>decide (ix ops l n j<k)
 | false=>decide (ix ops l n j<k)||(decide (ix ops l n j=k)&&decide (j<i))
section
variable {pf:Unit->Program} {G n:Nat} {ops:Array Oper} {l:List DO} {tm0:T V} {v:Nat->V}
theorem om {k i j:Nat}:Es ops l n k i j=true<->ix ops l n j<k\/(¬j∈aB l n/\ix ops l n j=k/\j<i):=by
 unfold Es;cases hc:(aB l n).contains j with
 | true=>have:j∈aB l n:=by simpa using hc
         simp [this]
 | false=>have:¬j∈aB l n:=by simpa using hc
          simp [this]
theorem Kx (hE:dk ops=true){k i j e:Nat}(ha:jl (bh ops.toList []) e j)(hj:Es ops l n k i j=true\/(ix ops l n j=k/\j<=i)):Es ops l n k i e=true:=by
 have bA:=xR hE j e ha;have h1:=XU (l:=l) (n:=n) hE ha;rw [om] at hj ⊢
 by_cases hc:e∈aB l n
 ·have h2:=P4 (l:=l) (n:=n) hE hc ha
  omega
 ·rcases hj with (hj | ⟨_,hj⟩) | hj
  ·omega
  ·by_cases h:ix ops l n e<k
   ·exact .inl h
   ·exact .inr ⟨hc,by omega,by omega⟩
  ·by_cases h:ix ops l n e<k
   ·exact .inl h
   ·exact .inr ⟨hc,by omega,by omega⟩
theorem zv (hE:dk ops=true)(k i:Nat):gd ops (λj=>Es ops l n k i j=true):=λ_j _o ho hj _e he hb=>
 Kx hE (dT hE ho he hb).1 (.inl hj)
theorem acY (hE:dk ops=true){j:Nat}{o:Oper}(ho:ops[j]? =some o):∀e∈o.after,Region.binds .any e=true->Es ops l n (ix ops l n j) j e.on=true:=λ_e he hb=>
 Kx hE (dT hE ho he hb).1 (.inr ⟨rfl,Nat.le_refl _⟩)
theorem acZ (F:qn ⟨pf (),G,n⟩ ops l){j:Nat}{o:Oper}(ho:ops[j]? =some o):∃d0,l[j]? =some d0/\gK ⟨pf (),G,n⟩ ops o=some d0/\(tagged ops l n)[j]? =some (DL (Fb l true j) d0 (n+cj l true j),ix ops l n j,afZ ops l n j):=by
 obtain ⟨d0,sq,hc⟩:=(cN F.comp j).1 o (by simpa using ho);have hd:=jS (k:=n) (q:=true) sq;have Vn:=(uO (ah:=bh ops.toList []) (effs:=aB l n) (k:=0)).2 ⟨hd,rfl,rfl⟩;rw [Nat.zero_add] at Vn;exact ⟨d0,sq,hc,Vn⟩
theorem rM (F:qn ⟨pf (),G,n⟩ ops l){j:Nat}{d:DO}{lo hi:Nat}(h:(tagged ops l n)[j]? =some (d,lo,hi)):∃o d0,ops[j]? =some o/\l[j]? =some d0/\gK ⟨pf (),G,n⟩ ops o=some d0/\d=DL (Fb l true j) d0 (n+cj l true j)/\lo=ix ops l n j/\hi=afZ ops l n j/\(bQ d=true<->j∈aB l n):=by
 have bA:j<ops.size:=by
  have:=(List.getElem?_eq_some_iff.1 h).1;unfold tagged at this;rw [eY,eh] at this;have h2:=(cN F.comp 0).2;rw [h2] at this;simpa using this
 obtain ⟨d0,h1,h2,h3⟩:=acZ F (j:=j) (o:=ops[j]) (by simp [bA]);rw [h] at h3;cases h3;refine ⟨ops[j],d0,by simp [bA],h1,h2,rfl,rfl,rfl,?_⟩;have hd:=jS (k:=n) (q:=true) h1;unfold aB;rw [jK];constructor
 ·intro he;exact ⟨j,_,hd,he,by omega⟩
 ·rintro ⟨p,q,e1,e2,e3⟩
  have:p=j:=by omega
  subst this;rw [hd] at e1;cases e1;exact e2
theorem NF.same (_F:qn ⟨pf (),G,n⟩ ops l){j:Nat}{o:Oper}{d0:DO}(_ho:ops[j]? =some o)(hc:gK ⟨pf (),G,n⟩ ops o=some d0){q:Bool}{m:Nat}{t1 t2:T V}(HH:∀t,t<n->t∈o.looksAt ops->bS t1 (pathOf t)=bS t2 (pathOf t)) (Hs:bS t1 (pathOf m)=bS t2 (pathOf m))
  {u:V} {hi k:Nat} {hk:H} {ps:List jH} (h:NF (dz (pf ())) t1 (DL q d0 m) u hi k hk ps):NF (dz (pf ())) t2 (DL q d0 m) u hi k hk ps:=by
 have Hb:=hc;simp only [gK,ad,Option.some.injEq] at Hb;obtain ⟨dst,hcd,g,hg,sq⟩:=Hb;have hw:dS t1 (DL q d0 m).guard=dS t2 (DL q d0 m).guard:=by
  rw [(ig _ _ _).2,show d0.guard=g from by rw [<-sq]];exact uQ (C:=⟨pf (),G,n⟩) hg HH
 have ik:d0.op=(aj ⟨pf (),G,n⟩ o.op).getD .stuck:=by rw [<-sq]
 rcases h with ⟨a,b⟩ | ⟨a,b⟩
 ·exact .inl ⟨hw▸a,b⟩
 ·refine .inr ⟨hw▸a,?_⟩
  cases lK:aj ⟨pf (),G,n⟩ o.op with
  | none=>
    rw [lK,Option.getD_none] at ik;have:(DL q d0 m).op = .stuck:=by
     have:cu q d0=false:=by obtain ⟨a1,a2,a3⟩:=d0;simp only at ik;subst ik;rfl
     rw [nu this];exact ik
    rw [this] at b;exact b.elim
  | some p=>
    rw [lK,Option.getD_some] at ik;have same:=IF (E:=dz (pf ())) (tm:=t1) (tm':=t2) lK λy hy=>s6 λt ht bA=>HH t bA (pP (by rw [<-ht];exact hy));cases ha:cu q d0 with
    | false=>
      rw [nu ha] at b ⊢;rw [ik] at b ⊢;cases p with
      | Rm x=>have same:x.ev t1=x.ev t2:=same;simp only at b ⊢;rw [<-same];exact b
      | p w=>have same:w.eval _ t1=w.eval _ t2:=same;simp only at b ⊢;rw [<-same];exact b
      | r w=>have same:w.oO t1=w.oO t2:=same;simp only at b ⊢;rw [<-same];exact b
      | e w=>exact b.elim
      | c w=>exact b.elim
      | defer w=>exact b.elim
      | stuck=>exact b.elim
    | true=>
      obtain ⟨a1,a2,a3⟩:=d0;simp only at ik;subst ik;cases a2 with
      | e w=>
        cases w with
        | alloc t cs=>
          obtain ⟨Q,h1,h2⟩:=b;refine ⟨Q,?_,h2⟩;simp only [RD.oO,X.ev] at h1 ⊢;rw [<-Hs];exact h1
        | cI t cs s=>
          obtain ⟨Q,h1,h2⟩:=b;refine ⟨Q,?_,h2⟩;simp only [RD.oO,X.ev] at h1 ⊢;rw [<-Hs];exact h1
        | cY e x=>
          have hq:q=true:=ha;subst hq;obtain ⟨Q,h1,h2⟩:=b;refine ⟨Q,?_,h2⟩;have same:∀h,(ED.cY e x).run t1 h=(ED.cY e x).run t2 h:=same;have hx:x.ev t1=x.ev t2:=by
           have s0:=same ⟨.leaf,[]⟩;simp only [ED.run] at s0;simp only [RD.oO] at h1;split at h1
           ·rename_i b1 e1
            rw [e1] at s0 ⊢;simp only [ag] at h1;simp only [h1.1,bN] at s0;split at s0
            ·rename_i b2 e2
             rw [e2];cases hb:Nat.ble b2.length 9223372036854775807 with
             | false=>rw [hb] at s0;cases s0
             | true=>
               rw [hb] at s0;simp only [Option.some.injEq,Prod.mk.injEq] at s0;obtain ⟨_,s1⟩:=s0;have:=congrArg (λh:H=>h.get []) s1;simp only [H.get,H.add,T.bg,Option.some.injEq,Dx.Obj.cells.injEq] at this;have inj:∀{a b:List Nat},ae a=ae b->a=b:=λ{a}=>by
                induction a with
                | nil=>intro b h;cases b with | nil=>rfl | cons y b=>simp [ae] at h
                | cons x a ih=>intro b h;cases b with | nil=>simp [ae] at h | cons y b=>simp [ae] at h;rw [Int.ofNat.inj h.1,ih h.2]
               rw [inj this.1]
            ·cases s0
           ·cases h1
          simp only [RD.oO] at h1 ⊢;rw [<-hx];simp only [X.ev] at h1 ⊢;rw [<-Hs];exact h1
        | _=>cases ha
      | _=>cases ha
theorem pS (F:qn ⟨pf (),G,n⟩ ops l){S:Nat->Bool} {s:Nat} (hs:n+s<2 ^ 64):∀i,bS (mask l tm0 v S i) (pathOf (n+s))=bS tm0 (pathOf (n+s))
 | 0=>rfl
 | i+1=>by
   rw [iI,if_neg,pS F hs i];rintro ⟨_,h2⟩;obtain ⟨o,t,_,_,hq,ht⟩:=FI F.comp h2;have qY:n<=65536:=F.small;have ht:t<n:=ht;have:=eX (by omega) (by omega) hq;omega
def ac0 (ops:Array Oper)(l:List DO)(tm0:T V)(k:Nat)(h:H)(K:A->List jH->Prop) (i:Nat) (a:A) (ps:List jH) (v:Nat->V):Prop:=
 ∃v' a' PS,K a' PS/\(∀j,(j<i\/j∈aB l n\/ix ops l n j≠k)->v' j=v j)/\gU a'.tmps (mask l tm0 v' (Es ops l n k ops.size) ops.size)/\a'.defers=a.defers/\(∀p,p∈ps->p∈PS)/\
   (∀j d lo hi,i<=j->(tagged ops l n)[j]? =some (d,lo,hi)->bQ d=false->lo=k->NF (dz (pf ())) (mask l tm0 v' (Aj ops j) ops.size) d (v' j) hi k h PS)
theorem ta:∀(l:List DO) (q:Bool) (j:Nat),cj l q j<=l.length
 | [],_,0=>Nat.le_refl _
 | _::_,_,0=>Nat.zero_le _
 | [],_,_+1=>Nat.zero_le _
 | d::r,q,j+1=>by
   have:=ta r (s9 q d) j;simp only [cj,List.length_cons];split<;>omega
theorem P5 (F:qn ⟨pf (),G,n⟩ ops l){k:Nat}{h:H}{K:A->List jH->Prop}:∀(r:List (DO×Nat×Nat)) (i:Nat) {a:A} {ps:List jH} {v:Nat->V},(∀m,r[m]? =(tagged ops l n)[i+m]?)->i+r.length=ops.size->gU a.tmps (mask l tm0 v (Es ops l n k i) ops.size)->ops.size<=65536->
  ME pf k r a h ps K->ac0 (pf:=pf) (n:=n) ops l tm0 k h K i a ps v
 | [],i,a,ps,v,hr,hi,hs,ft,hk=>by
   have:i=ops.size:=by simpa using hi
   subst this;refine ⟨v,a,ps,hk,λ_ _=>rfl,hs,rfl,λ_ h=>h,λj d lo hi hj ht=>?_⟩;have:=(List.getElem?_eq_some_iff.1 ht).1;unfold tagged at this;rw [eY,eh,(cN F.comp 0).2] at this;simp at this;omega
 | (d,lo,hi)::r,i,a,ps,v,hr,ja,hs,ft,hk=>by
   simp only [List.length_cons] at ja;have h0:(tagged ops l n)[i]? =some (d,lo,hi):=by have:=hr 0;simpa using this.symm
   obtain ⟨o,d0,ho,sq,hc,xP,IB,HP,hef⟩:=rM F h0;have B8:∀m,r[m]? =(tagged ops l n)[i+1+m]?:=λm=>by have:=hr (m+1);rw [show i+1+m=i+(m+1) by omega];simpa using this
   simp only [ME] at hk;split at hk
   ·rename_i hb
    have bq:i∈aB l n\/ix ops l n i≠k:=by
     simp only [Bool.and_eq_false_iff,Bool.not_eq_false'] at hb;rcases hb with hb | hb
     ·exact .inl (hef.1 hb)
     ·right;intro e
      rw [IB,e,Nat.beq_refl] at hb;cases hb
    have e1:mask l tm0 v (Es ops l n k (i+1)) ops.size=mask l tm0 v (Es ops l n k i) ops.size:=mC ops.size λj hj=>by
     rw [Bool.eq_iff_iff,om,om]
     by_cases e:j=i
     ·subst e;rcases bq with bq | bq<;>simp [bq]
     ·constructor
      ·rintro (q | ⟨q1,q2,q3⟩)
       ·exact .inl q
       ·exact .inr ⟨q1,q2,by omega⟩
      ·rintro (q | ⟨q1,q2,q3⟩)
       ·exact .inl q
       ·exact .inr ⟨q1,q2,by omega⟩
    obtain ⟨v',a',PS,q1,q2,q3,q4,q5,q6⟩:=P5 F r (i+1) B8 (by omega) (by rw [e1];exact hs) ft hk;refine ⟨v',a',PS,q1,λj hj=>?_,q3,q4,q5,λj d' Md ja hj ht It Za=>?_⟩
    ·rcases hj with hj | hj | hj
     ·exact q2 j (.inl (by omega))
     ·exact q2 j (.inr (.inl hj))
     ·exact q2 j (.inr (.inr hj))
    ·by_cases e:j=i
     ·subst e
      rw [h0] at ht;cases ht;exfalso;rcases bq with bq | bq
      ·rw [hef.2 bq] at It;cases It
      ·omega
     ·exact q6 j d' Md ja (by omega) ht It Za
   ·rename_i hb
    simp only [Bool.and_eq_true,Bool.not_eq_true'] at hb;obtain ⟨he,hbk⟩:=hb;have O8:ix ops l n i=k:=by rw [<-IB];exact Nat.eq_of_beq_eq_true hbk
    have dj:¬i∈aB l n:=λhm=>by rw [hef.2 hm] at he;cases he
    have dG:Es ops l n k i i=false:=by
     cases hh:Es ops l n k i i with
     | false=>rfl
     | true=>rw [om] at hh;omega
    have kG:d.dst=d0.dst:=by rw [xP];exact (ig _ _ _).1
    have qY:n<=65536:=F.small;have axY:n+cj l true i<=131072:=by
     have h1:=ij l n true;have h2:l.length=ops.size:=by have:=(cN F.comp 0).2;simpa using this
     have:=ta l true i;omega
    have step:∀{u:V} {ps1:List jH},(∀p,p∈ps->p∈ps1)->(∀PS,(∀p,p∈ps1->p∈PS)->NF (dz (pf ())) (mask l tm0 v (Es ops l n k i) ops.size) d u hi k h PS)->ME pf k r (a.put d.dst u) h ps1 K->
      ac0 (pf:=pf) (n:=n) ops l tm0 k h K i a ps v:=λ{u ps1} hps hnf G6=>by
     have MG:∀S:Nat->Bool,S i=false->mask l tm0 (λj=>if j=i then u else v j) S ops.size=mask l tm0 v S ops.size:=λS hS=>
      iJ ops.size λj _ hj=>by
       have:j≠i:=λe=>by rw [e,hS] at hj;cases hj
       simp [this]
     have Ky:gU (a.put d.dst u).tmps (mask l tm0 (λj=>if j=i then u else v j) (Es ops l n k (i+1)) ops.size):=by
      have e1:mask l tm0 (λj=>if j=i then u else v j) (Es ops l n k (i+1)) ops.size=mask l tm0 (λj=>if j=i then u else v j) (λj=>Es ops l n k i j||j==i) ops.size:=by
       refine mC ops.size λj hj=>?_;rw [Bool.eq_iff_iff,Bool.or_eq_true,om,om,beq_iff_eq]
       by_cases e:j=i
       ·subst e;simp [dj,O8]
       ·constructor
        ·rintro (q | ⟨q1,q2,q3⟩)
         ·exact .inl (.inl q)
         ·exact .inl (.inr ⟨q1,q2,by omega⟩)
        ·rintro ((q | ⟨q1,q2,q3⟩) | q)
         ·exact .inl q
         ·exact .inr ⟨q1,q2,by omega⟩
         ·exact absurd q e
      rw [e1];refine (hs.put d.dst u).congr λq=>?_;rw [xS F (zv F.ei k i) ho dG q,MG _ dG,sq];simp [kG]
     obtain ⟨v',a',PS,q1,q2,q3,q4,q5,q6⟩:=P5 F r (i+1) B8 (by omega) Ky ft G6;have hvi:v' i=u:=by have:=q2 i (.inl (by omega));simpa using this
     refine ⟨v',a',PS,q1,λj hj=>?_,q3,?_,λp hp=>q5 p (hps p hp),λj d' Md ja hj ht It Za=>?_⟩
     ·have Ny:j≠i:=λe=>by
       subst e;rcases hj with hj | hj | hj
       ·omega
       ·exact dj hj
       ·exact hj O8
      have:=q2 j (hj.imp (λh=>Nat.lt_succ_of_lt h) id);simpa [Ny] using this
     ·rw [q4];exact (jk _ _ _).2
     ·by_cases e:j=i
      ·subst e
       rw [h0] at ht;cases ht;rw [hvi];have:=hnf PS q5;rw [xP] at this ⊢;refine NF.same F ho hc (λt ht hl=>?_) ?_ this
       ·have e2:mask l tm0 v' (Aj ops j) ops.size=mask l tm0 v (Aj ops j) ops.size:=iJ ops.size λj2 _ Ji=>by
         have bA:=xR F.ei j j2 Ji;have:=q2 j2 (.inl (by omega));rw [this];simp [show j2≠j by omega]
        rw [e2];have uI:=acY (l:=l) (n:=n) F.ei ho;rw [O8] at uI;exact uU F (zv F.ei k j) ho dG uI ht hl
       ·rw [pS F (by omega),pS F (by omega)]
      ·exact q6 j d' Md ja (by omega) ht It Za
    have hw0:∀{u:V},dS (mask l tm0 v (Es ops l n k i) ops.size) d.guard=true->acX pf d a h (λv q=>ME pf k r (a.put d.dst v) h (P3 q v hi ps) K)->ac0 (pf:=pf) (n:=n) ops l tm0 k h K i a ps v:=λ{_} hw G6=>by
     obtain ⟨u,q,k1,k2⟩:=afY hs hw G6;refine step (u:=u) (ps1:=P3 q u hi ps) (λp hp=>?_) (λPS hp=>k2 k hi PS λQ hQ=>hp _ (by subst hQ;exact List.mem_cons_self ..)) k1;cases q with
     | none=>exact hp
     | some q=>exact List.mem_cons_of_mem _ hp
    split at hk
    ·rename_i hg
     exact hw0 (u:=undef) (by rw [hg];rfl) hk
    ·rename_i p want hg
     have hk:=(bf hs hk).1;split at hk
     ·rename_i b e
      have e:bS (mask l tm0 v (Es ops l n k i) ops.size) p = .bool b:=e;have YM:=Ku (want:=want) e;split at hk
      ·rename_i Y9
       exact hw0 (u:=undef) (by rw [hg,YM];exact Y9) hk
      ·rename_i Y9
       exact step (u:=undef) (ps1:=ps) (λ_ h=>h) (λPS _=>.inl ⟨by rw [hg,YM];exact Y9,rfl⟩) hk
     ·rename_i c e
      have e:bS (mask l tm0 v (Es ops l n k i) ops.size) p = .tuple c:=e;exact step (u:=undef) (ps1:=ps) (λ_ h=>h) (λPS _=>.inl ⟨by rw [hg];simp only [dS,e],rfl⟩) hk
     ·exact hk.elim
end
end Go.Dx
namespace Go.Dx
open Go Go.RowKit
def af2 (P:Program)(n:Nat)(ops:Array Oper)(l:List DO)(ds:List (FuncId×List V))(G:Nat)(h h0:H)(tm0:T V)(v:Nat->V) (hk:H) (B:Nat) (w0:World) (ρ0:bE) (S:Nat->Bool) (x:Act) (w:World):Prop:=
 ∃ρ,(∀m,val m<val h.next->ρ m=ρ0 m)/\aA B w0 ρ hk w/\val h0.next<=val hk.next/\
  (∀i d L,l[i]? =some d->cu (Fb l true i) d=true->S i=false->val L=val h.next+cj l true i->ρ L=none)/\iU ρ n (mask l tm0 v S ops.size) x.tmps/\vV ρ ds x.defers/\GB P B w0 ρ G
section
variable {P:Program} {G n:Nat} {ops:Array Oper} {l:List DO} {tm0:T V} {v:Nat->V} {h h0 hk:H} {ds:List (FuncId×List V)} {B:Nat} {w0:World} {ρ0:bE}
theorem anJ (F:qn ⟨P,G,n⟩ ops l)(ft:ops.size<=65536)(xT:∀p,p<(bu l n true).2.length->∃L,val L=val h.next+p/\bS tm0 (pathOf (n+p)) = .ptr L 0) (next:val h0.next=val h.next+(bu l n true).2.length)
  {S:Nat->Bool} {x:Act} {w:World} (sL:gd ops (λi=>S i=true)) (inv:af2 P n ops l ds G h h0 tm0 v hk B w0 ρ0 S x w) {j:Nat} {o:Oper} (ho:ops[j]? =some o) (hj:S j=false)
  (gh:∀e∈o.after,Region.binds .any e=true->S e.on=true) {d:DO} {lo hi k:Nat} {ps:List jH} (htg:(tagged ops l n)[j]? =some (d,lo,hi)) (_aAA:bQ d=false) (khi:k<=hi)
  (fact:NF (dz P) (mask l tm0 v (Aj ops j) ops.size) d (v j) hi k hk ps) {K:Act->World->Prop} {Q:Exit->Act->World->Prop} (hK:∀x' w',af2 P n ops l ds G h h0 tm0 v hk B w0 ρ0 (λi=>S i||i==j) x' w'->K x' w'):wpOp P ops Q j K x w:=by
 have hjs:j<ops.size:=(Array.getElem?_eq_some_iff.1 ho).1;have hll:l.length=ops.size:=by have:=(cN F.comp 0).2;simpa using this
 obtain ⟨ρ,i1,i2,i3,i4,i5,i6,i7⟩:=inv;obtain ⟨o',d0,oe,sq,hc,xP,_,_,_⟩:=rM (pf:=λ_=>P) F htg;rw [ho] at oe;cases oe;have xP:=xP.symm;have kG:d.dst=d0.dst:=by rw [<-xP];exact (ig _ _ _).1
 have ai5:d.guard=d0.guard:=by rw [<-xP];exact (ig _ _ _).2
 have agree:∀t,t<n->t∈o.looksAt ops->bS (mask l tm0 v S ops.size) (pathOf t)=bS (mask l tm0 v (Aj ops j) ops.size) (pathOf t):=λt ht hl=>uU F sL ho hj gh ht hl;have Hb:=hc;simp only [gK,ad,Option.some.injEq] at Hb;obtain ⟨dst,hcd,g,hg,Kc⟩:=Hb;have hg0:d0.guard=g:=by rw [<-Kc]
 have SG:d0.dst=dst:=by rw [<-Kc]
 have ik:d0.op=(aj ⟨P,G,n⟩ o.op).getD .stuck:=by rw [<-Kc]
 have Hc:Region.wanted o (yielded ops x.tmps)=dS (mask l tm0 v (Aj ops j) ops.size) d.guard:=by
  rw [ai5,hg0,xO hg i5];exact uQ hg agree
 have fin:∀{ρ':bE} {y:Value} {x':Act} {w':World},x'=x.put o.dst y->(∀m,val m<val h.next->ρ' m=ρ0 m)->jI ρ ρ'->aA B w0 ρ' hk w'->val h0.next<=val hk.next->
   (∀i d L,l[i]? =some d->cu (Fb l true i) d=true->S i=false->i≠j->val L=val h.next+cj l true i->ρ' L=none)->RV ρ' (v j) y->K x' w':=λ{ρ' y x' w'} hx q1 q2 q3 q4 q5 q6=>by
  subst hx;have hA:oj ρ' n (A.put {tmps:=mask l tm0 v S ops.size,defers:=ds} dst (v j)) (x.put o.dst y):=
   oj.put (C:=⟨P,G,n⟩) (a:={tmps:=mask l tm0 v S ops.size,defers:=ds}) ⟨i5.mono q2,i6.mono q2⟩ hcd q6
  refine hK _ _ ⟨ρ',q1,q3,q4,λi d L h1 h2 h3 h4=>?_,?_,?_,i7.mono q2⟩
  ·simp only [Bool.or_eq_false_iff] at h3
   exact q5 i d L h1 h2 h3.1 (by simpa using h3.2) h4
  ·refine ⟨hA.tmps.size,hA.tmps.small,λt ht=>?_⟩
   rw [xS F sL ho hj];have:=hA.tmps.get t ht;rw [(jk _ _ _).1] at this;rw [sq];simpa [SG] using this
  ·have:=hA.defers
   rw [(jk _ _ _).2] at this;exact this
 have stay:∀{y:Value},RV ρ (v j) y->K (x.put o.dst y) w:=λ{y} hv=>fin rfl i1 (jI.refl ρ) i2 i3 (λi d L h1 h2 h3 _ h4=>i4 i d L h1 h2 h3 h4) hv;unfold wpOp;simp only [ho];rcases fact with ⟨hw,hv⟩ | ⟨hw,fact⟩
 ·rw [if_neg (by rw [Hc,hw];exact Bool.false_ne_true)]
  exact stay (by rw [hv];exact .tuple .nil)
 ·rw [if_pos (by rw [Hc,hw])]
  refine .inl ?_;unfold Oper.wp;cases lK:aj ⟨P,G,n⟩ o.op with
  | none=>
    exfalso;have:d.op = .stuck:=by
     rw [lK,Option.getD_none] at ik;have:cu (Fb l true j) d0=false:=by obtain ⟨a1,a2,a3⟩:=d0;simp only at ik;subst ik;rfl
     rw [<-xP,nu this];exact ik
    rw [this] at fact;exact fact
  | some q=>
    rw [lK,Option.getD_some] at ik;have ok:=s5 lK;have same:=IF (E:=dz P) (tm:=mask l tm0 v S ops.size) (tm':=mask l tm0 v (Aj ops j) ops.size) lK λy hy=>s6 λt ht bA=>agree t bA (pP (by rw [<-ht];exact hy))
    by_cases sN:cu (Fb l true j) d0=true
    ·
     have sN:=sN;obtain ⟨asd,op1,g1⟩:=d0;simp only at ik;subst ik;cases op1 with
     | e q1=>
       cases q1 with
       | alloc t cs=>
         have ny:d.op = .r (.fresh t cs (.t (pathOf (n+cj l true j)))):=by rw [<-xP];rfl
         rw [ny] at fact;obtain ⟨Q',hq,wx⟩:=fact;have bA:=gE (k:=n) (q:=true) sq sN;obtain ⟨L,hL,mD⟩:=xT _ bA;have Kd:bS (mask l tm0 v (Aj ops j) ops.size) (pathOf (n+cj l true j)) = .ptr L 0:=by
          rw [pS (pf:=λ_=>P) F (by have h1:=ta l true j;have h4:n<=65536:=F.small;omega)];exact mD
         simp only [RD.oO,X.ev,Kd,eD,Option.some.injEq] at hq;subst hq;have gV:=wx.1 khi;simp only [Dx.Q.ask] at gV;split at gV
         ·rename_i vs e hgL
          simp only [ag,Bool.and_eq_true,Option.some.injEq] at gV;obtain ⟨⟨⟨he,jQ⟩,_⟩,Zf⟩:=gV;have he:e=t:=Nat.eq_of_beq_eq_true he;have jQ:=jD jQ;subst he;subst jQ;have fE:ρ L=none:=i4 j _ L sq sN hj hL;obtain ⟨z,FJ,hz,hvz⟩:=(show zo ⟨P,G,n⟩ o.op (.alloc e vs) from ok).alloc e vs rfl;subst hvz;obtain ⟨y,hy,hyr⟩:=fD (ρ:=ρ) hz;have hE:jI ρ (uc ρ L (dZ.mk w.heap.size 0 (y.cells.toList++([]:List Value)).length .nilFunc)):=eI fE;have hLn:val L<val (hk).next:=by have:=next;omega
          have Ss:dO (uc ρ L (dZ.mk w.heap.size 0 (y.cells.toList++[]).length .nilFunc)) (dZ.mk w.heap.size 0 (y.cells.toList++[]).length .nilFunc) z.cells e 0 .yes (w.alloc (.cells ⟨y.cells.toList++[]⟩ e)):=dO.new (rest:=[]) ((hy.mono hE).cells) e 0 .yes;have R':=i2.laid (o:=.cells z.cells e 0 .yes) (x:=.cells ⟨y.cells.toList++[]⟩ e) (b:=(dZ.mk w.heap.size 0 (y.cells.toList++([]:List Value)).length .nilFunc)) rfl ⟨rfl,rfl⟩ fE hLn (Nat.le_refl _) hgL (λ_ _=>rfl) Ss;have dj:bQ d=false:=by unfold bQ;rw [show d=⟨d.dst,d.op,d.guard⟩ from rfl,ny]
          have dW:(execOp x.eval o).run P w = .ok (.value (.pointer (some ⟨w.heap.size,0,none⟩))) (w.alloc (.cells ⟨y.cells.toList++[]⟩ e)):=by
           unfold execOp;rw [FJ];simp [Instr.alloc,hyr,newVar,newRow]
          rw [dW,Oper.upon_value];refine fin rfl (λm hm=>?_) hE R' i3 (λi d' L' h1 h2 h3 h4 h5=>?_) ?_
          ·rw [bW (λe'=>by rw [e'] at hm;omega)];exact i1 m hm
          ·have Cb:L'≠L:=λe'=>by
            rw [e',hL] at h5;rcases Nat.lt_or_gt_of_ne h4 with qX | Ke
            ·have:=dr qX h1 h2;omega
            ·have:=dr Ke sq sN;omega
           rw [bW Cb];exact i4 i d' L' h1 h2 h3 h5
          ·rw [<-Zf]
           exact .ptr 0 (aS _ _ _)
         ·cases gV
       | cI t cs m=>
         have ny:d.op = .r (.freshS t cs m (.t (pathOf (n+cj l true j)))):=by rw [<-xP];rfl
         rw [ny] at fact;obtain ⟨Q',hq,wx⟩:=fact;have bA:=gE (k:=n) (q:=true) sq sN;obtain ⟨L,hL,mD⟩:=xT _ bA;have Kd:bS (mask l tm0 v (Aj ops j) ops.size) (pathOf (n+cj l true j)) = .ptr L 0:=by
          rw [pS (pf:=λ_=>P) F (by have h1:=ta l true j;have h4:n<=65536:=F.small;omega)];exact mD
         simp only [RD.oO,X.ev,Kd,eD,Option.some.injEq] at hq;subst hq;have gV:=wx.1 khi;simp only [Dx.Q.ask] at gV;split at gV
         ·rename_i vs e hgL
          simp only [ag,Bool.and_eq_true,Option.some.injEq] at gV;obtain ⟨⟨⟨he,jQ⟩,_⟩,Zf⟩:=gV;have he:e=t:=Nat.eq_of_beq_eq_true he;have jQ:=jD jQ;subst he;subst jQ;have fE:ρ L=none:=i4 j _ L sq sN hj hL;obtain ⟨t0,ps,size,z,l0,_,FJ,k1,k2,k3,k4,k5,k6,k7,k8⟩:=(show zo ⟨P,G,n⟩ o.op (.cI e vs m) from ok).row e vs m rfl;have hLn:val L<val (hk).next:=by have:=next;omega
          obtain ⟨tot,w',R',Kg⟩:=vU (C:=⟨P,G,n⟩) (A:=x) i5 i7.rel k1 k2 k3 k4 k5 k6 k7 k8 i2 fE hLn hgL;have dj:bQ d=false:=by unfold bQ;rw [show d=⟨d.dst,d.op,d.guard⟩ from rfl,ny]
          have dW:(execOp x.eval o).run P w = .ok (.value (.slice (some ⟨w.heap.size,0,none⟩) m m)) w':=by
           unfold execOp;rw [FJ];exact uR Kg
          rw [dW,Oper.upon_value];refine fin rfl (λm hm=>?_) (eI fE) R' i3 (λi d' L' h1 h2 h3 h4 h5=>?_) ?_
          ·rw [bW (λe'=>by rw [e'] at hm;omega)];exact i1 m hm
          ·have Cb:L'≠L:=λe'=>by
            rw [e',hL] at h5;rcases Nat.lt_or_gt_of_ne h4 with qX | Ke
            ·have:=dr qX h1 h2;omega
            ·have:=dr Ke sq sN;omega
           rw [bW Cb];exact i4 i d' L' h1 h2 h3 h5
          ·rw [<-Zf]
           exact .slice 0 m m (aS _ _ _)
         ·cases gV
       | cY e0 x0=>
         have hqt:Fb l true j=true:=sN;have ny:d.op = .r (.freshB e0 x0 (.t (pathOf (n+cj l true j)))):=by rw [<-xP,hqt];rfl
         rw [ny] at fact;obtain ⟨Q',hq,wx⟩:=fact;have bA:=gE (k:=n) (q:=true) sq sN;obtain ⟨L,hL,mD⟩:=xT _ bA;have Kd:bS (mask l tm0 v (Aj ops j) ops.size) (pathOf (n+cj l true j)) = .ptr L 0:=by
          rw [pS (pf:=λ_=>P) F (by have h1:=ta l true j;have h4:n<=65536:=F.small;omega)];exact mD
         obtain ⟨t1,t2,y0,FJ,k1,k2,k3,k4⟩:=(show zo ⟨P,G,n⟩ o.op (.cY e0 x0) from ok).bytes e0 x0 rfl;have lN:x0.ev (mask l tm0 v (Aj ops j) ops.size)=x0.ev (mask l tm0 v S ops.size):=by
          have:=s6 (C:=⟨P,G,n⟩) (y:=y0) (tm:=mask l tm0 v S ops.size) (tm':=mask l tm0 v (Aj ops j) ops.size) λt ht bA=>agree t bA (pP (by rw [FJ,ht];simp [Op.operands]));exact (this x0 k4).symm
         have rx:=au (C:=⟨P,G,n⟩) i5 i7.rel k4;rw [<-lN] at rx;simp only [RD.oO,X.ev,Kd] at hq;split at hq
         ·rename_i b hxb
          have hxb:x0.ev (mask l tm0 v (Aj ops j) ops.size) = .str b:=hxb;rw [hxb] at rx;simp only [ag,eD,Option.some.injEq] at hq;obtain ⟨_,hq⟩:=hq;subst hq;have gV:=wx.1 khi;simp only [Dx.Q.ask] at gV;split at gV
          ·rename_i vs e hgL
           simp only [ag,Bool.and_eq_true,Option.some.injEq] at gV;obtain ⟨⟨⟨he,jQ⟩,_⟩,Zf⟩:=gV;have he:e=e0:=Nat.eq_of_beq_eq_true he;have jQ:=jD jQ;subst he;subst jQ;have fE:ρ L=none:=i4 j _ L sq sN hj hL;have hLn:val L<val (hk).next:=by have:=next;omega
           generalize XF:x.eval y0=yv at rx;cases rx with | str u=>
           obtain ⟨cap,w',jb,R',Kg⟩:=AR (P:=P) k1 k2 k3 i2 fE hLn hgL;have dj:bQ d=false:=by unfold bQ;rw [show d=⟨d.dst,d.op,d.guard⟩ from rfl,ny]
           have dW:(execOp x.eval o).run P w = .ok (.value (.slice (some ⟨w.heap.size,0,none⟩) u.size cap)) w':=by
            unfold execOp;rw [FJ];simp only [XF];exact uR Kg
           rw [dW,Oper.upon_value];refine fin rfl (λm hm=>?_) (eI fE) R' i3 (λi d' L' h1 h2 h3 h4 h5=>?_) ?_
           ·rw [bW (λe'=>by rw [e'] at hm;omega)];exact i1 m hm
           ·have Cb:L'≠L:=λe'=>by
             rw [e',hL] at h5;rcases Nat.lt_or_gt_of_ne h4 with qX | Ke
             ·have:=dr qX h1 h2;omega
             ·have:=dr Ke sq sN;omega
            rw [bW Cb];exact i4 i d' L' h1 h2 h3 h5
           ·rw [<-Zf]
            have:=RV.sliceEnd (ρ:=uc ρ L (dZ.mk w.heap.size 0 cap .nilFunc)) 0 (ax u).length 1 cap (aS _ _ _) (by rw [cw];exact jb) (by simp);simpa [cw] using this
          ·cases gV
         ·cases hq
       | _=>cases sN
     | _=>cases sN
    ·have sN:cu (Fb l true j) d0=false:=by simpa using sN
     have ny:d.op=q:=by rw [<-xP,nu sN];exact ik
     rw [ny] at fact;cases q with
     | Rm y=>
       obtain ⟨z,hz,hr⟩:=ok i5 i7.rel;have same:y.ev _=y.ev _:=same;rw [hr o rfl w,Oper.upon_value];refine stay ?_;have fact:v j=y.ev (mask l tm0 v (Aj ops j) ops.size):=fact;rw [fact,<-same];exact hz
     | p q=>
       have same:q.eval _ _=q.eval _ _:=same;have fact:q.eval (dz P) (mask l tm0 v (Aj ops j) ops.size)=some (v j):=fact;obtain ⟨z,hz,hr⟩:=ok i5 i7.rel (v j) (same.trans fact);rw [hr o rfl w,Oper.upon_value];exact stay hz
     | r q=>
       have same:q.oO _=q.oO _:=same;obtain ⟨Q',hq,wx⟩:=fact;have gV:=wx.1 khi;obtain ⟨z,hz,hr⟩:=ok i5 i7.rel Q' (same.trans hq) (v j) i2 gV;rw [hr o rfl,Oper.upon_value];exact stay hz
     | e q=>exact fact.elim
     | c q=>exact fact.elim
     | defer q=>exact fact.elim
     | stuck=>exact fact.elim
end
end Go.Dx
