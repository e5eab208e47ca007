/-
  The client's laws. Part ZBG of the proof: blotter/client: Push, follows.
-/
import Derived.Test.YtdjlhmmfplhhdaaGreatDoorZBF
namespace K
open Go Go.Dx Go.RowKit Go.Proofs
set_option maxRecDepth 100000
variable{lp:Lb}{h:H}{y:ep}
theorem acA {r:pq}(B:Wf h)(S:eI h lp r){Q:V->H->Prop}
  (N:∀h',r.wait=[]->Mod h h' []->Wf h'->Q (.tuple [axU,.bool false]) h')
  (K:∀h' a (p:List ep),0<r.wait.length->p=r.wait.take 8->aG h' cD 6 a p.length (cx p)->Fr h a->Mod h h' []->Wf h'->Q (.tuple [M5 1 r.nm 0 0 0 0 a,.bool true]) h'):CW pf G0 og [.ptr lp 0] h Q:=by
 have C:=S.cell;have W:=S.wait;have X:=S.xC;generalize r.lm=O at*;generalize r.ls=ls at*;generalize r.bv=P at*;generalize r.sv=sv at*;generalize r.wv=wv at*;generalize r.vv=vv at*;generalize r.nm=F at*;refine zc.enter (by kernel_rfl) ?_;cbv;refine .of B λl E o Sz ar t=>?_;have C1:=ar.get C;have W1:=W.mono ar;have e:∀{h':H},Mod E h' [l]->Mod h h' []:=λm=>ar.fr m λq b=>by simp at b;subst b;exact .inl Sz
 cbv;refine oJ C1 ?_;cbv;refine .of C1 rfl ?_;cbv;refine .of W1.sl λk U T=>?_;cbv;refine .eq (λA=>?_) λA=>?_
 ·have:r.wait=[]:=List.length_eq_zero_iff.1 (by omega)
  cbv;refine .of (cs:=[.int .i64 0,.str [],.int .i64 0,.int .i64 0,.int .i64 0,.int .i64 0,.nilSlice 0]) t o rfl rfl rfl rfl rfl rfl λx n z G=>?_;cbv;refine .all n rfl ?_;cbv;exact N x this (e z) G
 cbv;refine .of follows 6 ?_;cbv;refine .of C1 rfl ?_;cbv;refine .of C1 rfl ?_;cbv;refine .of C1 rfl ?_;cbv;refine .of W1.sl λY FO R=>?_;cbv;refine .of λy hy=>?_;cbv;refine .upto W1 (by omega) (by omega) λv f M=>?_;rw [zS] at f;have Ik:r.wait.take y.toNat=r.wait.take 8:=by
  rcases Nat.lt_or_ge r.wait.length 8 with g | g
  ·rw [List.take_of_length_le (by omega),List.take_of_length_le (by omega)]
  ·rw [show y.toNat=8 by omega]
 have MS:y.toNat=(r.wait.take 8).length:=by rw [List.length_take];omega
 rw [Ik,MS] at f;obtain ⟨p,s⟩:∃p,p=r.wait.take 8:=⟨_,rfl⟩;rw [<-s] at f;have D:p.length<=8:=by rw [s,List.length_take];omega
 cbv;refine eP uB t f (ka _) (by omega) (by decide) λa x u Z=>?_;have C2:=Z.get C1;have n:=Z.get o;have d:=u.sl.flat;have j:l∉ag a:=λL=>by have:=Z.fr l L;rw [o] at this;cases this
 refine .load C2 rfl (.nil ?_);cbv;refine .flat rfl ?_;cbv;refine .flat rfl ?_;cbv;refine .flat d ?_;cbv;refine .of (cs:=[.int .i64 1,.str F,.int .i64 0,.int .i64 0,.int .i64 0,.int .i64 0,a]) Z.wf n rfl rfl rfl rfl (by show (true&&(true&&(true&&(true&&(true&&(true&&(cf a&&true)))))))=true;rw [d];rfl) rfl λh3 I w J=>?_;refine .nil ?_;cbv;refine .all I rfl ?_;cbv;refine K h3 a p (by omega) s (u.mono w (dJ j)) (λq b=>aj ar (by simp) (Z.fr q b)) (e ((Z.mod.trans w).mono λq _ _ b=>by simpa using b)) J
def eQ (b:List Nat)(base a l:List ep):Prop:=∀(i:Nat) (x:ep),l[i]? =some x->x.id=bP (base++l.take i) x.af+1/\(x.af=b->a[mq (l.take i) b]? =some x)
theorem afr {x:ep}(h:x≠y):de [.str,.int,.int,.str,.str,.str] [.str x.af,.int .i64 x.id,.int .i64 x.kind,.str x.aE,.str x.name,.str x.text] [.str y.af,.int .i64 y.id,.int .i64 y.kind,.str y.aE,.str y.name,.str y.text]=some false:=by
 obtain ⟨a1,a2,k,a,g,e⟩:=x;obtain ⟨c,d,b,f,i,j⟩:=y;simp [de,gh,ob,iZ,cE,aR,bO]
 by_cases h1:a1=c
 ·by_cases h2:a2=d
  ·by_cases h3:k=b
   ·by_cases h4:a=f
    ·by_cases h5:g=i
     ·by_cases h6:e=j
      ·exact absurd (by rw [h1,h2,h3,h4,h5,h6]) h
      ·simp [h1,h2,h3,h4,h5,beq_eq_false_iff_ne.2 h6]
     ·simp [h1,h2,h3,h4,beq_eq_false_iff_ne.2 h5]
    ·simp [h1,h2,h3,beq_eq_false_iff_ne.2 h4]
   ·simp [h1,h2,beq_eq_false_iff_ne.2 h3]
  ·simp [h1,beq_eq_false_iff_ne.2 h2]
 ·simp [beq_eq_false_iff_ne.2 h1]
theorem _root_.Go.Dx.bE.arf {pf:Unit->Program} {x:ep} {K:V->Prop} (a:x=y->K (.bool false)) (b:x≠y->K (.bool true)):bE pf .neq (.agg [.str,.int,.int,.str,.str,.str]) (.agg [.str x.af,.int .i64 x.id,.int .i64 x.kind,.str x.aE,.str x.name,.str x.text]) (.agg [.str y.af,.int .i64 y.id,.int .i64 y.kind,.str y.aE,.str y.name,.str y.text]) K:=by
 by_cases e:x=y
 ·have h:=JF x.af x.id x.kind x.aE x.name x.text
  exact ⟨.bool false,by rw [<-e];simp [Dx.binOp,DA,Ke,h,ob],a e⟩
 ·have h:=afr e
  exact ⟨.bool true,by simp [Dx.binOp,DA,Ke,h,ob],b e⟩
theorem Vp {r:pq}{v:V}{l:List ep}(hw:Wf h)(S:eI h lp r)(hs:Sl h 6 v l.length (cx l))(hl:l.length<=8)(kJ:∀x∈l,mr x) (hz:∀x∈l,MQ x) {Q:V->H->Prop}
  (R:∀h' b,(b=true->eQ r.nm r.base r.wait l)->(b=false->¬eQ r.nm r.base r.wait l)->Mod h h' []->Wf h'->Q (.bool b) h'):CW pf G0 kr [.ptr lp 0,v] h Q:=by
 have xC:=S.xC;have mw:=S.mw;refine uh.enter (by kernel_rfl) ?_;cbv;refine .of hw λA h1 ah1 FC ar aK=>?_;cbv;refine .of (hs.mono ar) λk zQ hk=>?_;cbv;refine .inv [p0,p5,p6,YB,p11,SB] (λm' aB h'=>∃(i o:Int) (es:bH) (c:Nat),aB=[.ptr lp 0,.map A,.int .i64 o,v,.int .i64 k,.int .i64 i]/\0<=i/\i.toNat<=l.length/\m'=l.length - i.toNat/\0<=o/\o.toNat=mq (l.take i.toNat) r.nm/\o.toNat<=r.wait.length/\h'.get A=some (.map (cd es) c)/\(∀e∈es,∃n,e.2.1 = .int .i64 n)/\(∀k,0<=jV es k/\jV es k<=i/\bP r.base k+jV es k=bP (r.base++l.take i.toNat) k)/\eQ r.nm r.base r.wait (l.take i.toNat)/\Mod h h' []/\Wf h') [_,_,_,_,_,_] rfl _
  ⟨0,0,[],0,rfl,by omega,by simp,rfl,by omega,rfl,by simp,ah1,by simp,λk=>⟨by simp [jV,cO],by simp [jV,cO],by simp [jV,cO]⟩,λi x B=>by simp at B,ar,aK⟩ ?_
 rintro m' _ U ⟨i,o,es,c,rfl,iB,I0,eF,M,ho,Z,Og,m,rW,MU,av,aO⟩;cbv;refine .lt (λbA=>?_) λjl=>?_;rotate_left
 ·rw [List.take_of_length_le (by omega)] at MU
  cbv;exact R U true (λ_=>MU) (λe=>by cases e) av aO
 obtain ⟨x,B⟩:∃x,l[i.toNat]? =some x:=⟨_,List.getElem?_eq_getElem (by omega)⟩;have DH:=List.mem_of_getElem? B;have bC:=dP _ _ _ B;have Ik:=eM B;have S9:=(kJ x DH).id;obtain ⟨amr,W⟩:=(hz x DH).id;have MW:=B;have bad:∀{P:Prop},(x.id=bP (r.base++l.take i.toNat) x.af+1/\(x.af=r.nm->r.wait[mq (l.take i.toNat) r.nm]? =some x)->False)->¬eQ r.nm r.base r.wait l:=λg f=>g (f i.toNat x MW);have good:x.id=bP (r.base++l.take i.toNat) x.af+1->(x.af=r.nm->r.wait[mq (l.take i.toNat) r.nm]? =some x)->eQ r.nm r.base r.wait (l.take (i.toNat+1)):=λg1 g2 j y d=>by
  rw [Ik] at d ⊢;have hjl:=(List.getElem?_eq_some_iff.1 d).1;have hll:(l.take i.toNat).length=i.toNat:=by rw [List.length_take];omega
  by_cases Dp:j<i.toNat
  ·rw [List.getElem?_append_left (by omega)] at d
   rw [List.take_append_of_le_length (by omega)];exact MU j y d
  ·have:j=i.toNat:=by simp at hjl;omega
   subst this;rw [List.getElem?_append_right (by omega)] at d;simp [hll] at d;subst d;rw [List.take_append_of_le_length (by omega),List.take_of_length_le (by omega)];exact ⟨g1,g2⟩
 have O:=λ(c:List Nat)=>zV (l.take i.toNat) x c;rw [<-Ik] at O;have z:=λ(k:List Nat)=>dX (r.base++l.take i.toNat) x k;rw [List.append_assoc,<-Ik] at z;obtain ⟨a,N,xk,xs,xn,xt⟩:=x;dsimp only at bC S9 amr W good O z;have s:=@bad True;dsimp only at s;have VJ:=rW a;obtain ⟨fC,cw⟩:=dK S.good a;have dh:(bP r.base a).toNat<=2000:=Nat.le_trans (Int.toNat_le.2 cw) mw;clear cw;generalize kd:jV es a=la at*;cbv;refine .of (hs.mono av) iB rfl (by omega) bC λZV off jA=>?_;cbv;refine .jC jA rfl ?_;cbv;refine .of aO λlx h3 FK Il aI aS=>?_;cbv;refine .of (cs:=[.str a,.int .i64 N,.int .i64 xk,.str xs,.str xn,.str xt]) aS FK rfl rfl rfl rfl rfl rfl λh4 Ya aL aW=>?_;have uo:Mod U h4 []:=aI.fr aL λq w=>.inl (by rw [List.mem_singleton] at w;rw [w];exact Il);have aC:Mod h h4 []:=(av.trans uo).mono λq _ _ w=>by simp at w
 have P8:=uo.get Og;have Y:lx≠A:=λe=>by rw [e,Og] at Il;cases Il
 have F:=ajD P8 m a;rw [kd] at F;cbv;refine .of Ya rfl ?_;cbv;refine F _ ?_;cbv;refine .add (by omega) (by omega) λI ao9=>?_;cbv;refine .of aW P8 λh5 SU bf T=>?_;have D:Mod h h5 []:=aC.fr bf λq w=>by
  rw [List.mem_singleton] at w;subst w;exact .inl FC
 have VM:=bf.get Ya (by simpa using Y);have S5:=S.mono D;have C5:=S5.cell;have J:∀e∈dt es a (.int .i64 I) c,∃n,e.2.1 = .int .i64 n:=λe' Ji=>by
  rcases lD Ji with q | ⟨_,q,_⟩
  ·exact m e' q
  ·exact ⟨I,q⟩
 have G:=ajD SU J a;rw [Di,if_pos rfl] at G;have E:=λK=>S5.lookup (c:=a) (K:=K);have W5:=S5.wait.sl;obtain ⟨lb,Oq⟩:∃lb,lb=bP r.base a:=⟨_,rfl⟩;rw [<-Oq] at E VJ fC dh;have X:∀j y,r.wait[j]? =some y->rowFrom (cx r.wait) (j*6) 6=some [.str y.af,.int .i64 y.id,.int .i64 y.kind,.str y.aE,.str y.name,.str y.text]:=λj y hy=>dP _ _ _ hy;generalize r.lm=mm at*;generalize r.ls=ls at*;generalize r.bv=bv at*;generalize r.sv=sv at*;generalize r.wv=wv at*;generalize r.vv=vv at*;generalize nu:r.nm=L at*;cbv;refine .of follows 5 ?_;cbv;refine .of VM rfl ?_;cbv;refine .of C5 rfl ?_;cbv;refine .of VM rfl ?_;cbv;refine E _ ?_;cbv;refine .of VM rfl ?_;cbv;refine G _ ?_;cbv;refine .add (by omega) (by omega) λsu hsu=>?_;cbv;refine .ne (λe1=>?_) λe1=>?_;rotate_left
 ·cbv;exact R h5 false (λe=>by cases e) (λ_=>s λq=>e1 (by omega)) D T
 have g1:N=bP (r.base++l.take i.toNat) a+1:=by omega
 have p:∀{u:Int} {j:Int},(a=L->r.wait[mq (l.take i.toNat) L]? =some ⟨a,N,xk,xs,xn,xt⟩)->0<=u->u.toNat=mq (l.take (i.toNat+1)) L->u.toNat<=r.wait.length->j=i+1->∃(i o:Int) (es:bH) (c:Nat),[V.ptr lp 0,.map A,.int .i64 u,v,.int .i64 k,.int .i64 j]=[V.ptr lp 0,.map A,.int .i64 o,v,.int .i64 k,.int .i64 i]/\0<=i/\i.toNat<=l.length/\l.length - j.toNat=l.length - i.toNat/\0<=o/\o.toNat=mq (l.take i.toNat) L/\o.toNat<=r.wait.length/\h5.get A=some (.map (cd es) c)/\(∀e∈es,∃n,e.2.1 = .int .i64 n)/\(∀k,0<=jV es k/\jV es k<=i/\bP r.base k+jV es k=bP (r.base++l.take i.toNat) k)/\eQ L r.base r.wait (l.take i.toNat)/\Mod h h5 []/\Wf h5:=λ{u j} g2 h1 U h3 d=>by
  have Dp:j.toNat=i.toNat+1:=by omega
  refine ⟨j,u,_,_,rfl,by omega,by omega,rfl,h1,by rw [Dp];exact U,h3,SU,J,λk=>?_,by rw [Dp];exact good g1 g2,D,T⟩;rw [Dp,z,Di];have:=rW k
  by_cases e:k=a
  ·subst e
   rw [if_pos rfl,if_pos rfl];rw [kd] at this;omega
  ·rw [if_neg e,if_neg λq=>e q.symm]
   omega
 cbv;refine .of follows 3 ?_;cbv;refine .of VM rfl ?_;cbv;refine .of C5 rfl ?_;cbv;refine .seq (λheq=>?_) λcV=>?_;rotate_left
 ·cbv;refine .add (by omega) (by omega) λj d=>?_
  cbv;exact ⟨rfl,l.length - j.toNat,by omega,p (λe=>absurd e cV) M (by rw [O,if_neg cV];exact ho) Z d⟩
 cbv;refine .of follows 5 ?_;cbv;refine .of C5 rfl ?_;cbv;refine .of W5 λk2 FO uF=>?_;cbv;refine .eq (λeo=>?_) λeo=>?_
 ·cbv;exact R h5 false (λe=>by cases e) (λ_=>s λq=>by
   have:=q.2 heq;rw [List.getElem?_eq_none (by omega)] at this;cases this) D T
 obtain ⟨y,hy⟩:∃y,r.wait[o.toNat]? =some y:=⟨_,List.getElem?_eq_getElem (by omega)⟩;have C:=X _ _ hy;obtain ⟨yc,yi,yk,ys,yn,yt⟩:=y;dsimp only at C;cbv;refine .of C5 rfl ?_;cbv;refine .of W5 M rfl (by omega) C λsl3 FQ Im=>?_;cbv;refine .jC Im rfl ?_;cbv;refine .all VM rfl ?_;cbv;refine .arf (x:=⟨yc,yi,yk,ys,yn,yt⟩) (y:=⟨a,N,xk,xs,xn,xt⟩) (λe=>?_) λne=>?_
 ·cbv;refine .add (by omega) (by omega) λu mh=>?_
  cbv;refine .add (by omega) (by omega) λj d=>?_;cbv;exact ⟨rfl,l.length - j.toNat,by omega,p (λ_=>by rw [<-ho,hy,e]) (by omega) (by rw [O,if_pos heq];omega) (by omega) d⟩
 ·cbv;exact R h5 false (λe=>by cases e) (λ_=>s λq=>ne (by
   have:=q.2 heq;rw [<-ho,hy] at this;cases this;rfl)) D T
end K
namespace K
open Go Go.Dx Go.RowKit Go.Proofs
set_option maxRecDepth 100000
variable{n m:Nat}{h:H}{lp:Lb}
theorem _root_.Go.Dx.Ld.ari {e:TypeId}{size:Nat}{s:V}{cs:List V}{k:IntKind}{i:Int}{K:V->Prop} (o:aG h e size s n cs) (hi:0<=i) (d:i.toNat<=n)
  (c:∀v,Sl h size v (n - i.toNat) (cs.drop (i.toNat*size))->K v):Ld size s (some (.int k i)) none none K:=by
 rcases Nat.lt_or_ge i.toNat n with g | g
 ·exact .rest o hi g c
 obtain ⟨a,rfl⟩:=Int.eq_ofNat_of_zero_le hi;have e:a=n:=by simp at d g;omega
 subst e;have b:∀v,Sl h size v 0 []->K v:=λv s=>c v (by
  have:=o.sl.len;simpa [<-this] using s)
 clear c;cases o with
 | nil=>exact ⟨.nilSlice 0,rfl,b _ (.nil 0)⟩
 | @exact l _ _ hg hl=>
   refine ⟨sliceEnd l 0 size a a a,by simp only [dV,bB,dR (Nat.le_refl _),ob],b _ ?_⟩;have:sliceEnd l 0 size a a a = .slice l 0 0 (.exact 0):=by
    unfold sliceEnd;rw [Nat.beq_refl,Nat.sub_self]
   rw [this];exact .row hg (by rw [Nat.zero_mul];rfl)
 | @ends l _ _ hg hl=>
   cases h0:(Nat.blt a a||Nat.beq a 0) with
   | true=>
     refine ⟨.slice l (0+a*size) (a - a) (.toEnd size),by simp only [dV,bB,dR (Nat.le_refl _),ob,Nat.beq_refl,bO,h0],b _ ?_⟩;rw [Nat.sub_self];exact .row hg (by rw [Nat.zero_mul];rfl)
   | false=>exact ⟨.empty,by simp only [dV,bB,dR (Nat.le_refl _),ob,Nat.beq_refl,bO,h0],b _ .empty⟩
theorem ah3 {z:Cz}{x:ep}(o:Wf h)(p:HE h)(Z:js h lp z n m)(j:MQ x)(r:mr x)(d:x.id=bP z.r.base x.af+1)(i:z.r.base.length<2000){Q:V->H->Prop}
  (k:∀h' u,gV h h' lp z u n m->u.r.nm=z.r.nm->u.r.base=z.r.base++[x]->u.r.wait=z.r.wait->Q (.bool true) h'):CW pf G0 iS [.ptr lp 0,afa x] h Q:=
 afp o p Z.jr j r d i λt sv s m c h' A a l g=>k h' _ (gV.Zy Z A rfl (λq f=>by
  simp only [pq.own,List.mem_cons,List.mem_append] at f a ⊢;rcases f with e | e | ((e | e) | e) | e
  ·exact .inl (.inl e)
  ·exact .inl (.inr (.inl e))
  ·exact a q (.inl e)
  ·exact a q (.inr e)
  ·exact .inl (.inr (.inr (.inl (.inr e))))
  ·exact .inl (.inr (.inr (.inr e)))) l g) rfl rfl rfl
noncomputable def aft:DC:=ja (ja (ja lS.code))
noncomputable def ajE:DC:=ja aft
noncomputable def arj:DC:=ja ajE
theorem afu {E:Lb}{z:Cz}{kind a b c d:Int}{af:List Nat}{G:V}{l:List ep}(hw:Wf h)(he:HE h)(Z:js h lp z n m)(sN:bS z.r.nm z.r.base z.r.wait)(MU:eQ z.r.nm z.r.base z.r.wait l)(hl:l.length<=8)(hb:z.r.base.length<=1900)(kJ:∀x∈l,mr x) (hz:∀x∈l,MQ x)
  (DE:h.get E=some (.cells [.int .i64 kind,.str af,.int .i64 a,.int .i64 b,.int .i64 c,.int .i64 d,G] zU 0 .yes)) (Wa:E∉z.own lp) (hs:Sl h 6 G l.length (cx l)) (nlv:∀q,q∈ag G->q∉z.own lp) {Q:V->H->Prop}
  (bN:∀h' o,gV h h' lp z o n m->o.r.nm=z.r.nm->o.r.base=z.r.base++l->o.r.wait=z.r.wait.drop (mq l z.r.nm)->bS o.r.nm o.r.base o.r.wait->Q (.int .i64 0) h'):
  I3 pf G0 131 arj {tmps:=gU [p0,p3] [.ptr lp 0,.ptr E 0],defers:=[]} h (tw pf G0 [.tmp p4] Q) λ_ _ _=>False:=by
 refine .seq (.of ?_);cbv;refine .of DE rfl ?_;cbv;refine .of hs λk zQ hk=>?_;cbv;refine .inv [p0,p3,aub,auc,aud] (λm' aB h'=>∃(i:Int) (o:Cz),aB=[.ptr lp 0,.ptr E 0,G,.int .i64 k,.int .i64 i]/\0<=i/\i.toNat<=l.length/\m'=l.length - i.toNat/\gV h h' lp z o n m/\o.r.nm=z.r.nm/\o.r.base=z.r.base++l.take i.toNat/\o.r.wait=z.r.wait.drop (mq (l.take i.toNat) z.r.nm)/\bS o.r.nm o.r.base o.r.wait) [_,_,_,_,_] rfl _
  ⟨0,z,rfl,by omega,by simp,rfl,gV.refl Z hw,rfl,by simp,by simp [mq],sN⟩ ?_
 rintro m' _ h1 ⟨i,z1,rfl,iB,I0,eF,T,e1,P,e3,zN⟩;have aK:=T.wf;have Z1:=T.at';have he1:=he.mono T.mod;have ah1:=T.mod.get DE Wa;cbv;refine .lt (λbA=>?_) λjl=>?_;rotate_left
 ·rw [List.take_of_length_le (by omega)] at P e3
  cbv;refine .seq (.of ?_);cbv;refine Zz aK he1 Z1 λh2 z2 T2 s F t=>?_;cbv;refine .of ?_;cbv;exact bN h2 z2 (T.trans T2) (by rw [s,e1]) (by rw [F,P]) (by rw [t,e3]) (by rw [s,F,t];exact zN)
 obtain ⟨x,S⟩:∃x,l[i.toNat]? =some x:=⟨_,List.getElem?_eq_getElem (by omega)⟩;have DH:=List.mem_of_getElem? S;have bC:=dP _ _ _ S;have Ik:=eM S;have gI:=zV (l.take i.toNat) x z.r.nm;rw [<-Ik] at gI;obtain ⟨u,fo2⟩:=MU i.toNat x S;have ZA:=kJ x DH;have hxz:=hz x DH;have kG:x.af=z.r.nm->z1.r.wait[0]? =some x:=λe=>by rw [e3,List.getElem?_drop,Nat.add_zero];exact fo2 e
 have MT:z1.r.base.length<2000:=by rw [P,List.length_append,List.length_take];omega
 rw [<-P] at u;have MW:l[i.toNat]? =some x:=S;obtain ⟨y,hy⟩:∃y,y=x:=⟨_,rfl⟩;obtain ⟨B,W,X,xs,xn,xt⟩:=x;dsimp only at bC u gI kG;cbv;refine .of (hs.mono T.mod nlv) iB rfl (by omega) bC λZV off jA=>?_;cbv;refine .jC jA rfl ?_;cbv;refine .of aK λlx h2 FK Il av aO=>?_;cbv;refine .of (cs:=[.str B,.int .i64 W,.int .i64 X,.str xs,.str xn,.str xt]) aO FK rfl rfl rfl rfl rfl rfl λh3 Fz aI aS=>?_;have jD:Mod h1 h3 []:=av.fr aI λq p=>.inl (by rw [List.mem_singleton] at p;rw [p];exact Il);have Z3:=Z1.mono jD;have nx:lx∉z1.own lp:=λhm=>Z1.live hm Il;cbv;refine .all Fz rfl ?_;cbv;refine ah3 (x:=⟨B,W,X,xs,xn,xt⟩) aS (he1.mono jD) Z3 hxz ZA u MT λh4 f T4 s F t=>?_;have T14:gV h1 h4 lp z1 f n m:=((gV.refl Z1 aK).beside jD aS).trans T4;have T04:=T.trans T14;have Ya:=T4.mod.get Fz nx;have S4:=T4.at'.jr;have C4:=S4.cell;have W4:=S4.wait;have xC:=S4.xC;have wm4:=S4.R8;have R:∀{Y:H} {z5:Cz} {j:Int},gV h Y lp z z5 n m->z5.r.nm=f.r.nm->z5.r.base=f.r.base->z5.r.wait=z.r.wait.drop (mq (l.take (i.toNat+1)) z.r.nm)->bS f.r.nm f.r.base z5.r.wait->j=i+1->∃(i:Int) (o:Cz),[V.ptr lp 0,.ptr E 0,G,.int .i64 k,.int .i64 j]=[V.ptr lp 0,.ptr E 0,G,.int .i64 k,.int .i64 i]/\0<=i/\i.toNat<=l.length/\l.length - j.toNat=l.length - i.toNat/\gV h Y lp z o n m/\o.r.nm=z.r.nm/\o.r.base=z.r.base++l.take i.toNat/\o.r.wait=z.r.wait.drop (mq (l.take i.toNat) z.r.nm)/\bS o.r.nm o.r.base o.r.wait:=λ{Y z5 j} U g1 g2 g3 g4 hj=>by
  have Dp:j.toNat=i.toNat+1:=by omega
  exact ⟨j,z5,rfl,by omega,by omega,rfl,U,by rw [g1,s,e1],by rw [g2,F,P,Dp,Ik,List.append_assoc],by rw [Dp];exact g3,by rw [g1,g2];exact g4⟩
 have M:f.r.wait=z.r.wait.drop (mq (l.take i.toNat) z.r.nm):=by rw [t,e3]
 have Yb:f.r.nm=z.r.nm:=by rw [s,e1]
 have O:B≠f.r.nm->bS f.r.nm f.r.base f.r.wait:=λg=>by
  have:bS z1.r.nm (z1.r.base++[⟨B,W,X,xs,xn,xt⟩]) z1.r.wait:=zN.other (by rw [<-s];exact g);rw [s,F,t];exact this
 have L:B=f.r.nm->bS f.r.nm f.r.base (f.r.wait.drop 1):=λg=>by
  have:bS z1.r.nm (z1.r.base++[⟨B,W,X,xs,xn,xt⟩]) (z1.r.wait.drop 1):=zN.axV (kG (by rw [g,Yb]));rw [s,F,t];exact this
 have N:B=f.r.nm->0<f.r.wait.length:=λg=>by
  rw [t];exact (List.getElem?_eq_some_iff.1 (kG (by rw [g,Yb]))).1
 clear MW hy;generalize P8:f.r.lm=mm at C4;generalize ax7:f.r.ls=ls at C4;generalize ax8:f.r.bv=bv at C4;generalize ax9:f.r.sv=sv at C4;generalize aF4:f.r.wv=wv at C4 W4;generalize ax':f.r.vv=vv at C4;generalize A:f.r.nm=nm at C4 Yb O L N;cbv;refine .of follows 3 ?_;cbv;refine .of Ya rfl ?_;cbv;refine .of C4 rfl ?_;cbv;refine .seq (λheq=>?_) λcV=>?_;rotate_left
 ·cbv;refine .add (by omega) (by omega) λj hj=>?_
  cbv;exact ⟨rfl,l.length - j.toNat,by omega,R T04 rfl rfl (by rw [gI,if_neg (by rw [<-Yb];exact cV),Nat.add_zero];exact M) (by rw [A];exact O cV) hj⟩
 have hp:=N heq;cbv;refine .of C4 rfl ?_;cbv;refine .ari W4 (by decide) hp λv J=>?_;have J:Sl h4 6 v (f.r.wait.length - 1) ((cx f.r.wait).drop (1*6)):=J;rw [PL] at J;have hdl:f.r.wait.length - 1=(f.r.wait.drop 1).length:=by simp
 rw [hdl] at J;cbv;refine eP uB T4.wf J (ka _) (by simp;omega) (by decide) λC Y np MZ=>?_;have C5:=MZ.get C4;have nlp:lp∉ag C:=λhm=>by have:=MZ.fr lp hm;rw [C4] at this;cases this
 cbv;refine .one (vs':=[.str nm,.ptr ls 0,bv,.map mm,sv,C,vv]) MZ.wf C5 np.sl.flat rfl rfl rfl λh6 C6 bR cz=>?_;have K:Mod h4 h6 [lp]:=(MZ.mod.trans bR).mono λq _ _ p=>by simpa using p
 have A6:=S4.waits (wv:=C) (w:=f.r.wait.drop 1) K (λq p=>.inl (by simpa using p)) (by rw [P8,ax7,ax8,ax9,ax',A];exact C6) (np.mono bR (dJ nlp)) (by simp;omega) (λy hy=>wm4 y (List.mem_of_mem_drop hy)) λq p=>.inr (MZ.fr q p);have T6:=gV.Zy T4.at' A6 rfl (λq p=>(pq.Vo p).elim .inl λe=>.inr (MZ.fr q e)) (K.mono λq _ _ p=>by
  simp at p;simp [pq.own,p]) cz
 cbv;refine .add (by omega) (by omega) λj hj=>?_;cbv;exact ⟨rfl,l.length - j.toNat,by omega,R (T04.trans T6) rfl rfl (by
  rw [gI,if_pos (by rw [<-Yb];exact heq)];show f.r.wait.drop 1=_
  rw [M,List.drop_drop]) (by rw [A];exact L heq) hj⟩
end K
namespace K
open Go Go.Dx Go.RowKit Go.Proofs
set_option maxRecDepth 100000
variable{n m:Nat}{h:H}{l:List ep}{lv:V}{af:List Nat}{a d:Int}{lp:Lb}
theorem DG {size:Nat}{v:V}{cs:List V}(s:Sl h size v n cs){q:Lb}(a:q∈ag v):h.get q≠none:=by
 cases s with
 | nil c=>simp [ag] at a
 | empty=>simp [ag] at a
 | row hg _=>simp [ag] at a;subst a;rw [hg];simp
theorem afx {s:Lb}{z:Cz}{kind b c:Int}{p:V}{os:List FI}(I:Wf h)(M:HE h)(Z:js h lp z n m)(hn:n<=9000000)(gE:m<=900)(E:bS z.r.nm z.r.base z.r.wait)(MU:eQ z.r.nm z.r.base z.r.wait l)(L:l.length<=8)(F:z.r.base.length<=1900)(J:∀x∈l,mr x) (W:∀x∈l,MQ x)
  (DE:h.get s=some (.cells [.int .i64 kind,.str af,.int .i64 a,.int .i64 b,.int .i64 c,.int .i64 d,lv] zU 0 .yes)) (Wa:s∉z.own lp) (hs:Sl h 6 lv l.length (cx l)) (j:∀q,q∈ag lv->q∉z.own lp)
  (r:aG h dS 3 p os.length (xF os)) (u:∀q,q∈ag p->q∉z.own lp) (Y:os.length<=100) (A:∀o∈os,o.key.length<=100/\o.val.length<=65536) {Q:V->H->Prop}
  (bJ:∀h' f (e:Int),e≠0->gV h h' lp z f (n+1) m->f.r=z.r->Q (.int .i64 e) h')
  (X:∀h' f,gV h h' lp z f (n+1) (m+1)->f.r.nm=z.r.nm->f.r.base=z.r.base++l->f.r.wait=z.r.wait.drop (mq l z.r.nm)->bS f.r.nm f.r.base f.r.wait->Q (.int .i64 0) h'):
  I3 pf G0 131 ajE {tmps:=gU [p0,p3,p5] [.ptr lp 0,.ptr s 0,p],defers:=[]} h (tw pf G0 [.tmp p4] Q) λ_ _ _=>False:=by
 have C:=Z.jr.cell;have i:=λls (e:z.r.ls=ls)=>PS (l:=os) (vo:=p) (Q:=λv h'=>(∃f e,e≠0/\v = .tuple [.int .i64 0,.int .i64 e]/\gV h h' lp z f (n+1) m/\f.r=z.r)\/∃f w,v = .tuple [.int .i64 w,.int .i64 0]/\gV h h' lp z f (n+1) (m+1)/\f.r=z.r) e I Z (by omega) (by omega) r u (by omega) (λo r=>by have:=A o r;omega) (λh' f e k T t=>.inl ⟨f,e,k,rfl,T,t⟩) λh' f w T t=>.inr ⟨f,w,rfl,T,t⟩;generalize z.r.lm=mm at C;generalize Pg:z.r.ls=ls at C i;generalize z.r.bv=bv at C;generalize z.r.sv=sv at C;generalize z.r.wv=wv at C;generalize z.r.vv=vv at C;generalize z.r.nm=nm at C;refine .seq (.of ?_);cbv;refine .of C rfl ?_;cbv;refine (i ls rfl).mono λv K q=>?_;rcases q with ⟨B,e,k,rfl,T,g⟩ | ⟨B,w,rfl,T,g⟩
 ·cbv;refine .yr k ?_
  cbv;exact bJ K B e k T g
 ·cbv;refine .iz rfl ?_
  cbv;refine .weak [p0,p3] rfl (afu T.wf (M.mono T.mod) T.at' (by rw [g];exact E) (by rw [g];exact MU) L (by rw [g];exact F) J W (T.mod.get DE Wa) (λy=>(T.own _ y).elim Wa λe=>by rw [DE] at e;cases e) (hs.mono T.mod j) (λq D y=>(T.own _ y).elim (j q D) λe=>?_) λR G U S P O N=>X R G (T.trans U) (by rw [S,g]) (by rw [P,g]) (by rw [O,g]) N);exact DG hs D e
theorem abQ {I:Lb}{z:Cz}{kind b c:Int}(hw:Wf h)(he:HE h)(Z:js h lp z n m)(hn:n<=9000000)(gE:m<=900)(sN:bS z.r.nm z.r.base z.r.wait)(MU:eQ z.r.nm z.r.base z.r.wait l)(hl:l.length<=8)(hb:z.r.base.length<=1900)(kJ:∀x∈l,mr x) (hz:∀x∈l,MQ x)
  (DE:h.get I=some (.cells [.int .i64 kind,.str af,.int .i64 a,.int .i64 b,.int .i64 c,.int .i64 d,lv] zU 0 .yes)) (Wa:I∉z.own lp) (hs:Sl h 6 lv l.length (cx l)) (W:∀q,q∈ag lv->q∉z.own lp) {Q:V->H->Prop}
  (bJ:∀h' f (e:Int),e≠0->gV h h' lp z f (n+1) m->f.r=z.r->Q (.int .i64 e) h')
  (bN:∀h' f,gV h h' lp z f (n+1) (m+1)->f.r.nm=z.r.nm->f.r.base=z.r.base++l->f.r.wait=z.r.wait.drop (mq l z.r.nm)->bS f.r.nm f.r.base f.r.wait->Q (.int .i64 0) h'):
  I3 pf G0 131 aft {tmps:=gU [p0,p3,p5] [.ptr lp 0,.ptr I 0,.nilSlice 0],defers:=[]} h (tw pf G0 [.tmp p4] Q) λ_ _ _=>False:=by
 have C:=Z.jr.cell;have mw:=Z.jr.mw;have B:=Z.jr.base.sl;refine .seq (.of ?_);cbv;refine .of DE rfl ?_;cbv;refine .of hs λk zQ hk=>?_;cbv;refine .inv [p0,p3,p5,p49,p50,p51] (λm' aB h'=>∃(i:Int) (w:V) (os:List FI),aB=[.ptr lp 0,.ptr I 0,w,lv,.int .i64 k,.int .i64 i]/\0<=i/\i.toNat<=l.length/\m'=l.length - i.toNat/\aG h' dS 3 w os.length (xF os)/\os.length<=2*i.toNat/\(∀o∈os,o.key.length<=100/\o.val.length<=65536)/\Fr h w/\Mod h h' []/\Wf h') [_,_,_,_,_,_] rfl _
  ⟨0,.nilSlice 0,[],rfl,by omega,by simp,rfl,.nil,by simp,by simp,λq S=>by simp [ag] at S,Mod.refl _ _,hw⟩ ?_
 rintro m' _ h1 ⟨i,w,os,rfl,iB,I0,eF,Iw,hol,G,Sz,v,aK⟩;have P:=v.get DE;cbv;refine .lt (λbA=>?_) λjl=>?_;rotate_left
 ·cbv
  have R:gV h h1 lp z z n m:=(gV.refl Z hw).beside v aK;exact .weak [p0,p3,p5] rfl (afx aK (he.mono v) (Z.mono v) hn gE sN MU hl hb kJ hz P Wa (hs.mono v) W Iw (λq S O=>Z.live O (Sz q S)) (by omega) G (λh' f e cV T er=>bJ h' f e cV (R.trans T) er) λh' f T e1 J e3 wo=>bN h' f (R.trans T) e1 J e3 wo)
 obtain ⟨x,hx⟩:∃x,l[i.toNat]? =some x:=⟨_,List.getElem?_eq_getElem (by omega)⟩;have DH:=List.mem_of_getElem? hx;have bC:=dP _ _ _ hx;have ZA:=kJ x DH;have F:=hz x DH;have N:=ZA.text;have S9:=ZA.id;obtain ⟨amr,M⟩:=F.id;obtain ⟨xc,xi,xk,xs,xn,xt⟩:=x;dsimp only at bC N S9 amr M;cbv;refine .of (hs.mono v) iB rfl (by omega) bC λZV off jA=>?_;cbv;refine .jC jA rfl ?_;cbv;refine .of aK λlx h2 FK Il av aO=>?_;cbv;refine .of (cs:=[.str xc,.int .i64 xi,.int .i64 xk,.str xs,.str xn,.str xt]) aO FK rfl rfl rfl rfl rfl rfl λh3 Fz aI aS=>?_;have jD:Mod h1 h3 []:=av.fr aI λq g=>.inl (by rw [List.mem_singleton] at g;rw [g];exact Il);have A:lx∉ag w:=λO=>by obtain ⟨c',J⟩:=Iw.row O;rw [Il] at J;cases J
 cbv;refine .all Fz rfl ?_;cbv;refine Zu (x:=⟨xc,xi,xk,xs,xn,xt⟩) aS F (by dsimp only;omega) λt e h4 Ct _ _ aL aW=>?_;have Ca:Mod h1 h4 []:=(jD.trans aL).mono λq _ _ g=>by simp at g
 have aC:Mod h h4 []:=(v.trans Ca).mono λq _ _ g=>by simp at g
 have Ya:=aL.get Fz;have C4:=aC.get C;have B4:=B.mono aC;have n4:z.r.nm=z.r.nm:=rfl;generalize z.r.lm=mm at C4;generalize z.r.ls=ls at C4;generalize z.r.bv=bv at C4 B4;generalize z.r.sv=sv at C4;generalize z.r.wv=wv at C4;generalize z.r.vv=vv at C4;generalize z.r.nm=nm at C4;cbv;refine .of C4 rfl ?_;cbv;refine .of B4 λk4 aF6 hk4=>?_;cbv;refine .add (by omega) (by omega) λk5 hk5=>?_;cbv;refine .add (by omega) (by omega) λk6 hk6=>?_;cbv;refine R9 (by omega) (by omega) (by simp) λu hky=>?_;cbv;refine .flat rfl ?_;cbv;refine .flat rfl ?_;cbv;refine .agg ?_;cbv;refine .of aW λl5 h5 Bn FF K bK=>?_;have np:=(Iw.mono Ca).mono K;cbv;refine .own bK np (m:=1) (new:=[.str u,.bool false,.str t]) (by simp only [cW,Bn];rfl) rfl rfl (by unfold bg;omega) (by decide) λE h6 U H4 bR cz=>?_;rw [show xF os++[V.str u,.bool false,.str t]=xF (os++[⟨u,false,t⟩]) from by rw [vQ];rfl,show os.length+1=(os++[(⟨u,false,t⟩:FI)]).length from by simp] at U;have aT:Mod h h5 []:=(aC.trans K).mono λq _ _ g=>by simp at g
 have Y:Mod h h6 []:=aT.fr bR λq g=>.inl (Sz q g);have V6:Fr h E:=H4.fr aT (by simp) Sz;have y:=bR.get (K.get Ya) A;have aF7:=H4.dp (K.get Ya) A;have C6:h6.get lp=_:=Y.get C;have D:∀o∈os++[(⟨u,false,t⟩:FI)],o.key.length<=100/\o.val.length<=65536:=λo r=>(List.mem_append.1 r).elim (G o) λr=>by
  simp at r;subst r;exact ⟨by dsimp only;omega,Ct⟩
 have aF8:(os++[(⟨u,false,t⟩:FI)]).length<=2*i.toNat+1:=by simp;omega
 generalize z.r.lm=mm6 at C6;generalize z.r.ls=ls6 at C6;generalize z.r.bv=bv6 at C6;generalize z.r.sv=sv6 at C6;generalize z.r.wv=wv6 at C6;generalize z.r.vv=vv6 at C6;generalize z.r.nm=nm6 at C6;generalize os++[(⟨u,false,t⟩:FI)]=os6 at*;cbv;refine .of follows 3 ?_;cbv;refine .of y rfl ?_;cbv;refine .of C6 rfl ?_;cbv;refine .seq (λheq=>?_) λcV=>?_;rotate_left
 ·cbv;refine .add (by omega) (by omega) λj hj=>?_
  cbv;exact ⟨rfl,l.length - j.toNat,by omega,j,E,os6,rfl,by omega,by omega,rfl,U,by omega,D,V6,Y,cz⟩
 cbv;refine .of y rfl ?_;cbv;refine R9 (by omega) (by omega) (by simp) λs aF9=>?_;cbv;refine .flat rfl ?_;cbv;refine .flat rfl ?_;cbv;refine .agg ?_;cbv;refine .of cz λl7 h7 tf hf7 db eJ=>?_;cbv;refine .own eJ (U.mono db) (m:=1) (new:=[.str s,.bool true,.str []]) (by simp only [cW,tf];rfl) rfl rfl (by unfold bg;omega) (by decide) λL h8 uJ SI cU eL=>?_;rw [show xF os6++[V.str s,.bool true,.str []]=xF (os6++[⟨s,true,[]⟩]) from by rw [vQ];rfl,show os6.length+1=(os6++[(⟨s,true,[]⟩:FI)]).length from by simp] at uJ;have cH:Mod h h7 []:=(Y.trans db).mono λq _ _ g=>by simp at g
 cbv;refine .add (by omega) (by omega) λj hj=>?_;cbv;exact ⟨rfl,l.length - j.toNat,by omega,j,L,_,rfl,by omega,by omega,rfl,uJ,by simp;omega,λo r=>(List.mem_append.1 r).elim (D o) λr=>by
  simp at r;subst r;exact ⟨by dsimp only;omega,by simp⟩,SI.fr cH (by simp) V6,cH.fr cU λq g=>.inl (V6 q g),eL⟩
theorem JA {z:Cz}{kind from_ g last top:Int}(t:Wf h)(he:HE h)(Z:js h lp z n m)(U:n<=9000000)(O:m<=900)(J:bS z.r.nm z.r.base z.r.wait)(W:z.r.base.length<=1900)(hs:Sl h 6 lv l.length (cx l))(G:∀q,q∈ag lv->q∉z.own lp) (E:∀x∈l,MQ x) (s:l.length<=1000000) (FB:af.length<=9223372036854775807) (P7:i64 g) {Q:V->H->Prop}
  (Wb:∀h' (e:Int),(e=130/\¬(kind=4/\sL kind af from_ g last top l)\/e=151/\kind=4/\sL kind af from_ g last top l/\¬(from_.toNat=z.r.base.length/\eQ z.r.nm z.r.base z.r.wait l))->Mod h h' []->Wf h'->Q (.int .i64 e) h')
  (Pj:∀h' d (e:Int),e≠0->kind=4->sL kind af from_ g last top l->from_.toNat=z.r.base.length->eQ z.r.nm z.r.base z.r.wait l->gV h h' lp z d (n+1) m->d.r=z.r->Q (.int .i64 e) h')
  (N:∀h' d,kind=4->sL kind af from_ g last top l->from_.toNat=z.r.base.length->eQ z.r.nm z.r.base z.r.wait l->gV h h' lp z d (n+1) (m+1)->d.r.nm=z.r.nm->d.r.base=z.r.base++l->d.r.wait=z.r.wait.drop (mq l z.r.nm)->bS d.r.nm d.r.base d.r.wait->Q (.int .i64 0) h'):
  CW pf G0 gA [.ptr lp 0,M5 kind af from_ g last top lv] h Q:=by
 have S:=Z.jr;have C:=S.cell;have B:=S.base.sl;have mw:=S.mw;have fK:=λ{h':H} (m:Mod h h' []) {Q:V->H->Prop} (t:Wf h') (h8:l.length<=8) F hq=>Vp (Q:=Q) t (S.mono m) (hs.mono m) h8 F E hq;refine vx.oM (by kernel_rfl) ?_;refine .seq (.of ?_);cbv;refine .agg ?_;cbv;refine .of t λlm h1 DE FC ar K=>?_;have Wa:lm∉z.own lp:=λF=>Z.live F FC;have C1:=ar.get C;have B1:=B.mono ar;generalize z.r.lm=mm at C C1;generalize z.r.ls=ls at C C1;generalize z.r.bv=bv at C C1 B B1;generalize z.r.sv=sv at C C1;generalize z.r.wv=wv at C C1;generalize z.r.vv=vv at C C1;generalize nu:z.r.nm=nm at C C1;cbv;refine .seq (.of ?_);cbv;refine oJ C1 ?_;cbv;refine .of DE rfl ?_;cbv;refine .ne (λu=>?_) λu=>?_;rotate_left
 ·cbv;exact Wb h1 130 (.inl ⟨rfl,λq=>u q.1⟩) ar K
 subst u;cbv;refine .all DE rfl ?_;cbv;refine zR (l:=l) K (hs.mono ar) E s FB P7 (λy A av w=>?_) λy i av w=>?_
 all_goals
  have v:Mod h y []:=(ar.trans av).mono λl o _ s=>by simp at s
 ·cbv;refine .yr (by decide) ?_
  cbv;exact Wb y 130 (.inl ⟨rfl,λq=>A q.2⟩) v w
 have P:zL from_/\l.length<=8/\∀x∈l,mr x:=by
  cases i with
  | push h=>cases h
  | X3 h=>cases h
  | pull h=>cases h
  | patch _ a _ _ _ _ b c=>exact ⟨a,b,c⟩
  | ami h=>cases h
 obtain ⟨⟨pf0,pf1⟩,j,I⟩:=P;have Og:=av.get DE;have C2:=av.get C1;have B2:=B1.mono av;cbv;refine .iz rfl ?_;cbv;refine .of follows 5 ?_;cbv;refine .of Og rfl ?_;cbv;refine .of C2 rfl ?_;cbv;refine .of B2 λk zQ u=>?_;cbv;refine .ne (λL=>?_) λL=>?_;rotate_left
 ·cbv;refine .nil ?_
  cbv;exact Wb y 151 (.inr ⟨rfl,rfl,i,λq=>L (by omega)⟩) v w
 have YE:from_.toNat=z.r.base.length:=by omega
 cbv;refine .of Og rfl ?_;cbv;refine fK v w j I λh3 b cw dh M D=>?_;have f:Mod h h3 []:=(v.trans M).mono λl o _ s=>by simp at s
 refine .nil ?_;cases b
 ·cbv;exact Wb h3 151 (.inr ⟨rfl,rfl,i,λq=>dh rfl q.2⟩) f D
 have MU:=cw rfl;have SS:=M.get Og;cbv;refine .of SS rfl ?_;cbv;refine .of (hs.mono f) λk2 FO uF=>?_;have R:gV h h3 lp z z n m:=(gV.refl Z t).beside f D;cbv;refine .eq (λX=>?_) λX=>?_
 ·have:l=[]:=List.length_eq_zero_iff.1 (by omega)
  subst this;cbv;exact N h3 z rfl i YE MU (R.le (by omega) (by omega)) rfl (by simp) (by simp [mq]) J
 cbv;refine .seq (.of ?_);cbv;refine .weak [p0,p3,p5] rfl (abQ D (he.mono f) (Z.mono f) U O J MU j W I E SS Wa (hs.mono f) G (λh' d e Y T er=>Pj h' d e Y rfl i YE MU (R.trans T) er) λh' d T e1 e2 e3 wo=>N h' d rfl i YE MU (R.trans T) e1 e2 e3 wo)
end K
namespace K
open Go Go.Dx Go.RowKit Go.Proofs
set_option maxRecDepth 100000
structure Hn (h:H)(lv:V)(l:List ep):Prop where
 sl:Sl h 6 lv l.length (cx l)
 mw:l.length<=9223372036854775807
 each:∀x∈l,MQ x/\x.text.length<=9223372036854775807
theorem Hn.mono {h h':H}{a:V}{l:List ep}{F:List Lb}(L:Hn h a l)(m:Mod h h' F)(b:∀q,q∈ag a->q∉F:=by simp):Hn h' a l:=⟨L.sl.mono m b,L.mw,L.each⟩
theorem oO (a:Int):0<=bU .u64 a/\bU .u64 a<=18446744073709551615:=by
 rw [eT];simp [IntKind.wrap,IntKind.bits,IntKind.signed];omega
end K
namespace K
open Go Go.Dx Go.RowKit Go.Proofs
set_option maxRecDepth 100000
structure M0 where
 op:Int
 mkd:Int
 mi:List Nat
 mn:List Nat
 mt:List Nat
 kind:Int
 af:List Nat
 from_:Int
 az:Int
 last:Int
 top:Int
 lv:V
 list:List ep
 n:Int
 kv:V
 S6:Int
abbrev dcR (x:M0):List V:=[.int .i64 x.op,.int .i64 x.mkd,.str x.mi,.str x.mn,.str x.mt,.int .i64 x.kind,.str x.af,.int .i64 x.from_,.int .i64 x.az,.int .i64 x.last,.int .i64 x.top,x.lv,.int .i64 x.n,x.kv,.int .i64 x.S6]
def VG:List M0->List V
 | []=>[]
 | x::r=>.int .i64 x.op :: .int .i64 x.mkd :: .str x.mi :: .str x.mn :: .str x.mt :: .int .i64 x.kind :: .str x.af :: .int .i64 x.from_ :: .int .i64 x.az :: .int .i64 x.last :: .int .i64 x.top::x.lv :: .int .i64 x.n::x.kv :: .int .i64 x.S6::VG r
theorem I5:∀(l:List M0) (i:Nat) (x:M0),l[i]? =some x->rowFrom (VG l) (i*15) 15=some (dcR x)
 | [],i,x,h=>by simp at h
 | y::r,0,x,h=>by simp at h;subst h;rfl
 | y::r,i+1,x,h=>by
   have:=I5 r i x (by simpa using h);rw [show (i+1)*15=i*15+1+1+1+1+1+1+1+1+1+1+1+1+1+1+1 by omega];exact this
structure SZ (h:H)(x:M0):Prop where
 VK:Hn h x.lv x.list
 kv:cf x.kv=true
 az:i64 x.az
 af:x.af.length<=9223372036854775807
 mi:x.mi.length<=9223372036854775807
 mn:x.mn.length<=9223372036854775807
 mt:x.mt.length<=9223372036854775807
 n:i64 x.n
structure xG (h:H)(v:V)(l:List M0):Prop where
 sl:Sl h 15 v l.length (VG l)
 mw:l.length<=9223372036854775807
 each:∀x∈l,SZ h x
theorem SZ.mono {h h':H}{x:M0}{F:List Lb}(D:SZ h x)(m:Mod h h' F)(a:∀q,q∈ag x.lv->q∉F:=by simp):SZ h' x:=⟨D.VK.mono m a,D.kv,D.az,D.af,D.mi,D.mn,D.mt,D.n⟩
theorem afy {x:M0}(b:cf x.lv=true)(a:cf x.kv=true):aZ (dcR x)=true:=by
 show (true&&(true&&(true&&(true&&(true&&(true&&(true&&(true&&(true&&(true&&(true&&(cf x.lv&&(true&&(cf x.kv&&(true&&true)))))))))))))))=true
 rw [b,a];rfl
end K
namespace Go.Dx
open Go Go.RowKit
variable{l:Lb}{h:H}
theorem VO.aro {off:Nat}{els cs:List V}{K:V->Prop} (e:Ep h l off els) (j m:Nat) (d:rowFrom els j m=some cs) (f:j+m<=els.length) (a:K (.agg cs)):VO h (.many m) l (off+j) K:=by
 obtain ⟨g,t,i,b,c,h0⟩:=e.out;exact .of c (by simp only [dB,yw h0 d f,ob]) a
theorem fu.ld {a:Rd}{off hi:Nat}{x:V}{ps:List kF}{K:Prop}(d:VO h a l off λv=>v=x) (c:fu h ps K):fu h ((.load a l off,x,hi)::ps) K:=by
 obtain ⟨v,b,e⟩:=d;subst e;exact .cons b c
end Go.Dx
namespace K
open Go Go.Dx Go.RowKit Go.Proofs
set_option maxRecDepth 100000
variable{l:List ep}{v:V}{h:H}
def ajG (x:ep):Prop:=x.aE.length<=65536/\x.name.length<=65536/\x.text.length<=65536
set_option maxHeartbeats 4000000 in
theorem MH (I:Wf h)(hs:Sl h 6 v l.length (cx l))(hl:l.length<=9223372036854775807)(Z:∀x∈l,MQ x/\x.text.length<=9223372036854775807) {Q:V->H->Prop}
  (o:∀h' (n:Int),0<=n->n<=400000->(n<=65536->l.length<=n.toNat/\∀x∈l,ajG x)->Mod h h' []->Wf h'->Q (.int .i64 n) h'):CW pf G0 mD [v] h Q:=by
 refine xd.enter (by kernel_rfl) ?_;cbv;refine .inv [p0,p3,p4] (λp K h'=>∃(n i:Int),K=[v,.int .i64 n,.int .i64 i]/\0<=n/\n<=400000/\0<=i/\i.toNat<=l.length/\p=l.length - i.toNat/\(n<=65536->i<=n/\∀x∈l.take i.toNat,ajG x)/\Mod h h' []/\Wf h') [_,_,_] rfl _
  ⟨0,0,rfl,by omega,by omega,by omega,by simp,rfl,λ_=>⟨by omega,by simp⟩,Mod.refl _ _,I⟩ ?_
 rintro p _ e ⟨n,i,rfl,m,Dr,t,I0,eF,AA,a,d⟩;cbv;refine .of (hs.mono a) λk zQ hk=>?_;cbv;refine .lt (λbA=>?_) λjl=>?_;rotate_left
 ·cbv;exact o e n m Dr (λg=>by
   have:=AA g;rw [List.take_of_length_le (by omega)] at this;exact ⟨by omega,this.2⟩) a d
 cbv;refine .le (λL=>?_) λYV=>?_;rotate_left
 ·cbv;exact o e n m Dr (λg=>by omega) a d
 obtain ⟨x,f⟩:∃x,l[i.toNat]? =some x:=⟨_,List.getElem?_eq_getElem (by omega)⟩;have c:=dP _ _ _ f;have Ik:=eM f;obtain ⟨⟨J,G,w,_⟩,B⟩:=Z x (List.mem_of_getElem? f);obtain ⟨xc,xi,A,xs,S,N⟩:=x;dsimp only at c J G w B;have s:=hs.mono a;cbv;refine .of s t rfl (by omega) c λsl off P=>?_;cbv;refine .aro P 2 4 rfl (by simp) ?_;cbv;refine .of d λlx h2 FK Il E U=>?_;cbv;refine .of (cs:=[.int .i64 A,.str xs,.str S,.str N]) U FK rfl rfl rfl rfl rfl rfl λh3 Fz T W=>?_;have r:Mod e h3 []:=E.fr T λq b=>.inl (by rw [List.mem_singleton] at b;rw [b];exact Il);have D:Mod h h3 []:=(a.trans r).mono λq _ _ b=>by simp at b
 cbv;refine .of follows 6 ?_;cbv;refine .of (s.mono r) t rfl (by omega) c λZV xO B'=>?_;cbv;refine .fR B' 0 rfl ?_;cbv;refine .of λc1 F YN=>?_;cbv;refine .of λe1 u=>?_;cbv;refine .add (by omega) (by omega) λs1 R=>?_;cbv;refine .of Fz rfl ?_;cbv;refine .of λc2 avu HQ=>?_;cbv;refine .of λe2 uE=>?_;cbv;refine .add (by omega) (by omega) λs2 B9=>?_;cbv;refine .of Fz rfl ?_;cbv;refine .of λc3 M X=>?_;cbv;refine .of λe3 xJ=>?_;cbv;refine .add (by omega) (by omega) λs3 Y=>?_;cbv;refine .of Fz rfl ?_;cbv;refine .of λc4 aGa O=>?_;cbv;refine .of λe4 Ay=>?_;cbv;refine .add (by omega) (by omega) λs4 Xu=>?_;cbv;refine .add (by omega) (by omega) λz C=>?_;cbv;refine .add (by omega) (by omega) λj hj=>?_;have Dp:j.toNat=i.toNat+1:=by omega
 cbv;exact ⟨rfl,l.length - j.toNat,by omega,z,j,rfl,by omega,by omega,by omega,by omega,rfl,λg=>⟨by have:=(AA (by omega)).1;omega,λy hy=>by
  rw [Dp,Ik] at hy;rcases List.mem_append.1 hy with q | q
  ·exact (AA (by omega)).2 y q
  ·simp at q;subst q
   exact ⟨by dsimp only;omega,by dsimp only;omega,by dsimp only;omega⟩⟩,D,W⟩
def JC (x:M0):Prop:=x.list.length<=65536/\x.mi.length<=65536/\x.mn.length<=65536/\x.mt.length<=65536
set_option maxHeartbeats 4000000 in
theorem xI {l:List M0}(W:Wf h)(D:xG h v l){Q:V->H->Prop} (s:∀h',Mod h h' []->Wf h'->Q (.bool false) h') (bN:∀h',l.length<=60->(∀x∈l,JC x)->Mod h h' []->Wf h'->Q (.bool true) h'):CW pf G0 nY [v] h Q:=by
 have hs:=D.sl;have Mf:=D.mw;refine y9.enter (by kernel_rfl) ?_;cbv;refine .inv [p0,p3,p4] (λS aB h'=>∃(n i:Int),aB=[v,.int .i64 n,.int .i64 i]/\0<=n/\n<=1000000/\0<=i/\i.toNat<=l.length/\S=l.length - i.toNat/\(n<=65536->∀x∈l.take i.toNat,JC x)/\Mod h h' []/\Wf h') [_,_,_] rfl _
  ⟨0,0,rfl,by omega,by omega,by omega,by simp,rfl,λ_=>by simp,Mod.refl _ _,W⟩ ?_
 rintro S _ c ⟨n,i,rfl,fg,Dr,w,I0,eF,AA,ar,e⟩;have d:=hs.mono ar;have E:(i.toNat=l.length\/60<i\/65536<n)->l.length<=60->n<=65536->∀x∈l,JC x:=λg q1 q2=>by
  have:=AA q2
  rwa [List.take_of_length_le (by omega)] at this
 cbv;refine .of d λk zQ hk=>?_;cbv;refine .lt (λbA=>?_) λjl=>?_;rotate_left
 ·cbv;refine .of d λP FO L=>?_
  cbv;refine .le (λa=>?_) λa=>?_
  ·cbv;refine .le (λt=>?_) λt=>?_
   ·cbv;exact bN c (by omega) (E (by omega) (by omega) t) ar e
   ·cbv;exact s c ar e
  ·cbv;exact s c ar e
 cbv;refine .le (λhle=>?_) λYV=>?_;rotate_left
 ·cbv;refine .of d λP FO L=>?_
  cbv;refine .le (λa=>?_) λa=>?_
  ·omega
  ·cbv;exact s c ar e
 cbv;refine .le (λX=>?_) λaxN=>?_;rotate_left
 ·cbv;refine .of d λP FO L=>?_
  cbv;refine .le (λa=>?_) λa=>?_
  ·cbv;refine .le (λt=>?_) λt=>?_
   ·omega
   ·cbv;exact s c ar e
  ·cbv;exact s c ar e
 obtain ⟨x,I⟩:∃x,l[i.toNat]? =some x:=⟨_,List.getElem?_eq_getElem (by omega)⟩;have p:=I5 _ _ _ I;have f:=(D.each x (List.mem_of_getElem? I)).mono ar;have Ik:=eM I;obtain ⟨op,mkd,mi,A,u,kind,af,from_,az,last,top,lv,O,N,kv,S6⟩:=x;have nW:=f.VK.sl;have o:=f.VK.mw;have FB:=f.af;have m:=f.VK.each;have J:=f.mi;have R:=f.mn;have K:=f.mt;unfold dcR at p;dsimp only at p nW o FB m J R K;cbv;refine .of follows 9 ?_;cbv;refine .of d w rfl (by omega) p λsl off jA=>?_;cbv;refine .aro jA 1 4 rfl (by simp) ?_;cbv;refine .agg ?_;cbv;refine .of d w rfl (by omega) p λZV F B'=>?_;cbv;refine .fR (off:=F) B' 11 rfl ?_;cbv;refine .of d w rfl (by omega) p λsl3 FQ Im=>?_;cbv;refine .fR (off:=FQ) Im 6 rfl ?_;cbv;refine .of λc1 ayc YN=>?_;cbv;refine .of λe1 U=>?_;cbv;refine .agg ?_;cbv;refine .of e λY h2 B hfw G aO=>?_;refine .ld (.fR (off:=FQ) (Im.mono G) 6 rfl rfl) (.ld (.fR (off:=F) (B'.mono G) 11 rfl rfl) (.nil ?_));have z:Sl h2 6 (.slice Y 0 1 (.exact 1)) [(⟨[],0,mkd,mi,A,u⟩:ep)].length (cx [⟨[],0,mkd,mi,A,u⟩]):=.row B rfl;cbv;refine MH (l:=[⟨[],0,mkd,mi,A,u⟩]) aO z (by simp) (λy hy=>by
  simp at hy;subst hy;exact ⟨⟨by simp,J,R,by dsimp only;constructor<;>omega⟩,K⟩) λh3 w1 qy Dz FN aI aS=>?_
 have M8:Mod c h3 []:=(G.trans aI).mono λq _ _ r=>by simp at r
 refine .ld (.fR (off:=FQ) (Im.mono M8) 6 rfl rfl) (.ld (.fR (off:=F) (B'.mono M8) 11 rfl rfl) (.nil ?_));cbv;refine MH aS (nW.mono M8) o m λh4 w2 L4 apV C aL Z=>?_;have M:Mod c h4 []:=(M8.trans aL).mono λq _ _ r=>by simp at r
 refine .ld (.fR (off:=FQ) (Im.mono M) 6 rfl rfl) (.nil ?_);cbv;refine .add (by omega) (by omega) λs1 ayd=>?_;cbv;refine .add (by omega) (by omega) λs2 aGe=>?_;cbv;refine .add (by omega) (by omega) λs3 aGf=>?_;cbv;refine .add (by omega) (by omega) λj hj=>?_;have Dp:j.toNat=i.toNat+1:=by omega
 cbv;exact ⟨rfl,l.length - j.toNat,by omega,s3,j,rfl,by omega,by omega,by omega,by omega,rfl,λg y hy=>by
  rw [Dp,Ik] at hy;rcases List.mem_append.1 hy with q | q
  ·exact AA (by omega) y q
  ·simp at q;subst q
   obtain ⟨a1,a2⟩:=FN (by omega);obtain ⟨b1,b2,b3⟩:=a2 _ (List.mem_singleton.2 rfl);have b4:=(C (by omega)).1;exact ⟨by dsimp only;omega,b1,b2,b3⟩,(ar.trans M).mono λq _ _ r=>by simp at r,Z⟩
theorem Oo {kind from_ g last top:Int}{i:List Nat}{z:V}(B:Wf h)(hs:Sl h 6 z l.length (cx l))(N:l.length<=100000){Q:V->H->Prop}
  (E:∀a h',aG h' cD 6 a l.length (cx l)->Fr h a->Mod h h' []->Wf h'->Q (M5 kind i from_ g last top a) h'):CW pf G0 qS [M5 kind i from_ g last top z] h Q:=by
 have D:=hs.flat;refine CK.enter (by kernel_rfl) ?_;cbv;refine .agg ?_;cbv;refine .of B λk M DE FC R C=>?_;cbv;refine .of C λr K d s j I=>?_;have Og:=j.get DE;have m:k≠r:=λe=>by rw [e] at DE;rw [DE] at s;cases s
 cbv;refine .of Og rfl ?_;cbv;refine eP uB I ((hs.mono R).mono j) (ka _) (by omega) (by decide) λa h3 y P=>?_;have YE:=y.sl.flat;have SS:=P.get Og;have t:=P.get d;cbv;refine .one (vs':=[.int .i64 kind,.str i,.int .i64 from_,.int .i64 g,.int .i64 last,.int .i64 top,a]) P.wf SS YE rfl rfl rfl λh4 P8 o L=>?_;have w:=o.get t (by simpa using Ne.symm m);cbv;refine .all P8 rfl ?_;cbv;refine .of (cs:=[.int .i64 kind,.str i,.int .i64 from_,.int .i64 g,.int .i64 last,.int .i64 top,a]) L w rfl rfl rfl rfl (by show (true&&(true&&(true&&(true&&(true&&(true&&(cf a&&true)))))))=true;rw [YE];rfl) rfl λA n x F=>?_;cbv;refine .all n rfl ?_;have f:Mod h K []:=(R.trans j).mono λq _ _ b=>by simp at b
 have u:=aj R (by simp) s;have G:k∉ag a:=λv=>by have:=P.fr k v;rw [Og] at this;cases this
 have J:r∉ag a:=λv=>by have:=P.fr r v;rw [d] at this;cases this
 cbv;refine E a A ((y.mono o (dJ G)).mono x (dJ J)) (λq b=>aj f (by simp) (P.fr q b)) ?_ F;refine ((f.trans P.mod).fr (o.trans x) λq b=>?_).mono λq _ _ b=>by simp at b
 simp at b;rcases b with e | e
 ·rw [e];exact .inl FC
 ·rw [e];exact .inl u
end K
