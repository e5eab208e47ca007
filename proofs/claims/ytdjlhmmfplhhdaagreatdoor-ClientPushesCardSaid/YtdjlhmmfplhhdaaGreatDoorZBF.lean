/-
  The client's laws. Part ZBF of the proof: blotter/client: a client and its store.
-/
import Derived.Test.YtdjlhmmfplhhdaaGreatDoorZBE
import Derived.Test.YtdjlhmmfplhhdaaGreatDoorZBD
namespace K
open Go Go.Dx Go.RowKit Go.Proofs
set_option maxRecDepth 100000
variable{n m n' m':Nat}{lp ls:Lb}{h h' h1 h2:H}
structure Cz where
 r:pq
 s:xB
 g:Lg
 d:ei
def Cz.own (z:Cz)(lp:Lb):List Lb:=z.r.own lp++z.s.own z.r.ls z.g z.d
structure js (h:H)(lp:Lb)(z:Cz)(n m:Nat):Prop where
 jr:eI h lp z.r
 sto:fc h z.r.ls z.s z.g z.d
 apart:∀q,q∈z.r.own lp->q∉z.s.own z.r.ls z.g z.d
 cons:Cons z.d
 aJ:z.d.aJ.length<=n
 bZ:z.g.bZ.length<=n
 next:z.g.next.toNat<=n+1
 v0:0<=z.s.version
 v1:z.s.version.toNat<=m
 items:z.s.items.length<=256*m
structure gV (h h':H)(lp:Lb)(z z':Cz)(n m:Nat):Prop where
 at':js h' lp z' n m
 own:∀q,q∈z'.own lp->q∈z.own lp\/h.get q=none
 mod:Mod h h' (z.own lp)
 wf:Wf h'
 ld:z'.g.ld=z.g.ld
theorem js.live {z:Cz}(Z:js h lp z n m){q:Lb}(a:q∈z.own lp):h.get q≠none:=
 (List.mem_append.1 a).elim (λe=>Z.jr.live e) λe=>Z.sto.live e
theorem js.mono {z:Cz}{F:List Lb}(Z:js h lp z n m)(c:Mod h h' F)(b:∀l,l∈z.own lp->l∉F:=by simp):js h' lp z n m:=
 ⟨Z.jr.mono c λl a=>b l (List.mem_append_left _ a),Z.sto.mono c λl a=>b l (List.mem_append_right _ a),Z.apart,Z.cons,Z.aJ,Z.bZ,Z.next,Z.v0,Z.v1,Z.items⟩
theorem js.le {z:Cz}(Z:js h lp z n m)(a:n<=n')(b:m<=m'):js h lp z n' m':=by
 have:=Z.aJ;have:=Z.bZ;have:=Z.next;have:=Z.v1;have:=Z.items;exact ⟨Z.jr,Z.sto,Z.apart,Z.cons,by omega,by omega,by omega,Z.v0,by omega,by omega⟩
theorem gV.refl {z:Cz}(Z:js h lp z n m)(b:Wf h):gV h h lp z z n m:=⟨Z,λ_q a=>.inl a,Mod.refl _ _,b,rfl⟩
theorem gV.le {z b:Cz}(a:gV h h' lp z b n m)(c:n<=n')(d:m<=m'):gV h h' lp z b n' m':=⟨a.at'.le c d,a.own,a.mod,a.wf,a.ld⟩
theorem gV.trans {z f d:Cz}{g c:Nat}(a:gV h h1 lp z f n m)(b:gV h1 h2 lp f d g c):gV h h2 lp z d g c:=
 ⟨b.at',λq i=>(b.own q i).elim (a.own q) λe=>(PN a.mod e).symm,a.mod.fr b.mod λl j=>(a.own l j).symm,b.wf,b.ld.trans a.ld⟩
theorem gV.beside {z j:Cz}(a:gV h h1 lp z j n m){F:List Lb}(c:Mod h1 h2 F)(f:Wf h2)(d:∀l,l∈j.own lp->l∉F:=by simp) (e:∀l,l∈F->h.get l=none:=by simp):gV h h2 lp z j n m:=
 ⟨a.at'.mono c d,a.own,a.mod.fr c λl g=>.inl (e l g),f,a.ld⟩
theorem ah0 {z:Cz}(Pg:z.r.ls=ls)(j:Wf h)(Z:js h lp z n m)(k:n<=100000000){Q:V->H->Prop} (a:∀h' s,gV h h' lp z s n m->s.r=z.r->s.g=z.g->Mz z.g z.d s.d->Q (.int .i64 0) h'):CW pf G0 iR [.ptr ls 0] h Q:=by
 subst Pg;have l:=Z.aJ;refine ahU j Z.sto (by omega) λh' d' S' d g i o f=>?_;obtain ⟨ops,dev⟩:=d.dev;have FU:∀q,q∈xB.own {z.s with synced:=z.s.version} z.r.ls z.g d'->q∈z.s.own z.r.ls z.g z.d\/h.get q=none:=λq a=>by
  simp only [xB.own,List.mem_cons,List.mem_append] at a ⊢;rcases a with e | e | e | e
  ·exact .inl (.inl e)
  ·exact .inl (.inr (.inl e))
  ·exact .inl (.inr (.inr (.inl e)))
  ·exact (i q e).imp_left λx=>.inr (.inr (.inr x))
 refine a h' ⟨z.r,{z.s with synced:=z.s.version},z.g,d'⟩ ⟨⟨Z.jr.mono o λq a o=>Z.apart q a o,S',λq a o=>?_,dev.cons Z.sto.kc.nod Z.cons,by dsimp only;omega,Z.bZ,Z.next,Z.v0,Z.v1,Z.items⟩,λq a=>?_,o.mono λq _ _ a=>List.mem_append_right _ a,f,rfl⟩ rfl rfl d
 ·rcases FU q o with e | e
  ·exact Z.apart q a e
  ·exact Z.jr.live a e
 ·rcases List.mem_append.1 a with a | a
  ·exact .inl (List.mem_append_left _ a)
  ·exact (FU q a).imp_left λx=>List.mem_append_right _ x
theorem X' {z:Cz}(Pg:z.r.ls=ls)(i:Wf h)(Z:js h lp z n m)(k:n<=10000000)(j:m<=1000){Q:V->H->Prop} (a:∀h' z' (e:Int),gV h h' lp z z' (n+256*m+2) m->z'.r=z.r->Q (.int .i64 e) h'):CW pf G0 fT [.ptr ls 0] h Q:=by
 subst Pg;have r:=Z.aJ;have s:=Z.bZ;have t:=Z.next;have c:=Z.v0;have O3:=Z.v1;have hi:=Z.items;refine X9 i Z.sto Z.cons rfl (by omega) (by omega) (by omega) (by omega) c (by omega) λh' syn g d' e d S' C' l p o FU u f=>?_;refine a h' ⟨z.r,{z.s with synced:=syn},g,d'⟩ e ⟨⟨Z.jr.mono u λq a u=>Z.apart q a u,S',λq a u=>?_,C',by dsimp only;omega,by dsimp only;omega,by dsimp only;omega,Z.v0,Z.v1,Z.items⟩,λq a=>?_,u.mono λq _ _ a=>List.mem_append_right _ a,f,d⟩ rfl
 ·rcases FU q u with e | e
  ·exact Z.apart q a e
  ·exact Z.jr.live a e
 ·rcases List.mem_append.1 a with a | a
  ·exact .inl (List.mem_append_left _ a)
  ·exact (FU q a).imp_left λx=>List.mem_append_right _ x
end K
namespace K
open Go Go.Dx Go.RowKit Go.Proofs
set_option maxRecDepth 100000
theorem PS {h:H}{lp ls:Lb}{z:Cz}{n m:Nat}{vo:V}{l:List FI}(Pg:z.r.ls=ls)(D:Wf h)(Z:js h lp z n m)(X:n<=10000000)(W:m<=1000)(u:aG h dS 3 vo l.length (xF l))(k:∀q,q∈ag vo->q∉z.own lp) (G:l.length<=1000000) (J:∀o,o∈l->o.key.length<=100000000/\o.val.length<=100000000) {Q:V->H->Prop}
  (T:∀h' z' (e:Int),e≠0->gV h h' lp z z' (n+1) m->z'.r=z.r->Q (.tuple [.int .i64 0,.int .i64 e]) h')
  (S:∀h' z' (v:Int),gV h h' lp z z' (n+1) (m+1)->z'.r=z.r->Q (.tuple [.int .i64 v,.int .i64 0]) h'):
  CW pf G0 gB [.ptr ls 0,vo] h Q:=by
 subst Pg;have A:=Z.jr;have SA:=Z.sto;have M:=Z.aJ;have y:=Z.bZ;have P:=Z.next;have d:=Z.v0;have O3:=Z.v1;have p:=Z.items;have N:=SA.ok.X6;have U:=SA.ok.one;refine CX.afi u (by simp) λf=>abK D SA (by omega) (by omega) (by omega) (by omega) d (by omega) u.sl (λq a b=>k q a (List.mem_append_right _ b)) J (λo w=>⟨f _ (RZ w).1,f _ (RZ w).2⟩) G (λh3 j r e E S3 dv i aI s=>?_) λh3 F B j r R S3 dv e1 e2 e3 e4 I O Y L i aI s=>?_
 ·have C:=dv.dev.aJ
  have K:=dv.one;have FU:∀q,q∈z.s.own z.r.ls z.g j->q∈z.s.own z.r.ls z.g z.d\/h.get q=none:=λq a=>by
   simp only [xB.own,List.mem_cons,List.mem_append] at a ⊢;rcases a with e | e | e | e
   ·exact .inl (.inl e)
   ·exact .inl (.inr (.inl e))
   ·exact .inl (.inr (.inr (.inl e)))
   ·exact (i q e).imp_left λx=>.inr (.inr (.inr x))
  refine T h3 ⟨z.r,z.s,z.g,j⟩ e E ⟨⟨A.mono aI λq a b=>Z.apart q a b,S3,λq a b=>?_,dv.dev.cons SA.kc.nod Z.cons,by dsimp only;omega,by dsimp only;omega,by dsimp only;omega,d,O3,p⟩,λq a=>?_,aI.mono λq _ _ a=>List.mem_append_right _ a,s,rfl⟩ rfl
  ·rcases FU q b with e | e
   ·exact Z.apart q a e
   ·exact A.live a e
  ·rcases List.mem_append.1 a with a | a
   ·exact .inl (List.mem_append_left _ a)
   ·exact (FU q a).imp_left λx=>List.mem_append_right _ x
 ·have C:=dv.dev.aJ
  have K:=dv.one;refine S h3 ⟨z.r,F,B,j⟩ _ ⟨⟨A.mono aI λq a b=>Z.apart q a b,S3,λq a b=>?_,dv.dev.cons SA.kc.nod Z.cons,by dsimp only;omega,by dsimp only;rw [L];simp;omega,by dsimp only;omega,by dsimp only;omega,by dsimp only;omega,?_⟩,λq a=>?_,aI.mono λq _ _ a=>List.mem_append_right _ a,s,O⟩ rfl
  ·rcases i q b with e | e
   ·exact Z.apart q a e
   ·exact A.live a e
  ·have t:=Ie (z.s.version+1) l z.s.items z.s.ci
   rw [<-I] at t;have:=R.tr;dsimp only at t ⊢;omega
  ·rcases List.mem_append.1 a with a | a
   ·exact .inl (List.mem_append_left _ a)
   ·exact (i q a).imp_left λx=>List.mem_append_right _ x
end K
namespace K
open Go Go.Dx Go.RowKit Go.Proofs
set_option maxRecDepth 100000
theorem uB:bI pf G0 wG (s7 cD 6 80):=⟨_,Go.Proofs.Tryz.func34,by kernel_rfl⟩
theorem abO:bI pf G0 yB (s7 kz 2 32):=⟨_,Go.Proofs.Tryz.func35,by kernel_rfl⟩
section
variable {h:H} {lp ls lm:Lb} {nm:List Nat} {bv sv wv vv:V} {t:TypeId}
theorem oJ (b:h.get lp=some (.cells [.str nm,.ptr ls 0,bv,.map lm,sv,wv,vv] t 0 .yes)){Q:V->H->Prop} (a:Q (.bool true) h):CW pf G0 oh [.ptr lp 0] h Q:=by
 refine zd.enter (by kernel_rfl) ?_;cbv;refine .of b rfl ?_;cbv;exact a
theorem R9 {l:List Nat}{n:Int}(h0:0<=n)(g:n<=9223372036854775807)(x:l.length<=10){Q:V->H->Prop} (f:∀r:List Nat,r.length<=60->Q (.str r) h):CW pf G0 Ev [.str l,.int .i64 n] h Q:=by
 refine Ra.enter (by kernel_rfl) ?_;cbv;refine Zg (by omega) g ?_;have i:(Bp n.toNat).length<=19:=zB 18 _ (by omega);have p:=Fk h0;generalize hs:dec n=s;have z:s.length<=19:=by rw [<-hs,p];exact i
 cbv;refine .cat (by simp only [List.length_cons,List.length_nil];omega) λd Rr=>?_;have w:d.length<=11:=by rw [Rr];simp;omega
 cbv;refine .of λk B b=>?_;cbv;refine .sub (by omega) (by omega) λm A=>?_;cbv;refine .of λC v=>?_;cbv;refine Pf (by omega) (by omega) (by simp) λr u=>?_;have Zh:r=List.replicate (19 - s.length) 48:=by
  rw [u,show C.toNat=19 - s.length by omega];generalize 19 - s.length=q;induction q with
  | zero=>rfl
  | succ q ih=>rw [List.replicate_succ,List.flatten_cons,ih,List.replicate_succ];rfl
 have o:r.length<=19:=by rw [Zh];simp
 cbv;refine .cat (by omega) λE a=>?_;have y:E.length<=30:=by rw [a];simp;omega
 cbv;refine .cat (by omega) λj c=>?_;cbv;exact f j (by rw [c];simp;omega)
theorem afn {r:pq}(S:eI h lp r){Q:V->H->Prop} (f:∀n:Int,0<=n->n.toNat=(bP r.base r.nm).toNat+r.wait.length+1->Q (.int .i64 n) h):CW pf G0 oi [.ptr lp 0] h Q:=by
 have C:=S.cell;have L:=λK=>S.lookup (c:=r.nm) (K:=K);obtain ⟨VJ,d⟩:=dK S.good r.nm;have e:=S.mw;have p:(bP r.base r.nm).toNat<=2000:=Nat.le_trans (Int.toNat_le.2 d) e;clear d;have s:=S.xC;have W:=S.wait.sl;generalize g:bP r.base r.nm=j at*;generalize r.lm=lm at*;generalize r.ls=ls at*;generalize r.bv=bv at*;generalize r.sv=sv at*;generalize r.wv=wv at*;generalize r.vv=vv at*;generalize q:r.nm=nm at*;refine ze.enter (by kernel_rfl) ?_;cbv;refine .of follows 4 ?_;cbv;refine .of C rfl ?_;cbv;refine .of C rfl ?_;cbv;refine L _ ?_;cbv;refine .of C rfl ?_;cbv;refine .of W λk o i=>?_;cbv;refine .add (by omega) (by omega) λa m=>?_;cbv;refine .add (by omega) (by omega) λb l=>?_;cbv;exact f b (by omega) (by omega)
theorem tA {r:pq}(b:Wf h)(S:eI h lp r){Q:V->H->Prop} (a:∀v h',aG h' cD 6 v r.base.length (cx r.base)->Loc h h' v->Q v h'):CW pf G0 oa [.ptr lp 0] h Q:=by
 have C:=S.cell;have W:=S.base.sl;have c:=S.mw;generalize r.lm=lm at*;generalize r.ls=ls at*;generalize r.bv=bv at*;generalize r.sv=sv at*;generalize r.wv=wv at*;generalize r.vv=vv at*;generalize r.nm=nm at*;refine y'.enter (by kernel_rfl) ?_;cbv;refine oJ C ?_;cbv;refine .of C rfl ?_;cbv;refine eP uB b W (ka _) (by omega) (by decide) λv h' o lo=>?_;cbv;exact a v h' o lo
theorem ga {r:pq}(b:Wf h)(S:eI h lp r){Q:V->H->Prop} (a:∀v h',aG h' cD 6 v r.wait.length (cx r.wait)->Loc h h' v->Q v h'):CW pf G0 ko [.ptr lp 0] h Q:=by
 have C:=S.cell;have W:=S.wait.sl;have c:=S.xC;generalize r.lm=lm at*;generalize r.ls=ls at*;generalize r.bv=bv at*;generalize r.sv=sv at*;generalize r.wv=wv at*;generalize r.vv=vv at*;generalize r.nm=nm at*;refine uf.enter (by kernel_rfl) ?_;cbv;refine oJ C ?_;cbv;refine .of C rfl ?_;cbv;refine eP uB b W (ka _) (by omega) (by decide) λv h' o lo=>?_;cbv;exact a v h' o lo
theorem Jz {r:pq}(b:Wf h)(S:eI h lp r){Q:V->H->Prop} (a:∀v h',aG h' kz 2 v r.vw.length (dD r.vw)->Loc h h' v->Q v h'):CW pf G0 oc [.ptr lp 0] h Q:=by
 have C:=S.cell;have W:=S.vw.sl;have c:=S.mw;have ZW:=S.ZW;generalize r.lm=lm at*;generalize r.ls=ls at*;generalize r.bv=bv at*;generalize r.sv=sv at*;generalize r.wv=wv at*;generalize r.vv=vv at*;generalize r.nm=nm at*;refine za.enter (by kernel_rfl) ?_;cbv;refine oJ C ?_;cbv;refine .of C rfl ?_;cbv;refine eP abO b W (Mm _) (by omega) (by decide) λv h' o lo=>?_;cbv;exact a v h' o lo
theorem acB {r:pq}(m:Wf h)(S:eI h lp r){Q:V->H->Prop} (e:∀h' n,0<=n->n.toNat=r.base.length->Mod h h' []->Wf h'->Q (.tuple [.agg [.int .i64 3,.str r.nm,.int .i64 0,.int .i64 n,.int .i64 0,.int .i64 0,.nilSlice 0],.bool true]) h'):CW pf G0 od [.ptr lp 0] h Q:=by
 have C:=S.cell;have W:=S.base.sl;generalize r.lm=lm at*;generalize r.ls=ls at*;generalize r.bv=bv at*;generalize r.sv=sv at*;generalize r.wv=wv at*;generalize r.vv=vv at*;generalize r.nm=nm at*;refine zb.enter (by kernel_rfl) ?_;cbv;refine .of m λp s l Sz a d=>?_;have C1:=a.get C;cbv;refine oJ C1 ?_;cbv;refine .of follows 5 ?_;cbv;refine .of C1 rfl ?_;cbv;refine .of C1 rfl ?_;cbv;refine .of (W.mono a) λk i c=>?_;cbv;refine .flat rfl ?_;cbv;refine .flat rfl ?_;cbv;refine .flat rfl ?_;cbv;refine .of (cs:=[.int .i64 3,.str nm,.int .i64 0,.int .i64 k,.int .i64 0,.int .i64 0,.nilSlice 0]) d l rfl rfl rfl rfl rfl rfl λo j f g=>?_;cbv;refine .nil ?_;cbv;refine .all j rfl ?_;cbv;exact e o k i c (a.fr f λq b=>by rw [List.mem_singleton] at b;subst b;exact .inl Sz) g
end
theorem Vm {h:H}{lp:Lb}{z:Cz}{n m:Nat}(f:Wf h)(Z:js h lp z n m)(d:n<=10000000)(a:m<=1000){Q:V->H->Prop} (c:∀h' z' (e:Int),gV h h' lp z z' (n+256*m+2) m->z'.r=z.r->Q (.int .i64 e) h'):CW pf G0 kq [.ptr lp 0] h Q:=by
 have C:=Z.jr.cell;have b:=λls (e:z.r.ls=ls)=>X' (Q:=Q) e f Z d a c;generalize z.r.lm=lm at*;generalize z.r.ls=ls at*;generalize z.r.bv=bv at*;generalize z.r.sv=sv at*;generalize z.r.wv=wv at*;generalize z.r.vv=vv at*;generalize z.r.nm=nm at*;refine ug.enter (by kernel_rfl) ?_;cbv;refine oJ C ?_;cbv;refine .of C rfl ?_;cbv;refine (b ls rfl).mono λv h' q=>?_;cbv;exact q
end K
namespace K
open Go Go.Dx Go.RowKit Go.Proofs
set_option maxRecDepth 100000
variable{lp:Lb}{h:H}
theorem afo {r:pq}(O:Wf h)(he:HE h)(S:eI h lp r){Q:V->H->Prop}
  (l:∀h' vv vw,eI h' lp {r with vv:=vv,vw:=vw}->(∀q,q∈ag vv->q∈r.own lp\/h.get q=none)->Mod h h' [lp]->Wf h'->Q (.tuple []) h'):CW pf G0 iQ [.ptr lp 0] h Q:=by
 have C:=S.cell;have ST:=S.st;have stl:=S.stl;have mw:=S.mw;have xC:=S.xC;have WS:=S.R8;have name:=S.name;have vX:r.nm.length<=24:=name.2.2;have W:=S.wait;have keys:=S.keys;have SV:=λ{h' vv es} (m:Mod h h' [lp]) J N hl A=>S.view (h':=h') (vv:=vv) (es:=es) m J N hl A;have t:∀q,q∈ag r.sv->q∈r.own lp:=λq l=>by simp [pq.own,l]
 obtain ⟨o1,o2,o3,I,o5⟩:=S.afm;generalize T:r.lm=f at*;generalize r.ls=ls at*;generalize r.bv=g at*;generalize Qx:r.sv=sv at*;generalize r.wv=wv at*;generalize r.vv=vv0 at*;generalize r.nm=o at*;refine zf.enter (by kernel_rfl) ?_;cbv;refine .of C rfl ?_;cbv;refine .one (vs':=[.str o,.ptr ls 0,g,.map f,sv,wv,sv]) O C ST.sl.flat rfl rfl rfl λh1 C1 n R=>?_;have ST1:=ST.mono n (dJ o3);cbv;refine .of C1 rfl ?_;cbv;refine .of (W.sl.mono n (dJ I)) λk zQ A=>?_;cbv;refine .inv [p0,p14,p15,p16] (λB U h'=>∃(i:Int) (vv:V) (es:EL),U=[.ptr lp 0,wv,.int .i64 k,.int .i64 i]/\0<=i/\i.toNat<=r.wait.length/\B=r.wait.length - i.toNat/\h'.get lp=some (.cells [.str o,.ptr ls 0,g,.map f,sv,wv,vv] jY 0 .yes)/\aG h' kz 2 vv es.length (dD es)/\es.length<=r.st.length+i.toNat/\(∀e∈es,e.1.length<=1000000)/\(∀q,q∈ag vv->q∈r.own lp\/h.get q=none)/\Mod h h' [lp]/\Wf h') [_,_,_,_] rfl _
  ⟨0,sv,r.st,rfl,by omega,by simp,rfl,C1,ST1,by omega,keys,λq a=>.inl (t q a),n,R⟩ ?_
 rintro B _ s ⟨i,vv,es,rfl,iB,I0,eF,C2,mh,gb,y,p,av,D⟩;have W2:=W.sl.mono av (dJ I);cbv;refine .lt (λbA=>?_) λjl=>?_;rotate_left
 ·cbv;exact l s vv es (SV av C2 mh (by omega) y) p av D
 obtain ⟨x,E⟩:∃x,r.wait[i.toNat]? =some x:=⟨_,List.getElem?_eq_getElem (by omega)⟩;have P:=WS _ (List.mem_of_getElem? E);obtain ⟨_,zi,K⟩:=P.Bt;have w:=dP _ _ _ E;obtain ⟨xc,xi,L,xs,xn,Z⟩:=x;dsimp only at w zi K;cbv;refine .of W2 iB rfl (by omega) w λsl off jA=>?_;cbv;refine .jC jA rfl ?_;cbv;refine .of D λlx h3 FK Il aI aS=>?_;cbv;refine .of (cs:=[.str xc,.int .i64 xi,.int .i64 L,.str xs,.str xn,.str Z]) aS FK rfl rfl rfl rfl rfl rfl λh4 Ya X aW=>?_;have d:Mod s h4 []:=aI.fr X λq a=>.inl (by rw [List.mem_singleton] at a;rw [a];exact Il);have C4:=d.get C2;cbv;refine .of follows 8 ?_;cbv;refine .of C4 rfl ?_;cbv;refine .of C4 rfl ?_;cbv;refine .of Ya rfl ?_;cbv;refine aju (es:=es) aW (he.mono (av.trans d)) (mh.sl.mono d) ⟨by omega,y⟩ (by omega) (by omega) (by omega) λrv rZ er M _ G Bn u FF F Y=>?_;have C5:=F.get C4;have Rl:Mod s M []:=(d.trans F).mono λq _ _ a=>by simp at a
 have c:lp∉ag rv:=λhm=>by have:=FF lp hm;rw [C4] at this;cases this
 refine .nil ?_;cbv;refine .one (vs':=[.str o,.ptr ls 0,g,.map f,sv,wv,rv]) Y C5 G.sl.flat rfl rfl rfl λh6 C6 v cz=>?_;have bQ:Mod h h6 [lp]:=((av.trans Rl).trans v).mono λq _ _ a=>by simpa using a
 refine .nil ?_;cbv;refine .add (by omega) (by omega) λj hj=>?_;cbv;exact ⟨rfl,r.wait.length - j.toNat,by omega,j,rv,rZ,rfl,by omega,by omega,rfl,C6,G.mono v (dJ c),by omega,u,λq a=>.inr (aj av (by
  simp;rintro rfl;exact c a) (aj d (by simp) (FF q a))),bQ,cz⟩
theorem afp {r:pq}{x:ep}(hw:Wf h)(he:HE h)(S:eI h lp r)(hz:MQ x)(kJ:mr x)(n:x.id=bP r.base x.af+1)(hf:r.base.length<2000){Q:V->H->Prop}
  (hq:∀bv sv st m c h',eI h' lp {r with bv:=bv,sv:=sv,st:=st,m:=m,c:=c,base:=r.base++[x]}->(∀q,q∈ag bv++ag sv->q∈r.own lp\/h.get q=none)->Mod h h' (r.own lp)->Wf h'->Q (.bool true) h'):
  CW pf G0 iS [.ptr lp 0,afa x] h Q:=by
 obtain ⟨N,t⟩:∃N,N=bP r.base x.af:=⟨_,rfl⟩;have aFJ:0<=N:=by rw [t];exact (dK S.good _).1
 have aFK:N.toNat<=2000:=by have:=(dK S.good x.af).2;have:=S.mw;rw [<-t] at *;omega
 obtain ⟨o1,o2,o3,o4,o5⟩:=S.afm;have S':=S;obtain ⟨z1,z2,z3⟩:=kJ.Bt;obtain ⟨nm,ls,bv,d,sv,wv,vv,base,m,c,st,I,vw⟩:=r;obtain ⟨C,L,T,W,VW,M,V0,s,last,good,mw,stl,ZW,keys,PQ,F,R8,xC,name,P⟩:=S;dsimp only at C L T W VW M V0 s last good mw stl ZW keys PQ F R8 xC name P hf t n o1 o2 o3 o4 o5;obtain ⟨l,id,kind,B,Vn,text⟩:=x;dsimp only at t n z1 z2 z3;rw [<-t] at n;refine zh.enter (by kernel_rfl) ?_;cbv;refine .agg ?_;cbv;refine .of hw λU p D J ar aK=>?_;have S1:=S'.mono ar;have MT:U≠lp:=λe=>by subst e;rw [C] at J;cases J
 have Y:U≠d:=λe=>by subst e;rw [M] at J;cases J
 have M1:=ar.get M;cbv;refine .of follows 6 ?_;cbv;refine .of D rfl ?_;cbv;refine .of S1.cell rfl ?_;cbv;refine .of D rfl ?_;cbv;refine S1.lookup ?_;dsimp only;rw [<-t];cbv;refine .add (by omega) (by omega) λnx Nc=>?_;cbv;refine .iz (by omega) ?_;cbv;refine .of follows 8 ?_;cbv;refine .of S1.cell rfl ?_;cbv;refine .of D rfl ?_;cbv;refine .of D rfl ?_;cbv;refine .of aK M1 λk Iy av aO=>?_;refine .nil ?_;have u:d∉ag bv:=λf=>by obtain ⟨w,a⟩:=L.row f;rw [M] at a;cases a
 have nms:d∉ag sv:=λf=>by obtain ⟨w,a⟩:=T.row f;rw [M] at a;cases a
 have nmw:d∉ag wv:=λf=>by obtain ⟨w,a⟩:=W.row f;rw [M] at a;cases a
 have nmv:d∉ag vv:=λf=>by obtain ⟨w,a⟩:=VW.row f;rw [M] at a;cases a
 have nlb:U∉ag bv:=λf=>by obtain ⟨w,a⟩:=L.row f;rw [J] at a;cases a
 have dbs:∀q,q∈ag sv->q∉ag bv:=λq p k=>by
  obtain ⟨c1,A⟩:=T.row p;obtain ⟨c2,a⟩:=L.row k;rw [A] at a;cases a
 have Z:∀q,q∈ag vv->q∉ag bv:=λq p k=>by
  obtain ⟨c1,A⟩:=VW.row p;obtain ⟨c2,a⟩:=L.row k;rw [A] at a;cases a
 have C2:=av.get S1.cell (by simpa using o1);have dh:=av.get D (by simpa using Y);have L2:=S1.base.mono av (dJ u);have T2:=S1.st.mono av (dJ nms);have W2:=S1.wait.mono av (dJ nmw);have V2:=S1.vw.mono av (dJ nmv);dsimp only at C2 L2 T2 W2 V2;have v:Mod h k [d]:=(ar.trans av).mono λq _ _ b=>by simpa using b
 cbv;refine .of follows 8 ?_;cbv;refine .of C2 rfl ?_;cbv;refine .of dh rfl ?_;cbv;refine .agg ?_;cbv;refine .of aO λl3 h3 gQ J9 j aS=>?_;have C3:=j.get C2;have M3:=j.get Iy;cbv;refine .load C3 rfl ?_;cbv;refine .nil ?_;cbv;refine .own aS (L2.mono j) (m:=1) (new:=[.str l,.int .i64 id,.int .i64 kind,.str B,.str Vn,.str text]) (by simp only [cW,gQ];rfl) rfl rfl (by unfold bg;omega) (by decide) λg h4 ju IY o aW=>?_;rw [show cx base++[V.str l,.int .i64 id,.int .i64 kind,.str B,.str Vn,.str text]=cx (base++[⟨l,id,kind,B,Vn,text⟩]) from by rw [oH];rfl,show base.length+1=(base++[(⟨l,id,kind,B,Vn,text⟩:ep)]).length from by simp] at ju;have C4:=o.get C3 o2;have M4:=o.get M3 u;have dH:=o.get (j.get dh) nlb;have T4:=(T2.mono j).mono o dbs;have W4:=(W2.mono j).mono o λq p k=>P q k p;have V4:=(V2.mono j).mono o Z;have axZ:=IY.dp C3 o2;have aFQ:=IY.dp M3 u;have E:Mod h h4 (d::ag bv):=((v.trans j).trans o).mono λq _ _ b=>by simpa using b
 have ax0:∀q,q∈ag g->q∈ag bv\/h.get q=none:=λq b=>(IY q b).symm.imp_right λe=>by
  have a:=aj j (by simp) e;refine aj v (by simp;rintro rfl;rw [Iy] at a;cases a) a
 cbv;refine .nil ?_;cbv;refine .one (vs':=[.str nm,.ptr ls 0,g,.map d,sv,wv,vv]) aW C4 ju.sl.flat rfl rfl rfl λh5 C5 K bK=>?_;have qi:=K.get dH (by simpa using MT);have T5:=T4.mono K (dJ o3);have m05:Mod h h5 (lp::d::ag bv):=(E.trans K).mono λq _ _ b=>by
  simp only [List.mem_append,List.mem_cons,List.not_mem_nil,or_false] at b ⊢;rcases b with (e | e) | e<;>simp [e]
 cbv;refine .nil ?_;cbv;refine .of follows 8 ?_;cbv;refine .of C5 rfl ?_;cbv;refine .of qi rfl ?_;cbv;refine .of qi rfl ?_;cbv;refine aju (es:=st) bK (he.mono m05) T5.sl ⟨by omega,keys⟩ (by omega) (by omega) (by omega) λrv rZ er h6 _ oC Dn hk6 V6 bR cz=>?_;have C6:=bR.get C5;have G:Fr h5 rv:=V6;have nrp:lp∉ag rv:=λf=>by have:=G lp f;rw [C5] at this;cases this
 cbv;refine .nil ?_;cbv;refine .one (vs':=[.str nm,.ptr ls 0,g,.map d,rv,wv,vv]) cz C6 oC.sl.flat rfl rfl rfl λO C7 db eJ=>?_;have m47:Mod h4 O [lp]:=((K.trans bR).trans db).mono λq _ _ b=>by simpa using b
 have m07:Mod h O (lp::d::ag bv):=(E.trans m47).mono λq _ _ b=>by
  simp only [List.mem_append,List.mem_cons,List.not_mem_nil,or_false] at b ⊢;rcases b with (e | e) | e<;>simp [e]
 have n5:∀q,h5.get q=none->q∈ag bv\/h.get q=none:=λq e=>by
  have e4:=aj K (by simp;rintro rfl;rw [C5] at e;cases e) e;rcases PN o e4 with e3 | e3
  ·have a:=aj j (by simp) e3
   exact .inr (aj v (by simp;rintro rfl;rw [Iy] at a;cases a) a)
  ·exact .inl e3
 have R:eI O lp ⟨nm,ls,g,d,rv,wv,vv,base++[⟨l,id,kind,B,Vn,text⟩],dt m l (.int .i64 id) c,eB m l c,rZ,I,vw⟩:=by
  refine ⟨C7,ju.mono m47 (dJ axZ),oC.mono db (dJ nrp),W4.mono m47 (dJ o4),V4.mono m47 (dJ o5),m47.get M4 (by simpa using Ne.symm o1),V0.set l _,λe' Ji=>?_,λw=>?_,good.snoc (by rw [<-t];exact n),by simp;omega,by simp;omega,by simp;omega,hk6,PQ,λy hy=>(List.mem_append.1 hy).elim (F y) λhy=>by simp at hy;subst hy;exact kJ,R8,xC,name,λq p k=>?_⟩
  ·rcases lD Ji with q | ⟨_,q,_⟩
   ·exact s e' q
   ·exact ⟨id,q⟩
  ·dsimp only
   rw [Di,dX,last w]
   by_cases h:w=l
   ·rw [if_pos h,if_pos h.symm]
   ·rw [if_neg h,if_neg (λq=>h q.symm)]
  ·rcases IY q p with e | e
   ·obtain ⟨c1,A⟩:=(W2.mono j).row k
    rw [e] at A;cases A
   ·exact P q e k
 cbv;refine .nil ?_;cbv;refine hq g rv rZ _ _ O R (λq b=>?_) (m07.mono λq _ _ b=>?_) eJ
 ·rcases List.mem_append.1 b with e | e
  ·exact (ax0 q e).imp_left λx=>by simp [pq.own,x]
  ·exact (n5 q (G q e)).imp_left λx=>by simp [pq.own,x]
 ·simp only [List.mem_cons] at b
  simp only [pq.own,List.mem_cons,List.mem_append];rcases b with e | e | e
  ·exact .inl e
  ·exact .inr (.inl e)
  ·exact .inr (.inr (.inl (.inl (.inl e))))
end K
namespace K
open Go Go.Dx Go.RowKit Go.Proofs
set_option maxRecDepth 100000
variable{n m:Nat}{lp q:Lb}{h h':H}{w:List ep}{wv:V}
theorem gV.Zy {z:Cz}{j:pq}(Z:js h lp z n m)(A:eI h' lp j)(Pg:j.ls=z.r.ls)(a:∀q,q∈j.own lp->q∈z.r.own lp\/h.get q=none) (k:Mod h h' (z.r.own lp)) (i:Wf h'):gV h h' lp z ⟨j,z.s,z.g,z.d⟩ n m:=by
 have S':=Z.sto.mono k λq f b=>Z.apart q b f;refine ⟨⟨A,by rw [Pg];exact S',λq f b=>?_,Z.cons,Z.aJ,Z.bZ,Z.next,Z.v0,Z.v1,Z.items⟩,λq d=>?_,k.mono λq _ _ d=>List.mem_append_left _ d,i,rfl⟩
 ·rw [Pg] at b
  rcases a q f with e | e
  ·exact Z.apart q e b
  ·exact Z.sto.live b e
 ·rcases List.mem_append.1 d with e | e
  ·exact (a q e).imp_left λx=>List.mem_append_left _ x
  ·dsimp only at e
   rw [Pg] at e;exact .inl (List.mem_append_right _ e)
theorem eI.waits {r:pq}{F:List Lb}(S:eI h lp r)(m:Mod h h' F)(g:∀q,q∈F->q=lp\/q∈ag r.wv) (k:h'.get lp=some (.cells [.str r.nm,.ptr r.ls 0,r.bv,.map r.lm,r.sv,wv,r.vv] jY 0 .yes))
  (p:aG h' cD 6 wv w.length (cx w)) (y:w.length<=32) (s:∀x∈w,mr x) (l:∀q,q∈ag wv->q∈ag r.wv\/h.get q=none):eI h' lp {r with wv:=wv,wait:=w}:=by
 obtain ⟨t,G,E,H,z⟩:=S.afm;have j:∀{e:TypeId} {size n:Nat} {v:V} {cs:List V},aG h e size v n cs->e≠cD->∀q,q∈ag v->q∉ag r.wv:=λo u q b d=>by
  obtain ⟨B,c⟩:=o.row b;obtain ⟨A,a⟩:=S.wait.row d;rw [c] at a;cases a;exact u rfl
 have off:∀{v:V},lp∉ag v->(∀q,q∈ag v->q∉ag r.wv)->∀q,q∈ag v->q∉F:=λD C q i f=>(g q f).elim (λe=>D (e▸i)) (C q i);have Wa:r.lm∉F:=λf=>(g _ f).elim (λe=>t e.symm) λe=>by
  obtain ⟨A,a⟩:=S.wait.row e;rw [S.mg] at a;cases a
 refine ⟨k,S.base.mono m (off G S.nb),S.st.mono m (off E (j S.st (by decide))),p,S.vw.mono m (off z (j S.vw (by decide))),m.get S.mg Wa,S.V0,S.ints,S.last,S.good,S.mw,S.stl,S.ZW,S.keys,S.PQ,S.may,s,y,S.name,λq b d=>?_⟩;rcases l q d with e | e
 ·exact S.nb q b e
 ·obtain ⟨B,c⟩:=S.base.row b;rw [e] at c;cases c
theorem pq.afq {r:pq}{vv:V}{vw:EL}(a:q∈pq.own {r with vv:=vv,vw:=vw} lp):q∈r.own lp\/q∈ag vv:=by
 simp only [pq.own,List.mem_cons,List.mem_append] at a ⊢;rcases a with e | e | ((e | e) | e) | e<;>simp [e]
theorem pq.Vo {r:pq}(a:q∈pq.own {r with wv:=wv,wait:=w} lp):q∈r.own lp\/q∈ag wv:=by
 simp only [pq.own,List.mem_cons,List.mem_append] at a ⊢;rcases a with e | e | ((e | e) | e) | e<;>simp [e]
theorem Zz {z:Cz}(g:Wf h)(i:HE h)(Z:js h lp z n m){Q:V->H->Prop}
  (e:∀h' a,gV h h' lp z a n m->a.r.nm=z.r.nm->a.r.base=z.r.base->a.r.wait=z.r.wait->Q (.tuple []) h'):CW pf G0 iQ [.ptr lp 0] h Q:=
 afo g i Z.jr λh' vv j A c f d=>e h' _ (gV.Zy Z A rfl (λq b=>(pq.afq b).elim .inl (c q)) (f.mono λq _ _ b=>by simp at b;simp [pq.own,b]) d) rfl rfl rfl
noncomputable def amq:DC:=ja (ja (ja (ja (ja (ja (ja (ja lR.code)))))))
theorem abP {l:Lb}{z:Cz}{x:ep}(Y:Wf h)(he:HE h)(Z:js h lp z n m)(R:n<=100000000)(p:h.get l=some (.cells [.str x.af,.int .i64 x.id,.int .i64 x.kind,.str x.aE,.str x.name,.str x.text] cD 0 .yes))(G:l∉z.own lp)
  (L:z.r.wait.length<32) (kJ:mr x) {Q:V->H->Prop}
  (bN:∀h' f,gV h h' lp z f n m->f.r.nm=z.r.nm->f.r.base=z.r.base->f.r.wait=z.r.wait++[x]->Q (.tuple [.int .i64 x.id,.nilIface]) h'):
  I3 pf G0 94 amq {tmps:=gU [p0,p8] [.ptr lp 0,.ptr l 0],defers:=[]} h (tw pf G0 [.tmp p4,.tmp p5] Q) λ_ _ _=>False:=by
 have A:=Z.jr;have S:=Z.jr;obtain ⟨o1,o2,o3,K,o5⟩:=S.afm;have C:=S.cell;have W:=S.wait;have j:l∉ag z.r.wv:=λhm=>G (by simp [Cz.own,pq.own,hm]);have F:l≠lp:=λe=>G (by simp [Cz.own,pq.own,e]);have wm:=S.R8;generalize DE:z.r.lm=lm at C;generalize Pg:z.r.ls=ls at C;generalize Jn:z.r.bv=bv at C;generalize Qx:z.r.sv=sv at C;generalize g:z.r.wv=wv at C W K j;generalize J:z.r.vv=vv at C;generalize X:z.r.nm=nm at C;obtain ⟨r,id,kind,o,name,text⟩:=x;dsimp only at p;refine .seq (.of ?_);cbv;refine .of follows 8 ?_;cbv;refine .of C rfl ?_;cbv;refine .of p rfl ?_;cbv;refine .agg ?_;cbv;refine .of Y λl1 h1 kK Sz k aK=>?_;have C1:=k.get C;cbv;refine .load C1 rfl ?_;cbv;refine .nil ?_;cbv;refine .own aK (W.mono k) (m:=1) (new:=[.str r,.int .i64 id,.int .i64 kind,.str o,.str name,.str text]) (by simp only [cW,kK];rfl) rfl rfl (by unfold bg;omega) (by decide) λi h2 u Iy av aO=>?_;rw [show cx z.r.wait++[V.str r,.int .i64 id,.int .i64 kind,.str o,.str name,.str text]=cx (z.r.wait++[⟨r,id,kind,o,name,text⟩]) from by rw [oH];rfl,show z.r.wait.length+1=(z.r.wait++[(⟨r,id,kind,o,name,text⟩:ep)]).length from by simp] at u;have C2:=av.get C1 K;have ke:=av.get (k.get p) j;have s:=Iy.dp C1 K;have aFT:=Iy.dp (k.get p) j;cbv;refine .nil ?_;cbv;refine .one (vs':=[.str nm,.ptr ls 0,bv,.map lm,sv,i,vv]) aO C2 u.sl.flat rfl rfl rfl λh3 C3 E O=>?_;have Fz:=E.get ke (by simpa using F);have VU:Mod h h3 (lp::ag wv):=((k.trans av).trans E).mono λq _ _ ax=>by
  simp only [List.mem_append,List.mem_cons,List.not_mem_nil,or_false,false_or] at ax ⊢;exact ax.symm
 have FU:∀q,q∈ag i->q∈ag wv\/h.get q=none:=λq ax=>(Iy q ax).symm.imp_right λe=>aj k (by simp) e;have A3:=S.waits (wv:=i) (w:=z.r.wait++[⟨r,id,kind,o,name,text⟩]) VU (λq ax=>by rw [g];simpa using ax) (by rw [DE,Pg,Jn,Qx,J,X];exact C3) (u.mono E (dJ s)) (by simp;omega) (λy hy=>(List.mem_append.1 hy).elim (wm y) λhy=>by simp at hy;subst hy;exact kJ) (by rw [g];exact FU);have T3:=gV.Zy Z A3 rfl (λq ax=>(pq.Vo ax).elim .inl λe=>(FU q e).imp_left λx=>by simp [pq.own,g,x]) (VU.mono λq _ _ ax=>by
  simp only [pq.own,List.mem_cons,List.mem_append] at ax ⊢;rcases ax with e | e
  ·exact .inl e
  ·exact .inr (.inr (.inl (.inr (by rw [g];exact e))))) O
 cbv;refine .nil ?_;cbv;refine .seq (.of ?_);cbv;refine Zz O (he.mono VU) T3.at' λh4 d T4 P N M=>?_;have T04:=T3.trans T4;have C4:=T4.at'.jr.cell;have B:=λls (e:d.r.ls=ls)=>ah0 (Q:=λv h'=>v = .int .i64 0/\∃f,gV h4 h' lp d f n m/\f.r=d.r) e T4.wf T4.at' R λh' f a b _ _=>⟨rfl,f,a,b⟩;dsimp only at P N M;generalize d.r.lm=lm4 at*;generalize d.r.ls=I at*;generalize d.r.bv=bv4 at*;generalize d.r.sv=sv4 at*;generalize d.r.wv=U at*;generalize d.r.vv=vv4 at*;generalize Yb:d.r.nm=nm4 at*;cbv;refine .seq (.of ?_);cbv;refine .of C4 rfl ?_;cbv;refine (B I rfl).mono λv T q=>?_;obtain ⟨rfl,z5,T5,D⟩:=q;have T05:=T04.trans T5;have VM:=T05.mod.get p G;cbv;refine .iz rfl ?_;cbv;refine .of ?_;cbv;refine .of VM rfl ?_;cbv;exact bN T z5 T05 (by rw [D,Yb];exact P) (by rw [D];exact N) (by rw [D];exact M)
theorem Hg {a y:Int}{Q:V->H->Prop} (b:Q (FP a y) h):CW pf G0 yC [.int .i64 a,.int .i64 y] h Q:=by
 refine LJ.enter (by kernel_rfl) ?_;cbv;refine .flat rfl ?_;cbv;refine .flat rfl ?_;cbv;exact b
theorem JD {z:Cz}{kind:Int}{aE name text:List Nat}(N:Wf h)(he:HE h)(Z:js h lp z n m)(hn:n<=9000000)(gE:m<=900)(hi:aE.length<=1000000)(vX:name.length<=1000000){Q:V->H->Prop}
  (M:∀h' z' (a y:Int),0<=a->y≠0->gV h h' lp z z' (n+1) m->z'.r=z.r->Q (.tuple [.int .i64 0,FP a y]) h')
  (bN:∀h' z' (id:Int),0<=id->id.toNat=(bP z.r.base z.r.nm).toNat+z.r.wait.length+1->mr ⟨z.r.nm,id,kind,aE,name,text⟩->z.r.wait.length<32->gV h h' lp z z' (n+1) (m+1)->z'.r.nm=z.r.nm->z'.r.base=z.r.base->z'.r.wait=z.r.wait++[⟨z.r.nm,id,kind,aE,name,text⟩]->Q (.tuple [.int .i64 id,.nilIface]) h'):
  CW pf G0 gy [.ptr lp 0,Mu kind aE name text] h Q:=by
 have S:=Z.jr;have C:=S.cell;have hvl:=S.ZW;have mw:=S.mw;have VS:=S.vw.sl;have vk:=S.PQ;have W:=S.wait.sl;have xC:=S.xC;have s:=S.name;obtain ⟨VJ,kK⟩:=dK S.good z.r.nm;have gb:(bP z.r.base z.r.nm).toNat<=2000:=Nat.le_trans (Int.toNat_le.2 kK) mw;clear kK;refine vu.oM (by kernel_rfl) ?_;refine .seq (.of ?_);cbv;refine .agg ?_;cbv;refine .of N λlb h1 cw gi j aK=>?_;have nlb:lb∉z.own lp:=λf=>Z.live f gi;have C1:=j.get C;have Z1:=Z.mono j;have cn:=λ{h':H} (m:Mod h h' []) {Q:V->H->Prop} F=>afn (Q:=Q) (Z.jr.mono m) F;generalize DE:z.r.lm=lm at*;generalize Pg:z.r.ls=ls at*;generalize Jn:z.r.bv=bv at*;generalize Qx:z.r.sv=sv at*;generalize hwv:z.r.wv=wv at*;generalize hvv:z.r.vv=vv at*;generalize nu:z.r.nm=nm at*;have nml:nm.length<=24:=s.2.2;cbv;refine .seq (.of ?_);cbv;refine oJ C1 ?_;cbv;refine .seq (.of ?_);cbv;refine .of follows 8 ?_;cbv;refine .of C1 rfl ?_;cbv;refine .of C1 rfl ?_;cbv;refine .of cw rfl ?_;have d:∀{h'},Mod h h' []->Wf h'->gV h h' lp z z (n+1) m:=λf dO=>(gV.refl (Z.le (by omega) (by omega)) N).beside f dO;cbv;refine Mr (es:=z.r.vw) aK (he.mono j) (VS.mono j) ⟨by omega,vk⟩ (by omega) (by omega) (by omega) (λa y L ha hy E J=>?_) λov ops L mh _ _ KI E JE J=>?_
 ·refine .nil ?_
  cbv;exact M L z a y ha hy (d ((j.trans E).mono λl o _ c=>by simp at c) J) rfl
 have G:Mod h L []:=(j.trans E).mono λl o _ c=>by simp at c
 have dh:=E.get cw;have C2:=E.get C1;refine .nil ?_;cbv;refine .is (λ_=>rfl) ?_;cbv;refine .seq (.of ?_);cbv;refine .of C2 rfl ?_;cbv;refine .of (W.mono G) λk zQ hk=>?_;cbv;refine .eq (λax4=>?_) λax4=>?_
 ·cbv;refine Hg ?_
  cbv;exact M L z 0 7 (by decide) (by decide) (d G J) rfl
 have i:z.r.wait.length<32:=by omega
 cbv;refine .seq (.of ?_);cbv;refine .of follows 8 ?_;cbv;refine .of J λlx h3 Fz Il aI aS=>?_;have aN:Mod h h3 []:=(G.trans aI).mono λl o _ c=>by simp at c
 have C3:=aI.get C2;have gZ:=aI.get dh;have D:=aj G (by simp) Il;cbv;refine .of C3 rfl ?_;cbv;refine .of gZ rfl ?_;cbv;refine .fresh Fz rfl ?_;cbv;refine cn aN λid P6 hid=>?_;refine .fresh Fz rfl (.load gZ rfl (.load C3 rfl (.nil ?_)));cbv;refine .flat rfl ?_;cbv;refine .flat rfl ?_;cbv;refine .agg ?_;cbv;refine .of (cs:=[.str nm,.int .i64 id,.int .i64 kind,.str aE,.str name,.str text]) aS Fz rfl rfl rfl rfl rfl rfl λh4 Ya aL aW=>?_;have aC:Mod h h4 []:=aN.fr aL λl c=>by simp at c;subst c;exact .inl D
 have C4:h4.get lp=_:=aC.get C;have u:lx∉z.own lp:=λf=>Z.live f D;have K:mr ⟨nm,id,kind,aE,name,text⟩:=⟨s,by dsimp only;omega,KI⟩;obtain ⟨z1,z2,z3⟩:=K.Bt;have O:=K.text;dsimp only at z1 z2 z3 O;refine .nil ?_;cbv;refine .seq (.of ?_);cbv;refine .all Ya rfl ?_;cbv;refine Zu (x:=⟨nm,id,kind,aE,name,text⟩) aW ⟨by dsimp only;omega,by dsimp only;omega,by dsimp only;omega,by dsimp only;constructor<;>omega⟩ (by dsimp only;omega) λt e h5 Ct _ _ bf bK=>?_;have P:Mod h h5 []:=(aC.trans bf).mono λl o _ c=>by simp at c
 have C5:=bf.get C4;have VM:=bf.get Ya;cbv;refine .seq (.of ?_);cbv;refine .eq (λe0=>?_) λe1=>?_;rotate_left
 ·cbv
  refine .seq (.of ?_);cbv;refine .yr e1 ?_;cbv;refine Hg ?_;cbv;exact M h5 z 0 e (by decide) e1 (d P bK) rfl
 subst e0;cbv;refine .of follows 8 ?_;cbv;refine .of C5 rfl ?_;cbv;refine .of VM rfl ?_;cbv;refine R9 (by omega) (by omega) (by simp) λky hky=>?_;refine .load C5 rfl (.nil ?_);cbv;refine .flat rfl ?_;cbv;refine .flat rfl ?_;cbv;refine .agg ?_;cbv;refine .of bK λlo B HB MU Y cz=>?_;have bQ:Mod h B []:=(P.trans Y).mono λl o _ c=>by simp at c
 have C6:=Y.get C5;have r:=Y.get VM;have oC:aG B dS 3 (.slice lo 0 1 (.exact 1)) 1 (xF [⟨ky,false,t⟩]):=.exact HB rfl;have X:=aj P (by simp) MU;refine .load C6 rfl (.nil ?_);have Z6:=Z.mono bQ;have hcc:=PS (z:=z) (ls:=ls) (lp:=lp) (n:=n) (m:=m) (l:=[⟨ky,false,t⟩]) (vo:=.slice lo 0 1 (.exact 1)) (Q:=λv h'=>(∃z' e,e≠0/\v = .tuple [.int .i64 0,.int .i64 e]/\gV B h' lp z z' (n+1) m/\z'.r=z.r)\/∃z' w,v = .tuple [.int .i64 w,.int .i64 0]/\gV B h' lp z z' (n+1) (m+1)/\z'.r=z.r) Pg cz Z6 (by omega) (by omega) oC (λq F f=>by
  simp [ag] at F;subst F;exact Z.live f X) (by simp) (λo ho=>by
  simp at ho;subst ho;exact ⟨by dsimp only;omega,by dsimp only;omega⟩) (λh' z' e I T U=>.inl ⟨z',e,I,rfl,T,U⟩) λh' z' w T U=>.inr ⟨z',w,rfl,T,U⟩
 have R6:gV h B lp z z n m:=(gV.refl Z N).beside bQ cz;cbv;refine hcc.mono λv h7 q=>?_;rcases q with ⟨z7,e,I,rfl,T7,p⟩ | ⟨z7,w,rfl,T7,p⟩
 ·refine .nil ?_
  cbv;refine .seq (.of ?_);cbv;refine .yr I ?_;cbv;refine Hg ?_;cbv;exact M h7 z7 0 e (by decide) I (R6.trans T7) p
 ·have T07:=R6.trans T7
  refine .nil ?_;cbv;refine .seq (.of ?_);cbv;refine .iz rfl ?_;cbv;refine .weak [p0,p8] rfl (abP (x:=⟨nm,id,kind,aE,name,text⟩) T07.wf (he.mono T07.mod) T07.at' (by omega) (T7.mod.get r u) (λf=>(T7.own _ f).elim u λe=>by rw [r] at e;cases e) (by rw [p];exact i) K λh8 z8 T8 e8 e9 R=>?_);exact bN h8 z8 id P6 hid K i (T07.trans T8) (by rw [e8,p,nu]) (by rw [e9,p]) (by rw [R,p])
end K
namespace K
open Go Go.Dx Go.RowKit Go.Proofs
set_option maxRecDepth 100000
theorem _root_.Go.Dx.Ld.upto {h:H}{e:TypeId}{size n:Nat}{s:V}{cs:List V}{k:IntKind}{i:Int}{K:V->Prop} (o:aG h e size s n cs) (hi:0<=i) (c:i.toNat<=n)
  (b:∀v,Sl h size v i.toNat (cs.take (i.toNat*size))->(∀q,q∈ag v->q∈ag s)->K v):Ld size s none (some (.int k i)) none K:=by
 obtain ⟨a,rfl⟩:=Int.eq_ofNat_of_zero_le hi;have c:a<=n:=by simpa using c
 have b:∀v,Sl h size v a (cs.take (a*size))->(∀q,q∈ag v->q∈ag s)->K v:=by simpa using b
 have f:cs.length=n*size->rowFrom cs 0 (a*size)=some (cs.take (a*size)):=λd=>by
  unfold rowFrom;rw [dM,Dh]
  ·simp
  ·simp;rw [d];exact Nat.mul_le_mul_right _ c
 cases o with
 | nil=>
   have:a=0:=by omega
   subst this;exact ⟨.nilSlice 0,rfl,b _ (by simpa using Sl.nil 0) (by simp [ag])⟩
 | @exact l _ _ hg d=>
   refine ⟨sliceEnd l 0 size 0 a n,by simp only [dV,bB,dR c,ob],b _ ?_ ?_⟩
   ·have:sliceEnd l 0 size 0 a n = .slice l 0 a (.exact n):=by
     unfold sliceEnd;cases Nat.beq n 0<;>simp
    rw [this];exact .row hg (f d)
   ·have:sliceEnd l 0 size 0 a n = .slice l 0 a (.exact n):=by
     unfold sliceEnd;cases Nat.beq n 0<;>simp
    rw [this];simp [ag]
 | @ends l _ _ hg d=>
   refine ⟨.slice l 0 a (.toEnd size),?_,b _ (.row hg (f d)) (by simp [ag])⟩;simp only [dV,bB,dR c,ob,Nat.beq_refl,bO];simp
end K
namespace Go.Dx
open Go Go.RowKit
theorem bE.same {pf:Unit->Program} {ks:List PK} {cs:List V} {K:V->Prop} (h:de ks cs cs=some true) (a:K (.bool false)):bE pf .neq (.agg ks) (.agg cs) (.agg cs) K:=
 ⟨.bool false,by simp [binOp,DA,Ke,h,ob],a⟩
end Go.Dx
namespace K
open Go Go.Dx Go.RowKit Go.Proofs
set_option maxRecDepth 100000
variable{h:H}
theorem JF (a:List Nat)(b c:Int)(d e f:List Nat):de [.str,.int,.int,.str,.str,.str] [.str a,.int .i64 b,.int .i64 c,.str d,.str e,.str f] [.str a,.int .i64 b,.int .i64 c,.str d,.str e,.str f]=some true:=by
 simp [de,gh,ob,iZ,cE,aR,bO]
theorem ajD {g:Lb}{m:bH}{c:Nat}(f:h.get g=some (.map (cd m) c))(hi:∀e∈m,∃n,e.2.1 = .int .i64 n) (k:List Nat) (K:V->Prop) (a:K (.int .i64 (jV m k))):VP h .str (.int .i64 0) false (.map g) (.str k) K:=by
 cases hv:cO m k with
 | none=>
   refine .Gs f hv ?_;have:jV m k=0:=by simp only [jV,hv]
   rw [this] at a;exact a
 | some v=>
   obtain ⟨b,i⟩:=zI hv;obtain ⟨n,d⟩:=hi _ i;have d:v = .int .i64 n:=d;subst d;have:jV m k=n:=by simp only [jV,hv]
   rw [this] at a;refine .hit f hv a
theorem tu {a b:V}{l:List ep}(d:Sl h 6 a l.length (cx l))(e:Sl h 6 b l.length (cx l))(v:l.length<=1000000000){Q:V->H->Prop} (m:Q (.bool true) h):CW pf G0 mB [a,b] h Q:=by
 refine xa.enter (by kernel_rfl) ?_;cbv;refine .of d λn y B8=>?_;cbv;refine .of e λD SP t=>?_;cbv;refine .iz (by omega) ?_;cbv;refine .of d λq k r=>?_;cbv;refine .inv [p0,p1,SB,Yz] (λf o h'=>∃(i:Int),o=[a,b,.int .i64 q,.int .i64 i]/\0<=i/\i.toNat<=l.length/\f=l.length - i.toNat/\h'=h) [_,_,_,_] rfl _
  ⟨0,rfl,by omega,by simp,rfl,rfl⟩ ?_
 rintro f _ z ⟨i,rfl,g,I0,E,rfl⟩;cbv;refine .lt (λC=>?_) λF=>?_
 ·obtain ⟨x,s⟩:∃x,l[i.toNat]? =some x:=⟨_,List.getElem?_eq_getElem (by omega)⟩
  have c:=dP _ _ _ s;obtain ⟨I,G,w,xs,B,A⟩:=x;dsimp only at c;cbv;refine .of follows 9 ?_;cbv;refine .of d g rfl (by omega) c λZV off p=>?_;cbv;refine .jC p rfl ?_;cbv;refine .of e g rfl (by omega) c λu FQ Im=>?_;cbv;refine .jC Im rfl ?_;cbv;refine .same (JF _ _ _ _ _ _) ?_;cbv;refine .add (by omega) (by omega) λj J=>?_;cbv;exact ⟨rfl,l.length - j.toNat,by omega,j,rfl,by omega,by omega,rfl,rfl⟩
 ·cbv;exact m
end K
