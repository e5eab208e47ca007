/-
  The sequencer's laws. Part ZBF of the proof: blotter/sequencer: Push.
-/
import Derived.Recover
import Derived.Test.YteajeefphbjnmaaGreatDoorProg
import Derived.WalkKit
import Derived.KernelRfl
import Derived.Test.YteajeefphbjnmaaGreatDoorZBE
import Derived.Test.YteajeefphbjnmaaGreatDoorZAL
namespace K
open Go Go.Dx Go.RowKit Go.Proofs
set_option maxRecDepth 100000
abbrev sc (kind:Int)(client:List Nat)(from_ cookie last top:Int)(lv:V):V:=.agg [.int .i64 kind,.str client,.int .i64 from_,.int .i64 cookie,.int .i64 last,.int .i64 top,lv]
abbrev OY:V:=.agg [.int .i64 0,.str [],.int .i64 0,.int .i64 0,.int .i64 0,.int .i64 0,.nilSlice 0]
noncomputable def alg:DC:=hZ (hZ (hZ (hZ fK.code)))
noncomputable def agZ:DC:=hZ (hZ (hZ fK.code))
theorem aaI {h:H}{lp lm lr ln:Lb}{z:Zs}{n m:Nat}{kind a b c d:Int}{client:List Nat}{lv:V}(hw:Wf h)(Z:E6 h lp z n m)(hn:n<=100000000)
  (sM:h.get lm=some (.cells [.int .i64 kind,.str client,.int .i64 a,.int .i64 b,.int .i64 c,.int .i64 d,lv] dF 0 .yes)) (E7:h.get lr=some (.cells [.int .i64 0,.str [],.int .i64 0,.int .i64 0,.int .i64 0,.int .i64 0,.nilSlice 0] dF 0 .yes))
  (Rk:lm∉z.own lp) (WO:lr∉z.own lp) (_dj:lm≠lr) {Q:V->H->Prop}
  (bw:∀h' h1 z',ZS h h1 lp z z' n m->z'.r=z.r->z'.g=z.g->nU z.g z.d z'.d->Mod h1 h' [lr]->Wf h'->∀tp:Int,0<=tp->tp.toNat=z.r.log.length->Q (.tuple [sc 2 [] 0 0 (aW z.r.log client) tp (.nilSlice 0),.int .i64 0]) h'):
  Fm pf G0 90 alg {tmps:=fV [p0,p3,p4,p6] [.ptr lp 0,.ptr lm 0,.ptr lr 0,.ptr ln 0],defers:=[]} h (pW pf G0 [.cell p4 (.many 7),.tmp p5] Q) λ_ _ _=>False:=by
 refine .of ?_;have C:=Z.ub.cell;have hsy:=λls (e:z.r.ls=ls)=>aek (Q:=λv h'=>v = .int .i64 0/\∃z',ZS h h' lp z z' n m/\z'.r=z.r/\z'.g=z.g/\nU z.g z.d z'.d) e hw Z hn λh' z' a b c d=>⟨rfl,z',a,b,c,d⟩;generalize NA:z.r.ls=ls at*;generalize ael:z.r.lv=sl at*;generalize Jg:z.r.sv=sv at*;generalize WQ:z.r.lm=mm at*;cbv;refine .of C rfl ?_;cbv;refine (hsy ls rfl).mono λv h1 q=>?_;obtain ⟨rfl,z1,T,e1,e2,so⟩:=q;have S1:=T.at'.ub;rw [e1] at S1;have C1:=S1.cell;rw [NA,ael,Jg,WQ] at C1;have L1:=S1.log.sl;rw [ael] at L1;have O5:=T.mod.get sM Rk;have alh:=T.mod.get E7 WO;have lk:=λK=>S1.lookup (c:=client) (K:=K);rw [WQ] at lk;generalize fS:aW z.r.log client=la at*;cbv;refine .eC rfl ?_;cbv;refine .of follows 4 ?_;cbv;refine .of C1 rfl ?_;cbv;refine .of O5 rfl ?_;cbv;refine lk _ ?_;cbv;refine .of C1 rfl ?_;cbv;refine .of L1 λtp RH htp=>?_;cbv;refine .flat rfl ?_;cbv;refine .flat rfl ?_;cbv;refine .flat rfl ?_;cbv;refine .of (cs:=[.int .i64 2,.str [],.int .i64 0,.int .i64 0,.int .i64 la,.int .i64 tp,.nilSlice 0]) T.wf alh rfl rfl rfl rfl rfl rfl λh2 WR aq aN=>?_;cbv;refine .nil ?_;cbv;refine .all WR rfl ?_;cbv;exact bw h2 h1 z1 T e1 e2 so aq aN tp RH htp
structure Uf (h h':H)(lp:Lb)(z z':Zs)(client:List Nat)(l:List jB)(n m i:Nat):Prop where
 zs:ZS h h' lp z z' (n+i) (m+i)
 len:z'.r.log.length<=z.r.log.length+i
 done:∀(j:Nat) x,j<i->l[j]? =some x->x.id<=aW z'.r.log client
 next:∀x,l[i]? =some x->x.id - 1<=aW z'.r.log client
 same:(∀x∈l,x.id<=aW z.r.log client)->z'=z
theorem Uf.skip {h h':H}{lp:Lb}{z z':Zs}{client:List Nat}{l:List jB}{n m i:Nat}(I:Uf h h' lp z z' client l n m i)(P:iS client l){x:jB}(hx:l[i]? =some x)(hle:x.id<=aW z'.r.log client){h2:H}(hm:Mod h' h2 [])(hw:Wf h2):Uf h h2 lp z z' client l n m (i+1):=
 ⟨(I.zs.le (by omega) (by omega)).beside hm hw,by have:=I.len;omega,λj y hj hy=>by
   rcases Nat.lt_or_ge j i with g | g
   ·exact I.done j y g hy
   ·have:j=i:=by omega
    subst this;rw [hx] at hy;cases hy;exact hle,λy hy=>by
   have:=P.next i x y hx hy;omega,I.same⟩
theorem Uf.awM {h h' h2:H}{lp:Lb}{z z' z2:Zs}{client:List Nat}{l:List jB}{n m i:Nat}(I:Uf h h' lp z z' client l n m i)(P:iS client l){x:jB}(hx:l[i]? =some x)(Iq:aW z'.r.log client<x.id)(T:ZS h' h2 lp z' z2 (n+i+1) (m+i+1))
  (ht:x.id=aW z'.r.log x.client+1/\z2.r.log=z'.r.log++[x]\/x.id≠aW z'.r.log x.client+1/\z2.r.log=z'.r.log):Uf h h2 lp z z2 client l n m (i+1):=by
 have hc:=(P.each x (List.mem_of_getElem? hx)).1;have hn:=I.next x hx;rw [hc] at ht;rcases ht with ⟨h1,h2⟩ | ⟨h1,_⟩
 ·have jc:aW z2.r.log client=x.id:=by rw [h2,fO,if_pos hc]
  refine ⟨I.zs.trans T,by rw [h2];have:=I.len;simp;omega,λj y hj hy=>?_,λy hy=>?_,λcf=>?_⟩
  ·rcases Nat.lt_or_ge j i with g | g
   ·have:=I.done j y g hy;omega
   ·have:j=i:=by omega
    subst this;rw [hx] at hy;cases hy;omega
  ·have:=P.next i x y hx hy
   omega
  ·have:=I.same cf
   have h3:=cf x (List.mem_of_getElem? hx);rw [this] at Iq;omega
 ·omega
theorem WS {h:H}{lp lm lr ln:Lb}{z:Zs}{n m:Nat}{kind a b c d:Int}{client:List Nat}{lv:V}{l:List jB}(hw:Wf h)(he:HE h)(Z:E6 h lp z n m)(hn:n<=9000000)(eU:m<=900)(hf:z.r.log.length<=900)(P:iS client l)(hz:∀x∈l,L9 x) (hs:Sl h 6 lv l.length (cW l)) (nlv:∀q,q∈af lv->q∉z.own lp)
  (aem:∀x,l[0]? =some x->x.id - 1<=aW z.r.log client)
  (sM:h.get lm=some (.cells [.int .i64 kind,.str client,.int .i64 a,.int .i64 b,.int .i64 c,.int .i64 d,lv] dF 0 .yes)) (E7:h.get lr=some (.cells [.int .i64 0,.str [],.int .i64 0,.int .i64 0,.int .i64 0,.int .i64 0,.nilSlice 0] dF 0 .yes)) (UE:h.get ln=some (.cells [.int .i64 0,.str [],.int .i64 0,.int .i64 0,.int .i64 0,.int .i64 0,.nilSlice 0] dF 0 .yes))
  (Rk:lm∉z.own lp) (WO:lr∉z.own lp) (nln:ln∉z.own lp) (dj:lm≠lr) (_vB:ln≠lr) {Q:V->H->Prop}
  (bq:∀h' h1 z' (e:Int),e≠0->ZS h h1 lp z z' (n+9) (m+8)->z'.r.log.length<=z.r.log.length+8->¬(∀x∈l,x.id<=aW z.r.log client)->Mod h1 h' [lr]->Wf h'->Q (.tuple [OY,.int .i64 e]) h')
  (bw:∀h' h1 h2 z1 z',Uf h h2 lp z z1 client l n m l.length->ZS h2 h1 lp z1 z' (n+8) (m+8)->z'.r=z1.r->z'.g=z1.g->nU z1.g z1.d z'.d->Mod h1 h' [lr]->Wf h'->∀tp:Int,0<=tp->tp.toNat=z1.r.log.length->Q (.tuple [sc 2 [] 0 0 (aW z1.r.log client) tp (.nilSlice 0),.int .i64 0]) h'):
  Fm pf G0 90 agZ {tmps:=fV [p0,p3,p4,p6] [.ptr lp 0,.ptr lm 0,.ptr lr 0,.ptr ln 0],defers:=[]} h (pW pf G0 [.cell p4 (.many 7),.tmp p5] Q) λ_ _ _=>False:=by
 have h8:=P.iZ;refine .seq (.of ?_);cbv;refine .of sM rfl ?_;cbv;refine .of hs λk Ir hk=>?_;cbv;refine .inv [p0,p3,p4,p6,p44,p45,p46] (λm' aC h'=>∃(i:Int) (z':Zs),aC=[.ptr lp 0,.ptr lm 0,.ptr lr 0,.ptr ln 0,lv,.int .i64 k,.int .i64 i]/\0<=i/\i.toNat<=l.length/\m'=l.length - i.toNat/\Uf h h' lp z z' client l n m i.toNat) [_,_,_,_,_,_,_] rfl _
  ⟨0,z,rfl,by omega,by simp,rfl,⟨ZS.refl Z hw,by omega,λj x hj=>by simp at hj,λx hx=>aem x hx,λ_=>rfl⟩⟩ ?_
 rintro m' _ h1 ⟨i,z1,rfl,jG,Nv,dY,I⟩;have aM:=I.zs.wf;have Z1:=I.zs.at';have O5:=I.zs.mod.get sM Rk;have alh:=I.zs.mod.get E7 WO;have adM:=I.zs.mod.get UE nln;have ali:∀q,q∉z.own lp->h.get q≠none->q∉z1.own lp:=λq h1 h2 hm=>(I.zs.own q hm).elim h1 h2;have awN:=ali lm Rk (by rw [sM];simp);have awO:=ali lr WO (by rw [E7];simp);have aEt:=ali ln nln (by rw [UE];simp);have AN:Sl h1 6 lv l.length (cW l):=hs.mono I.zs.mod λq hq=>nlv q hq;cbv;refine .lt (λbA=>?_) λjb=>?_;rotate_left
 ·have cf:i.toNat=l.length:=by omega
  rw [cf] at I;cbv;exact .weak [p0,p3,p4,p6] rfl (aaI aM (Z1.le (n':=n+8) (m':=m+8) (by omega) (by omega)) (by omega) O5 alh awN awO dj λh' h2 z' T e1 e2 so hm cG tp t0 t1=>bw h' h2 h1 z1 z' I T e1 e2 so hm cG tp t0 t1)
 obtain ⟨x,hx⟩:∃x,l[i.toNat]? =some x:=⟨_,List.getElem?_eq_getElem (by omega)⟩;have Qr:=List.mem_of_getElem? hx;have hxz:=hz x Qr;obtain ⟨hxc,ap1⟩:=P.each x Qr;have bG:=ea _ _ _ hx;have awP:=hxz.id;have C1:=Z1.ub.cell;have lk:=λK=>Z1.ub.lookup (c:=client) (K:=K);have I0:=I.len;generalize NA:z1.r.ls=ls at*;generalize ael:z1.r.lv=sl at*;generalize Jg:z1.r.sv=sv at*;generalize WQ:z1.r.lm=mm at*;generalize fS:aW z1.r.log client=la at*;have Df:=hx;obtain ⟨xc,xi,xk,xs,xn,xt⟩:=x;dsimp only at bG hxc awP;cbv;refine .of AN jG rfl (by omega) bG λYJ off iR=>?_;cbv;refine .ka iR rfl ?_;cbv;refine .of aM λlx h2 Fi I9 aq aN=>?_;cbv;refine .of (cs:=[.str xc,.int .i64 xi,.int .i64 xk,.str xs,.str xn,.str xt]) aN Fi rfl rfl rfl rfl rfl rfl λh3 Uv aF aR=>?_;have fU:Mod h1 h3 []:=aq.fr aF λq hq=>.inl (by rw [List.mem_singleton] at hq;subst hq;exact I9);have UM:=fU.get O5;have C3:=fU.get C1;have S3:=Z1.ub.mono fU;have lk3:=λK=>S3.lookup (c:=client) (K:=K);rw [WQ,fS] at lk3;cbv;refine .of follows 3 ?_;cbv;refine .of Uv rfl ?_;cbv;refine .of C3 rfl ?_;cbv;refine .of UM rfl ?_;cbv;refine lk3 _ ?_;cbv;refine .le (λhle=>?_) λIq=>?_
 ·cbv;refine .add (by omega) (by omega) λj hj=>?_
  have Ny:j.toNat=i.toNat+1:=by omega
  cbv;exact ⟨rfl,l.length - j.toNat,by omega,j,z1,rfl,by omega,by omega,rfl,by rw [Ny];exact I.skip P hx (by rw [fS];exact hle) fU aR⟩
 ·cbv;refine .all Uv rfl ?_
  cbv;refine WK (x:=⟨xc,xi,xk,xs,xn,xt⟩) (n:=n+i.toNat) (m:=m+i.toNat) (z:=z1) aR (he.mono (I.zs.mod.trans fU)) (Z1.mono fU) (by omega) (by omega) hxz ap1 (by omega) (λh4 z4 e ap2 T hr=>?_) λh4 z4 T e1 e2=>?_
  ·have U:=(I.zs.beside fU aR).trans T
   have LO:=U.mod.get E7 WO;have QV:=U.mod.get UE nln;have aEu:lr∉z4.own lp:=λhm=>(U.own lr hm).elim WO (by rw [E7];simp);cbv;refine .uk ap2 ?_;cbv;refine .all QV rfl ?_;cbv;refine .of (cs:=[.int .i64 0,.str [],.int .i64 0,.int .i64 0,.int .i64 0,.int .i64 0,.nilSlice 0]) T.wf LO rfl rfl rfl rfl rfl rfl λh5 Fo aY bH=>?_;cbv;refine .all Fo rfl ?_;cbv;exact bq h5 h4 z4 e ap2 (U.le (by omega) (by omega)) (by rw [hr];omega) (λcf=>by
    have h6:=I.same cf;have h7:=cf _ Qr;rw [<-h6,fS] at h7;dsimp only at h7;omega) aY bH
  ·cbv;refine .eC rfl ?_
   cbv;refine .add (by omega) (by omega) λj hj=>?_;have Ny:j.toNat=i.toNat+1:=by omega
   cbv;exact ⟨rfl,l.length - j.toNat,by omega,j,z4,rfl,by omega,by omega,rfl,by rw [Ny];exact (I.awM (h':=h1) P hx (by rw [fS];exact Iq) (((ZS.refl (Z1.le (Nat.le_refl _) (Nat.le_refl _)) aM).beside fU aR).trans T) e2)⟩
theorem CZ {h:H}{lp:Lb}{z:Zs}{n m:Nat}{kind from_ cookie last top:Int}{client:List Nat}{lv:V}{l:List jB}(hw:Wf h)(he:HE h)(Z:E6 h lp z n m)(hn:n<=9000000)(eU:m<=900)(hf:z.r.log.length<=900)(hs:Sl h 6 lv l.length (cW l))(nlv:∀q,q∈af lv->q∉z.own lp) (hz:∀x∈l,L9 x) (hl:l.length<=1000000) (sL:client.length<=9223372036854775807) (uj:i64 cookie) {Q:V->H->Prop}
  (aen:∀h',¬(kind=1/\iS client l/\from_=0/\cookie=0/\last=0/\top=0)->Mod h h' []->Wf h'->Q (.tuple [OY,.int .i64 130]) h')
  (aem:∀h' x,kind=1->iS client l->l[0]? =some x->aW z.r.log client<x.id - 1->Mod h h' []->Wf h'->Q (.tuple [OY,.int .i64 140]) h')
  (bq:∀h' z' (e:Int),e≠0->kind=1->iS client l->(∀x,l[0]? =some x->x.id - 1<=aW z.r.log client)->ZS h h' lp z z' (n+9) (m+8)->z'.r.log.length<=z.r.log.length+8->¬(∀x∈l,x.id<=aW z.r.log client)->Q (.tuple [OY,.int .i64 e]) h')
  (bw:∀h' z1 z',kind=1->iS client l->(from_=0/\cookie=0/\last=0/\top=0)->(∀x,l[0]? =some x->x.id - 1<=aW z.r.log client)->ZS h h' lp z z' (n+8) (m+8)->z1.r.log.length<=z.r.log.length+8->(∀x∈l,x.id<=aW z1.r.log client)->((∀x∈l,x.id<=aW z.r.log client)->z1=z)->z'.r=z1.r->z'.g=z1.g->nU z1.g z1.d z'.d->∀tp:Int,0<=tp->tp.toNat=z1.r.log.length->Q (.tuple [sc 2 [] 0 0 (aW z1.r.log client) tp (.nilSlice 0),.int .i64 0]) h'):
  CW pf G0 dD [.ptr lp 0,sc kind client from_ cookie last top lv] h Q:=by
 refine tI.mj (by kernel_rfl) ?_;refine .seq (.of ?_);cbv;refine .agg ?_;cbv;refine .of hw λlm h1 sM CR ar aM=>?_;cbv;refine .of aM λlr h2 E7 dt aq aN=>?_;have frr:=ai ar (by simp) dt;cbv;refine .seq (.of ?_);cbv;refine .of aN λln h3 UE qW aF aR=>?_;have aO:Mod h h2 []:=(ar.trans aq).mono λl o _ hl=>by simp at hl
 have aJ:Mod h h3 []:=(aO.trans aF).mono λl o _ hl=>by simp at hl
 have frn:=ai aO (by simp) qW;cbv;refine .of (cs:=[.int .i64 0,.str [],.int .i64 0,.int .i64 0,.int .i64 0,.int .i64 0,.nilSlice 0]) aR UE rfl rfl rfl rfl rfl rfl λh4 QV aD aQ=>?_;have WR:=aF.get E7;have GL:=aF.get (aq.get sM);have nmr:lm≠lr:=λe=>by subst e;rw [sM] at dt;cases dt
 have nnr:ln≠lr:=λe=>by subst e;rw [E7] at qW;cases qW
 have nnm:ln≠lm:=λe=>by subst e;rw [aq.get sM] at qW;cases qW
 have LO:=aD.get WR (by simpa using Ne.symm nnr);have sT:=aD.get GL (by simpa using Ne.symm nnm);have ay:Mod h h4 []:=aJ.fr aD λl hl=>by simp at hl;subst hl;exact .inl frn
 have Z4:=Z.mono ay;have Oh:=hs.mono ay;have Rk:lm∉z.own lp:=λhm=>Z.live hm CR;have WO:lr∉z.own lp:=λhm=>Z.live hm frr;have nln:ln∉z.own lp:=λhm=>Z.live hm frn;have C4:=Z4.ub.cell;have lk:=λK=>Z4.ub.lookup (c:=client) (K:=K);have OZ:=hs.flat;have aiO:=mo Z.ub.good client;have yL:=Z.ub.Fh;have fin:∀{h5:H} {e:Int},Mod h h5 []->Wf h5->h5.get lr=some (.cells [.int .i64 0,.str [],.int .i64 0,.int .i64 0,.int .i64 0,.int .i64 0,.nilSlice 0] dF 0 .yes)->(∀h',Mod h h' []->Wf h'->Q (.tuple [OY,.int .i64 e]) h')->StN h5 7 lr 0 (.agg [.int .i64 0,.str [],.int .i64 0,.int .i64 0,.int .i64 0,.int .i64 0,.nilSlice 0]) λh'=>Uw h' (.many 7) lr 0 λv=>Q (.tuple [v,.int .i64 e]) h':=λ{h5 e} m5 w5 g5 k=>by
  refine .of (cs:=[.int .i64 0,.str [],.int .i64 0,.int .i64 0,.int .i64 0,.int .i64 0,.nilSlice 0]) w5 g5 rfl rfl rfl rfl rfl rfl λh6 aeo bP cy=>?_;refine .all aeo rfl ?_;exact k h6 (m5.fr bP λl hl=>by simp at hl;subst hl;exact .inl frr) cy
 generalize NA:z.r.ls=ls at*;generalize ael:z.r.lv=sl at*;generalize Jg:z.r.sv=sv at*;generalize WQ:z.r.lm=mm at*;generalize fS:aW z.r.log client=la at*;cbv;refine .seq (.of ?_);cbv;refine qT C4 ?_;cbv;refine .of sT rfl ?_;cbv;refine .ne (λhk=>?_) λhk=>?_;rotate_left
 ·cbv;refine .all QV rfl ?_
  cbv;exact fin ay aQ LO λh' m w=>aen h' (λq=>hk q.1) m w
 subst hk;cbv;refine .all sT rfl ?_;cbv;refine y8 (l:=l) aQ Oh hz hl sL uj (λh5 afg aY bH=>?_) λh5 pX aY bH=>?_
 ·have aL:Mod h h5 []:=(ay.trans aY).mono λl o _ hl=>by simp at hl
  cbv;refine .uk (by decide) ?_;cbv;refine .all (aY.get QV) rfl ?_;cbv;exact fin aL bH (aY.get LO) λh' m w=>aen h' (λq=>afg (.push rfl q.2.1 q.2.2.1 q.2.2.2.1 q.2.2.2.2.1 q.2.2.2.2.2)) m w
 obtain ⟨P,hm0⟩:iS client l/\from_=0/\cookie=0/\last=0/\top=0:=by
  cases pX with
  | push _ h a b c d=>exact ⟨h,a,b,c,d⟩
  | O4 h=>cases h
  | pull h=>cases h
  | patch h=>cases h
  | afh h=>cases h
 cbv;refine .eC rfl ?_;have aL:Mod h h5 []:=(ay.trans aY).mono λl o _ hl=>by simp at hl
 have Db:=aY.get sT;have Fo:=aY.get LO;have ag1:=aY.get QV;have C5:=aY.get C4 (by simp);have hs5:=Oh.mono aY;have lk5:=λK=>(Z.ub.mono aL).lookup (c:=client) (K:=K);rw [WQ,fS] at lk5;obtain ⟨x,hx⟩:∃x,l[0]? =some x:=⟨_,List.getElem?_eq_getElem (List.length_pos_iff.2 P.some)⟩;have Xp:0<l.length:=List.length_pos_iff.2 P.some;have hid:=(P.each x (List.mem_of_getElem? hx)).2.id;have ap4:=(hz x (List.mem_of_getElem? hx)).id;have bG:=ea _ _ _ hx;have Df:=hx;obtain ⟨xc,xi,xk,xs,xn,xt⟩:=x;dsimp only at bG hid ap4;obtain ⟨amN,amO⟩:=ap4;cbv;refine .of follows 3 ?_;cbv;refine .of Db rfl ?_;cbv;refine .of hs5 (by decide) rfl Xp bG λYJ off iR=>?_;cbv;refine .gH iR 1 rfl ?_;cbv;refine .sub (by omega) (by omega) λy hy=>?_;cbv;refine .of C5 rfl ?_;cbv;refine .of Db rfl ?_;cbv;refine lk5 _ ?_;cbv;refine .gt (λIq=>?_) λhle=>?_
 ·cbv;refine .all ag1 rfl ?_
  cbv;exact fin aL bH Fo λh' m w=>aem h' _ rfl P Df (by dsimp only;omega) m w
 cbv;have hg0:∀x,l[0]? =some x->x.id - 1<=aW z.r.log client:=λx' h'=>by rw [Df] at h';cases h';rw [fS];dsimp only;omega
 have Mf:∀x,l[0]? =some x->x.id - 1<=la:=λx' h'=>by rw [<-fS];exact hg0 x' h'
 have ZR:=(ZS.refl Z hw).beside aL bH;have zfr:∀{h6 h7:H} {z':Zs} {n' m':Nat},ZS h5 h6 lp z z' n' m'->Mod h6 h7 [lr]->Wf h7->ZS h h7 lp z z' n' m':=λT hm cG=>(ZR.trans T).beside hm cG (λq hq aq=>by rw [List.mem_singleton] at aq;subst aq;exact ((ZR.trans T).own _ hq).elim WO (by
   intro e;have:=T.own _ hq;rcases this with h1 | h1
   ·exact WO h1
   ·rw [Fo] at h1;cases h1)) λq hq=>by rw [List.mem_singleton] at hq;subst hq;exact frr
 refine .weak [p0,p3,p4,p6] rfl (WS bH (he.mono aL) (Z.mono aL) hn eU hf P hz hs5 nlv hg0 Db Fo ag1 Rk WO nln nmr nnr (λh' h6 z' e dj T hlen cf hm cG=>?_) λh' h6 h7 z1 z' I T e1 e2 so hm cG tp t0 t1=>?_)
 ·exact bq h' z' e dj rfl P Mf (zfr T hm cG) hlen (by rw [<-fS];exact cf)
 ·have:=P.iZ
  have hl:=I.len;refine bw h' z1 z' rfl P hm0 Mf (zfr (I.zs.trans T) hm cG) (by omega) (λx hx=>?_) (λcf=>I.same (by rw [fS];exact cf)) e1 e2 so tp t0 t1;obtain ⟨j,hj⟩:=List.mem_iff_getElem?.1 hx;exact I.done j x (List.getElem?_eq_some_iff.1 hj).1 hj
end K
namespace K
open Go Go.Dx Go.RowKit Go.Proofs
set_option maxRecDepth 100000
theorem _root_.Go.Dx.Km.upto {h:H}{e:TypeId}{size n:Nat}{s:V}{cs:List V}{k:IntKind}{i:Int}{K:V->Prop} (o:aE h e size s n cs) (hi:0<=i) (hn:i.toNat<=n)
  (hk:∀v,Sl h size v i.toNat (cs.take (i.toNat*size))->(∀q,q∈af v->q∈af s)->K v):Km size s none (some (.int k i)) none K:=by
 obtain ⟨a,rfl⟩:=Int.eq_ofNat_of_zero_le hi;have hn:a<=n:=by simpa using hn
 have hk:∀v,Sl h size v a (cs.take (a*size))->(∀q,q∈af v->q∈af s)->K v:=by simpa using hk
 have bG:cs.length=n*size->rowFrom cs 0 (a*size)=some (cs.take (a*size)):=λhl=>by
  unfold rowFrom;rw [dq,vJ]
  ·simp
  ·simp;rw [hl];exact Nat.mul_le_mul_right _ hn
 cases o with
 | nil=>
   have:a=0:=by omega
   subst this;exact ⟨.nilSlice 0,rfl,hk _ (by simpa using Sl.nil 0) (by simp [af])⟩
 | @exact l _ _ hg hl=>
   refine ⟨sliceEnd l 0 size 0 a n,by simp only [ez,bD,dm hn,ob],hk _ ?_ ?_⟩
   ·have:sliceEnd l 0 size 0 a n = .slice l 0 a (.exact n):=by
     unfold sliceEnd;cases Nat.beq n 0<;>simp
    rw [this];exact .row hg (bG hl)
   ·have:sliceEnd l 0 size 0 a n = .slice l 0 a (.exact n):=by
     unfold sliceEnd;cases Nat.beq n 0<;>simp
    rw [this];simp [af]
 | @ends l _ _ hg hl=>
   refine ⟨.slice l 0 a (.toEnd size),?_,hk _ (.row hg (bG hl)) (by simp [af])⟩;simp only [ez,bD,dm hn,ob,Nat.beq_refl,bN];simp
noncomputable def aep:DC:=hZ (hZ (hZ (hZ jX.code)))
noncomputable def ag2:DC:=hZ (hZ aep)
theorem WT {h:H}{lp lm lr lf:Lb}{r:Ik}{kind a b c d:Int}{client:List Nat}{lv pv:V}{from_ ck tp:Int}(hw:Wf h)(S:nR h lp r)(h0:0<=ck)(h1:ck.toNat<=r.log.length)
  (sM:h.get lm=some (.cells [.int .i64 kind,.str client,.int .i64 a,.int .i64 b,.int .i64 c,.int .i64 d,lv] dF 0 .yes)) (E7:h.get lr=some (.cells [.int .i64 0,.str [],.int .i64 0,.int .i64 0,.int .i64 0,.int .i64 0,.nilSlice 0] dF 0 .yes))
  (OZ:h.get lf=some (.cells [.int .i64 4,.str [],.int .i64 from_,.int .i64 ck,.int .i64 0,.int .i64 tp,pv] dF 0 .yes)) (hpv:bU pv=true)
  (_n1:lm≠lr) (n2:lm≠lf) (n3:lr≠lf) (nlf:lf∉r.own lp) {Q:V->H->Prop}
  (bw:∀h',Mod h h' [lr,lf]->Wf h'->Q (.tuple [sc 4 [] from_ ck (aW (r.log.take ck.toNat) client) tp pv,.int .i64 0]) h'):
  Fm pf G0 87 ag2 {tmps:=fV [p0,p3,p4,p8] [.ptr lp 0,.ptr lm 0,.ptr lr 0,.ptr lf 0],defers:=[]} h (pW pf G0 [.cell p4 (.many 7),.tmp p5] Q) λ_ _ _=>False:=by
 have yL:=S.Fh;have C:=S.cell;have L:=S.log;have nlv:lf∉af r.lv:=λhm=>nlf (by simp [Ik.own,hm]);obtain ⟨ls,sl,sv,mm,log,st,m,cc⟩:=r;dsimp only at C L yL h1 nlv bw;refine .of ?_;cbv;refine .of follows 3 ?_;cbv;refine .of C rfl ?_;cbv;refine .of OZ rfl ?_;cbv;refine .upto L h0 h1 λv hv hvl=>?_;rw [GH] at hv;have Cc:(log.take ck.toNat).length=ck.toNat:=by rw [List.length_take];omega
 cbv;refine .of hv λk Ir hk=>?_;cbv;refine .inv [p0,p3,p4,p8,p71,p72,p73] (λm' aC h'=>∃(i la:Int),aC=[.ptr lp 0,.ptr lm 0,.ptr lr 0,.ptr lf 0,v,.int .i64 k,.int .i64 i]/\0<=i/\i.toNat<=ck.toNat/\m'=ck.toNat - i.toNat/\la=aW (log.take i.toNat) client/\h'.get lf=some (.cells [.int .i64 4,.str [],.int .i64 from_,.int .i64 ck,.int .i64 la,.int .i64 tp,pv] dF 0 .yes)/\Mod h h' [lf]/\Wf h') [_,_,_,_,_,_,_] rfl _
  ⟨0,0,rfl,by omega,by simp,rfl,rfl,OZ,Mod.refl _ _,hw⟩ ?_
 rintro m' _ h2 ⟨i,la,rfl,jG,Nv,dY,fS,ap5,aq,aN⟩;have GL:=aq.get sM (by simpa using n2);have WR:=aq.get E7 (by simpa using n3);cbv;refine .lt (λbA=>?_) λjb=>?_
 ·obtain ⟨x,hx⟩:∃x,(log.take ck.toNat)[i.toNat]? =some x:=⟨_,List.getElem?_eq_getElem (by omega)⟩
  have bG:=ea _ _ _ hx;have hxl:log[i.toNat]? =some x:=by rw [List.getElem?_take_of_lt (by omega)] at hx;exact hx
  have htk:=mf hxl;obtain ⟨xc,xi,xk,xs,xn,xt⟩:=x;dsimp only at bG;cbv;refine .of (hv.mono aq λq hq hm=>by rw [List.mem_singleton] at hm;subst hm;exact nlv (hvl _ hq)) jG rfl (by omega) bG λYJ off iR=>?_;cbv;refine .ka iR rfl ?_;cbv;refine .of aN λlx h3 Fi I9 aF aR=>?_;cbv;refine .of (cs:=[.str xc,.int .i64 xi,.int .i64 xk,.str xs,.str xn,.str xt]) aR Fi rfl rfl rfl rfl rfl rfl λh4 hx4 aD aQ=>?_;have KX:Mod h2 h4 []:=aF.fr aD λq hq=>.inl (by rw [List.mem_singleton] at hq;subst hq;exact I9);have aaJ:=KX.get ap5;have sT:=KX.get GL;cbv;refine .of hx4 rfl ?_;cbv;refine .of sT rfl ?_;cbv;refine .seq (λheq=>?_) λdj=>?_
  ·cbv;refine .of hx4 rfl ?_
   cbv;refine .one (vs':=[.int .i64 4,.str [],.int .i64 from_,.int .i64 ck,.int .i64 xi,.int .i64 tp,pv]) aQ aaJ rfl rfl rfl rfl λh5 alk aY bH=>?_;cbv;refine .add (by omega) (by omega) λj hj=>?_;have Ny:j.toNat=i.toNat+1:=by omega
   cbv;exact ⟨rfl,ck.toNat - j.toNat,by omega,j,xi,rfl,by omega,by omega,rfl,by rw [Ny,htk,fO,if_pos heq],alk,((aq.trans KX).trans aY).mono λq _ _ hq=>by simpa using hq,bH⟩
  ·cbv;refine .add (by omega) (by omega) λj hj=>?_
   have Ny:j.toNat=i.toNat+1:=by omega
   cbv;exact ⟨rfl,ck.toNat - j.toNat,by omega,j,la,rfl,by omega,by omega,rfl,by rw [Ny,htk,fO,if_neg dj,fS],aaJ,(aq.trans KX).mono λq _ _ hq=>by simpa using hq,aQ⟩
 ·have cf:i.toNat=ck.toNat:=by omega
  rw [cf] at fS;cbv;refine .all ap5 rfl ?_;cbv;refine .of (cs:=[.int .i64 4,.str [],.int .i64 from_,.int .i64 ck,.int .i64 la,.int .i64 tp,pv]) aN WR rfl rfl rfl rfl (by show (true&&(true&&(true&&(true&&(true&&(true&&(bU pv&&true)))))))=true;rw [hpv];rfl) rfl λh3 alm aF aR=>?_;cbv;refine .all alm rfl ?_;cbv;rw [fS];exact bw h3 ((aq.trans aF).mono λq _ _ hq=>by simp at hq ⊢;rcases hq with hq | hq<;>simp [hq]) aR
theorem aaK {h:H}{lp lm lr ln:Lb}{r:Ik}{kind a ck c d:Int}{client:List Nat}{lv:V}(hw:Wf h)(S:nR h lp r)(h0:0<=ck)(h1:ck.toNat<=r.log.length)
  (sM:h.get lm=some (.cells [.int .i64 kind,.str client,.int .i64 a,.int .i64 ck,.int .i64 c,.int .i64 d,lv] dF 0 .yes)) (E7:h.get lr=some (.cells [.int .i64 0,.str [],.int .i64 0,.int .i64 0,.int .i64 0,.int .i64 0,.nilSlice 0] dF 0 .yes))
  (n1:lm≠lr) {Q:V->H->Prop}
  (bw:∀h' pv (p:List jB) (E8 tp:Int),p=(r.log.drop ck.toNat).take 8->aE h' cX 6 pv p.length (cW p)->Fr h pv->Mod h h' [lr]->Wf h'->0<=E8->E8.toNat=ck.toNat+p.length->0<=tp->tp.toNat=r.log.length->Q (.tuple [sc 4 [] ck E8 (aW (r.log.take E8.toNat) client) tp pv,.int .i64 0]) h'):
  Fm pf G0 87 aep {tmps:=fV [p0,p3,p4,p6] [.ptr lp 0,.ptr lm 0,.ptr lr 0,.ptr ln 0],defers:=[]} h (pW pf G0 [.cell p4 (.many 7),.tmp p5] Q) λ_ _ _=>False:=by
 have yL:=S.Fh;have hC:∀{h'},Mod h h' []->h'.get lp=some (.cells [.ptr r.ls 0,r.lv,r.sv,.map r.lm] qF 0 .yes):=λm=>m.get S.cell (by simp);have C:=S.cell;have L:=S.log;obtain ⟨ls,sl,sv,mm,log,st,m,cc⟩:=r;dsimp only at C L yL h1 bw hC;refine .seq (.of ?_);cbv;refine .of follows 6 ?_;cbv;refine .of hw λlf h2 OZ Fe aq aN=>?_;have GL:=aq.get sM;have C2:=aq.get C;have L2:=L.mono aq;cbv;refine .of GL rfl ?_;cbv;refine .of C2 rfl ?_;cbv;refine .of L2.sl λtp RH htp=>?_;cbv;refine .of GL rfl ?_;cbv;refine .fresh OZ rfl ?_;have S2:=S.mono aq;have WO:lr≠lf:=λe=>by subst e;rw [E7] at Fe;cases Fe
 have Rk:lm≠lf:=λe=>by subst e;rw [sM] at Fe;cases Fe
 refine CW.mono (Q:=λv h3=>∃p,p=(log.drop ck.toNat).take 8/\aE h3 cX 6 v p.length (cW p)/\Loc h2 h3 v) ?_ ?_
 ·refine O7 aN C2 L2 (by omega) (by decide) (λbq=>⟨[],?_,.nil,Loc.nil aN 0⟩) λpv h3 p h00 h01 _ hp fT lL=>⟨p,hp,fT,lL⟩
  have:log.length<=ck.toNat:=by omega
  rw [List.drop_eq_nil_of_le this];rfl
 rintro pv h3 ⟨p,hp,fT,lL⟩;have hpl:p.length<=8:=by rw [hp,List.length_take];omega
 have hpc:ck.toNat+p.length<=log.length:=by rw [hp,List.length_take,List.length_drop];omega
 have fpv:=fT.sl.flat;have agq:=lL.get OZ;cbv;refine .fresh agq rfl (.load (lL.get C2) rfl (.load (lL.get GL) rfl (.nil ?_)));cbv;refine .flat rfl ?_;cbv;refine .flat rfl ?_;cbv;refine .flat rfl ?_;cbv;refine .flat fpv ?_;cbv;refine .of (cs:=[.int .i64 4,.str [],.int .i64 ck,.int .i64 0,.int .i64 0,.int .i64 tp,pv]) lL.wf agq rfl rfl rfl rfl (by show (true&&(true&&(true&&(true&&(true&&(true&&(bU pv&&true)))))))=true;rw [fpv];rfl) rfl λh4 aaJ aD aQ=>?_;have nfp:lf∉af pv:=λhm=>by have:=lL.fr lf hm;rw [OZ] at this;cases this
 have jv:=fT.mono aD (fk nfp);cbv;refine .nil ?_;cbv;refine .seq (.of ?_);cbv;refine .of aaJ rfl ?_;cbv;refine .of aaJ rfl ?_;cbv;refine .of jv.sl λk Ir hk=>?_;cbv;refine .add (by omega) (by omega) λE8 aEx=>?_;cbv;refine .one (vs':=[.int .i64 4,.str [],.int .i64 ck,.int .i64 E8,.int .i64 0,.int .i64 tp,pv]) aQ aaJ rfl rfl rfl rfl λh5 alk aY bH=>?_;have UR:Mod h3 h5 [lf]:=(aD.trans aY).mono λq _ _ hq=>by simpa using hq
 have aL:Mod h h5 []:=((aq.trans lL.mod).fr UR λq hq=>.inl (by rw [List.mem_singleton] at hq;subst hq;exact Fe)).mono λq _ _ hq=>by simp at hq
 have kh:=fT.mono UR (fk nfp);have frp:Fr h pv:=λq hq=>ai aq (by simp) (lL.fr q hq);cbv;refine .weak [p0,p3,p4,p8] rfl (WT bH (S.mono aL) (by omega) (by dsimp only;omega) (aL.get sM) (aL.get E7) alk fpv n1 Rk WO (λhm=>S.live hm Fe) λh6 bP cy=>?_);have nrp:lr∉af pv:=λhm=>by have:=lL.fr lr hm;rw [aq.get E7] at this;cases this
 have uj:E8.toNat=ck.toNat+p.length:=by omega
 refine bw h6 pv p E8 tp hp (kh.mono bP λq hq hm=>?_) frp ((aL.mono (F':=[lr]) λq _ _ hq=>by simp at hq).fr bP λq hq=>?_) cy (by omega) uj RH htp
 ·simp at hm
  rcases hm with e | e
  ·subst e;exact nrp hq
  ·subst e;exact nfp hq
 ·simp at hq
  rcases hq with e | e
  ·subst e;exact .inr (by simp)
  ·subst e;exact .inl Fe
theorem Jf {h:H}{lp:Lb}{z:Zs}{n m:Nat}{kind from_ cookie last top:Int}{client:List Nat}{lv:V}{l:List jB}(hw:Wf h)(Z:E6 h lp z n m)(hn:n<=100000000)(hs:Sl h 6 lv l.length (cW l))(hz:∀x∈l,L9 x) (hl:l.length<=1000000) (sL:client.length<=9223372036854775807) (uj:i64 cookie) {Q:V->H->Prop}
  (aen:∀h',¬(kind=3/\isName client/\qV cookie/\from_=0/\last=0/\top=0/\l=[])->Mod h h' []->Wf h'->Q (.tuple [OY,.int .i64 130]) h')
  (aem:∀h',kind=3->qV cookie->z.r.log.length<cookie.toNat->Mod h h' []->Wf h'->Q (.tuple [OY,.int .i64 140]) h')
  (bw:∀h' z' pv (p:List jB) (E8 tp:Int),kind=3->isName client->qV cookie->cookie.toNat<=z.r.log.length->ZS h h' lp z z' n m->z'.r=z.r->p=(z.r.log.drop cookie.toNat).take 8->aE h' cX 6 pv p.length (cW p)->(∀q,q∈af pv->q∉z'.own lp/\(h.get q=none\/q∈z.own lp))->0<=E8->E8.toNat=cookie.toNat+p.length->0<=tp->tp.toNat=z.r.log.length->Q (.tuple [sc 4 [] cookie E8 (aW (z.r.log.take E8.toNat) client) tp pv,.int .i64 0]) h'):
  CW pf G0 dE [.ptr lp 0,sc kind client from_ cookie last top lv] h Q:=by
 refine tH.mj (by kernel_rfl) ?_;refine .seq (.of ?_);cbv;refine .agg ?_;cbv;refine .of hw λlm h1 sM CR ar aM=>?_;cbv;refine .of aM λlr h2 E7 dt aq aN=>?_;have frr:=ai ar (by simp) dt;cbv;refine .seq (.of ?_);cbv;refine .of aN λln h3 UE qW aF aR=>?_;have aO:Mod h h2 []:=(ar.trans aq).mono λl o _ hl=>by simp at hl
 have aJ:Mod h h3 []:=(aO.trans aF).mono λl o _ hl=>by simp at hl
 have frn:=ai aO (by simp) qW;cbv;refine .of (cs:=[.int .i64 0,.str [],.int .i64 0,.int .i64 0,.int .i64 0,.int .i64 0,.nilSlice 0]) aR UE rfl rfl rfl rfl rfl rfl λh4 QV aD aQ=>?_;have WR:=aF.get E7;have GL:=aF.get (aq.get sM);have nmr:lm≠lr:=λe=>by subst e;rw [sM] at dt;cases dt
 have nnr:ln≠lr:=λe=>by subst e;rw [E7] at qW;cases qW
 have nnm:ln≠lm:=λe=>by subst e;rw [aq.get sM] at qW;cases qW
 have LO:=aD.get WR (by simpa using Ne.symm nnr);have sT:=aD.get GL (by simpa using Ne.symm nnm);have ay:Mod h h4 []:=aJ.fr aD λl hl=>by simp at hl;subst hl;exact .inl frn
 have Z4:=Z.mono ay;have Oh:=hs.mono ay;have Rk:lm∉z.own lp:=λhm=>Z.live hm CR;have WO:lr∉z.own lp:=λhm=>Z.live hm frr;have C4:=Z4.ub.cell;have L4:=Z4.ub.log.sl;have OZ:=hs.flat;have yL:=Z.ub.Fh;have fin:∀{h5:H} {e:Int},Mod h h5 []->Wf h5->h5.get lr=some (.cells [.int .i64 0,.str [],.int .i64 0,.int .i64 0,.int .i64 0,.int .i64 0,.nilSlice 0] dF 0 .yes)->(∀h',Mod h h' []->Wf h'->Q (.tuple [OY,.int .i64 e]) h')->StN h5 7 lr 0 (.agg [.int .i64 0,.str [],.int .i64 0,.int .i64 0,.int .i64 0,.int .i64 0,.nilSlice 0]) λh'=>Uw h' (.many 7) lr 0 λv=>Q (.tuple [v,.int .i64 e]) h':=λ{h5 e} m5 w5 g5 k=>by
  refine .of (cs:=[.int .i64 0,.str [],.int .i64 0,.int .i64 0,.int .i64 0,.int .i64 0,.nilSlice 0]) w5 g5 rfl rfl rfl rfl rfl rfl λh6 aeo bP cy=>?_;refine .all aeo rfl ?_;exact k h6 (m5.fr bP λl hl=>by simp at hl;subst hl;exact .inl frr) cy
 generalize NA:z.r.ls=ls at*;generalize ael:z.r.lv=sl at*;generalize Jg:z.r.sv=sv at*;generalize WQ:z.r.lm=mm at*;cbv;refine .seq (.of ?_);cbv;refine qT C4 ?_;cbv;refine .of sT rfl ?_;cbv;refine .ne (λhk=>?_) λhk=>?_;rotate_left
 ·cbv;refine .all QV rfl ?_
  cbv;exact fin ay aQ LO λh' m w=>aen h' (λq=>hk q.1) m w
 subst hk;cbv;refine .all sT rfl ?_;cbv;refine y8 (l:=l) aQ Oh hz hl sL uj (λh5 afg aY bH=>?_) λh5 pX aY bH=>?_
 ·have aL:Mod h h5 []:=(ay.trans aY).mono λl o _ hl=>by simp at hl
  cbv;refine .uk (by decide) ?_;cbv;refine .all (aY.get QV) rfl ?_;cbv;exact fin aL bH (aY.get LO) λh' m w=>aen h' (λq=>afg (.pull rfl q.2.1 q.2.2.1 q.2.2.2.1 q.2.2.2.2.1 q.2.2.2.2.2.1 q.2.2.2.2.2.2)) m w
 have P:isName client/\qV cookie:=by
  cases pX with
  | push h=>cases h
  | O4 h=>cases h
  | pull _ h h1=>exact ⟨h,h1⟩
  | patch h=>cases h
  | afh h=>cases h
 obtain ⟨Pc,P0,P1⟩:=P;cbv;refine .eC rfl ?_;have aL:Mod h h5 []:=(ay.trans aY).mono λl o _ hl=>by simp at hl
 have Db:=aY.get sT;have Fo:=aY.get LO;have ag1:=aY.get QV;have C5:=aY.get C4 (by simp);have L5:=L4.mono aY;cbv;refine .of follows 3 ?_;cbv;refine .of Db rfl ?_;cbv;refine .of C5 rfl ?_;cbv;refine .of L5 λk Ir hk=>?_;cbv;refine .gt (λIq=>?_) λhle=>?_
 ·cbv;refine .all ag1 rfl ?_
  cbv;exact fin aL bH Fo λh' m w=>aem h' rfl ⟨P0,P1⟩ (by omega) m w
 cbv;refine .seq (.of ?_);have hsy:=aek (Q:=λv h'=>v = .int .i64 0/\∃z',ZS h5 h' lp z z' n m/\z'.r=z.r) NA bH (Z.mono aL) hn λh' z' a b c d=>⟨rfl,z',a,b⟩;cbv;refine .of C5 rfl ?_;cbv;refine hsy.mono λv h6 q=>?_;obtain ⟨rfl,z6,T,er⟩:=q;cbv;refine .eC rfl ?_;have I3:=T.mod.get Db Rk;have aeo:=T.mod.get Fo WO;have S6:=T.at'.ub;rw [er] at S6;cbv;refine .weak [p0,p3,p4,p6] rfl (aaK T.wf S6 P0 (by omega) I3 aeo nmr λh' pv p E8 tp hp ho hf hm cG h0 h1 h2 h3=>?_);have awS:lr∉z6.own lp:=λhm=>(T.own _ hm).elim WO λe=>by rw [Fo] at e;cases e
 have U:=((ZS.refl Z hw).beside aL bH).trans T;have V:=U.beside hm cG (λq hq aq=>by rw [List.mem_singleton] at aq;subst aq;exact awS hq) λq hq=>by rw [List.mem_singleton] at hq;subst hq;exact frr
 refine bw h' z6 pv p E8 tp rfl Pc ⟨P0,P1⟩ (by omega) V er hp ho (λq hq=>⟨λaq=>T.at'.live aq (hf q hq),?_⟩) h0 h1 h2 h3;exact (GK T.mod (hf q hq)).imp_left λe=>ai aL (by simp) e
end K
namespace K
open Go Go.Dx Go.RowKit Go.Proofs
set_option maxRecDepth 100000
structure Mi where
 op:Int
 kind:Int
 client:List Nat
 from_:Int
 cookie:Int
 last:Int
 top:Int
 lv:V
 list:List jB
 kv:V
 Il:Int
def Rx:List Mi->List V
 | []=>[]
 | x::r=>.int .i64 x.op :: .int .i64 x.kind :: .str x.client :: .int .i64 x.from_ :: .int .i64 x.cookie :: .int .i64 x.last :: .int .i64 x.top::x.lv::x.kv :: .int .i64 x.Il::Rx r
theorem QW:∀(l:List Mi) (i:Nat) (x:Mi),l[i]? =some x->rowFrom (Rx l) (i*10) 10=some [.int .i64 x.op,.int .i64 x.kind,.str x.client,.int .i64 x.from_,.int .i64 x.cookie,.int .i64 x.last,.int .i64 x.top,x.lv,x.kv,.int .i64 x.Il]
 | [],i,x,h=>by simp at h
 | y::r,0,x,h=>by simp at h;subst h;rfl
 | y::r,i+1,x,h=>by
   have:=QW r i x (by simpa using h);rw [show (i+1)*10=i*10+1+1+1+1+1+1+1+1+1+1 by omega];exact this
structure C9 (h:H)(lv:V)(l:List jB):Prop where
 sl:Sl h 6 lv l.length (cW l)
 Fh:l.length<=9223372036854775807
 each:∀x∈l,L9 x/\x.text.length<=9223372036854775807
structure aaL (h:H)(x:Mi):Prop where
 Rj:C9 h x.lv x.list
 kv:bU x.kv=true
 cookie:i64 x.cookie
 client:x.client.length<=9223372036854775807
structure rz (h:H)(v:V)(l:List Mi):Prop where
 sl:Sl h 10 v l.length (Rx l)
 Fh:l.length<=9223372036854775807
 each:∀x∈l,aaL h x
theorem C9.mono {h h':H}{lv:V}{l:List jB}{F:List Lb}(L:C9 h lv l)(m:Mod h h' F)(hF:∀q,q∈af lv->q∉F:=by simp):C9 h' lv l:=⟨L.sl.mono m hF,L.Fh,L.each⟩
theorem aaL.mono {h h':H}{x:Mi}{F:List Lb}(D:aaL h x)(m:Mod h h' F)(hF:∀q,q∈af x.lv->q∉F:=by simp):aaL h' x:=⟨D.Rj.mono m hF,D.kv,D.cookie,D.client⟩
theorem Im (a:Int):0<=bR .u64 a/\bR .u64 a<=18446744073709551615:=by
 rw [eJ];simp [IntKind.wrap,IntKind.bits,IntKind.signed];omega
theorem aeq {x:Mi}(h1:bU x.lv=true)(h2:bU x.kv=true):bd [.int .i64 x.op,.int .i64 x.kind,.str x.client,.int .i64 x.from_,.int .i64 x.cookie,.int .i64 x.last,.int .i64 x.top,x.lv,x.kv,.int .i64 x.Il]=true:=by
 show (true&&(true&&(true&&(true&&(true&&(true&&(true&&(bU x.lv&&(bU x.kv&&(true&&true))))))))))=true
 rw [h1,h2];rfl
set_option maxHeartbeats 4000000 in
theorem y5 {h:H}{v:V}{l:List Mi}(hw:Wf h)(D:rz h v l){Q:V->H->Prop} (bq:∀h',Mod h h' []->Wf h'->Q (.bool false) h') (bw:∀h',l.length<=40->(∀x∈l,x.list.length<=120)->Mod h h' []->Wf h'->Q (.bool true) h'):CW pf G0 nB [v] h Q:=by
 have hs:=D.sl;have yL:=D.Fh;refine yr.enter (by kernel_rfl) ?_;cbv;refine .of hs λn eT hn=>?_;cbv;refine .gt (λIq=>?_) λhle=>?_
 ·cbv;exact bq h (Mod.refl _ _) hw
 cbv;refine .of hs λn2 IW YL=>?_;cbv;refine .inv [p3,p4,p12,p13,p14] (λm' aC h'=>∃(a b i:Int),aC=[.int .i64 a,.int .i64 b,v,.int .i64 n2,.int .i64 i]/\0<=a/\a<=120/\0<=b/\b<=65536/\0<=i/\i.toNat<=l.length/\m'=l.length - i.toNat/\(∀(j:Nat) x,j<i.toNat->l[j]? =some x->x.list.length<=120)/\Mod h h' []/\Wf h') [_,_,_,_,_] rfl _
  ⟨0,0,0,rfl,by omega,by omega,by omega,by omega,by omega,by simp,rfl,λj x hj=>by simp at hj,Mod.refl _ _,hw⟩ ?_
 rintro m' _ h1 ⟨a,b,i,rfl,ha0,ha,fC,hb,jG,Nv,dY,AP,ar,aM⟩;cbv;refine .lt (λbA=>?_) λjb=>?_;rotate_left
 ·cbv;exact bw h1 (by omega) (λx hx=>by
   obtain ⟨j,hj⟩:=List.mem_iff_getElem?.1 hx;have:=(List.getElem?_eq_some_iff.1 hj).1;exact AP j x (by omega) hj) ar aM
 obtain ⟨x,hx⟩:∃x,l[i.toNat]? =some x:=⟨_,List.getElem?_eq_getElem (by omega)⟩;have bG:=QW _ _ _ hx;have hX:=(D.each x (List.mem_of_getElem? hx)).mono ar;have gC:=aeq hX.Rj.sl.flat hX.kv;obtain ⟨op,kind,client,from_,cookie,last,top,lv,list,kv,Il⟩:=x;have mD:=hX.Rj.sl;have ap6:=hX.Rj.Fh;have sL:=hX.client;have hea:=hX.Rj.each;dsimp only at bG gC mD ap6 sL hea;cbv;refine .of (hs.mono ar) jG rfl (by omega) bG λsl off iR=>?_;cbv;refine .ka iR rfl ?_;cbv;refine .of aM λlx h2 Fi I9 aq aN=>?_;cbv;refine .of (cs:=[.int .i64 op,.int .i64 kind,.str client,.int .i64 from_,.int .i64 cookie,.int .i64 last,.int .i64 top,lv,kv,.int .i64 Il]) aN Fi rfl rfl rfl rfl gC rfl λh3 Uv aF aR=>?_;have fU:Mod h1 h3 []:=aq.fr aF λq aU=>.inl (by rw [List.mem_singleton] at aU;rw [aU];exact I9);have aJ:Mod h h3 []:=(ar.trans fU).mono λq _ _ aU=>by simp at aU
 have aer:=mD.mono fU;have fx:h.get lx=none:=ai ar (by simp) I9;cbv;refine .of Uv rfl ?_;cbv;refine .of aer λk Ir hk=>?_;cbv;refine .of λy hy=>?_;cbv;refine .add (by omega) (by omega) λa2 ha2=>?_;cbv;refine .inv [p3,p4,p6,p7,p12,p13,p14] (λm' aC h'=>∃(b2 j:Int),aC=[.int .i64 a2,.int .i64 b2,.ptr lx 0,.int .i64 j,v,.int .i64 n2,.int .i64 i]/\0<=b2/\b2<=65536+262144*j/\0<=j/\j.toNat<=list.length/\(j=0\/a2<=120)/\m'=list.length - j.toNat/\Mod h3 h' []/\Wf h') [_,_,_,_,_,_,_] rfl _
  ⟨b,0,rfl,by omega,by omega,by omega,by simp,.inl rfl,rfl,Mod.refl _ _,aR⟩ ?_
 rintro m2 _ h4 ⟨b2,j,rfl,akG,cR,Uy,hjl,hja,YO,aD,aQ⟩;have hx4:=aD.get Uv;have ap8:=aer.mono aD;cbv;refine .of hx4 rfl ?_;cbv;refine .of ap8 λk2 af9 Fc=>?_;have fin:∀{h5:H},Mod h3 h5 []->Wf h5->(j.toNat=list.length\/120<a2)->h5.get lx=some (.cells [.int .i64 op,.int .i64 kind,.str client,.int .i64 from_,.int .i64 cookie,.int .i64 last,.int .i64 top,lv,kv,.int .i64 Il] 43 0 .yes)->a2<=120->list.length<=120:=λ_ _ _ _ h=>by omega
 cbv;refine .lt (λzM=>?_) λUT=>?_
 ·cbv;refine .le (λawT=>?_) λawE=>?_
  ·obtain ⟨z,hz⟩:∃z,list[j.toNat]? =some z:=⟨_,List.getElem?_eq_getElem (by omega)⟩
   have hrz:=ea _ _ _ hz;obtain ⟨⟨z1,z2,z3,_⟩,z4⟩:=hea z (List.mem_of_getElem? hz);obtain ⟨zc,zi,zk,zs,zn,zt⟩:=z;dsimp only at hrz z1 z2 z3 z4;cbv;refine .of hx4 rfl ?_;cbv;refine .of ap8 Uy rfl (by omega) hrz λYJ Fk Wo=>?_;cbv;refine .ka Wo rfl ?_;cbv;refine .of aQ λlz h5 hlz NB aY bH=>?_;cbv;refine .of (cs:=[.str zc,.int .i64 zi,.int .i64 zk,.str zs,.str zn,.str zt]) bH hlz rfl rfl rfl rfl rfl rfl λh6 hz6 bP cy=>?_;have awU:Mod h4 h6 []:=aY.fr bP λq aU=>.inl (by rw [List.mem_singleton] at aU;rw [aU];exact NB);cbv;refine .of hz6 rfl ?_;cbv;refine .of λc1 ap9 U'=>?_;cbv;refine .of λe1 he1=>?_;cbv;refine .of hz6 rfl ?_;cbv;refine .of λc2 at0 E5=>?_;cbv;refine .of λe2 ur=>?_;cbv;refine .add (by omega) (by omega) λs1 AN=>?_;cbv;refine .of hz6 rfl ?_;cbv;refine .of λc3 aEA X3=>?_;cbv;refine .of λe3 CS=>?_;cbv;refine .add (by omega) (by omega) λs2 yZ=>?_;cbv;refine .of hz6 rfl ?_;cbv;refine .of λc4 aEB hc4=>?_;cbv;refine .of λe4 vL=>?_;cbv;refine .add (by omega) (by omega) λs3 hs3=>?_;cbv;refine .add (by omega) (by omega) λs4 Oh=>?_;cbv;refine .add (by omega) (by omega) λj2 Ji=>?_;cbv;exact ⟨rfl,list.length - j2.toNat,by omega,s4,j2,rfl,by omega,by omega,by omega,by omega,.inr awT,rfl,(aD.trans awU).mono λq _ _ aU=>by simp at aU,cy⟩
  ·cbv;refine .of hx4 rfl ?_
   cbv;refine .of λc1 ap9 U'=>?_;cbv;refine .of λe1 he1=>?_;cbv;refine .add (by omega) (by omega) λs1 AN=>?_;cbv;refine .Zm (by omega) ?_;cbv;exact bq h4 ((aJ.trans aD).mono λq _ _ aU=>by simp at aU) aQ
 ·cbv;refine .of hx4 rfl ?_
  cbv;refine .of λc1 ap9 U'=>?_;cbv;refine .of λe1 he1=>?_;cbv;refine .add (by omega) (by omega) λs1 AN=>?_;have ay:Mod h h4 []:=(aJ.trans aD).mono λq _ _ aU=>by simp at aU
  cbv;refine .gt (λMf=>?_) λMf=>?_
  ·cbv;exact bq h4 ay aQ
  ·cbv;refine .gt (λPX=>?_) λPX=>?_
   ·cbv;exact bq h4 ay aQ
   ·cbv;refine .add (by omega) (by omega) λi2 DI=>?_
    cbv;exact ⟨rfl,l.length - i2.toNat,by omega,a2,s1,i2,rfl,by omega,by omega,by omega,by omega,by omega,by omega,rfl,λj' x' hj' Df=>by
     rcases Nat.lt_or_ge j' i.toNat with g | g
     ·exact AP j' x' g Df
     ·have:j'=i.toNat:=by omega
      rw [this,hx] at Df;cases Df;dsimp only;omega,ay,aQ⟩
theorem aaM:bM pf G0 wz (vu 37 6 80):=⟨_,Go.Proofs.Tryz.func36,by kernel_rfl⟩
theorem Dd {h:H}{kind from_ cookie last top:Int}{client:List Nat}{lv:V}{l:List jB}(hw:Wf h)(hs:Sl h 6 lv l.length (cW l))(hl:l.length<=100000){Q:V->H->Prop}
  (hq:∀v' h',aE h' 37 6 v' l.length (cW l)->Fr h v'->Mod h h' []->Wf h'->Q (sc kind client from_ cookie last top v') h'):CW pf G0 qt [sc kind client from_ cookie last top lv] h Q:=by
 have OZ:=hs.flat;refine Cp.enter (by kernel_rfl) ?_;cbv;refine .agg ?_;cbv;refine .of hw λlm h1 sM CR ar aM=>?_;cbv;refine .of aM λlr h2 E7 dt aq aN=>?_;have GL:=aq.get sM;have nmr:lm≠lr:=λe=>by rw [e] at sM;rw [sM] at dt;cases dt
 cbv;refine .of GL rfl ?_;cbv;refine mH aaM aN ((hs.mono ar).mono aq) (uv _) (by omega) (by decide) λv' h3 fT lL=>?_;have hf':=fT.sl.flat;have UM:=lL.get GL;have alm:=lL.get E7;cbv;refine .one (vs':=[.int .i64 kind,.str client,.int .i64 from_,.int .i64 cookie,.int .i64 last,.int .i64 top,v']) lL.wf UM hf' rfl rfl rfl λh4 sT aD aQ=>?_;have LO:=aD.get alm (by simpa using Ne.symm nmr);cbv;refine .all sT rfl ?_;cbv;refine .of (cs:=[.int .i64 kind,.str client,.int .i64 from_,.int .i64 cookie,.int .i64 last,.int .i64 top,v']) aQ LO rfl rfl rfl rfl (by show (true&&(true&&(true&&(true&&(true&&(true&&(bU v'&&true)))))))=true;rw [hf'];rfl) rfl λh5 Fo aY bH=>?_;cbv;refine .all Fo rfl ?_;have m02:Mod h h2 []:=(ar.trans aq).mono λq _ _ aU=>by simp at aU
 have frr:=ai ar (by simp) dt;have nm:lm∉af v':=λhm=>by have:=lL.fr lm hm;rw [GL] at this;cases this
 have nr:lr∉af v':=λhm=>by have:=lL.fr lr hm;rw [E7] at this;cases this
 cbv;refine hq v' h5 ((fT.mono aD (fk nm)).mono aY (fk nr)) (λq aU=>ai m02 (by simp) (lL.fr q aU)) ?_ bH;refine ((m02.trans lL.mod).fr (aD.trans aY) λq aU=>?_).mono λq _ _ aU=>by simp at aU
 simp at aU;rcases aU with e | e
 ·rw [e];exact .inl CR
 ·rw [e];exact .inl frr
end K
namespace K
open Go Go.Dx Go.RowKit Go.Proofs
set_option maxRecDepth 100000
theorem aln {h:H}{lp:Lb}{z:Zs}{n m:Nat}{kind from_ cookie last top:Int}{client:List Nat}{lv:V}{l:List jB}(hw:Wf h)(he:HE h)(Z:E6 h lp z n m)(hn:n<=9000000)(eU:m<=900)(hf:z.r.log.length<=900)(hs:Sl h 6 lv l.length (cW l))(nlv:∀q,q∈af lv->q∉z.own lp) (hz:∀x∈l,L9 x) (hl:l.length<=1000000) (sL:client.length<=9223372036854775807) (uj:i64 cookie) {Q:V->H->Prop}
  (hq:∀v h' z',ZS h h' lp z z' (n+9) (m+8)->z'.r.log.length<=z.r.log.length+8->Q v h'):
  CW pf G0 dD [.ptr lp 0,sc kind client from_ cookie last top lv] h Q:=by
 have same:∀{h'},Mod h h' []->Wf h'->ZS h h' lp z z (n+9) (m+8):=λhm cG=>(ZS.refl (Z.le (by omega) (by omega)) hw).beside hm cG;refine CZ hw he Z hn eU hf hs nlv hz hl sL uj (λh' _ hm cG=>?_) (λh' x _ _ _ _ hm cG=>?_) (λh' z' e _ _ _ _ T hlen _=>?_) λh' z1 z' _ _ _ _ T hlen _ _ hr _ _ tp _ _=>?_
 ·exact hq _ h' z (same hm cG) (by omega)
 ·exact hq _ h' z (same hm cG) (by omega)
 ·exact hq _ h' z' T hlen
 ·exact hq _ h' z' (T.le (by omega) (Nat.le_refl _)) (by rw [hr];exact hlen)
theorem alo {h:H}{lp:Lb}{z:Zs}{n m:Nat}{kind from_ cookie last top:Int}{client:List Nat}{lv:V}{l:List jB}(hw:Wf h)(Z:E6 h lp z n m)(hn:n<=100000000)(hs:Sl h 6 lv l.length (cW l))(hz:∀x∈l,L9 x) (hl:l.length<=1000000) (sL:client.length<=9223372036854775807) (uj:i64 cookie) {Q:V->H->Prop}
  (hq:∀v h' z',ZS h h' lp z z' n m->z'.r=z.r->Q v h'):CW pf G0 dE [.ptr lp 0,sc kind client from_ cookie last top lv] h Q:=by
 have same:∀{h'},Mod h h' []->Wf h'->ZS h h' lp z z n m:=λhm cG=>(ZS.refl Z hw).beside hm cG;refine Jf hw Z hn hs hz hl sL uj (λh' _ hm cG=>hq _ h' z (same hm cG) rfl) (λh' _ _ _ hm cG=>hq _ h' z (same hm cG) rfl) λh' z' pv p E8 tp _ _ _ _ T hr _ _ _ _ _ _ _=>hq _ h' z' T hr
theorem Dc {h:H}{lp:Lb}{z:Zs}{v:V}{l:List Mi}(hw:Wf h)(he:HE h)(Z:E6 h lp z 0 0)(I0:z.r.log=[])(D:rz h v l)(hv:∀q,q∈af v->q∉z.own lp) (hvl:∀x∈l,∀q,q∈af x.lv->q∉z.own lp) (h40:l.length<=40) (HO:∀x∈l,x.list.length<=120) {Q:V->H->Prop}
  (hq:∀h' z',ZS h h' lp z z' 4000000 320->z'.r.log.length<=320->Q (.tuple []) h'):CW pf G0 oP [.ptr lp 0,v] h Q:=by
 have hs:=D.sl;refine Am.enter (by kernel_rfl) ?_;cbv;refine .of hs λn eT hn=>?_;cbv;refine .inv [p0,p6,p7,p8] (λm' aC h'=>∃(i:Int) (z':Zs),aC=[.ptr lp 0,v,.int .i64 n,.int .i64 i]/\0<=i/\i.toNat<=l.length/\m'=l.length - i.toNat/\ZS h h' lp z z' (i.toNat*90000) (i.toNat*8)/\z'.r.log.length<=i.toNat*8) [_,_,_,_] rfl _
  ⟨0,z,rfl,by omega,by simp,rfl,ZS.refl Z hw,by rw [I0];simp⟩ ?_
 rintro m' _ h1 ⟨i,z1,rfl,jG,Nv,dY,T,hlen⟩;have aM:=T.wf;cbv;refine .lt (λbA=>?_) λjb=>?_;rotate_left
 ·cbv;exact hq h1 z1 (T.le (by omega) (by omega)) (by omega)
 obtain ⟨x,hx⟩:∃x,l[i.toNat]? =some x:=⟨_,List.getElem?_eq_getElem (by omega)⟩;have Qr:=List.mem_of_getElem? hx;have bG:=QW _ _ _ hx;have hX:=(D.each x Qr).mono T.mod (hvl x Qr);have gC:=aeq hX.Rj.sl.flat hX.kv;have Ip:=HO x Qr;obtain ⟨op,kind,client,from_,cookie,last,top,lv,list,kv,Il⟩:=x;have mD:=hX.Rj.sl;have sL:=hX.client;have uj:=hX.cookie;have hea:∀y∈list,L9 y:=λy hy=>(hX.Rj.each y hy).1;dsimp only at bG gC mD sL uj Ip;cbv;refine .of (hs.mono T.mod hv) jG rfl (by omega) bG λsl off iR=>?_;cbv;refine .ka iR rfl ?_;cbv;refine .of aM λlx h2 Fi I9 aq aN=>?_;cbv;refine .of (cs:=[.int .i64 op,.int .i64 kind,.str client,.int .i64 from_,.int .i64 cookie,.int .i64 last,.int .i64 top,lv,kv,.int .i64 Il]) aN Fi rfl rfl rfl rfl gC rfl λh3 Uv aF aR=>?_;have fU:Mod h1 h3 []:=aq.fr aF λq aU=>.inl (by rw [List.mem_singleton] at aU;rw [aU];exact I9);have Z3:=T.at'.mono fU;have T3:ZS h h3 lp z z1 (i.toNat*90000) (i.toNat*8):=T.trans ((ZS.refl T.at' aM).beside fU aR);have aer:=mD.mono fU;have CS:=he.mono T3.mod;cbv;refine .of Uv rfl ?_;cbv;refine .any λu hu=>?_;have hur:=Im op;rw [<-hu] at hur;obtain ⟨hu0,hu1⟩:=hur;cbv;refine .rem (by omega) (by omega) λr hr=>?_;cbv;refine .i64 (by omega) (by omega) ?_;have next:∀{h4:H} {z4:Zs} {j:Int},ZS h3 h4 lp z1 z4 (i.toNat*90000+90000) (i.toNat*8+8)->z4.r.log.length<=z1.r.log.length+8->j=i+1->acS (λm' aC h'=>∃(i:Int) (z':Zs),aC=[.ptr lp 0,v,.int .i64 n,.int .i64 i]/\0<=i/\i.toNat<=l.length/\m'=l.length - i.toNat/\ZS h h' lp z z' (i.toNat*90000) (i.toNat*8)/\z'.r.log.length<=i.toNat*8) m' [.ptr lp 0,v,.int .i64 n,.int .i64 j] h4 [] []:=λ{h4 z4 j} U vy hj=>by
  have Ny:j.toNat=i.toNat+1:=by omega
  refine ⟨rfl,l.length - j.toNat,by omega,j,z4,rfl,by omega,by omega,rfl,?_,by omega⟩;rw [Ny];exact (T3.trans U).le (by omega) (by omega)
 have own:∀{h4:H} {v':V},Fr h3 v'->Mod h3 h4 []->∀q,q∈af v'->q∉z1.own lp:=λhf _ q aU hm=>Z3.live hm (hf q aU);cbv;refine .eq (λe3=>?_) λe3=>?_
 ·cbv;refine .of Uv rfl ?_
  cbv;refine Dd aR aer (by omega) λv' h4 jv X2 aD aQ=>?_;cbv;refine alo aQ (Z3.mono aD) (by omega) jv.sl hea (by omega) sL uj λ_ h5 z5 U hr=>?_;cbv;refine .add (by omega) (by omega) λj hj=>?_;cbv;exact next ((((ZS.refl Z3 aR).beside aD aQ).trans U).le (by omega) (by omega)) (by rw [hr];omega) hj
 cbv;refine .eq (λe4=>?_) λe4=>?_
 ·cbv;refine Ue aR Z3 (by omega) (by omega) λh4 z4 e U hr=>?_
  cbv;refine .add (by omega) (by omega) λj hj=>?_;cbv;exact next (U.le (by omega) (by omega)) (by rw [hr];omega) hj
 ·cbv;refine .of Uv rfl ?_
  cbv;refine Dd aR aer (by omega) λv' h4 jv X2 aD aQ=>?_;cbv;refine aln aQ (CS.mono aD) (Z3.mono aD) (by omega) (by omega) (by omega) jv.sl (own X2 aD) hea (by omega) sL uj λ_ h5 z5 U Bg=>?_;cbv;refine .add (by omega) (by omega) λj hj=>?_;cbv;exact next ((((ZS.refl Z3 aR).beside aD aQ).trans U).le (by omega) (by omega)) Bg hj
end K
namespace K
open Go Go.Dx Go.RowKit Go.Proofs
set_option maxRecDepth 100000
theorem _root_.Go.Dx.dN.look {h:H}{pk:PK}{z m k x:V}{ok:Bool}{hi:Nat}{ps:List jH}{K:Prop}(lk:∀K:V->Prop,K x->RJ h pk z ok m k K) (kk:dN h ps K):dN h ((.lookup pk z ok m k,x,hi)::ps) K:=by
 obtain ⟨_,v,h1,h2⟩:=(lk (λv=>v=x) rfl).out;subst h2;exact .cons h1 kk
structure Nw:Prop where
 sS:∀{h:H} {Q:V->H->Prop},Wf h->HE h->(∀h',Mod h h' []->Wf h'->Q (.bool true) h')->CW pf G0 nC [] h Q
 begun:∀{h:H} {Q:V->H->Prop},Wf h->HE h->(∀h' ld lp z,E6 h' lp z 0 0->z.r.log=[]->z.g.ld=ld->(∀q,q∈z.own lp->h.get q=none)->Mod h h' []->Wf h'->Q (.tuple [.ptr ld 0,.ptr lp 0,.bool true]) h')->CW pf G0 nD [.int .i64 16777216] h Q
end K
namespace Go.Dx
open Go Go.RowKit Go.Proofs
def WU:FuncId->List V->H->Option H:=λf args h=>match Nat.beq f 180,args with
 | true,[_,_]=>some h
 | _,_=>none
theorem tS {P:Program}{Q:Exit->Act->List Frame->World->Prop} {a:Act} {cs:List Frame} {w:World} {x y:Code} (h:∀K:Act->List Frame->World->Prop,(∀a cs w,y.wpS P Q a cs w->K a cs w)->x.wpS P (Exit.thenS K Q) a cs w):(Code.seq x y).wpS P Q a cs w:=
 wpS_seq (h _ λ_ _ _ h=>h)
set_option maxRecDepth 20000 in
theorem CI (x y:Value)(w:World):CallsD Tryz.prog 180 #[x,y] .returning w λe u' w'=>∃v,e = .returned v/\u' = .returning/\w'=w:=by
 refine callsD_of_wpS Tryz.func180 rfl λc₀ cs hu=>?_;have adB:recoverD (c₀::cs)=none:=by simp [recoverD,hu]
 have hc:({c₀ with mode:=.returning}:Frame)=c₀:=by rw [<-hu]
 have h1:∀w,(eqGuard BinOp.eql 20 (.tmp 6) (.const .nilIface) .nilIface .nilIface).run Tryz.prog w = .ok () w:=λw=>by kernel_rfl
 have h2:∀w,(Go.binOp .eql 20 .nilIface .nilIface).run Tryz.prog w = .ok (.bool true) w:=λw=>by kernel_rfl
 refine tS λK hK=>?_;refine wpS_region ?_;simp [wpOpsS,List.range_succ,Region.wanted,execOp,resolve,invoke,builtin,adB,Oper.upon,Act.put,Act.eval,Exit.thenS,Tryz.ntmps180];refine hK _ _ _ (tS λK2 hK2=>?_);refine tS λK3 hK3=>?_;refine wpS_region ?_;simp [wpOpsS,List.range_succ,Region.wanted,execOp,Oper.upon,Act.put,Act.eval,Exit.thenS,h1,h2];refine hK3 _ _ _ (wpS_cond (t:=true) ?_ ?_)
 ·simp [Act.eval]
 ·rw [if_pos rfl]
  refine wpS_of_wp (wp_ret ?_);exact ⟨rfl,.returning,by rw [hc],.tuple #[],by kernel_rfl,.tuple #[],rfl,rfl,rfl⟩
theorem aaN {G:Nat}:B5 Tryz.prog G WU:=by
 intro f args h h' hr B w0 ρ w xs R hG hx;unfold WU at hr;split at hr
 ·rename_i a b he
  cases hr;have he:f=180:=Nat.eq_of_beq_eq_true he;subst he;obtain ⟨x,y,rfl,_,_⟩:=hx.two;refine ⟨by kernel_rfl,(CI x y w).mono λe u' w' hh=>?_⟩;obtain ⟨v,h1,h2,rfl⟩:=hh;exact ⟨v,h1,h2,ρ,Step.refl _ _,R⟩
 ·cases hr
end Go.Dx
