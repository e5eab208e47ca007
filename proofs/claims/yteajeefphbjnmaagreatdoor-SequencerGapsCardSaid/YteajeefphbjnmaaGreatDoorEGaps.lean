/-
  The sequencer's laws. Part EGaps of the proof: SequencerGaps: its function.
-/
import Derived.Test.YteajeefphbjnmaaGreatDoorESame
import Derived.Test.YteajeefphbjnmaaGreatDoorZBF
namespace K
open Go Go.Dx Go.RowKit Go.Proofs
set_option maxRecDepth 100000
def arN (log:Nat)(ck e:Int):Prop:=(0<=ck->ck.toNat<=log->e=0)/\(log<ck.toNat->ck<=1099511627776->e=140)
theorem Xs:isName [99,49]:=⟨λc hc=>by simp at hc;unfold mh;omega,by simp,by simp⟩
theorem _root_.Go.Dx.dN.ld {h:H}{rd:Rd}{l:Lb}{off hi:Nat}{x:V}{ps:List jH}{K:Prop}(lk:Uw h rd l off λv=>v=x) (kk:dN h ps K):dN h ((.load rd l off,x,hi)::ps) K:=by
 obtain ⟨v,h1,h2⟩:=lk;subst h2;exact .cons h1 kk
theorem abH {h:H}{lp:Lb}{z:Zs}{ck:Int}(hw:Wf h)(Z:E6 h lp z 4000000 320)(hlen:z.r.log.length<=320)(hc:i64 ck){Q:V->H->Prop}
  (hq:∀h' z' kind client from_ E8 la tp pv e,bU pv=true->arN z.r.log.length ck e->ZS h h' lp z z' 4000000 320->z'.r=z.r->Q (.tuple [sc kind client from_ E8 la tp pv,.int .i64 e]) h'):
  CW pf G0 dE [.ptr lp 0,sc 3 [99,49] 0 ck 0 0 (.nilSlice 0)] h Q:=by
 refine Jf (l:=[]) hw Z (by omega) (.nil 0) (by simp) (by simp) (by decide) hc (λh' bq hm cG=>?_) (λh' _ hwi Iq hm cG=>?_) λh' z' pv p E8 tp _ _ _ hle T hr _ ho _ _ _ _ _=>?_
 ·exact hq h' z 0 [] 0 0 0 0 (.nilSlice 0) 130 rfl ⟨λa b=>(bq ⟨rfl,Xs,⟨a,by omega⟩,rfl,rfl,rfl,rfl⟩).elim,λa b=>(bq ⟨rfl,Xs,⟨by omega,b⟩,rfl,rfl,rfl,rfl⟩).elim⟩ ((ZS.refl Z hw).beside hm cG) rfl
 ·exact hq h' z 0 [] 0 0 0 0 (.nilSlice 0) 140 rfl ⟨λa b=>by omega,λa b=>rfl⟩ ((ZS.refl Z hw).beside hm cG) rfl
 ·exact hq h' z' 4 [] ck E8 _ tp pv 0 ho.sl.flat ⟨λa b=>rfl,λa b=>by omega⟩ T hr
noncomputable def aff:DC:=hZ (hZ (hZ (hZ (hZ (hZ (hZ (hZ gm.code)))))))
theorem UQ (A:Nw){h:H}{lm lp:Lb}{z:Zs}{kind from_ cookie last top tp:Int}{client:List Nat}{lv:V}{ml:List jB}(hw:Wf h)(he:HE h)(Z:E6 h lp z 4000000 320)(hlen:z.r.log.length<=320)
  (sM:h.get lm=some (.cells [.int .i64 kind,.str client,.int .i64 from_,.int .i64 cookie,.int .i64 last,.int .i64 top,lv] dF 0 .yes)) (M:C9 h lv ml) (_nlv:∀q,q∈af lv->q∉z.own lp) (HO:ml.length<=120) (sL:client.length<=9223372036854775807) (uj:i64 cookie) (ht0:0<=tp) (ht:tp.toNat=z.r.log.length) {Q:V->H->Prop} (hq:∀h',Q (.bool true) h'):
  Fm pf G0 110 aff {tmps:=fV [p4,p8,p10] [.ptr lm 0,.ptr lp 0,.int .i64 tp],defers:=[]} h (pW pf G0 [.tmp p6] Q) λ_ _ _=>False:=by
 have hs:=M.sl;have hz:∀x∈ml,L9 x:=λx hx=>(M.each x hx).1;refine .seq (.of ?_);cbv;refine .of follows 12 ?_;cbv;refine .of sM rfl ?_;cbv;refine .ne (λhk=>?_) λhk=>?_;rotate_left
 ·refine .nil (.nil ?_)
  cbv;refine A.sS hw he λh2 _ _=>?_;cbv;exact hq h2
 subst hk;cbv;refine .all sM rfl ?_;cbv;refine y8 (l:=ml) hw hs hz (by omega) sL uj (λh1 afg ar aM=>?_) λh1 pX ar aM=>?_
 ·refine .nil ?_
  cbv;refine .uk (by decide) ?_;refine .nil ?_;cbv;refine A.sS aM (he.mono ar) λh2 _ _=>?_;cbv;exact hq h2
 obtain ⟨P,m1,m2,m3,m4⟩:iS client ml/\from_=0/\cookie=0/\last=0/\top=0:=by
  cases pX with
  | push _ a b c d e=>exact ⟨a,b,c,d,e⟩
  | O4 h=>cases h
  | pull h=>cases h
  | patch h=>cases h
  | afh h=>cases h
 have O5:=ar.get sM;have AN:=hs.mono ar;have Z1:=Z.mono ar;have sl1:=λQ=>RG (c:=client) (Q:=Q) Z1.ub;obtain ⟨x,hx⟩:∃x,ml[0]? =some x:=⟨_,List.getElem?_eq_getElem (List.length_pos_iff.2 P.some)⟩;have Xp:0<ml.length:=List.length_pos_iff.2 P.some;have hid:=(P.each x (List.mem_of_getElem? hx)).2.id;obtain ⟨amN,amO⟩:=(hz x (List.mem_of_getElem? hx)).id;have bG:=ea _ _ _ hx;have Df:=hx;obtain ⟨xc,xi,xk,xs,xn,xt⟩:=x;dsimp only at bG hid amN amO;generalize fS:aW z.r.log client=la at*;refine .nil ?_;cbv;refine .eC rfl ?_;cbv;refine .of O5 rfl ?_;cbv;refine .of AN (by decide) rfl Xp bG λYJ Fk iR=>?_;cbv;refine .gH iR 1 rfl ?_;cbv;refine .sub (by omega) (by omega) λy hy=>?_;cbv;refine .of O5 rfl ?_;cbv;refine sl1 _ ?_;refine .ld (.gH iR 1 rfl rfl) (.load O5 rfl (.nil ?_));cbv;refine .le (λhle=>?_) λIq=>?_
 ·cbv;refine A.sS aM (he.mono ar) λh2 _ _=>?_
  cbv;exact hq h2
 cbv;refine .seq (.of ?_);cbv;refine .all O5 rfl ?_;cbv;refine Dd aM AN (by omega) λv' h2 ke Bo aq aN=>?_;have Z2:=Z1.mono aq;cbv;refine CZ (l:=ml) aN ((he.mono ar).mono aq) Z2 (by omega) (by omega) (by omega) ke.sl (λq aU hm=>Z1.live hm (Bo q aU)) hz (by omega) sL uj (λh' bq _ _=>(bq ⟨rfl,P,m1,m2,m3,m4⟩).elim) (λh3 x _ _ _ _ aF aR=>?_) (λh' z' e _ _ _ hg _ _ _=>?_) λh' z1 z' _ _ _ hg _ _ _ _ _ _ _ _ _ _=>?_
 ·cbv;refine .of aR λlr h4 E7 dt aD aQ=>?_
  cbv;refine .of (cs:=[.int .i64 0,.str [],.int .i64 0,.int .i64 0,.int .i64 0,.int .i64 0,.nilSlice 0]) aQ E7 rfl rfl rfl rfl rfl rfl λh5 Fo aY bH=>?_;have UR:Mod h3 h5 []:=aD.fr aY λq aU=>.inl (by rw [List.mem_singleton] at aU;rw [aU];exact dt);cbv;refine .seq (.of ?_);cbv;refine .mY rfl ?_;cbv;refine .all Fo rfl ?_;cbv;refine I8 (l:=[]) bH (.nil 0) (.nil 0) (by simp) λh6 bP cy=>?_;have Z6:=((Z2.mono aF).mono UR).mono bP;cbv;refine rA Z6.ub.cell Z6.ub.log.sl λtp2 UP h2t=>?_;cbv;refine .mY (by omega) ?_;cbv;refine A.sS cy (((((he.mono ar).mono aq).mono aF).mono UR).mono bP) λh7 _ _=>?_;cbv;refine .of ?_;cbv;exact hq h7
 ·have:=hg _ Df
  dsimp only at this;omega
 ·have:=hg _ Df
  dsimp only at this;omega
theorem abI (A:Nw){h:H}{v:V}{l:List Mi}{kind from_ cookie last top ck:Int}{client:List Nat}{lv:V}{ml:List jB}(hw:Wf h)(he:HE h)(D:rz h v l)(IY:∀q,q∈af v->h.get q≠none) (Bk:∀x∈l,∀q,q∈af x.lv->h.get q≠none)
  (M:C9 h lv ml) (IZ:∀q,q∈af lv->h.get q≠none) (sL:client.length<=9223372036854775807) (uj:i64 cookie) (hc:i64 ck) (Da:l.length*120<=140737488351232) {Q:V->H->Prop}
  (hq:∀h',Q (.bool true) h'):CW pf G0 gn [v,sc kind client from_ cookie last top lv,.int .i64 ck] h Q:=by
 have OZ:=M.sl.flat;have gC:=Fg l λx hx=>⟨(D.each x hx).Rj.sl.flat,(D.each x hx).kv⟩;refine nV.mj (by kernel_rfl) ?_;refine .seq (.of ?_);cbv;refine .agg ?_;cbv;refine .of hw λlm h1 sM CR ar aM=>?_;cbv;refine .seq (.of ?_);cbv;refine .all sM rfl ?_;cbv;refine .agg ?_;cbv;refine .agg ?_;cbv;refine .of aM λla h2 fS Bl aq aN=>?_;have aO:Mod h h2 []:=(ar.trans aq).mono λq _ _ aU=>by simp at aU
 have hoA:aE h2 43 10 (.slice la 0 1 (.exact 1)) 1 (Rx [Ry kind client from_ cookie last top lv ml]):=.exact fS rfl;have D2:Sl h2 10 v l.length (Rx l):=D.sl.mono aO;have aiC:=ai ar (by simp) Bl;cbv;refine .big aN hoA D2.elems D2.len gC (by show _<=562949953421312;omega) (by decide) λv2 h3 fT gr3 aF aR=>?_;have UL:Mod h2 h3 [la]:=aF;have aJ:Mod h h3 []:=aO.fr UL λq aU=>.inl (by rw [List.mem_singleton] at aU;rw [aU];exact aiC);have dj:lm∉[la]:=λhm=>by rw [List.mem_singleton] at hm;rw [hm] at sM;rw [sM] at Bl;cases Bl
 have UM:=UL.get (aq.get sM) dj;have DX:rz h3 v2 (Ry kind client from_ cookie last top lv ml::l):=⟨by
  have e:(Ry kind client from_ cookie last top lv ml::l).length=1+l.length:=by rw [List.length_cons,Nat.add_comm]
  rw [e];exact fT.sl,by rw [List.length_cons];omega,λx hx=>by
  rcases List.mem_cons.1 hx with e | e
  ·subst e;exact ⟨M.mono aJ,rfl,uj,sL⟩
  ·exact (D.each x e).mono aJ⟩
 cbv;refine y5 aR DX (λh4 aD aQ=>?_) λh4 h40 HO aD aQ=>?_
 ·cbv;refine A.sS aQ ((he.mono aJ).mono aD) λh5 _ _=>?_
  cbv;exact hq h5
 have ay:Mod h h4 []:=(aJ.trans aD).mono λq _ _ aU=>by simp at aU
 have vL:=he.mono ay;have sT:=aD.get UM;have ahj:ml.length<=120:=HO (Ry kind client from_ cookie last top lv ml) (List.mem_cons_self ..);rw [List.length_cons] at h40;cbv;refine .seq (.of ?_);cbv;refine A.begun aQ vL λh5 ld lp z Z I0 _ dt aY bH=>?_;have aL:Mod h h5 []:=(ay.trans aY).mono λq _ _ aU=>by simp at aU
 have nz:∀q,h.get q≠none->q∉z.own lp:=λq hl hm=>hl (ai ay (by simp) (dt q hm));have Rk:lm∉z.own lp:=λhm=>by have:=dt lm hm;rw [sT] at this;cases this
 have D5:rz h5 v l:=⟨D.sl.mono aL,D.Fh,λx hx=>(D.each x hx).mono aL⟩;have Db:=aY.get sT;cbv;refine .seq (.of ?_);cbv;refine .seq (.of ?_);cbv;refine Dc bH (he.mono aL) Z I0 D5 (λq aU=>nz q (IY q aU)) (λx hx q aU=>nz q (Bk x hx q aU)) (by omega) (λx hx=>HO x (List.mem_cons_of_mem _ hx)) λh6 z6 T hlen=>?_;have Z6:=T.at';have xq:=(he.mono aL).mono T.mod;have I3:=T.mod.get Db Rk;have ae9:lm∉z6.own lp:=λhm=>(T.own lm hm).elim Rk λe=>by rw [Db] at e;cases e
 have abA:∀q,q∈af lv->q∉z6.own lp:=λq aU hm=>(T.own q hm).elim (nz q (IZ q aU)) λe=>IZ q aU (ai aL (by simp) e);have M6:=(M.mono aL).mono T.mod λq aU=>nz q (IZ q aU);have cy:=T.wf;clear T;cbv;refine .seq (.of ?_);cbv;refine rA Z6.ub.cell Z6.ub.log.sl λtp RH htp=>?_;cbv;refine .seq (.of ?_);cbv;refine .flat rfl ?_;cbv;refine .flat rfl ?_;cbv;refine .flat rfl ?_;cbv;refine abH cy Z6 hlen hc λh7 z7 k7 c7 f7 ck7 la7 tp7 pv e fpv hP T7 Nz=>?_;obtain ⟨hP1,hP2⟩:=hP;cbv;refine .of T7.wf λlx h8 Fi I9 cO ew=>?_;cbv;refine .of (cs:=[.int .i64 k7,.str c7,.int .i64 f7,.int .i64 ck7,.int .i64 la7,.int .i64 tp7,pv]) ew Fi rfl rfl rfl rfl (by show (true&&(true&&(true&&(true&&(true&&(true&&(bU pv&&true)))))))=true;rw [fpv];rfl) rfl λh9 hx9 eU pd=>?_;have RI:Mod h7 h9 []:=cO.fr eU λq aU=>.inl (by rw [List.mem_singleton] at aU;rw [aU];exact I9);have Z9:=T7.at'.mono RI;have amP:z7.r.log.length<=320:=by rw [Nz];exact hlen
 have arO:tp.toNat=z7.r.log.length:=by rw [Nz];exact htp
 have abJ:=RI.get (T7.mod.get I3 ae9);have M9:=(M6.mono T7.mod abA).mono RI;have arP:∀q,q∈af lv->q∉z7.own lp:=λq aU hm=>(T7.own q hm).elim (abA q aU) (M6.sl.live aU);have he9:=(xq.mono T7.mod).mono RI;have fin:=λ{Q:V->H->Prop} (hq:∀h',Q (.bool true) h')=>UQ (Q:=Q) A pd he9 Z9 amP abJ M9 arP ahj sL uj RH arO hq;cbv;refine .seq (.of ?_);cbv;refine .gt (λIq=>?_) λhle=>?_
 ·cbv;refine .le (λhb=>?_) λhb=>?_
  ·cbv;refine .eC (hP2 (by omega) (by omega)) ?_
   cbv;refine .um (by omega) ?_;cbv;refine .aiM (by omega) ?_;cbv;exact .weak [p4,p8,p10] rfl (fin hq)
  ·cbv;refine .um (by omega) ?_
   cbv;refine .aiM (by omega) ?_;cbv;exact .weak [p4,p8,p10] rfl (fin hq)
 ·cbv;refine .ge (λhb=>?_) λhb=>?_
  ·cbv;refine .O6 (by omega) ?_
   cbv;refine .eC (hP1 (by omega) (by omega)) ?_;cbv;exact .weak [p4,p8,p10] rfl (fin hq)
  ·cbv;exact .weak [p4,p8,p10] rfl (fin hq)
end K
