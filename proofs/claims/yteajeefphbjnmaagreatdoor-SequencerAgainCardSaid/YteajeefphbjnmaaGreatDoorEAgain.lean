/-
  The sequencer's laws. Part EAgain of the proof: SequencerAgain: its function.
-/
import Derived.Test.YteajeefphbjnmaaGreatDoorESame
import Derived.Test.YteajeefphbjnmaaGreatDoorZBF
namespace K
open Go Go.Dx Go.RowKit Go.Proofs
set_option maxRecDepth 100000
theorem abv {m:bF}{k:List Nat}{v:V}{c:Nat}(h:cK m k=none):fA (m++[(k,v,c)]) k=m:=by
 induction m with
 | nil=>simp [fA]
 | cons e r ih=>
   obtain ⟨x,w,b⟩:=e;simp only [cK] at h
   by_cases hx:x=k
   ·simp [hx] at h
   ·rw [if_neg hx] at h
    simp only [List.cons_append,fA,if_neg hx,ih h]
theorem Ru (m:bF)(k:List Nat)(n:Int)(c:Nat):jF (m++[(k,.int .i64 n,c)])=jF m+n:=by
 induction m with
 | nil=>simp [jF]
 | cons e r ih=>
   obtain ⟨x,w,b⟩:=e;cases w<;>simp only [List.cons_append,jF,ih]<;>omega
theorem Rv {m:bF}{c c':Nat}{k:List Nat}{x:Option (List Nat)}(h0:cK (fA m k) k=none):jF (jL (jL m c k x) c' k x)=jF (jL m c k x):=by
 cases x with
 | none=>simp only [jL,yY h0]
 | some b=>
   simp only [jL];split
   ·rw [yY h0]
   ·rw [pK h0,abv h0,pK h0,Ru,Ru]
theorem UH {g:Lg}{d d1 d2:dR}(a:nU g d d1)(b:nU g d1 d2):jF d2.held=jF d1.held:=by
 cases b with
 | none _ e=>rw [e]
 | some nm2 yZ axg rq Xn axh IV _=>
   cases a with
   | none h _=>
     obtain ⟨s,hs,_⟩:=yZ;rw [h] at hs;cases hs
   | some nm hs room seen last aH held free=>
     obtain ⟨s,hs,e⟩:=hs;obtain ⟨s2,yZ,e2⟩:=yZ;have:s2=s:=by rw [hs] at yZ;exact (Option.some.inj yZ).symm
     subst this;have enm:nm2=nm:=by rw [e2,e]
     subst enm;have bq:d1.aH.filter (gX nm2)=[]:=by
      rw [aH,List.filter_filter];exact List.filter_eq_nil_iff.2 λa _=>by cases gX nm2 a<;>simp
     rw [bq] at Xn;have Xn:said d2.last=said d1.last:=Xn;obtain ⟨c,hc⟩:=held;obtain ⟨c2,E5⟩:=IV;rw [E5,hc,Xn];exact Rv free
theorem abw (a b:List Nat):du [.str,.str] [.str a,.str b] [.str a,.str b]=some true:=by
 simp [du,gY,ob,jM]
theorem UI {h:H}{a b:V}{l:EL}(ha:Sl h 2 a l.length (dJ l))(hb:Sl h 2 b l.length (dJ l))(hn:l.length<=1000000000){Q:V->H->Prop} (hq:Q (.bool true) h):CW pf G0 mV [a,b] h Q:=by
 refine xp.enter (by kernel_rfl) ?_;cbv;refine .of ha λn eT Bj=>?_;cbv;refine .of hb λn2 IW arv=>?_;cbv;refine .eC (by omega) ?_;cbv;refine .of ha λn3 YI arw=>?_;cbv;refine .inv [p0,p1,p12,p13] (λm' aC h'=>∃(i:Int),aC=[a,b,.int .i64 n3,.int .i64 i]/\0<=i/\i.toNat<=l.length/\m'=l.length - i.toNat/\h'=h) [_,_,_,_] rfl _
  ⟨0,rfl,by omega,by simp,rfl,rfl⟩ ?_
 rintro m' _ h1 ⟨i,rfl,jG,Nv,dY,rfl⟩;cbv;refine .lt (λbA=>?_) λjb=>?_
 ·obtain ⟨x,hx⟩:∃x,l[i.toNat]? =some x:=⟨_,List.getElem?_eq_getElem (by omega)⟩
  have bG:=IX hx;obtain ⟨xa,xb⟩:=x;dsimp only at bG;cbv;refine .of follows 9 ?_;cbv;refine .of ha jG rfl (by omega) bG λYJ off iR=>?_;cbv;refine .ka iR rfl ?_;cbv;refine .of hb jG rfl (by omega) bG λsl3 UJ aby=>?_;cbv;refine .ka aby rfl ?_;cbv;refine .same (abw _ _) ?_;cbv;refine .add (by omega) (by omega) λj hj=>?_;cbv;exact ⟨rfl,l.length - j.toNat,by omega,j,rfl,by omega,by omega,rfl,rfl⟩
 ·cbv;exact hq
theorem UK {h:H}{lp:Lb}{z:Zs}{n m:Nat}{kind from_ cookie last top:Int}{client:List Nat}{lv:V}{l:List jB}(hw:Wf h)(he:HE h)(Z:E6 h lp z n m)(hn:n<=9000000)(eU:m<=900)(hf:z.r.log.length<=900)(hs:Sl h 6 lv l.length (cW l))(nlv:∀q,q∈af lv->q∉z.own lp) (hz:∀x∈l,L9 x) (hl:l.length<=1000000) (sL:client.length<=9223372036854775807) (uj:i64 cookie) {Q:V->H->Prop}
  (ae8:∀h' e,e≠0->Wf h'->HE h'->Q (.tuple [OY,.int .i64 e]) h')
  (bw:∀h' (z1 z':Zs),kind=1/\iS client l/\from_=0/\cookie=0/\last=0/\top=0->ZS h h' lp z z' (n+8) (m+8)->z1.r.log.length<=z.r.log.length+8->(∀x∈l,x.id<=aW z1.r.log client)->z'.r=z1.r->z'.g=z1.g->nU z1.g z1.d z'.d->∀tp:Int,0<=tp->tp.toNat=z1.r.log.length->Q (.tuple [sc 2 [] 0 0 (aW z1.r.log client) tp (.nilSlice 0),.int .i64 0]) h'):
  CW pf G0 dD [.ptr lp 0,sc kind client from_ cookie last top lv] h Q:=
 by
 refine CZ hw he Z hn eU hf hs nlv hz hl sL uj (λh' _ hm cG=>?_) (λh' _ _ _ _ _ hm cG=>?_) (λh' z' e dj _ _ _ T _ _=>?_) λh' z1 z' a b c _ T h1 h2 _ h4 h5 h6 tp t0 t1=>?_
 ·exact ae8 h' 130 (by decide) cG (he.mono hm)
 ·exact ae8 h' 140 (by decide) cG (he.mono hm)
 ·exact ae8 h' e dj T.wf (he.mono T.mod)
 ·exact bw h' z1 z' ⟨a,b,c⟩ T h1 h2 h4 h5 h6 tp t0 t1
theorem YK (A:Nw){h:H}{v:V}{l:List Mi}{kind from_ cookie last top:Int}{client:List Nat}{lv:V}{ml:List jB}(hw:Wf h)(he:HE h)(D:rz h v l)(IY:∀q,q∈af v->h.get q≠none) (Bk:∀x∈l,∀q,q∈af x.lv->h.get q≠none)
  (M:C9 h lv ml) (IZ:∀q,q∈af lv->h.get q≠none) (sL:client.length<=9223372036854775807) (uj:i64 cookie) (Da:l.length*120<=140737488351232) {Q:V->H->Prop}
  (hq:∀h',Q (.bool true) h'):CW pf G0 fN [v,sc kind client from_ cookie last top lv] h Q:=by
 have OZ:=M.sl.flat;have gC:=Fg l λx hx=>⟨(D.each x hx).Rj.sl.flat,(D.each x hx).kv⟩;have hz:∀x∈ml,L9 x:=λx hx=>(M.each x hx).1;refine mW.enter (by kernel_rfl) ?_;cbv;refine .agg ?_;cbv;refine .of hw λlm h1 sM CR ar aM=>?_;cbv;refine .all sM rfl ?_;cbv;refine .agg ?_;cbv;refine .agg ?_;cbv;refine .of aM λla h2 fS Bl aq aN=>?_;have aO:Mod h h2 []:=(ar.trans aq).mono λq _ _ aU=>by simp at aU
 have hoA:aE h2 43 10 (.slice la 0 1 (.exact 1)) 1 (Rx [Ry kind client from_ cookie last top lv ml]):=.exact fS rfl;have D2:Sl h2 10 v l.length (Rx l):=D.sl.mono aO;have aiC:=ai ar (by simp) Bl;cbv;refine .big aN hoA D2.elems D2.len gC (by show _<=562949953421312;omega) (by decide) λv2 h3 fT gr3 aF aR=>?_;have UL:Mod h2 h3 [la]:=aF;have aJ:Mod h h3 []:=aO.fr UL λq aU=>.inl (by rw [List.mem_singleton] at aU;rw [aU];exact aiC);have dj:lm∉[la]:=λhm=>by rw [List.mem_singleton] at hm;rw [hm] at sM;rw [sM] at Bl;cases Bl
 have UM:=UL.get (aq.get sM) dj;have DX:rz h3 v2 (Ry kind client from_ cookie last top lv ml::l):=⟨by
  have e:(Ry kind client from_ cookie last top lv ml::l).length=1+l.length:=by rw [List.length_cons,Nat.add_comm]
  rw [e];exact fT.sl,by rw [List.length_cons];omega,λx hx=>by
  rcases List.mem_cons.1 hx with e | e
  ·subst e;exact ⟨M.mono aJ,rfl,uj,sL⟩
  ·exact (D.each x e).mono aJ⟩
 cbv;refine y5 aR DX (λh4 aD aQ=>?_) λh4 h40 HO aD aQ=>?_
 ·cbv;refine A.sS aQ ((he.mono aJ).mono aD) λh5 _ _=>?_
  cbv;exact hq h5
 have ay:Mod h h4 []:=(aJ.trans aD).mono λq _ _ aU=>by simp at aU
 have vL:=he.mono ay;have sT:=aD.get UM;have ahj:ml.length<=120:=HO (Ry kind client from_ cookie last top lv ml) (List.mem_cons_self ..);rw [List.length_cons] at h40;cbv;refine A.begun aQ vL λh5 ld lp z Z I0 AK dt aY bH=>?_;have aL:Mod h h5 []:=(ay.trans aY).mono λq _ _ aU=>by simp at aU
 have nz:∀q,h.get q≠none->q∉z.own lp:=λq hl hm=>hl (ai ay (by simp) (dt q hm));have Rk:lm∉z.own lp:=λhm=>by have:=dt lm hm;rw [sT] at this;cases this
 have D5:rz h5 v l:=⟨D.sl.mono aL,D.Fh,λx hx=>(D.each x hx).mono aL⟩;have Db:=aY.get sT;cbv;refine Dc bH (he.mono aL) Z I0 D5 (λq aU=>nz q (IY q aU)) (λx hx q aU=>nz q (Bk x hx q aU)) (by omega) (λx hx=>HO x (List.mem_cons_of_mem _ hx)) λh6 z6 T hlen=>?_;have Z6:=T.at';have xq:=(he.mono aL).mono T.mod;have I3:=T.mod.get Db Rk;have ae9:lm∉z6.own lp:=λhm=>(T.own lm hm).elim Rk λe=>by rw [Db] at e;cases e
 have abA:∀q,q∈af lv->q∉z6.own lp:=λq aU hm=>(T.own q hm).elim (nz q (IZ q aU)) λe=>IZ q aU (ai aL (by simp) e);have M6:=(M.mono aL).mono T.mod λq aU=>nz q (IZ q aU);have cy:=T.wf;have arx:z6.g.ld=ld:=T.ld.trans AK;clear T;cbv;refine .all I3 rfl ?_;cbv;refine Dd cy M6.sl (by omega) λv7 h7 Ma hf7 cH eu=>?_;have Z7:=Z6.mono cH;cbv;refine UK (l:=ml) eu (xq.mono cH) Z7 (by omega) (by omega) (by omega) Ma.sl (λq aU hm=>Z6.live hm (hf7 q aU)) hz (by omega) sL uj (λh8 e dj ew Mb=>?_) λh8 z1 z8 ok T8 I5 cf hr8 O0 so8 tp tp0 htp=>?_
 ·cbv;refine .of ew λlr h9 E7 ary eU pd=>?_
  cbv;refine .of (cs:=[.int .i64 0,.str [],.int .i64 0,.int .i64 0,.int .i64 0,.int .i64 0,.nilSlice 0]) pd E7 rfl rfl rfl rfl rfl rfl λvM amA gZ sU=>?_;have cO:Mod h8 vM []:=eU.fr gZ λq aU=>.inl (by rw [List.mem_singleton] at aU;rw [aU];exact ary);cbv;refine .uk dj ?_;cbv;refine .all amA rfl ?_;cbv;refine I8 (l:=[]) sU (.nil 0) (.nil 0) (by simp) λUN pg De=>?_;cbv;refine A.sS De ((Mb.mono cO).mono pg) λIp _ _=>?_;cbv;exact hq Ip
 have ew:=T8.wf;have Mb:=(xq.mono cH).mono T8.mod;have ae':=T8.mod.get (cH.get I3) ae9;have arz:lm∉z8.own lp:=λhm=>(T8.own lm hm).elim ae9 λe=>by rw [cH.get I3] at e;cases e
 have arA:∀q,q∈af lv->q∉z8.own lp:=λq aU hm=>(T8.own q hm).elim (abA q aU) ((M6.mono cH).sl.live aU);have M8:=(M6.mono cH).mono T8.mod abA;have amB:z8.g.ld=ld:=T8.ld.trans arx;have Z8:=T8.at';clear T8;rw [<-O0] at so8;rw [<-hr8] at I5 cf htp;rw [<-hr8];clear hr8 O0;generalize afa:aW z8.r.log client=la1 at*;cbv;refine .of ew λlx h9 Fi I9 eU pd=>?_;cbv;refine .of (cs:=[.int .i64 2,.str [],.int .i64 0,.int .i64 0,.int .i64 la1,.int .i64 tp,.nilSlice 0]) pd Fi rfl rfl rfl rfl rfl rfl λvM Rz gZ sU=>?_;have ahk:Mod h8 vM []:=eU.fr gZ λq aU=>.inl (by rw [List.mem_singleton] at aU;rw [aU];exact I9);have Z10:=Z8.mono ahk;have Xo:=Z10.sto.iE;rw [amB] at Xo;have nlx:lx∉z8.own lp:=λhm=>Z8.live hm I9;cbv;refine .eC rfl ?_;cbv;refine y7 sU Xo λUN n1 Fj pg De=>?_;have Z11:=Z10.mono pg;have azB:=Z11.ub.stl;cbv;refine rA Z11.ub.cell Z11.ub.log.sl λt1 azC ht1=>?_;cbv;refine Nx De Z11.ub.cell Z11.ub.st.sl (Bn _) (by omega) λsv1 Ip e1 arB RA=>?_;have RB:Mod h8 Ip []:=((ahk.trans pg).trans RA.mod).mono λq _ _ aU=>by simp at aU
 have aiD:Mod vM Ip []:=(pg.trans RA.mod).mono λq _ _ aU=>by simp at aU
 have O1:=RA.wf;have Z12:=Z8.mono RB;have ahl:=RB.get ae';have M12:=M8.mono RB;have arC:=aiD.get Rz;cbv;refine .all ahl rfl ?_;cbv;refine Dd O1 M12.sl (by omega) λv13 h13 aiE arD fU abB=>?_;have Z13:=Z12.mono fU;have nsv:∀q,q∈af sv1->q∉z8.own lp:=λq aU hm=>Z11.live hm (RA.fr q aU);cbv;refine CZ (l:=ml) abB ((Mb.mono RB).mono fU) Z13 (by omega) (by omega) (by omega) aiE.sl (λq aU hm=>Z12.live hm (arD q aU)) hz (by omega) sL uj (λh' bq _ _=>(bq ok).elim) (λh' x _ _ hx Iq _ _=>?_) (λh' z' e _ _ _ _ _ _ bq=>(bq (by rw [afa];exact cf)).elim) λh14 z2 z14 _ _ _ _ T14 _ _ amE aiF azH arE tp2 azI azJ=>?_
 ·have:=cf x (List.mem_of_getElem? hx)
  omega
 have pV:=amE (by rw [afa];exact cf);subst pV;rw [afa];have aiG:=T14.wf;have amG:=T14.mod.get (fU.get ahl) arz;have arF:=T14.mod.get (fU.get arC) nlx;have M14:=(M12.mono fU).mono T14.mod arA;have arG:Sl h14 2 sv1 z2.r.st.length (dJ z2.r.st):=(arB.sl.mono fU).mono T14.mod nsv;have arH:=((Mb.mono RB).mono fU).mono T14.mod;have amH:=UH so8 arE;have amI:z14.g.ld=ld:=T14.ld.trans amB;have Z14:=T14.at';clear T14;obtain rfl:tp2=tp:=by omega
 cbv;refine .of aiG λly h15 hly hfy Ja abC=>?_;cbv;refine .of (cs:=[.int .i64 2,.str [],.int .i64 0,.int .i64 0,.int .i64 la1,.int .i64 tp2,.nilSlice 0]) abC hly rfl rfl rfl rfl rfl rfl λh16 arK Jb aiH=>?_;have O2:Mod h14 h16 []:=Ja.fr Jb λq aU=>.inl (by rw [List.mem_singleton] at aU;rw [aU];exact hfy);have ahm:=O2.get amG;have amJ:=O2.get arF;have M16:=M14.mono O2;have Xp:0<ml.length:=List.length_pos_iff.2 ok.2.1.some;obtain ⟨x,hx⟩:∃x,ml[ml.length - 1]? =some x:=⟨_,List.getElem?_eq_getElem (by omega)⟩;have arL:=cf x (List.mem_of_getElem? hx);have bG:=ea _ _ _ hx;obtain ⟨xc,xi,xk,xs,xn,xt⟩:=x;dsimp only at bG arL;have amK:=M16.sl;cbv;refine .of ahm rfl ?_;cbv;refine .of ahm rfl ?_;cbv;refine .of amK λk Ir hk=>?_;cbv;refine .sub (by omega) (by omega) λk1 Xq=>?_;cbv;refine .of amK (by omega) (j:=ml.length - 1) (by omega) (by omega) bG λYJ Fk iR=>?_;cbv;refine .gH iR 1 rfl ?_;cbv;refine .mY rfl ?_;cbv;refine .all amJ rfl ?_;cbv;refine .all arK rfl ?_;cbv;refine I8 (l:=[]) aiH (.nil 0) (.nil 0) (by simp) λh17 Jc aiI=>?_;have UO:Mod h14 h17 []:=(O2.trans Jc).mono λq _ _ aU=>by simp at aU
 have Z17:=Z14.mono UO;have D17:=Z17.sto.iE;rw [amI] at D17;cbv;refine .of (Jc.get amJ) rfl ?_;cbv;refine .um (by omega) ?_;cbv;refine y7 aiI D17 λh18 n2 YL Jd aiJ=>?_;have en:n2=n1:=by rw [YL,Fj,amH]
 have Z18:=Z17.mono Jd;have S18:=Z18.ub;rw [aiF] at S18;cbv;refine .mY en ?_;cbv;refine rA S18.cell S18.log.sl λt2 azQ ht2=>?_;cbv;refine .mY (by omega) ?_;cbv;refine Nx aiJ S18.cell S18.st.sl (Bn _) (by omega) λsv2 h19 e2 arM aiK=>?_;cbv;refine UI arM.sl ((((arG.mono UO).mono Jd)).mono aiK.mod) (by omega) ?_;cbv;refine A.sS aiK.wf (((arH.mono UO).mono Jd).mono aiK.mod) λUP _ _=>?_;cbv;exact hq UP
end K
