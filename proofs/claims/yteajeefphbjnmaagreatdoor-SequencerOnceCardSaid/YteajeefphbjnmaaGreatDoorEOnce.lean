/-
  The sequencer's laws. Part EOnce of the proof: SequencerOnce's function: what it comes to.
-/
import Derived.Test.YteajeefphbjnmaaGreatDoorZBF
namespace K
open Go Go.Dx Go.RowKit Go.Proofs
set_option maxRecDepth 100000
theorem abK {h:H}{lm:Lb}{m:bF}{c:Nat}(hg:h.get lm=some (.map (cg m) c))(hi:∀e∈m,∃n,e.2.1 = .int .i64 n) (k:List Nat) (K:V->Prop) (hk:K (.int .i64 (vN m k))):RJ h .str (.int .i64 0) false (.map lm) (.str k) K:=by
 cases hv:cK m k with
 | none=>
   refine .Fp hg hv ?_;have:vN m k=0:=by simp only [vN,hv]
   rw [this] at hk;exact hk
 | some v=>
   obtain ⟨b,hb⟩:=xu hv;obtain ⟨n,hn⟩:=hi _ hb;have hn:v = .int .i64 n:=hn;subst hn;have:vN m k=n:=by simp only [vN,hv]
   rw [this] at hk;refine .hit hg hv hk
theorem abL (A:Nw){h:H}{v:V}{l:List Mi}(hw:Wf h)(he:HE h)(D:rz h v l)(IY:∀q,q∈af v->h.get q≠none) (Bk:∀x∈l,∀q,q∈af x.lv->h.get q≠none) {Q:V->H->Prop}
  (hq:∀h',Q (.bool true) h'):CW pf G0 gp [v] h Q:=by
 refine nW.enter (by kernel_rfl) ?_;cbv;refine y5 hw D (λh1 ar aM=>?_) λh1 h40 HO ar aM=>?_
 ·cbv;refine A.sS aM (he.mono ar) λh2 _ _=>?_
  cbv;exact hq h2
 cbv;refine A.begun aM (he.mono ar) λh2 ld lp z Z I0 _ dt aq aN=>?_;have aO:Mod h h2 []:=(ar.trans aq).mono λq _ _ aU=>by simp at aU
 have nz:∀q,h.get q≠none->q∉z.own lp:=λq hl hm=>hl (ai ar (by simp) (dt q hm));have D2:rz h2 v l:=⟨D.sl.mono aO,D.Fh,λx hx=>(D.each x hx).mono aO⟩;cbv;refine Dc aN (he.mono aO) Z I0 D2 (λq aU=>nz q (IY q aU)) (λx hx q aU=>nz q (Bk x hx q aU)) h40 HO λh3 z3 T hlen=>?_;have Z3:=T.at';have CS:=(he.mono aO).mono T.mod;have S3:=Z3.ub;have C3:=S3.cell;have L3:=S3.log;have good:=S3.good;have Fh:=S3.Fh;generalize NA:z3.r.ls=ls at*;generalize hlv:z3.r.lv=sl at*;generalize Jg:z3.r.sv=sv at*;generalize sM:z3.r.lm=mm at*;generalize RL:z3.r.log=log at*;cbv;refine .of T.wf λlm h4 sT CR aD aQ=>?_;have azZ:=aD;have C4:=aD.get C3;have L4:=L3.mono aD;cbv;refine rA C4 L4.sl λtp RH htp=>?_;cbv;refine CW.mono (Q:=λv h5=>aE h5 cX 6 v log.length (cW log)/\Loc h4 h5 v) ?_ ?_
 ·refine O7 aQ C4 L4 (by omega) (by omega) (λbq=>?_) λpv h5 p h00 h01 h02 hp ho lo=>?_
  ·have:log=[]:=List.length_eq_zero_iff.1 (by omega)
   rw [this];exact ⟨.nil,Loc.nil aQ 0⟩
  ·have:p=log:=by rw [hp];show (log.drop 0).take tp.toNat=log;rw [htp];simp
   rw [<-this];exact ⟨ho,lo⟩
 rintro av h5 ⟨kh,Ux⟩;have Db:=Ux.get sT;have C5:=Ux.get C4;have L5:=Ux.sl L4.sl;have nav:lm∉af av:=λhm=>by have:=Ux.fr lm hm;rw [sT] at this;cases this
 have Z5:=(Z3.mono aD).mono Ux.mod;have Rk:lm∉z3.own lp:=λhm=>Z3.live hm CR;cbv;refine .of kh.sl λn eT hn=>?_;cbv;refine .inv [p4,p6,p7,p31,p32,p33] (λm' aC h'=>∃(i:Int) (es:bF) (c:Nat),aC=[.ptr lp 0,.map lm,av,av,.int .i64 n,.int .i64 i]/\0<=i/\i.toNat<=log.length/\m'=log.length - i.toNat/\h'.get lm=some (.map (cg es) c)/\(∀e∈es,∃n,e.2.1 = .int .i64 n)/\(∀k,vN es k=aW (log.take i.toNat) k)/\Mod h5 h' [lm]/\Wf h') [_,_,_,_,_,_] rfl _
  ⟨0,[],0,rfl,by omega,by simp,rfl,Db,by simp,λk=>rfl,Mod.refl _ _,Ux.wf⟩ ?_
 rintro m' _ h6 ⟨i,es,c,rfl,jG,Nv,dY,I3,hints,pY,bP,cy⟩;cbv;refine .lt (λbA=>?_) λjb=>?_
 ·obtain ⟨x,hx⟩:∃x,log[i.toNat]? =some x:=⟨_,List.getElem?_eq_getElem (by omega)⟩
  have bG:=ea _ _ _ hx;have hgd:=good _ _ hx;have htk:=mf hx;have hle:=mo good x.client;have zM:0<=aW (log.take i.toNat) x.client/\aW (log.take i.toNat) x.client<=(log.take i.toNat).length:=mo (λj y hy=>by
   have hj:=(List.getElem?_eq_some_iff.1 hy).1;rw [List.getElem?_take_of_lt (by rw [List.length_take] at hj;omega)] at hy;rw [List.take_take,Nat.min_eq_left (by rw [List.length_take] at hj;omega)];exact good j y hy) x.client
  have O8:=abK I3 hints x.client;rw [pY] at O8;obtain ⟨xc,xi,xk,xs,xn,xt⟩:=x;dsimp only at bG hgd zM O8;rw [List.length_take,Nat.min_eq_left (by omega)] at zM;generalize fS:aW (log.take i.toNat) xc=la at*;cbv;refine .of (kh.sl.mono bP (fk nav)) jG rfl (by omega) bG λYJ off iR=>?_;cbv;refine .ka iR rfl ?_;cbv;refine .of cy λlx h7 Fi I9 cH eu=>?_;cbv;refine .of (cs:=[.str xc,.int .i64 xi,.int .i64 xk,.str xs,.str xn,.str xt]) eu Fi rfl rfl rfl rfl rfl rfl λh8 Is cO ew=>?_;have US:Mod h6 h8 []:=cH.fr cO λq aU=>.inl (by rw [List.mem_singleton] at aU;rw [aU];exact I9);have ae':=US.get I3;have amR:=abK ae' hints xc;rw [pY,fS] at amR;cbv;refine .of Is rfl ?_;cbv;refine .of Is rfl ?_;cbv;refine amR _ ?_;have axv:i.toNat<=320:=by omega
  have aiO:0<=la:=zM.1;have afa:la.toNat<=i.toNat:=Int.toNat_le.2 zM.2;cbv;refine .add (by omega) (by omega) λy hy=>?_;cbv;refine .eC (by omega) ?_;cbv;refine .of Is rfl ?_;cbv;refine .of Is rfl ?_;cbv;refine .of ew ae' λh9 abJ eU pd=>?_;cbv;refine .add (by omega) (by omega) λj hj=>?_;have Ny:j.toNat=i.toNat+1:=by omega
  cbv;refine ⟨rfl,log.length - j.toNat,by omega,j,_,_,rfl,by omega,by omega,rfl,abJ,λe' It=>?_,λk=>?_,((bP.trans US).trans eU).mono λq _ _ aU=>by simpa using aU,pd⟩
  ·rcases ki It with q | ⟨_,q,_⟩
   ·exact hints e' q
   ·exact ⟨xi,q⟩
  ·rw [Ny,htk,Jh,fO,pY]
   by_cases h:k=xc
   ·rw [if_pos h,if_pos h.symm]
   ·rw [if_neg h,if_neg (λq=>h q.symm)]
 have cf:i.toNat=log.length:=by omega
 rw [cf,List.take_length] at pY;have Z6:=Z5.mono bP λq aU hm=>by rw [List.mem_singleton] at hm;rw [hm] at aU;exact Rk aU
 have pZ:=kh.sl.mono bP (fk nav);cbv;refine .of pZ λn2 IW YL=>?_;cbv;refine .inv [p4,p6,p7,p51,p52,p53] (λm' aC h'=>∃(j:Int),aC=[.ptr lp 0,.map lm,av,av,.int .i64 n2,.int .i64 j]/\0<=j/\j.toNat<=log.length/\m'=log.length - j.toNat/\Mod h6 h' []/\Wf h') [_,_,_,_,_,_] rfl _
  ⟨0,rfl,by omega,by simp,rfl,Mod.refl _ _,cy⟩ ?_
 rintro m2 _ h7 ⟨j,rfl,Uy,hjl,YO,cH,eu⟩;have Z7:=Z6.mono cH;cbv;refine .lt (λzM=>?_) λUT=>?_
 ·obtain ⟨x,hx⟩:∃x,log[j.toNat]? =some x:=⟨_,List.getElem?_eq_getElem (by omega)⟩
  have bG:=ea _ _ _ hx;obtain ⟨xc,xi,xk,xs,xn,xt⟩:=x;dsimp only at bG;cbv;refine .of (pZ.mono cH) Uy rfl (by omega) bG λYJ off iR=>?_;cbv;refine .ka iR rfl ?_;cbv;refine .of eu λlx h8 Fi I9 cO ew=>?_;cbv;refine .of (cs:=[.str xc,.int .i64 xi,.int .i64 xk,.str xs,.str xn,.str xt]) ew Fi rfl rfl rfl rfl rfl rfl λh9 hx9 eU pd=>?_;have RI:Mod h7 h9 []:=cO.fr eU λq aU=>.inl (by rw [List.mem_singleton] at aU;rw [aU];exact I9);have abJ:=RI.get (cH.get I3);have aiP:=abK abJ hints xc;rw [pY] at aiP;have S9:=(Z7.mono RI).ub;have sl9:=λQ=>RG (c:=xc) (Q:=Q) S9;rw [RL] at sl9;generalize fS:aW log xc=la at*;cbv;refine .of follows 5 ?_;cbv;refine .of hx9 rfl ?_;cbv;refine .of hx9 rfl ?_;cbv;refine aiP _ ?_;cbv;refine sl9 _ ?_;refine .look aiP (.load hx9 rfl (.nil ?_));cbv;refine .eC rfl ?_;cbv;refine .add (by omega) (by omega) λj2 Ji=>?_;cbv;exact ⟨rfl,log.length - j2.toNat,by omega,j2,rfl,by omega,by omega,rfl,(cH.trans RI).mono λq _ _ aU=>by simp at aU,pd⟩
 ·cbv;refine .of (pZ.mono cH) λn3 YI hn3=>?_
  have S7:=Z7.ub;have C7:=S7.cell;have L7:=S7.log.sl;rw [NA,hlv,Jg,sM] at C7;rw [hlv,RL] at L7;cbv;refine rA C7 L7 λtp2 UP h2t=>?_;cbv;refine .mY (by omega) ?_;have Bp:HE h7:=((((CS.mono aD).mono Ux.mod).mono bP).mono cH);cbv;refine A.sS eu Bp λh8 _ _=>?_;cbv;exact hq h8
end K
