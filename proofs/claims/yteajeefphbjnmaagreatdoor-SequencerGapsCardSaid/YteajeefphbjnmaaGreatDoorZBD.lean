/-
  The sequencer's laws. Part ZBD of the proof: blotter/kvstore: Commit.
-/
import Derived.Test.YteajeefphbjnmaaGreatDoorZBC
import Derived.Test.YteajeefphbjnmaaGreatDoorZAX
namespace K
open Go Go.Dx Go.RowKit
set_option maxRecDepth 100000
def mM:List zE->List Nat
 | []=>[]
 | o::r=>cV o.key.length++o.key++mc o.gone o.val++mM r
def aaB (v:Nat)(l:List zE):List Nat:=[1]++cV v++cV l.length++mM l
theorem T4 (a b:List zE):mM (a++b)=mM a++mM b:=by
 induction a with
 | nil=>rfl
 | cons o r ih=>simp only [List.cons_append,mM,ih,List.append_assoc]
theorem LF:∀(l:List zE),(∀o,o∈l->o.key.length<=128/\o.val.length<=4096)->(mM l).length<=l.length*4300
 | [],_=>by simp [mM]
 | o::r,h=>by
   have ih:=LF r λx hx=>h x (List.mem_cons_of_mem _ hx);obtain ⟨h1,h2⟩:=h o (List.mem_cons_self ..);have h3:=(cF (x:=o.key.length) (by omega)).2;have h4:=(cF (x:=o.val.length) (by omega)).2;have h5:(mc o.gone o.val).length<=4106:=by
    unfold mc;split
    ·simp
    ·simp;omega
   simp only [mM,List.length_append,List.length_cons] at*;omega
def lF (v:Int):List zE->bF->Nat->bF×Nat
 | [],m,c=>(m,c)
 | o::r,m,c=>lF v r (dh m o.key (.agg [.str o.key,.bool o.gone,.str o.val,.int .i64 v]) c) (dQ m o.key c)
theorem EX (v:Int):∀(a:List zE) (o:zE) (m:bF) (c:Nat),lF v (a++[o]) m c=(dh (lF v a m c).1 o.key (.agg [.str o.key,.bool o.gone,.str o.val,.int .i64 v]) (lF v a m c).2,dQ (lF v a m c).1 o.key (lF v a m c).2)
 | [],_o,_m,_c=>rfl
 | _x::a,o,_m,_c=>EX v a o _ _
theorem iQ.live {h:H}{lg:Lb}{g:Lg}(L:iQ h lg g){l:Lb}(hl:l∈g.own lg):h.get l≠none:=by
 simp only [Lg.own,List.mem_cons,List.mem_append] at hl;rcases hl with rfl | hl | hl
 ·rw [L.cell];simp
 ·obtain ⟨r,hr⟩:=L.cm.row hl;rw [hr];simp
 ·obtain ⟨r,hr⟩:=L.bZ.row hl;rw [hr];simp
theorem T5:∀(l:List zE),(∀o,o∈l->(∀x∈o.key,x<256)/\∀x∈o.val,x<256)->(∀o,o∈l->o.key.length<=100000000/\o.val.length<=100000000)->∀x∈mM l,x<256
 | [],_,_=>by simp [mM]
 | o::r,h,hk=>by
   intro x hx;obtain ⟨h1,h2⟩:=h o (List.mem_cons_self ..);obtain ⟨k1,k2⟩:=hk o (List.mem_cons_self ..);simp only [mM,List.mem_append] at hx;rcases hx with ((hx | hx) | hx) | hx
   ·exact jx (by omega) x hx
   ·exact h1 x hx
   ·unfold mc at hx
    split at hx
    ·simp at hx;omega
    ·rcases List.mem_cons.1 hx with rfl | hx
     ·omega
     ·rcases List.mem_append.1 hx with hx | hx
      ·exact jx (by omega) x hx
      ·exact h2 x hx
   ·exact T5 r (λq hq=>h q (List.mem_cons_of_mem _ hq)) (λq hq=>hk q (List.mem_cons_of_mem _ hq)) x hx
theorem aaC {h:H}{ls:Lb}{s:xl}{g:Lg}{d:dR}{vo:V}{l:List zE}(hw:Wf h)(S:eR h ls s g d)(hn:d.aH.length<=999999999)(hfs:g.cm.length<=999999999)(dt:g.bZ.length<=999999999)(QH:g.next<4000000000000000000)(hv0:0<=s.version)(hv:s.version<1099511627776)
  (hs:Sl h 3 vo l.length (AI l)) (hso:∀q,q∈af vo->q∉s.own ls g d) (hk:∀o,o∈l->o.key.length<=100000000/\o.val.length<=100000000) (EJ:∀o,o∈l->(∀x∈o.key,x<256)/\∀x∈o.val,x<256) (hl:l.length<=1000000) {Q:V->H->Prop}
  (Wm:∀h' d' ops (e:Int),e≠0->eR h' ls s g d'->agu d ops d'->(∀q,q∈d'.own g.ld->q∈d.own g.ld\/h.get q=none)->Mod h h' (s.own ls g d)->Wf h'->Q (.tuple [.int .i64 0,.int .i64 e]) h')
  (hq:∀h' s' g' d' ops,aij l->eR h' ls s' g' d'->agu d ops d'->s'.lg=s.lg->s'.li=s.li->s'.version=s.version+1->s'.synced=s.synced->(s'.items,s'.ci)=lF (s.version+1) l s.items s.ci->g'.ld=g.ld->g'.next=g.next+1->g'.bZ=g.bZ++[aaB (s.version+1).toNat l]->
   (∀q,q∈s'.own ls g' d'->q∈s.own ls g d\/h.get q=none)->Mod h h' (s.own ls g d)->Wf h'->Q (.tuple [.int .i64 (s.version+1),.int .i64 0]) h'):CW pf G0 kK [.ptr ls 0,vo] h Q:=by
 have C:=S.cell;generalize RL:s.lg=lg at C;generalize IN:s.li=li at C;generalize agV:s.version=WI at*;generalize apN:s.synced=syn at*;have nls:ls∈s.own ls g d:=by simp [xl.own]
 refine vj.enter (by kernel_rfl) ?_;cbv;refine IQ C ?_;cbv;refine Cz hw C λh1 xv ar aM=>?_;have AN:=hs.mono ar λq aU hm=>by rw [List.mem_singleton] at hm;subst hm;exact hso _ aU nls
 cbv;refine adZ aM AN hk hl (λh2 e he aq aN=>?_) λh2 pX aq aN=>?_
 ·cbv;refine .uk he ?_
  cbv;refine cq aN (aq.get xv (by simp)) λh3 iY aF aR=>?_;cbv;have nd:ls∉d.own g.ld:=S.iE.off S.cell (by decide);have ng:ls∉g.own s.lg:=S.log.off S.cell (by decide);have mm:Mod h h3 [ls]:=((ar.trans aq).trans aF).mono λq _ _ aU=>by simpa using aU
  have off:∀q,q∈[ls]->q=ls:=λq aU=>by simpa using aU
  refine Wm h3 d [] e he ⟨?_,mm.get S.items (by rw [List.mem_singleton];rintro e;have:=S.items;rw [e,S.cell] at this;cases this),S.iok,S.rows,S.log.mono mm λq aU hm=>ng (off q hm▸aU),S.iE.mono mm λq aU hm=>nd (off q hm▸aU),S.ok,S.apart⟩ ⟨.nil d,by decide⟩ (λq aU=>.inl aU) (mm.mono λq _ _ aU=>by rw [off q aU];exact nls) aR;rw [RL,IN,agV,apN];exact iY
 ·cbv;refine .eC rfl ?_
  have jc:=aq.get xv (by simp);cbv;refine .of jc rfl ?_;cbv;refine .cP (by omega) ?_;cbv;refine .of jc rfl ?_;cbv;refine .add (by omega) (by omega) λv1 MG=>?_;cbv;refine .of aN λlb h3 Qt gG aF aR=>?_;have ho0:aE h3 5 1 (.slice lb 0 1 (.exact 1)) 1 (ae [1]):=.exact Qt rfl;have lo0:Loc h2 h3 (.slice lb 0 1 (.exact 1)):=⟨aF,by simp [Fr,af,gG],aR⟩;cbv;refine jY aR ho0.sl rfl (by omega) (by omega) (by omega) λb1 h4 jv Hy=>?_;have Oh:Sl h4 3 vo l.length (AI l):=((AN.mono aq (by simp)).mono aF (by simp)).mono Hy.mod (by simp);cbv;refine .of Oh λn eT Fj=>?_;have e1:=cF (x:=v1.toNat) (by omega);cbv;refine jY Hy.wf jv.sl (eN rfl (az _)) (by omega) (by omega) (by omega) λb2 h5 kh Ux=>?_;have e2:=cF (x:=n.toNat) (by omega);have hs5:=Oh.mono Ux.mod (by simp);cbv;refine .of hs5 λn2 IW akl=>?_;have hwd:(mM l).length<=1100800:=by
   have:=LF l λo ho=>let ⟨_,a,_,b⟩:=pX.each o ho;⟨a,b⟩
   have:=pX.iZ;omega
  have ay5:=pX.iZ;have oB:aE h5 5 1 b2 ([1]++cV v1.toNat++cV l.length++mM (l.take 0)).length (ae ([1]++cV v1.toNat++cV l.length++mM (l.take 0))):=by
   rw [Fj] at kh;simp only [List.take_zero,mM,List.append_nil,aK,List.length_append,List.length_cons,List.length_nil,Nat.zero_add];exact kh
  have lB:Loc h2 h5 b2:=(Ux.base Hy.mod).base lo0.mod;have pre:([1]++cV v1.toNat++cV l.length).length<=19:=by
   have:=(cF (x:=l.length) (by omega)).2;simp;omega
  cbv;refine .inv [p0,p1,p7,p8,p46,p47,p48] (λm' aC h'=>∃i bv,aC=[.ptr ls 0,vo,.int .i64 v1,bv,vo,.int .i64 n2,.int .i64 i]/\0<=i/\i.toNat<=l.length/\m'=l.length - i.toNat/\
    aE h' 5 1 bv ([1]++cV v1.toNat++cV l.length++mM (l.take i.toNat)).length (ae ([1]++cV v1.toNat++cV l.length++mM (l.take i.toNat)))/\Loc h2 h' bv) [_,_,_,_,_,_,_] rfl _
   ⟨0,b2,rfl,by omega,by simp,rfl,oB,lB⟩ ?_
  rintro m' _ h' ⟨i,bv,rfl,jG,hi,dY,oI,lI⟩;have hsI:=lI.sl (AN.mono aq (by simp));cbv;refine .lt (λbA=>?_) λjb=>?_
  ·obtain ⟨o,ho⟩:∃o,l[i.toNat]? =some o:=⟨_,List.getElem?_eq_getElem (by omega)⟩
   have bG:=zF _ _ _ ho;have fh:=mf ho;obtain ⟨_,Xq,_,Fc⟩:=pX.each o (List.mem_of_getElem? ho);have hpw:(mM (l.take i.toNat)).length<=1100800:=by
    have:=LF (l.take i.toNat) λo ho=>let ⟨_,a,_,b⟩:=pX.each o (List.mem_of_mem_take ho);⟨a,b⟩
    rw [List.length_take] at this;omega
   have apO:mM (l.take (i.toNat+1))=mM (l.take i.toNat)++(cV o.key.length++o.key++mc o.gone o.val):=by
    rw [fh,T4];simp [mM]
   obtain ⟨key,gone,val⟩:=o;dsimp only at bG Xq Fc apO;have dl:([1]++cV v1.toNat++cV l.length++mM (l.take i.toNat)).length<=1200000:=by rw [List.length_append];omega
   generalize hdn:[1]++cV v1.toNat++cV l.length++mM (l.take i.toNat)=dn at*;cbv;refine .of hsI jG rfl (by omega) bG λsl off iR=>?_;cbv;refine .ka iR rfl ?_;cbv;refine .of lI.wf λla h6 fS Bl bP cy=>?_;cbv;refine .of cy fS rfl rfl rfl rfl rfl rfl λh7 xj cH eu=>?_;have m67:Mod h' h7 []:=bP.fr cH λq aU=>.inl (by rw [List.mem_singleton] at aU;subst aU;exact Bl);have oI7:=oI.mono m67 (by simp);have lI7:=lI.al m67 eu;cbv;refine .of follows 5 ?_;cbv;refine .of xj rfl ?_;cbv;refine .of xj rfl ?_;cbv;refine .of xj rfl ?_;cbv;refine Gn eu oI7.sl (az _) (by omega) (by omega) λb8 h8 sd lo8=>?_;have sQ:=lo8.get xj;refine .load sQ rfl (.load sQ rfl (.nil ?_));have e8:=(cF (x:=key.length) (by omega)).2;have lB8:Loc h2 h8 b8:=lo8.base lI7.mod;have l8:dn.length+(cV key.length++key).length<=2000000:=by rw [List.length_append];omega
   cbv;refine Yh lB8 sd (eN (az _) (az _)) (by omega) (by omega) λb9 h9 Jl lo9=>?_;refine .nil ?_;cbv;refine .add (by omega) (by omega) λj hj=>?_;cbv;refine ⟨rfl,l.length - j.toNat,by omega,j,b9,rfl,by omega,by omega,rfl,?_,lo9⟩;have e:[1]++cV v1.toNat++cV l.length++mM (l.take j.toNat)=dn++(cV key.length++key)++mc gone val:=by
    rw [show j.toNat=i.toNat+1 by omega,apO,<-hdn];simp only [List.append_assoc]
   rw [e,aK,aK];rw [List.length_append,List.length_append];exact Jl
  ·have cf:l.take i.toNat=l:=List.take_of_length_le (by omega)
   rw [cf,show [1]++cV v1.toNat++cV l.length++mM l=aaB v1.toNat l from rfl] at oI;have Wj:(aaB v1.toNat l).length<=1200000:=by
    show ([1]++cV v1.toNat++cV l.length++mM l).length<=_
    rw [List.length_append];omega
   have apR:∀x∈aaB v1.toNat l,x<256:=λx hx=>by
    simp only [aaB,List.mem_append] at hx;rcases hx with ((hx | hx) | hx) | hx
    ·simp at hx;omega
    ·exact jx (by omega) x hx
    ·exact jx (by omega) x hx
    ·exact T5 l EJ hk x hx
   have nd:ls∉d.own g.ld:=S.iE.off S.cell (by decide);have ng:ls∉g.own s.lg:=S.log.off S.cell (by decide);have D2:=(S.iE.mono ar (λq aU hm=>by rw [List.mem_singleton] at hm;subst hm;exact nd aU)).mono aq (by simp);have L2:=(S.log.mono ar (λq aU hm=>by rw [List.mem_singleton] at hm;subst hm;exact ng aU)).mono aq (by simp);have D':=D2.mono lI.mod (by simp);have L':=L2.mono lI.mod (by simp);rw [RL] at L' L2 ng;have pn:=lI.get jc;have m0:Mod h h' [ls]:=((ar.trans aq).trans lI.mod).mono λq _ _ aU=>by simpa using aU
   have TP:∀q,h'.get q=none->h.get q=none:=λq hx=>by
    cases hy:h.get q with
    | none=>rfl
    | some o=>
      by_cases e:q=ls
      ·subst e;rw [pn] at hx;cases hx
      ·have:=m0.get hy (by simpa using e);rw [hx] at this;cases this
   have I':=m0.get S.items (by rw [List.mem_singleton];rintro e;have:=S.items;rw [e,S.cell] at this;cases this);have Nc:∀q,q∈af bv->q∉g.own lg/\q∉d.own g.ld:=λq aU=>⟨λhm=>L2.live hm (lI.fr q aU),λhm=>D2.live hm (lI.fr q aU)⟩;generalize adB:aaB v1.toNat l=rec at*;cbv;refine .of pn rfl ?_;cbv;refine Bh lI.wf L' D' S.ok hn hfs dt QH oI.sl Nc (by omega) apR (λh6 d6 ops e he D6 L6 ok6 alc aec m6 w6=>?_) λh6 g6 d6 ops D6 L6 ok6 alc f1 f2 f3 aec m6 w6=>?_
   ·cbv;refine .uk he ?_
    have Gu:=m6.get pn nd;cbv;refine cq w6 Gu λh7 xj m7 w7=>?_;cbv;have n6d:ls∉d6.own g.ld:=D6.off Gu (by decide);have n6g:ls∉g.own lg:=L6.off Gu (by decide);have I6:=m6.get I' S.apart;have I7:=m7.get I6 (by rw [List.mem_singleton];rintro e;rw [e,Gu] at I6;cases I6);refine Wm h7 d6 ops e he ⟨?_,I7,S.iok,S.rows,?_,D6.mono m7 (λq aU hm=>by rw [List.mem_singleton] at hm;subst hm;exact n6d aU),ok6,λhm=>?_⟩ alc (λq aU=>(aec q aU).imp_right (TP q)) (((m0.trans m6).trans m7).mono λq _ _ aU=>?_) w7
    ·rw [RL,IN,agV,apN];exact xj
    ·rw [RL];exact L6.mono m7 (λq aU hm=>by rw [List.mem_singleton] at hm;subst hm;exact n6g aU)
    ·rcases aec _ hm with hx | hx
     ·exact S.apart hx
     ·rw [I'] at hx;cases hx
    ·simp only [xl.own,List.mem_cons,List.mem_append,List.not_mem_nil,or_false] at aU ⊢
     rcases aU with (aU | aU) | aU
     ·exact .inl aU
     ·exact .inr (.inr (.inr aU))
     ·exact .inl aU
   ·cbv;refine .eC rfl ?_
    have hs6:Sl h6 3 vo l.length (AI l):=hsI.mono m6 λq aU hm=>by
     refine hso q aU ?_;simp only [xl.own,RL,List.mem_cons,List.mem_append] at hm ⊢;exact .inr (.inr hm)
    cbv;refine .of hs6 λn3 YI avC=>?_;have Gu:=m6.get pn λhm=>by
     rcases List.mem_append.1 hm with hm | hm
     ·exact ng hm
     ·exact nd hm
    have nli:li∉g.own lg++d.own g.ld:=λhm=>by
     rcases List.mem_append.1 hm with hm | hm
     ·exact L'.Gt (IN▸I') hm
     ·exact (IN▸S.apart) hm
    rw [IN] at I';have I6:=m6.get I' nli;have apS:li≠ls:=by rintro rfl;rw [I'] at pn;cases pn
    cbv;refine .inv [p0,p7,p74,p75,p76] (λm' aC h'=>∃i es c,aC=[.ptr ls 0,.int .i64 v1,vo,.int .i64 n3,.int .i64 i]/\0<=i/\i.toNat<=l.length/\m'=l.length - i.toNat/\(es,c)=lF v1 (l.take i.toNat) s.items s.ci/\h'.get li=some (.map (cg es) c)/\fG es c/\(∀e,e∈es->e.1.length<=128/\GJ e.2.1)/\Mod h6 h' [li]/\Wf h') [_,_,_,_,_] rfl _
     ⟨0,s.items,s.ci,rfl,by omega,by simp,rfl,rfl,I6,S.iok,S.rows,Mod.refl _ _,w6⟩ ?_
    rintro m' _ hx ⟨i,es,c,rfl,jG,hi,dY,hit,ad0,apT,aio,Mw,hwx⟩;have hsx:Sl hx 3 vo l.length (AI l):=hs6.mono Mw λq aU hm=>by
     rw [List.mem_singleton] at hm;exact hso q aU (by rw [hm,<-IN];simp [xl.own])
    have Fi:=Mw.get Gu (by simpa using Ne.symm apS);cbv;refine .lt (λbA=>?_) λjb=>?_
    ·obtain ⟨o,ho⟩:∃o,l[i.toNat]? =some o:=⟨_,List.getElem?_eq_getElem (by omega)⟩
     have bG:=zF _ _ _ ho;have fh:=mf ho;obtain ⟨_,ik1,_,ik2⟩:=pX.each o (List.mem_of_getElem? ho);obtain ⟨key,gone,val⟩:=o;dsimp only at bG ik1 ik2;cbv;refine .of hsx jG rfl (by omega) bG λsl off iR=>?_;cbv;refine .ka iR rfl ?_;cbv;refine .of hwx λla h7 fS Bl cH eu=>?_;cbv;refine .of eu fS rfl rfl rfl rfl rfl rfl λh8 sQ cO ew=>?_;have m78:Mod hx h8 []:=cH.fr cO λq aU=>.inl (by rw [List.mem_singleton] at aU;subst aU;exact Bl);have agF:=m78.get Fi (by simp);have aed:=m78.get ad0 (by simp);cbv;refine .of follows 3 ?_;cbv;refine .of agF rfl ?_;cbv;refine .of sQ rfl ?_;cbv;refine .of sQ rfl ?_;cbv;refine .of sQ rfl ?_;cbv;refine .of sQ rfl ?_;cbv;refine .flat rfl ?_;cbv;refine .flat rfl ?_;cbv;refine .flat rfl ?_;cbv;refine .flat rfl ?_;cbv;refine .of ew aed λh9 Lf eU pd=>?_;cbv;refine .nil ?_;cbv;refine .add (by omega) (by omega) λj hj=>?_;cbv;refine ⟨rfl,l.length - j.toNat,by omega,j,_,_,rfl,by omega,by omega,rfl,?_,Lf,apT.set _ _,λe he=>?_,(Mw.trans (m78.trans eU)).mono (λq _ _ aU=>by simpa using aU),pd⟩
     ·rw [show j.toNat=i.toNat+1 by omega,fh,EX,<-hit]
     ·rcases ki he with he | ⟨hek,he,_⟩
      ·exact aio e he
      ·exact ⟨by rw [hek];exact ik1,key,gone,val,v1,he,ik1,ik2,by omega,by omega⟩
    ·have Yn:l.take i.toNat=l:=List.take_of_length_le (by omega)
     rw [Yn] at hit;cbv;refine .one hwx Fi rfl rfl rfl rfl λh7 xj m7 w7=>?_;cbv;refine cq w7 xj λh8 sQ m8 w8=>?_;cbv;have apU:li∉g6.own lg++d6.own g.ld:=λhm=>by
      rcases aec _ hm with hy | hy
      ·exact nli hy
      ·rw [I'] at hy;cases hy
     have awm:ls∉g6.own lg++d6.own g.ld:=λhm=>by
      rcases List.mem_append.1 hm with hm | hm
      ·exact L6.off Gu (by decide) hm
      ·exact D6.off Gu (by decide) hm
     have m68:Mod h6 h8 ([li]++([ls]++[ls])):=Mw.trans (m7.trans m8);have awo:∀q,q∈[li]++([ls]++[ls])->q=li\/q=ls:=λq aU=>by simpa using aU
     have aip:∀q,q∈g6.own lg++d6.own g.ld->q∉[li]++([ls]++[ls]):=λq aU hm=>by
      rcases awo q hm with e | e
      ·exact apU (e▸aU)
      ·exact awm (e▸aU)
     have aed:=(m7.trans m8).get ad0 (by simpa using apS);subst MG;refine hq h8 ⟨lg,li,es,c,WI+1,syn⟩ g6 d6 ops pX ⟨?_,aed,apT,aio,L6.mono m68 λq aU=>aip q (List.mem_append_left _ aU),?_,ok6,?_⟩ alc RL.symm IN.symm rfl rfl hit f1 f2 (by rw [adB];exact f3) (λq aU=>?_) (((m0.trans m6).trans m68).mono λq _ _ aU=>?_) w8
     ·exact sQ
     ·rw [f1];exact D6.mono m68 λq aU=>aip q (List.mem_append_right _ aU)
     ·show li∉d6.own g6.ld
      rw [f1];exact λhm=>apU (List.mem_append_right _ hm)
     ·simp only [xl.own,f1,List.mem_cons] at aU ⊢
      rcases aU with rfl | rfl | aU
      ·exact .inl (.inl rfl)
      ·exact .inl (.inr (.inl IN.symm))
      ·rw [RL]
       exact (aec q aU).imp (λx=>.inr (.inr x)) (TP q)
     ·simp only [xl.own,List.mem_cons,List.mem_append,List.not_mem_nil,or_false,RL,IN] at aU ⊢
      rcases aU with (aU | aU) | (aU | aU | aU)
      ·exact .inl aU
      ·exact .inr (.inr aU)
      ·exact .inr (.inl aU)
      ·exact .inl aU
      ·exact .inl aU
end K
namespace K
open Go Go.Dx Go.RowKit Go.Proofs
set_option maxRecDepth 100000
def aW (l:List jB)(c:List Nat):Int:=l.foldl (λa x=>if x.client=c then x.id else a) 0
def uo (l:List jB):Prop:=∀(i:Nat) (x:jB),l[i]? =some x->x.id=aW (l.take i) x.client+1
theorem fO (l:List jB)(x:jB)(c:List Nat):aW (l++[x]) c=if x.client=c then x.id else aW l c:=by simp [aW]
theorem uo.snoc {l:List jB}{x:jB}(g:uo l)(hx:x.id=aW l x.client+1):uo (l++[x]):=λi y hy=>by
 by_cases hi:i<l.length
 ·rw [List.getElem?_append_left hi] at hy
  rw [List.take_append_of_le_length (by omega)];exact g i y hy
 ·have DI:i<(l++[x]).length:=(List.getElem?_eq_some_iff.1 hy).1
  simp at DI;have:i=l.length:=by omega
  subst this;simp at hy;subst hy;simpa using hx
theorem mo {l:List jB}(g:uo l)(c:List Nat):0<=aW l c/\aW l c<=l.length:=by
 have key:∀n,n<=l.length->∀c,0<=aW (l.take n) c/\aW (l.take n) c<=n:=λn=>by
  induction n with
  | zero=>intro _ c;simp [aW]
  | succ n ih=>
    intro hn c;obtain ⟨x,hx⟩:∃x,l[n]? =some x:=⟨_,List.getElem?_eq_getElem (by omega)⟩;have h1:=ih (by omega);have h2:=g n x hx;have h3:=h1 x.client;have h4:=h1 c;rw [List.take_add_one,hx];simp only [Option.toList];rw [fO];split<;>omega
 have:=key l.length (Nat.le_refl _) c
 rwa [List.take_length] at this
def vN (m:bF)(c:List Nat):Int:=match cK m c with | some (.int _ n)=>n | _=>0
structure Ik where
 ls:Lb
 lv:V
 sv:V
 lm:Lb
 log:List jB
 st:EL
 m:bF
 c:Nat
def Ik.own (r:Ik)(lp:Lb):List Lb:=lp::r.lm::(af r.lv++af r.sv)
structure nR (h:H)(lp:Lb)(r:Ik):Prop where
 cell:h.get lp=some (.cells [.ptr r.ls 0,r.lv,r.sv,.map r.lm] qF 0 .yes)
 log:aE h cX 6 r.lv r.log.length (cW r.log)
 st:aE h Td 2 r.sv r.st.length (dJ r.st)
 mg:h.get r.lm=some (.map (cg r.m) r.c)
 Yo:fG r.m r.c
 ints:∀e∈r.m,∃n,e.2.1 = .int .i64 n
 last:∀c,vN r.m c=aW r.log c
 good:uo r.log
 Fh:r.log.length<=1000
 stl:r.st.length<=r.log.length
 keys:∀e∈r.st,e.1.length<=1000000
 may:∀x∈r.log,uq x
theorem nR.lookup {h:H}{lp:Lb}{r:Ik}(S:nR h lp r){c:List Nat}{K:V->Prop} (hk:K (.int .i64 (aW r.log c))):RJ h .str (.int .i64 0) false (.map r.lm) (.str c) K:=by
 have hl:=S.last c;cases hv:cK r.m c with
 | none=>
   simp only [vN,hv] at hl;refine .Fp S.mg hv ?_;show K (.int .i64 0)
   rw [hl];exact hk
 | some v=>
   obtain ⟨b,hb⟩:=xu hv;obtain ⟨n,hn⟩:=S.ints _ hb;have hn:v = .int .i64 n:=hn;subst hn;simp only [vN,hv] at hl;refine .hit S.mg hv ?_;show K (.int .i64 n)
   rw [hl];exact hk
theorem nR.awp {h:H}{lp:Lb}{r:Ik}(S:nR h lp r):lp≠r.lm/\lp∉af r.lv/\lp∉af r.sv/\r.lm∉af r.lv/\r.lm∉af r.sv/\∀q,q∈af r.lv->q∉af r.sv:=by
 refine ⟨λe=>?_,λe=>?_,λe=>?_,λe=>?_,λe=>?_,λq h1 h2=>?_⟩
 ·have:=S.cell;rw [e,S.mg] at this;cases this
 ·obtain ⟨c,e2⟩:=S.log.row e;rw [S.cell] at e2;cases e2
 ·obtain ⟨c,e2⟩:=S.st.row e;rw [S.cell] at e2;cases e2
 ·obtain ⟨c,e2⟩:=S.log.row e;rw [S.mg] at e2;cases e2
 ·obtain ⟨c,e2⟩:=S.st.row e;rw [S.mg] at e2;cases e2
 ·obtain ⟨c,e2⟩:=S.log.row h1
  obtain ⟨c',e3⟩:=S.st.row h2;rw [e2] at e3;cases e3
theorem nR.mono {h h':H}{lp:Lb}{r:Ik}{F:List Lb}(S:nR h lp r)(m:Mod h h' F)(hF:∀l,l∈r.own lp->l∉F:=by simp):nR h' lp r:=
 ⟨m.get S.cell (hF _ (by simp [Ik.own])),S.log.mono m λl hl=>hF _ (by simp [Ik.own,hl]),S.st.mono m λl hl=>hF _ (by simp [Ik.own,hl]),m.get S.mg (hF _ (by simp [Ik.own])),S.Yo,S.ints,S.last,S.good,S.Fh,S.stl,S.keys,S.may⟩
end K
namespace K
open Go Go.Dx Go.RowKit Go.Proofs
set_option maxRecDepth 100000
theorem Jh (m:bF)(k c:List Nat)(n:Int)(ck:Nat):vN (dh m k (.int .i64 n) ck) c=if c=k then n else vN m c:=by
 unfold vN;rw [dX]
 by_cases h:c=k
 ·rw [if_pos h,if_pos h]
 ·rw [if_neg h,if_neg h]
theorem aee {h:H}{lp:Lb}{r:Ik}{x:jB}(hw:Wf h)(he:HE h)(S:nR h lp r)(hz:L9 x)(uu:uq x)(hf:r.log.length<1000){Q:V->H->Prop}
  (bq:∀h',x.id≠aW r.log x.client+1->Mod h h' []->Wf h'->Q (.bool false) h')
  (bw:∀r' h',x.id=aW r.log x.client+1->nR h' lp r'->r'.ls=r.ls->r'.log=r.log++[x]->(∀q,q∈r'.own lp->q∈r.own lp\/h.get q=none)->Mod h h' (r.own lp)->Wf h'->Q (.bool true) h'):
  CW pf G0 jV [.ptr lp 0,ad7 x] h Q:=by
 obtain ⟨la,fS⟩:∃la,la=aW r.log x.client:=⟨_,rfl⟩;have aD9:0<=la:=by rw [fS];exact (mo S.good _).1
 have aD':la.toNat<=1000:=by have:=(mo S.good x.client).2;have:=S.Fh;rw [<-fS] at *;omega
 obtain ⟨o1,o2,o3,o4,o5,o6⟩:=S.awp;have S':=S;obtain ⟨ls,lv,sv,lm,log,st,m,c⟩:=r;obtain ⟨C,L,T,M,Yo,ints,last,good,Fh,stl,keys,may⟩:=S;dsimp only at C L T M Yo ints last good Fh stl keys may hf fS o1 o2 o3 o4 o5 o6;obtain ⟨client,id,kind,aI,name,text⟩:=x;dsimp only at fS;refine tK.enter (by kernel_rfl) ?_;cbv;refine .agg ?_;cbv;refine .of hw λlb h1 cx gG ar aM=>?_;have S1:=S'.mono ar;cbv;refine .of follows 6 ?_;cbv;refine .of cx rfl ?_;cbv;refine .of S1.cell rfl ?_;cbv;refine .of cx rfl ?_;cbv;refine S1.lookup ?_;dsimp only;rw [<-fS];cbv;refine .add (by omega) (by omega) λnx Mc=>?_;cbv;refine .ne (λe=>?_) λe=>?_;rotate_left
 ·cbv;exact bq h1 (λq=>e (by dsimp only at q;rw [q,Mc,fS])) ar aM
 cbv;refine .of follows 8 ?_;obtain ⟨z1,z2,z3⟩:=uu.Xt;dsimp only at z1 z2 z3;have Tw:=ar;cbv;refine .of S1.cell rfl ?_;cbv;refine .of cx rfl ?_;cbv;refine .of cx rfl ?_;cbv;refine apC (es:=st) aM (he.mono ar) S1.st.sl ⟨by omega,keys⟩ (by omega) (by omega) (by omega) λrv se er h2 _ ke jc Fc Bo aq aN=>?_;have aO:Mod h h2 []:=(ar.trans aq).mono λl o _ hl=>by simp at hl
 have S2:=S1.mono aq;have cR:=aq.get cx;have SN:lb≠lp:=λe=>by subst e;rw [C] at gG;cases gG
 have frv:Fr h rv:=λl hl=>ai ar (by simp) (Bo l hl);have nrv:∀z o,h.get z=some o->z∉af rv:=λz o hz hm=>by rw [frv z hm] at hz;cases hz
 obtain ⟨cst,zl⟩:∃cs,cs=dJ se:=⟨_,rfl⟩;cbv;refine .nil ?_;cbv;refine .one (vs':=[.ptr ls 0,lv,rv,.map lm]) aN S2.cell ke.sl.flat rfl rfl rfl λh3 X3 aF aR=>?_;have L3:aE h3 cX 6 lv log.length (cW log):=S2.log.mono aF (fk o2);have M3:=aF.get S2.mg (by simpa using Ne.symm o1);have gB:=aF.get cR (by simpa using SN);have fT:=ke.mono aF (fk (nrv lp _ C));have Ya:Mod h h3 [lp]:=(aO.trans aF).mono λl o _ hl=>by simpa using hl
 cbv;refine .nil ?_;cbv;refine .of follows 8 ?_;cbv;refine .of X3 rfl ?_;cbv;refine .of gB rfl ?_;cbv;refine .agg ?_;cbv;refine .of aR λl4 h4 vy X2 aD aQ=>?_;have hc4:=aD.get X3;cbv;refine .load hc4 rfl ?_;cbv;refine .nil ?_;cbv;refine .own aQ (L3.mono aD) (m:=1) (new:=[.str client,.int .i64 id,.int .i64 kind,.str aI,.str name,.str text]) (by simp only [de,vy];rfl) rfl rfl (by unfold bz;omega) (by decide) λlv5 h5 kh we aY bH=>?_;rw [show cW log++[V.str client,.int .i64 id,.int .i64 kind,.str aI,.str name,.str text]=cW (log++[⟨client,id,kind,aI,name,text⟩]) from by rw [rB];rfl,show log.length+1=(log++[(⟨client,id,kind,aI,name,text⟩:jB)]).length from by simp] at kh;have hc5:=aY.get hc4 o2;have hM5:=aY.get (aD.get M3) o4;have dB:=aD.get gB;have nlb:lb∉af lv:=λhm=>by obtain ⟨c',e2⟩:=L.row hm;rw [gG] at e2;cases e2
 have pU:=aY.get dB nlb;have hs5:=(fT.mono aD).mono aY (λz FC pV=>by obtain ⟨c',e2⟩:=L.row pV;exact nrv z _ e2 FC);have awq:=we.dG hc4 o2;have awr:=we.dG (aD.get M3) o4;cbv;refine .nil ?_;cbv;refine .one (vs':=[.ptr ls 0,lv5,rv,.map lm]) bH hc5 kh.sl.flat rfl rfl rfl λh6 hc6 bP cy=>?_;have hM6:=bP.get hM5 (by simpa using Ne.symm o1);have Rs:=bP.get pU (by simpa using SN);have pZ:=kh.mono bP (fk awq);have hs6:=hs5.mono bP (fk (nrv lp _ C));cbv;refine .nil ?_;cbv;refine .of follows 8 ?_;cbv;refine .of hc6 rfl ?_;cbv;refine .of Rs rfl ?_;cbv;refine .of Rs rfl ?_;cbv;refine .of cy hM6 λh7 hg7 cH eu=>?_;have hid:id=aW log client+1:=by rw [<-fS];omega
 have m04:Mod h h4 [lp]:=(Ya.trans aD).mono λl o _ hl=>by simpa using hl
 have aws:∀q,h4.get q=none->h.get q=none:=λq e2=>ai m04 (by simp;rintro rfl;rw [hc4] at e2;cases e2) e2;have R:nR h7 lp ⟨ls,lv5,rv,lm,log++[⟨client,id,kind,aI,name,text⟩],se,dh m client (.int .i64 id) c,dQ m client c⟩:=by
  refine ⟨cH.get hc6 (by simpa using o1),pZ.mono cH (fk awr),hs6.mono cH (fk (nrv lm _ M)),hg7,Yo.set client _,λe' It=>?_,λc'=>?_,good.snoc hid,by simp;omega,by simp;omega,Fc,λy hy=>(List.mem_append.1 hy).elim (may y) λhy=>by simp at hy;subst hy;exact uu⟩
  ·rcases ki It with q | ⟨_,q,_⟩
   ·exact ints e' q
   ·exact ⟨id,q⟩
  ·dsimp only
   rw [Jh,fO,last c']
   by_cases h:c'=client
   ·rw [if_pos h,if_pos h.symm]
   ·rw [if_neg h,if_neg (λq=>h q.symm)]
 have awt:∀q,q∈Ik.own ⟨ls,lv5,rv,lm,log++[⟨client,id,kind,aI,name,text⟩],se,dh m client (.int .i64 id) c,dQ m client c⟩ lp->q∈Ik.own ⟨ls,lv,sv,lm,log,st,m,c⟩ lp\/h.get q=none:=λq hq=>by
  simp only [Ik.own,List.mem_cons,List.mem_append] at hq ⊢;rcases hq with e1 | e1 | e1 | e1
  ·exact .inl (.inl e1)
  ·exact .inl (.inr (.inl e1))
  ·rcases we q e1 with e2 | e2
   ·exact .inr (aws q e2)
   ·exact .inl (.inr (.inr (.inl e2)))
  ·exact .inr (frv q e1)
 have M07:Mod h h7 (Ik.own ⟨ls,lv,sv,lm,log,st,m,c⟩ lp):=(((m04.trans aY).trans bP).trans cH).mono λl o _ hl=>by
  simp only [Ik.own,List.mem_cons,List.mem_append,List.not_mem_nil,or_false] at hl ⊢;rcases hl with ((e1 | e1) | e1) | e1
  ·exact .inl e1
  ·exact .inr (.inr (.inl e1))
  ·exact .inl e1
  ·exact .inr (.inl e1)
 cbv;refine .nil ?_;cbv;exact bw _ h7 hid R rfl rfl awt M07 eu
end K
namespace K
open Go Go.Dx Go.RowKit Go.Proofs
set_option maxRecDepth 100000
theorem _root_.Go.Dx.CX.aef {pf:Unit->Program} {G:Nat} {f:FuncId} {args:List V} {h:H} {Q Pn:V->H->Prop} {e:TypeId} {size n:Nat} {v:V} {cs:List V} (ho:aE h e size v n cs) (hv:v∈args) (k:(∀s,V.str s∈cs->∀b∈s,b<256)->CX pf G f args h Q Pn):CX pf G f args h Q Pn:=by
 refine ⟨λ{B w0 ρ w xs} R hG hx=>(k λs hs=>?_).out R hG hx⟩;obtain ⟨x,r⟩:=QM hx _ hv;have key:∀{l:Lb} {b:dZ},h.get l=some (.cells cs e 0 .yes)->ρ l=some b->∀y∈s,y<256:=λ{l b} hg hb=>by
  have c:dO ρ b cs e 0 .yes w:=R.obj l b _ hb hg;obtain ⟨i,hi,he⟩:=List.getElem_of_mem hs;obtain ⟨y,_,ry⟩:=c.cell i _ (by rw [List.getElem?_eq_getElem hi,he]);obtain ⟨t,rfl,ht⟩:=vI ry;intro z hz;rw [<-ht] at hz;unfold ax at hz;obtain ⟨u,_,rfl⟩:=List.mem_map.1 hz;exact u.toNat_lt
 cases ho with
 | nil=>simp at hs
 | ends hg _=>cases r with | sliceEnd _ _ _ _ hb _ _=>exact key hg hb
 | exact hg _=>cases r with | slice _ _ _ hb=>exact key hg hb
theorem eR.mono {h h':H}{ls:Lb}{s:xl}{g:Lg}{d:dR}{F:List Lb}(S:eR h ls s g d)(m:Mod h h' F)(hF:∀l,l∈s.own ls g d->l∉F:=by simp):eR h' ls s g d:=
 ⟨m.get S.cell (hF _ (by simp [xl.own])),m.get S.items (hF _ (by simp [xl.own])),S.iok,S.rows,S.log.mono m λl hl=>hF _ (by simp [xl.own,hl]),S.iE.mono m λl hl=>hF _ (by simp [xl.own,hl]),S.ok,S.apart⟩
structure Zs where
 r:Ik
 s:xl
 g:Lg
 d:dR
def Zs.own (z:Zs)(lp:Lb):List Lb:=z.r.own lp++z.s.own z.r.ls z.g z.d
structure E6 (h:H)(lp:Lb)(z:Zs)(n m:Nat):Prop where
 ub:nR h lp z.r
 sto:eR h z.r.ls z.s z.g z.d
 apart:∀q,q∈z.r.own lp->q∉z.s.own z.r.ls z.g z.d
 cons:Cons z.d
 aH:z.d.aH.length<=n
 bZ:z.g.bZ.length<=n
 next:z.g.next.toNat<=n+1
 v0:0<=z.s.version
 v1:z.s.version.toNat<=m
 items:z.s.items.length<=256*m
structure ZS (h h':H)(lp:Lb)(z z':Zs)(n m:Nat):Prop where
 at':E6 h' lp z' n m
 own:∀q,q∈z'.own lp->q∈z.own lp\/h.get q=none
 mod:Mod h h' (z.own lp)
 wf:Wf h'
 ld:z'.g.ld=z.g.ld
theorem eR.live {h:H}{ls:Lb}{s:xl}{g:Lg}{d:dR}(S:eR h ls s g d){q:Lb}(hq:q∈s.own ls g d):h.get q≠none:=by
 simp only [xl.own,List.mem_cons,List.mem_append] at hq;rcases hq with e | e | e | e
 ·rw [e,S.cell];simp
 ·rw [e,S.items];simp
 ·exact S.log.live e
 ·exact S.iE.live e
theorem nR.live {h:H}{lp:Lb}{r:Ik}(S:nR h lp r){q:Lb}(hq:q∈r.own lp):h.get q≠none:=by
 simp only [Ik.own,List.mem_cons,List.mem_append] at hq;rcases hq with e | e | e | e
 ·rw [e,S.cell];simp
 ·rw [e,S.mg];simp
 ·obtain ⟨r,hr⟩:=S.log.row e;rw [hr];simp
 ·obtain ⟨r,hr⟩:=S.st.row e;rw [hr];simp
theorem E6.live {h:H}{lp:Lb}{z:Zs}{n m:Nat}(Z:E6 h lp z n m){q:Lb}(hq:q∈z.own lp):h.get q≠none:=
 (List.mem_append.1 hq).elim (λe=>Z.ub.live e) λe=>Z.sto.live e
theorem E6.mono {h h':H}{lp:Lb}{z:Zs}{n m:Nat}{F:List Lb}(Z:E6 h lp z n m)(hm:Mod h h' F)(hF:∀l,l∈z.own lp->l∉F:=by simp):E6 h' lp z n m:=
 ⟨Z.ub.mono hm λl hl=>hF l (List.mem_append_left _ hl),Z.sto.mono hm λl hl=>hF l (List.mem_append_right _ hl),Z.apart,Z.cons,Z.aH,Z.bZ,Z.next,Z.v0,Z.v1,Z.items⟩
theorem E6.le {h:H}{lp:Lb}{z:Zs}{n m n' m':Nat}(Z:E6 h lp z n m)(hn:n<=n')(hm:m<=m'):E6 h lp z n' m':=by
 have:=Z.aH;have:=Z.bZ;have:=Z.next;have:=Z.v1;have:=Z.items;exact ⟨Z.ub,Z.sto,Z.apart,Z.cons,by omega,by omega,by omega,Z.v0,by omega,by omega⟩
theorem ZS.refl {h:H}{lp:Lb}{z:Zs}{n m:Nat}(Z:E6 h lp z n m)(hw:Wf h):ZS h h lp z z n m:=⟨Z,λ_q hq=>.inl hq,Mod.refl _ _,hw,rfl⟩
theorem ZS.le {h h':H}{lp:Lb}{z z':Zs}{n m n' m':Nat}(a:ZS h h' lp z z' n m)(hn:n<=n')(hm:m<=m'):ZS h h' lp z z' n' m':=⟨a.at'.le hn hm,a.own,a.mod,a.wf,a.ld⟩
theorem GK {h h':H}{F:List Lb}(m:Mod h h' F){q:Lb}(e:h'.get q=none):h.get q=none\/q∈F:=by
 cases hy:h.get q with
 | none=>exact .inl rfl
 | some o=>
   right
   refine Classical.byContradiction λhz=>?_;have:=m.get hy hz;rw [e] at this;cases this
theorem ZS.trans {h h1 h2:H}{lp:Lb}{z z1 z2:Zs}{n m n1 m1:Nat}(a:ZS h h1 lp z z1 n m)(b:ZS h1 h2 lp z1 z2 n1 m1):ZS h h2 lp z z2 n1 m1:=
 ⟨b.at',λq hq=>(b.own q hq).elim (a.own q) λe=>(GK a.mod e).symm,a.mod.fr b.mod λl hl=>(a.own l hl).symm,b.wf,b.ld.trans a.ld⟩
theorem ZS.beside {h h1 h2:H}{lp:Lb}{z z1:Zs}{n m:Nat}(a:ZS h h1 lp z z1 n m){F:List Lb}(hm:Mod h1 h2 F)(hw:Wf h2)(hF:∀l,l∈z1.own lp->l∉F:=by simp) (hn:∀l,l∈F->h.get l=none:=by simp):ZS h h2 lp z z1 n m:=
 ⟨a.at'.mono hm hF,a.own,a.mod.fr hm λl hl=>.inl (hn l hl),hw,a.ld⟩
end K
namespace K
open Go Go.Dx Go.RowKit
set_option maxRecDepth 100000
structure Nod (d:dR):Prop where
 seen:(cQ (said d.seen)).Nodup
 last:(cQ (said d.last)).Nodup
theorem bJ.nod {h:H}{ld:Lb}{d:dR}(D:bJ h ld d):Nod d:=⟨gk D.seen,gk D.last⟩
theorem OB.nod {d d':dR}{l:List DOp}(v:OB d l d'):Nod d->Nod d':=by
 induction v with
 | nil d=>exact id
 | @act d d' a room seen last aH held=>exact λn=>⟨by rw [seen];exact a.GA n.seen,by rw [last];exact n.last⟩
 | sync room seen last aH held=>exact λn=>⟨by rw [seen];exact n.seen,by rw [last];exact qQ _ n.last⟩
 | @flush d d' room seen last aH held=>exact λn=>⟨(seen.map _).nodup_iff.2 (by show (cQ (said d'.last)).Nodup;rw [last];exact qQ _ n.last),by rw [last];exact qQ _ n.last⟩
 | trans a b iha ihb=>exact λn=>ihb (iha n)
theorem OB.cons {d d':dR}{l:List DOp}(v:OB d l d'):Nod d->Cons d->Cons d':=by
 induction v with
 | nil d=>exact λ_ c=>c
 | @act d d' a room seen last aH held=>
   intro n C k;rw [seen,a.run_get n.seen,C k,last,aH];simp [yJ]
 | @sync d d' nm room seen last aH held=>
   intro n C k;rw [seen,last,aH,C k,Ln _ k n.last,Wl]
 | @flush d d' room seen last aH held=>
   intro n C k;have n':(cQ (said d'.last)).Nodup:=by rw [last];exact qQ _ n.last
   rw [Gy seen ((seen.map _).nodup_iff.2 n') k,aH];rfl
 | trans a b iha ihb=>exact λn c=>ihb (a.nod n) (iha n c)
structure Lk (h:H)(lg:Lb)(g:Lg)(d:dR):Prop where
 log:iQ h lg g
 iE:bJ h g.ld d
 ok:gS g d
 cons:Cons d
def Lg.all (g:Lg)(lg:Lb)(d:dR):List Lb:=g.own lg++d.own g.ld
theorem Lk.mono {h h':H}{lg:Lb}{g:Lg}{d:dR}{F:List Lb}(L:Lk h lg g d)(m:Mod h h' F)(hF:∀l,l∈g.all lg d->l∉F:=by simp):Lk h' lg g d:=
 ⟨L.log.mono m λl hl=>hF l (List.mem_append_left _ hl),L.iE.mono m λl hl=>hF l (List.mem_append_right _ hl),L.ok,L.cons⟩
theorem Lk.live {h:H}{lg:Lb}{g:Lg}{d:dR}(L:Lk h lg g d){l:Lb}(hl:l∈g.all lg d):h.get l≠none:=by
 rcases List.mem_append.1 hl with hl | hl
 ·simp only [Lg.own,List.mem_cons,List.mem_append] at hl
  rcases hl with rfl | hl | hl
  ·rw [L.log.cell];simp
  ·obtain ⟨r,hr⟩:=L.log.cm.row hl;rw [hr];simp
  ·obtain ⟨r,hr⟩:=L.log.bZ.row hl;rw [hr];simp
 ·exact L.iE.live hl
theorem T':∀(l:List (Int×Int)) (a b:Int),a<=b->(l.Pairwise λx y=>x.1<y.1)->(∀s,s∈l->a<=s.1/\s.1<b)->(l.length:Int)<=b - a
 | [],a,b,Pp,_,_=>by simp;omega
 | s::l,a,b,Pp,hp,hs=>by
   have h1:=hs s (by simp);rw [List.pairwise_cons] at hp;have:=T' l (s.1+1) b (by omega) hp.2 λt ht=>⟨by have:=hp.1 t ht;omega,(hs t (by simp [ht])).2⟩;simp only [List.length_cons];omega
theorem gS.WJ {g:Lg}{d:dR}(ok:gS g d):g.cm.length+1<=g.next.toNat:=by
 have h1:=ok.one;have:=T' g.cm 1 g.next h1 ok.aai ok.below;omega
structure LS (h h':H)(lg:Lb)(g g':Lg)(d d':dR)(k:Nat):Prop where
 lk:Lk h' lg g' d'
 ld:g'.ld=g.ld
 aH:d'.aH.length<=d.aH.length+k
 bZ:g'.bZ.length<=g.bZ.length+k
 next:g'.next.toNat<=g.next.toNat+k
 own:∀q,q∈g'.all lg d'->q∈g.all lg d\/h.get q=none
 mod:Mod h h' (g.all lg d)
 wf:Wf h'
theorem LS.refl {h:H}{lg:Lb}{g:Lg}{d:dR}(L:Lk h lg g d)(hw:Wf h)(k:Nat):LS h h lg g g d d k:=⟨L,rfl,by omega,by omega,by omega,λq hq=>.inl hq,Mod.refl _ _,hw⟩
theorem yS {h h':H}{F:List Lb}(m:Mod h h' F){q:Lb}(e:h'.get q=none):h.get q=none\/q∈F:=by
 cases hy:h.get q with
 | none=>exact .inl rfl
 | some o=>
   right
   refine Classical.byContradiction λhz=>?_;have:=m.get hy hz;rw [e] at this;cases this
theorem LS.trans {h h1 h2:H}{lg:Lb}{g g1 g2:Lg}{d d1 d2:dR}{k1 k2 k:Nat}(a:LS h h1 lg g g1 d d1 k1)(b:LS h1 h2 lg g1 g2 d1 d2 k2)(hk:k1+k2<=k):LS h h2 lg g g2 d d2 k:=by
 have ha:=a.aH;have hb:=b.aH;have ha2:=a.bZ;have cR:=b.bZ;have ha3:=a.next;have gB:=b.next;refine ⟨b.lk,b.ld.trans a.ld,by omega,by omega,by omega,λq hq=>?_,a.mod.fr b.mod λl hl=>(a.own l hl).symm,b.wf⟩;rcases b.own q hq with h | h
 ·exact a.own q h
 ·exact (yS a.mod h).symm
theorem Ua {h:H}{lg:Lb}{g:Lg}(L:iQ h lg g){Q:V->H->Prop} (hq:Q (.int .i64 g.next) h):CW pf G0 rR [.ptr lg 0] h Q:=by
 refine Ez.enter (by kernel_rfl) ?_;cbv;refine sa L.cell ?_;have C:=L.cell;generalize g.next=nx at*;cbv;refine .of C rfl ?_;cbv;exact hq
theorem mN {h:H}{lg:Lb}{g:Lg}{d:dR}{vb:V}{bs:List Nat}(hw:Wf h)(L:Lk h lg g d)(hn:d.aH.length<=999999999)(QH:g.next.toNat<=999999999)(dt:g.bZ.length<=999999999)
  (hb:Sl h 1 vb bs.length (ae bs)) (Nc:∀l,l∈af vb->l∉g.all lg d) (hl:bs.length<=9000000) (EJ:∀x∈bs,x<256) {Q:V->H->Prop}
  (hq:∀h' g' d' (n e:Int),LS h h' lg g g' d d' 1->Q (.tuple [.int .i64 n,.int .i64 e]) h'):CW pf G0 iX [.ptr lg 0,vb] h Q:=by
 have hsg:=L.ok.WJ;have AG:=L.ok.one;refine Bh hw L.log L.iE L.ok hn (by omega) dt (by omega) hb (λl hl=>⟨λhm=>Nc l hl (List.mem_append_left _ hm),λhm=>Nc l hl (List.mem_append_right _ hm)⟩) hl EJ (λh' d' ops e _ D' L' ok' dev ald m' w'=>?_) λh' g' d' ops D' L' ok' dev e1 e2 e3 ald m' w'=>?_
 ·have ha:=dev.dev.aH
  have h1:=dev.one;refine hq h' g d' 0 e ⟨⟨L',D',ok',dev.dev.cons L.iE.nod L.cons⟩,rfl,by omega,by omega,by omega,λq hq=>?_,m'.mono λl _ _ hl=>List.mem_append_right _ hl,w'⟩;rcases List.mem_append.1 hq with hq | hq
  ·exact .inl (List.mem_append_left _ hq)
  ·exact (ald q hq).imp_left λx=>List.mem_append_right _ x
 ·have ha:=dev.dev.aH
  have h1:=dev.one;refine hq h' g' d' g.next 0 ⟨⟨L',e1▸D',ok',dev.dev.cons L.iE.nod L.cons⟩,e1,by omega,by rw [e3];simp,by rw [e2];omega,λq hq=>?_,m',w'⟩;unfold Lg.all at hq;rw [e1] at hq;exact ald q hq
theorem LG {h:H}{lg:Lb}{g:Lg}{d:dR}(hw:Wf h)(L:Lk h lg g d)(hn:d.aH.length<=1000000000){Q:V->H->Prop}
  (hq:∀h' d' (e:Int),LS h h' lg g g d d' 0->Q (.int .i64 e) h'):CW pf G0 kJ [.ptr lg 0] h Q:=by
 refine HD hw L.log L.iE L.ok hn (λ_=>?_) λh2 d2 nm a1 a2 a3 a4 a5 a6 _ a7 a8 a9=>?_
 ·exact hq h d 0 (LS.refl L hw 0)
 ·have dev:OB d [.sync nm] d2:=.sync a2 a3 a4 a5 a6
  refine hq h2 d2 0 ⟨⟨L.log.mono a8 (L.log.iK L.iE),a1,L.ok.same a3,dev.cons L.iE.nod L.cons⟩,rfl,by rw [a5];exact List.length_filter_le _ _,by omega,by omega,λq hq=>?_,a8.mono λl _ _ hl=>List.mem_append_right _ hl,a9⟩;rcases List.mem_append.1 hq with hq | hq
  ·exact .inl (List.mem_append_left _ hq)
  ·exact (a7 q hq).imp_left λx=>List.mem_append_right _ x
end K
namespace K
open Go Go.Dx Go.RowKit Go.Proofs
set_option maxRecDepth 100000
def inD (o:zE):zE:=⟨[100,47]++o.key,o.gone,o.val⟩
noncomputable def agW:DC:=hZ (hZ (hZ (hZ iP.code)))
theorem QU:∀{l:List zE} {o:zE},o∈l->V.str o.key∈AI l/\V.str o.val∈AI l
 | x::r,o,h=>by
   rcases List.mem_cons.1 h with rfl | h
   ·simp [AI]
   ·have:=QU h
    simp only [AI,List.mem_cons];exact ⟨.inr (.inr (.inr this.1)),.inr (.inr (.inr this.2))⟩
theorem yU (v:Int):∀(l:List zE) (m:bF) (c:Nat),(lF v l m c).1.length<=m.length+l.length
 | [],m,c=>by simp [lF]
 | o::r,m,c=>by
   have:=yU v r (dh m o.key (.agg [.str o.key,.bool o.gone,.str o.val,.int .i64 v]) c) (dQ m o.key c);have h2:=Lu m o.key (.agg [.str o.key,.bool o.gone,.str o.val,.int .i64 v]) c;simp only [lF,List.length_cons];omega
theorem LH {h:H}{lp lb:Lb}{z:Zs}{x:jB}{t:List Nat}{ov:V}{ops:List zE}{n m:Nat}(hw:Wf h)(he:HE h)(Z:E6 h lp z n m)(hn:n<=10000000)(eU:m<=1000)(hz:L9 x)(uu:uq x)(hf:z.r.log.length<1000)
  (hb:h.get lb=some (.cells [.str x.client,.int .i64 x.id,.int .i64 x.kind,.str x.aI,.str x.name,.str x.text] cX 0 .yes)) (Qt:lb∉z.own lp) (hid:0<=x.id) (ht:t.length<=65536)
  (ho:aE h ej 3 ov ops.length (AI ops)) (hov:∀q,q∈af ov->q∉z.own lp) (hol:ops.length<=900000) (hoe:∀o∈ops,o.key.length<=1000000/\o.val.length<=65536) {Q:V->H->Prop}
  (bq:∀h' z' (e:Int),e≠0->ZS h h' lp z z' (n+1) m->z'.r=z.r->Q (.int .i64 e) h')
  (bw:∀h' z',ZS h h' lp z z' (n+1) (m+1)->z'.r.ls=z.r.ls->(x.id=aW z.r.log x.client+1/\z'.r.log=z.r.log++[x]\/x.id≠aW z.r.log x.client+1/\z'.r.log=z.r.log)->Q (.int .i64 0) h'):
  Fm pf G0 79 agW {tmps:=fV [p0,p3,p5,p7] [.ptr lp 0,.ptr lb 0,.str t,ov],defers:=[]} h (pW pf G0 [.tmp p4] Q) λ_ _ _=>False:=by
 obtain ⟨r,s,g,d⟩:=z;have A:=Z.ub;have SA:=Z.sto;dsimp only at A SA hf bq bw;have sL:=uu.Xt.1;obtain ⟨Fa,DI⟩:=hz.id;obtain ⟨client,id,kind,aI,name,text⟩:=x;dsimp only at sL Fa DI hid hb;have nlb:lb∉r.own lp:=λq=>Qt (List.mem_append_left _ q);have nov:∀q,q∈af ov->q∉r.own lp++s.own r.ls g d:=hov;have nlp:lp∈r.own lp:=by simp [Ik.own]
 have gC:=A.Fh;refine .of ?_;cbv;refine .of follows 10 ?_;cbv;refine .of A.cell rfl ?_;cbv;refine .of A.log.sl λk Ir hk=>?_;cbv;refine .add (by omega) (by omega) λk1 Xq=>?_;cbv;refine .of hb rfl ?_;cbv;refine .cat (by simp only [List.length_cons,List.length_nil];omega) λck uj=>?_;have aEe:ck.length<=1000002:=by rw [uj];simp;omega
 clear uj;cbv;refine .of hb rfl ?_;cbv;refine WG (by omega) (by omega) λlk O8=>?_;cbv;refine .load hb rfl ?_;cbv;refine .load hb rfl ?_;cbv;refine .nil ?_;cbv;refine .flat rfl ?_;cbv;refine .flat rfl ?_;cbv;refine QD Fa DI ?_;obtain ⟨dn,hdn⟩:∃dn,dn=dec id:=⟨_,rfl⟩;rw [<-hdn];cbv;refine .load hb rfl ?_;cbv;refine .nil ?_;cbv;refine .flat rfl ?_;cbv;refine .flat rfl ?_;cbv;refine .agg ?_;cbv;refine .agg ?_;cbv;refine .of hw λla h1 fS Bl ar aM=>?_;cbv;refine .nil ?_;have hoA:aE h1 ej 3 (.slice la 0 2 (.exact 2)) 2 (AI [⟨lk,false,t⟩,⟨ck,false,dn⟩]):=.exact fS rfl;have hfA:Fr h (.slice la 0 2 (.exact 2)):=λq hq=>by simp [af] at hq;subst hq;exact Bl
 have aEg:lk.length<=100:=by
  rw [O8];have:(vH k1.toNat).length<=19:=tT 18 _ (by omega);simp [ak8];omega
 have aEh:dn.length<=40:=by
  rw [hdn];exact (Ye ⟨Fa,DI⟩).2.1
 clear O8 hdn;cbv;refine .of (ho.sl.mono ar) λm hm0 hmn=>?_;cbv;refine .inv [p0,p3,p9,p49,p50,p51] (λm' aC h'=>∃(i:Int) (av:V),aC=[.ptr lp 0,.ptr lb 0,av,ov,.int .i64 m,.int .i64 i]/\0<=i/\i.toNat<=ops.length/\m'=ops.length - i.toNat/\aE h' ej 3 av (([⟨lk,false,t⟩,⟨ck,false,dn⟩]:List zE)++(ops.take i.toNat).map inD).length (AI (([⟨lk,false,t⟩,⟨ck,false,dn⟩]:List zE)++(ops.take i.toNat).map inD))/\Fr h av/\Mod h h' []/\Wf h') [_,_,_,_,_,_] rfl _ ⟨0,_,rfl,by omega,by simp,rfl,by simpa using hoA,hfA,ar,aM⟩ ?_;rintro m' _ h2 ⟨i,av,rfl,jG,hi,dY,ke,Bo,aq,aN⟩;have cR:=aq.get hb;cbv;refine .lt (λbA=>?_) λjb=>?_
 ·obtain ⟨o,ale⟩:∃o,ops[i.toNat]? =some o:=⟨_,List.getElem?_eq_getElem (by omega)⟩
  have awv:=hoe o (List.mem_of_getElem? ale);have vS:ops.take (i.toNat+1)=ops.take i.toNat++[o]:=by rw [List.take_add_one,ale];rfl
  obtain ⟨key,gone,val⟩:=o;dsimp only at awv;cbv;refine .of (ho.sl.mono aq) jG rfl (by omega) (zF ops _ _ ale) λq off heq=>?_;cbv;refine .ka heq rfl ?_;cbv;refine .of aN λle h3 CS lA aF aR=>?_;have fe:=ai aq (by simp) lA;cbv;refine .of (cs:=[.str key,.bool gone,.str val]) aR CS rfl rfl rfl rfl rfl rfl λh4 vL aD aQ=>?_;cbv;refine .of vL rfl ?_;cbv;refine .cat (by simp only [List.length_cons,List.length_nil];omega) λky hky=>?_;cbv;refine .one (vs':=[.str ky,.bool gone,.str val]) aQ vL rfl rfl rfl rfl λh5 Jj aY bH=>?_;cbv;refine .of Jj rfl ?_;cbv;refine .agg ?_;cbv;refine .of bH λl6 h6 Gu hf6 bP cy=>?_;have hle:le∉af av:=λpn=>by obtain ⟨c',e2⟩:=ke.row pn;rw [lA] at e2;cases e2
  have pZ:=(((ke.mono aF).mono aD (fk hle)).mono aY (fk hle)).mono bP;have bT:Mod h h6 []:=(((aq.trans aF).fr aD λl hl=>by simp at hl;subst hl;exact .inl fe).fr aY λl hl=>by simp at hl;subst hl;exact .inl fe).trans bP |>.mono λl o _ hl=>by simp at hl
  have Cc:(([⟨lk,false,t⟩,⟨ck,false,dn⟩]:List zE)++(ops.take i.toNat).map inD).length<=900002:=by simp;omega
  cbv;refine .own cy pZ (m:=1) (new:=[.str ky,.bool gone,.str val]) (by simp only [de,Gu];rfl) rfl rfl (by unfold bz;omega) (by decide) λav7 h7 Ma hg7 cH eu=>?_;have jQ:AI (([⟨lk,false,t⟩,⟨ck,false,dn⟩]:List zE)++(ops.take i.toNat).map inD)++[V.str ky,.bool gone,.str val]=AI (([⟨lk,false,t⟩,⟨ck,false,dn⟩]:List zE)++(ops.take (i.toNat+1)).map inD):=by
   rw [vS,List.map_append,<-List.append_assoc,CO _ (List.map inD [_]),hky];rfl
  have UE:(([⟨lk,false,t⟩,⟨ck,false,dn⟩]:List zE)++(ops.take i.toNat).map inD).length+1=(([⟨lk,false,t⟩,⟨ck,false,dn⟩]:List zE)++(ops.take (i.toNat+1)).map inD).length:=by rw [vS];simp
  rw [jQ,UE] at Ma;cbv;refine .add (by omega) (by omega) λj hj=>?_;have ur:j.toNat=i.toNat+1:=by omega
  cbv;exact ⟨rfl,ops.length - j.toNat,by omega,j,av7,rfl,by omega,by omega,rfl,by rw [ur];exact Ma,hg7.fr bT (by simp) Bo,bT.fr cH λl hl=>.inl (Bo l hl),eu⟩
 ·rw [List.take_of_length_le (by omega)] at ke
  have aww:((([⟨lk,false,t⟩,⟨ck,false,dn⟩]:List zE)++ops.map inD)).length=ops.length+2:=by simp
  have Fc:∀o,o∈(([⟨lk,false,t⟩,⟨ck,false,dn⟩]:List zE)++ops.map inD)->o.key.length<=100000000/\o.val.length<=100000000:=λo oe=>by
   simp only [List.cons_append,List.nil_append,List.mem_cons,List.mem_map] at oe;rcases oe with rfl | rfl | ⟨o',oe,rfl⟩
   ·exact ⟨by dsimp only;omega,by dsimp only;omega⟩
   ·exact ⟨by dsimp only;omega,by dsimp only;omega⟩
   ·have:=hoe o' oe
    simp only [inD,List.length_append,List.length_cons,List.length_nil];omega
  have S2:=A.mono aq;have T2:=SA.mono aq;have EJ:∀o,o∈(([⟨lk,false,t⟩,⟨ck,false,dn⟩]:List zE)++ops.map inD)->True:=λ_ _=>trivial;generalize (([⟨lk,false,t⟩,⟨ck,false,dn⟩]:List zE)++ops.map inD)=all at ke aww Fc;clear EJ;cbv;refine .of S2.cell rfl ?_;have awx:∀q,q∈af av->q∉s.own r.ls g d:=λq hq hm=>SA.live hm (Bo q hq);have apV:=Z.aH;have apW:=Z.bZ;have adI:=Z.next;have hv0:=Z.v0;have MG:=Z.v1;have hit:=Z.items;dsimp only at apV apW adI hv0 MG hit;have hsg:=SA.ok.WJ;have AG:=SA.ok.one;have aiq:∀q,h2.get q=none->h.get q=none:=λq e=>ai aq (by simp) e;cbv;refine CX.aef ke (by simp) λhby=>aaC aN T2 (by omega) (by omega) (by omega) (by omega) hv0 (by omega) ke.sl awx Fc (λo oe=>⟨hby _ (QU oe).1,hby _ (QU oe).2⟩) (by omega) (λh3 d3 awy e dj S3 dv sY aF aR=>?_) λh3 s3 g3 d3 awy pX S3 dv e1 e2 e3 e4 e5 e6 e7 e8 sY aF aR=>?_
  ·cbv;refine .uk dj ?_
   cbv;have da:=dv.dev.aH;have d1:=dv.one;have EY:∀q,q∈s.own r.ls g d3->q∈s.own r.ls g d\/h.get q=none:=λq hq=>by
    simp only [xl.own,List.mem_cons,List.mem_append] at hq ⊢;rcases hq with e | e | e | e
    ·exact .inl (.inl e)
    ·exact .inl (.inr (.inl e))
    ·exact .inl (.inr (.inr (.inl e)))
    ·exact (sY q e).imp (λx=>.inr (.inr (.inr x))) (aiq q)
   refine bq h3 ⟨r,s,g,d3⟩ e dj ⟨⟨S2.mono aF λq hq hm=>Z.apart q hq hm,S3,λq hq hm=>?_,dv.dev.cons SA.iE.nod Z.cons,by dsimp only;omega,by dsimp only;omega,by dsimp only;omega,hv0,MG,hit⟩,λq hq=>?_,(aq.trans aF).mono λq _ _ hq=>List.mem_append_right _ (by simpa using hq),aR,rfl⟩ rfl
   ·rcases EY q hm with e | e
    ·exact Z.apart q hq e
    ·exact A.live hq e
   ·rcases List.mem_append.1 hq with hq | hq
    ·exact .inl (List.mem_append_left _ hq)
    ·exact (EY q hq).imp_left λx=>List.mem_append_right _ x
  ·cbv;refine .eC rfl ?_
   have da:=dv.dev.aH;have d1:=dv.one;have EY:∀q,q∈s3.own r.ls g3 d3->q∈s.own r.ls g d\/h.get q=none:=λq hq=>(sY q hq).imp_right (aiq q);have S3':=S2.mono aF λq hq hm=>Z.apart q hq hm;have aJ:Mod h h3 (s.own r.ls g d):=(aq.trans aF).mono λq _ _ hq=>by simpa using hq
   have gB:=aJ.get hb λhm=>Qt (List.mem_append_right _ hm);cbv;refine .all gB rfl ?_;cbv;refine aee (x:=⟨client,id,kind,aI,name,text⟩) aR (he.mono aJ) S3' hz uu hf (λh4 dj aD aQ=>?_) λr4 h4 heq S4 els awz apX aD aQ=>?_
   ·cbv
    refine bw h4 ⟨r,s3,g3,d3⟩ ⟨⟨S3'.mono aD,S3.mono aD,λq hq hm=>?_,dv.dev.cons SA.iE.nod Z.cons,by dsimp only;omega,by dsimp only;rw [e8];simp;omega,by dsimp only;omega,by dsimp only;omega,by dsimp only;omega,?_⟩,λq hq=>?_,(aJ.trans aD).mono λq _ _ hq=>List.mem_append_right _ (by simpa using hq),aQ,e6⟩ rfl (.inr ⟨dj,rfl⟩)
    ·rcases EY q hm with e | e
     ·exact Z.apart q hq e
     ·exact A.live hq e
    ·have h5:=yU (s.version+1) all s.items s.ci
     rw [<-e5] at h5;have:=pX.iZ;dsimp only at h5 ⊢;omega
    ·rcases List.mem_append.1 hq with hq | hq
     ·exact .inl (List.mem_append_left _ hq)
     ·exact (EY q hq).imp_left λx=>List.mem_append_right _ x
   ·cbv
    have nap:∀q,q∈r4.own lp->q∉s3.own r.ls g3 d3:=λq hq hm=>by
     rcases apX q hq with e | e
     ·rcases EY q hm with e2 | e2
      ·exact Z.apart q e e2
      ·exact A.live e e2
     ·exact S3.live hm e
    have awA:∀q,q∈s3.own r.ls g3 d3->q∉r.own lp:=λq hm hq=>by
     rcases EY q hm with e2 | e2
     ·exact Z.apart q hq e2
     ·exact A.live hq e2
    refine bw h4 ⟨r4,s3,g3,d3⟩ ⟨⟨S4,by rw [els];exact S3.mono aD awA,by rw [els];exact nap,dv.dev.cons SA.iE.nod Z.cons,by dsimp only;omega,by dsimp only;rw [e8];simp;omega,by dsimp only;omega,by dsimp only;omega,by dsimp only;omega,?_⟩,λq hq=>?_,(aJ.trans aD).mono λq _ _ hq=>?_,aQ,e6⟩ els (.inl ⟨heq,awz⟩)
    ·have h5:=yU (s.version+1) all s.items s.ci
     rw [<-e5] at h5;have:=pX.iZ;dsimp only at h5 ⊢;omega
    ·unfold Zs.own at hq
     dsimp only at hq;rw [els] at hq;rcases List.mem_append.1 hq with hq | hq
     ·rcases apX q hq with e | e
      ·exact .inl (List.mem_append_left _ e)
      ·rcases GK aJ e with e2 | e2
       ·exact .inr e2
       ·exact .inl (List.mem_append_right _ e2)
     ·exact (EY q hq).imp_left λx=>List.mem_append_right _ x
    ·rcases List.mem_append.1 hq with hq | hq
     ·exact List.mem_append_right _ hq
     ·exact List.mem_append_left _ hq
end K
