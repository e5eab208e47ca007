/-
  The client's laws. Part EThere of the proof: ClientThere's function.
-/
import Derived.Test.YtdjlhmmfplhhdaaGreatDoorZBH
namespace K
open Go Go.Dx Go.RowKit Go.Proofs
set_option maxRecDepth 100000
theorem ZY (A:Jv){h:H}{v:V}{l:List M0}(hw:Wf h)(he:HE h)(D:xG h v l)(Oi:∀q,q∈ag v->h.get q≠none) (FL:∀x∈l,∀q,q∈ag x.lv->h.get q≠none) {Q:V->H->Prop}
  (hq:∀h',Q (.bool true) h'):CW pf G0 iE [v] h Q:=by
 refine qB.enter (by kernel_rfl) ?_;cbv;refine xI hw D (λh1 P aK=>?_) λh1 h60 Hl P aK=>?_
 ·cbv;refine A.Dy aK (he.mono P) λM _ _=>?_
  cbv;exact hq M
 cbv;refine A.begun aK λM ld lp z Z nu qx SK _ dN av aO=>?_;have T:Mod h M []:=(P.trans av).mono λq _ _ a=>by simp at a
 have uE:=he.mono T;have U:∀q,h.get q≠none->q∉z.own lp:=λq S w=>S (aj P (by simp) (dN q w));have B9:=D.sl.mono T;cbv;refine .of B9 λn fg Dr=>?_;cbv;refine .inv [p4,p24,p25,p26] (λm' G h'=>∃(i:Int) (k:Cz),G=[.ptr lp 0,v,.int .i64 n,.int .i64 i]/\0<=i/\i.toNat<=l.length/\m'=l.length - i.toNat/\gV M h' lp z k (40000*i.toNat) i.toNat/\k.r.nm=[99,49]/\k.r.base.length<=8*i.toNat/\bS k.r.nm k.r.base k.r.wait) [_,_,_,_] rfl _
  ⟨0,z,rfl,by omega,by simp,rfl,gV.refl Z aO,nu,by rw [qx];simp,by rw [SK];exact bS.nil _ _⟩ ?_
 rintro m' _ h3 ⟨i,z3,rfl,iB,I0,eF,T3,enm,hlen,an1⟩;have aS:=T3.wf;have xJ:=uE.mono T3.mod;cbv;refine .lt (λbA=>?_) λjl=>?_;rotate_left
 ·cbv;refine A.Dy aS xJ λh4 _ _=>?_
  cbv;exact hq h4
 obtain ⟨x,p⟩:∃x,l[i.toNat]? =some x:=⟨_,List.getElem?_eq_getElem (by omega)⟩;have DH:=List.mem_of_getElem? p;have bC:=I5 _ _ _ p;have s:SZ h3 x:=((D.each x DH).mono T).mono T3.mod λq a=>U q (FL x DH q a);have fK:=agr s;have as9:=Hl x DH;have hxl:=FL x DH;obtain ⟨op,mkd,mi,mn,mt,kind,af,from_,az,last,top,lv,J,N,kv,S6⟩:=x;unfold dcR at bC fK;dsimp only at bC fK;cbv;refine .of (B9.mono T3.mod λq a=>U q (Oi q a)) iB rfl (by omega) bC λsl off jA=>?_;cbv;refine .jC jA rfl ?_;cbv;refine .of aS λlx h4 FK Il aL aW=>?_;cbv;refine .of (cs:=[.int .i64 op,.int .i64 mkd,.str mi,.str mn,.str mt,.int .i64 kind,.str af,.int .i64 from_,.int .i64 az,.int .i64 last,.int .i64 top,lv,.int .i64 N,kv,.int .i64 S6]) aW FK rfl rfl rfl rfl fK rfl λh5 VM bf bK=>?_;have V5:Mod h3 h5 []:=aL.fr bf λq a=>.inl (by rw [List.mem_singleton] at a;rw [a];exact Il);cbv;refine .all VM rfl ?_;cbv;refine .agg ?_;cbv;refine .of bK λlb h6 Oq gi bR cz=>?_;have P9:Mod h3 h6 []:=(V5.trans bR).mono λq _ _ a=>by simp at a
 have Z6:=T3.at'.mono P9;have R6:gV M h6 lp z z3 (40000*i.toNat) i.toNat:=T3.trans ((gV.refl T3.at' aS).beside P9 cz);have D6:xG h6 (.slice lb 0 1 (.exact 1)) [⟨op,mkd,mi,mn,mt,kind,af,from_,az,last,top,lv,J,N,kv,S6⟩]:=⟨.row Oq rfl,by simp,λy hy=>by
  simp at hy;subst hy;exact s.mono P9⟩
 have FU:∀q,h.get q≠none->q∉z3.own lp:=λq S w=>(T3.own q w).elim (U q S) λe=>S (aj T (by simp) e);have nlb:∀q,q∈ag (.slice lb 0 1 (.exact 1))->q∉z3.own lp:=λq a w=>by
  simp [ag] at a;subst a;exact (T3.at'.mono V5).live w gi
 cbv;refine B6 cz (xJ.mono P9) Z6 (by omega) (by omega) (by omega) an1 D6 nlb (λy hy q a=>by
  simp at hy;subst hy;exact FU q (hxl q a)) (by simp) (λy hy=>by simp at hy;subst hy;exact as9) λR z7 T7 e1 e2 K=>?_
 have T07:=R6.trans T7;have F:z7.r.nm=[99,49]:=by rw [e1,enm]
 have ay5:z7.r.base.length<=8*(i.toNat+1):=by simp at e2;omega
 have hs7:Sl R 15 v l.length (VG l):=B9.mono T07.mod λq a=>U q (Oi q a);clear R6 e1 e2;have Z7:=T7.at';have r:=Z7.jr.good;have aBA:=Z7.jr.mw;have aBB:=Z7.jr.xC;have fC:∀(j:Nat) (x:ep),z7.r.base[j]? =some x->0<=x.id/\x.id.toNat=mq (z7.r.base.take j) x.af+1:=λj x p=>aj9 r p;have Yx:∀(j:Nat) (x:ep),z7.r.wait[j]? =some x->0<=x.id/\x.id.toNat=mq z7.r.base [99,49]+j+1/\x.af=[99,49]:=λj x p=>by
  have:=ags r K p
  rwa [F] at this
 cbv;refine tA T7.wf Z7.jr λbv h8 ob lo8=>?_;cbv;refine .of ob.sl λkb aBC hkb=>?_;cbv;refine .inv [p4,p8,p24,p25,p26,p35,p36,p37] (λO G h'=>∃(d j:Int),G=[.ptr lp 0,.int .i64 d,v,.int .i64 n,.int .i64 i,bv,.int .i64 kb,.int .i64 j]/\0<=j/\j.toNat<=z7.r.base.length/\O=z7.r.base.length - j.toNat/\0<=d/\d.toNat=mq (z7.r.base.take j.toNat) [99,49]/\d.toNat<=j.toNat/\Mod h8 h' []/\Wf h') [_,_,_,_,_,_,_,_] rfl _
  ⟨0,0,rfl,by omega,by simp,rfl,by omega,by simp [mq],by omega,Mod.refl _ _,lo8.wf⟩ ?_
 rintro O _ h9 ⟨d,j,rfl,YD,hjl,acN,aj7,agt,aBD,gE,th⟩;cbv;refine .lt (λM'=>?_) λZZ=>?_
 ·obtain ⟨y,hy⟩:∃y,z7.r.base[j.toNat]? =some y:=⟨_,List.getElem?_eq_getElem (by omega)⟩
  have S8:=dP _ _ _ hy;obtain ⟨P6,S9⟩:=fC _ _ hy;have m:=zV (z7.r.base.take j.toNat) y [99,49];rw [<-eM hy] at m;obtain ⟨yc,yi,yk,ys,yn,yt⟩:=y;dsimp only at S8 P6 S9 m;cbv;refine .of (ob.sl.mono gE) YD rfl (by omega) S8 λZV xO B'=>?_;cbv;refine .jC B' rfl ?_;cbv;refine .of th λly sQ g f ix qy=>?_;cbv;refine .of (cs:=[.str yc,.int .i64 yi,.int .i64 yk,.str ys,.str yn,.str yt]) qy g rfl rfl rfl rfl rfl rfl λVH C nG Dz=>?_;have X:Mod h9 VH []:=ix.fr nG λq a=>.inl (by rw [List.mem_singleton] at a;rw [a];exact f);have DI:Mod h8 VH []:=(gE.trans X).mono λq _ _ a=>by simp at a
  cbv;refine .of C rfl ?_;cbv;refine .seq (λheq=>?_) λcV=>?_
  ·rw [heq] at S9
   rw [if_pos heq] at m;cbv;refine .add (by omega) (by omega) λo hn2=>?_;cbv;refine .of C rfl ?_;cbv;refine .iz (by omega) ?_;cbv;refine .add (by omega) (by omega) λj2 JG=>?_;have Dp:j2.toNat=j.toNat+1:=by omega
   cbv;exact ⟨rfl,z7.r.base.length - j2.toNat,by omega,o,j2,rfl,by omega,by omega,rfl,by omega,by rw [Dp,m];omega,by omega,DI,Dz⟩
  ·rw [if_neg cV] at m
   cbv;refine .add (by omega) (by omega) λj2 JG=>?_;have Dp:j2.toNat=j.toNat+1:=by omega
   cbv;exact ⟨rfl,z7.r.base.length - j2.toNat,by omega,d,j2,rfl,by omega,by omega,rfl,by omega,by rw [Dp,m];omega,by omega,DI,Dz⟩
 have dA:j.toNat=z7.r.base.length:=by omega
 rw [dA,List.take_length] at agt;have L:Mod R h9 []:=(lo8.mod.trans gE).mono λq _ _ a=>by simp at a
 have Z9:=Z7.mono L;cbv;refine ga th Z9.jr λwv Sy ow u=>?_;cbv;refine .of ow.sl λkw aBE hkw=>?_;cbv;refine .inv [p4,p8,p24,p25,p26,p52,p53,p54] (λO G h'=>∃(o j:Int),G=[.ptr lp 0,.int .i64 o,v,.int .i64 n,.int .i64 i,wv,.int .i64 kw,.int .i64 j]/\0<=j/\j.toNat<=z7.r.wait.length/\O=z7.r.wait.length - j.toNat/\0<=o/\o.toNat=d.toNat+j.toNat/\Mod Sy h' []/\Wf h') [_,_,_,_,_,_,_,_] rfl _
  ⟨d,0,rfl,by omega,by simp,rfl,by omega,by omega,Mod.refl _ _,u.wf⟩ ?_
 rintro m3 _ ZP ⟨o,j2,rfl,ata,aBI,Na,SP,aj',jD,Z0⟩;have B:Mod R ZP []:=((L.trans u.mod).trans jD).mono λq _ _ a=>by simp at a
 cbv;refine .lt (λacO=>?_) λatb=>?_
 ·obtain ⟨y,hy⟩:∃y,z7.r.wait[j2.toNat]? =some y:=⟨_,List.getElem?_eq_getElem (by omega)⟩
  have S8:=dP _ _ _ hy;obtain ⟨P6,S9,FB⟩:=Yx _ _ hy;obtain ⟨yc,yi,yk,ys,yn,yt⟩:=y;dsimp only at S8 P6 S9 FB;subst FB;cbv;refine .of (ow.sl.mono jD) ata rfl (by omega) S8 λZV xO B'=>?_;cbv;refine .jC B' rfl ?_;cbv;refine .of Z0 λly h14 g f Ca aka=>?_;cbv;refine .of (cs:=[.str [99,49],.int .i64 yi,.int .i64 yk,.str ys,.str yn,.str yt]) aka g rfl rfl rfl rfl rfl rfl λh15 E JH W=>?_;have akb:Mod Sy h15 []:=(jD.trans (Ca.fr JH λq a=>.inl (by rw [List.mem_singleton] at a;rw [a];exact f))).mono λq _ _ a=>by simp at a
  cbv;refine .add (by omega) (by omega) λn3 hn3=>?_;cbv;refine .of E rfl ?_;cbv;refine .iz (by omega) ?_;cbv;refine .of E rfl ?_;cbv;refine .acM rfl ?_;cbv;refine .add (by omega) (by omega) λj3 Wc=>?_;cbv;exact ⟨rfl,z7.r.wait.length - j3.toNat,by omega,n3,j3,rfl,by omega,by omega,rfl,by omega,by omega,akb,W⟩
 have Z13:=Z7.mono B;cbv;refine ga Z0 Z13.jr λwv2 h16 ow2 an8=>?_;cbv;refine .of ow2.sl λkw2 ay' aBL=>?_;cbv;refine .Ij (by omega) ?_;have Y:Mod R h16 []:=(B.trans an8.mod).mono λq _ _ a=>by simp at a
 cbv;refine .add (by omega) (by omega) λi2 Ip=>?_;have hii:i2.toNat=i.toNat+1:=by omega
 cbv;exact ⟨rfl,l.length - i2.toNat,by omega,i2,z7,rfl,by omega,by omega,rfl,by
  rw [hii];exact (T07.trans ((gV.refl Z7 T7.wf).beside Y an8.wf)).le (by simp;omega) (by simp),F,by omega,K⟩
end K
