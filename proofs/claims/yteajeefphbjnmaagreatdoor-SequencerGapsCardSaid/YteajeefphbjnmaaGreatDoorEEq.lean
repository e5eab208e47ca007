/-
  The sequencer's laws. Part EEq of the proof: The laws of layer 14: lists that are the same are found to be; the last number of a client.
-/
import Derived.Test.YteajeefphbjnmaaGreatDoorZBE
namespace Go.Dx
open Go Go.RowKit
theorem bI.same {pf:Unit->Program} {ks:List PK} {cs:List V} {K:V->Prop} (h:du ks cs cs=some true) (hk:K (.bool false)):bI pf .neq (.agg ks) (.agg cs) (.agg cs) K:=
 ⟨.bool false,by simp [binOp,Je,RC,h,ob],hk⟩
end Go.Dx
namespace K
open Go Go.Dx Go.RowKit Go.Proofs
set_option maxRecDepth 100000
theorem RF (a:List Nat)(b c:Int)(d e f:List Nat):du [.str,.int,.int,.str,.str,.str] [.str a,.int .i64 b,.int .i64 c,.str d,.str e,.str f] [.str a,.int .i64 b,.int .i64 c,.str d,.str e,.str f]=some true:=by
 simp [du,gY,ob,jM,bO,aV,bN]
theorem abG {h:H}{v:V}{l:List jB}{c:List Nat}(hw:Wf h)(hs:Sl h 6 v l.length (cW l))(hn:l.length<=1000000000){Q:V->H->Prop} (hq:∀h',Mod h h' []->Wf h'->Q (.int .i64 (aW l c)) h'):CW pf G0 oL [v,.str c] h Q:=by
 refine zL.enter (by kernel_rfl) ?_;cbv;refine .of hs λn eT Bj=>?_;cbv;refine .inv [p1,p5,p8,p9,p10] (λm' aC h'=>∃(i la:Int),aC=[.str c,.int .i64 la,v,.int .i64 n,.int .i64 i]/\0<=i/\i.toNat<=l.length/\m'=l.length - i.toNat/\la=aW (l.take i.toNat) c/\Mod h h' []/\Wf h') [_,_,_,_,_] rfl _
  ⟨0,0,rfl,by omega,by simp,rfl,rfl,Mod.refl _ _,hw⟩ ?_
 rintro m' _ h1 ⟨i,la,rfl,jG,Nv,dY,fS,ar,aM⟩;cbv;refine .lt (λbA=>?_) λjb=>?_
 ·obtain ⟨x,hx⟩:∃x,l[i.toNat]? =some x:=⟨_,List.getElem?_eq_getElem (by omega)⟩
  have bG:=ea _ _ _ hx;have htk:=mf hx;obtain ⟨xc,xi,xk,xs,xn,xt⟩:=x;dsimp only at bG;cbv;refine .of (hs.mono ar) jG rfl (by omega) bG λYJ off iR=>?_;cbv;refine .ka iR rfl ?_;cbv;refine .of aM λlx h2 Fi I9 aq aN=>?_;cbv;refine .of (cs:=[.str xc,.int .i64 xi,.int .i64 xk,.str xs,.str xn,.str xt]) aN Fi rfl rfl rfl rfl rfl rfl λh3 Uv aF aR=>?_;have fU:Mod h1 h3 []:=aq.fr aF λq aU=>.inl (by rw [List.mem_singleton] at aU;rw [aU];exact I9);have aJ:Mod h h3 []:=(ar.trans fU).mono λq _ _ aU=>by simp at aU
  cbv;refine .of Uv rfl ?_;cbv;refine .seq (λheq=>?_) λdj=>?_
  ·cbv;refine .of Uv rfl ?_
   cbv;refine .add (by omega) (by omega) λj hj=>?_;have Ny:j.toNat=i.toNat+1:=by omega
   cbv;exact ⟨rfl,l.length - j.toNat,by omega,j,xi,rfl,by omega,by omega,rfl,by rw [Ny,htk,fO,if_pos heq],aJ,aR⟩
  ·cbv;refine .add (by omega) (by omega) λj hj=>?_
   have Ny:j.toNat=i.toNat+1:=by omega
   cbv;exact ⟨rfl,l.length - j.toNat,by omega,j,la,rfl,by omega,by omega,rfl,by rw [Ny,htk,fO,if_neg dj,fS],aJ,aR⟩
 ·have cf:i.toNat=l.length:=by omega
  rw [cf,List.take_length] at fS;cbv;rw [fS];exact hq h1 ar aM
theorem YN {h:H}{a b:V}{l:List jB}(ha:Sl h 6 a l.length (cW l))(hb:Sl h 6 b l.length (cW l))(hn:l.length<=1000000000){Q:V->H->Prop} (hq:Q (.bool true) h):CW pf G0 lO [a,b] h Q:=by
 refine wo.enter (by kernel_rfl) ?_;cbv;refine .of ha λn eT Bj=>?_;cbv;refine .of hb λn2 IW arv=>?_;cbv;refine .eC (by omega) ?_;cbv;refine .of ha λn3 YI arw=>?_;cbv;refine .inv [p0,p1,p12,p13] (λm' aC h'=>∃(i:Int),aC=[a,b,.int .i64 n3,.int .i64 i]/\0<=i/\i.toNat<=l.length/\m'=l.length - i.toNat/\h'=h) [_,_,_,_] rfl _
  ⟨0,rfl,by omega,by simp,rfl,rfl⟩ ?_
 rintro m' _ h1 ⟨i,rfl,jG,Nv,dY,rfl⟩;cbv;refine .lt (λbA=>?_) λjb=>?_
 ·obtain ⟨x,hx⟩:∃x,l[i.toNat]? =some x:=⟨_,List.getElem?_eq_getElem (by omega)⟩
  have bG:=ea _ _ _ hx;obtain ⟨xc,xi,xk,xs,xn,xt⟩:=x;dsimp only at bG;cbv;refine .of follows 9 ?_;cbv;refine .of ha jG rfl (by omega) bG λYJ off iR=>?_;cbv;refine .ka iR rfl ?_;cbv;refine .of hb jG rfl (by omega) bG λsl3 UJ aby=>?_;cbv;refine .ka aby rfl ?_;cbv;refine .same (RF _ _ _ _ _ _) ?_;cbv;refine .add (by omega) (by omega) λj hj=>?_;cbv;exact ⟨rfl,l.length - j.toNat,by omega,j,rfl,by omega,by omega,rfl,rfl⟩
 ·cbv;exact hq
end K
