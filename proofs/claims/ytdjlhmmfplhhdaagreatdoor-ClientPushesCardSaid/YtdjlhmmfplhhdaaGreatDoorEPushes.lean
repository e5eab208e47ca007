/-
  The client's laws. Part EPushes of the proof: ClientPushes's function.
-/
import Derived.Test.YtdjlhmmfplhhdaaGreatDoorZBH
import Derived.Test.YtdjlhmmfplhhdaaGreatDoorESame
namespace K
open Go Go.Dx Go.RowKit Go.Proofs
set_option maxRecDepth 100000
variable{wait:List ep}
theorem age {f:List Nat}{base:List ep}(g:isName f)(w:bS f base wait)(h0:0<wait.length):xH f (wait.take 8):=by
 refine ⟨g,λe=>?_,by rw [List.length_take];omega,λx b=>?_,λi x y b hy=>?_⟩
 ·have:=congrArg List.length e
  rw [List.length_take,List.length_nil] at this;omega
 ·obtain ⟨i,hi⟩:=List.mem_iff_getElem?.1 (List.mem_of_mem_take b)
  obtain ⟨a,_,c⟩:=w i x hi;exact ⟨a,c⟩
 ·have FK:=(List.getElem?_eq_some_iff.1 b).1
  have d:=(List.getElem?_eq_some_iff.1 hy).1;rw [List.length_take] at FK d;rw [List.getElem?_take_of_lt (by omega)] at b hy;obtain ⟨_,h,_⟩:=w i x b;obtain ⟨_,j,_⟩:=w (i+1) y hy;omega
theorem Yw:isName [99,49]:=⟨λc a=>by simp at a;unfold kO;omega,by simp,by simp⟩
theorem V1 {a:List Nat}{base:List ep}(g:iY base)(h:base.length<=2000)(l:wait.length<=32)(w:bS a base wait):∀x∈wait,MQ x:=λx d=>by
 obtain ⟨i,hi⟩:=List.mem_iff_getElem?.1 d;have j:=(List.getElem?_eq_some_iff.1 hi).1;obtain ⟨_,b,c⟩:=w i x hi;obtain ⟨f,e,k⟩:=c.Bt;have:=dK g a;exact ⟨by omega,by omega,by omega,by constructor<;>omega⟩
theorem V3 (A:Jv){h:H}{v:V}{l:List M0}(hw:Wf h)(he:HE h)(D:xG h v l)(Oi:∀q,q∈ag v->h.get q≠none) (FL:∀x∈l,∀q,q∈ag x.lv->h.get q≠none) {Q:V->H->Prop}
  (E:∀h',Q (.bool true) h'):CW pf G0 ia [v] h Q:=by
 refine pL.oM (by kernel_rfl) ?_;refine .seq (.of ?_);cbv;refine .seq (.of ?_);cbv;refine xI hw D (λh1 M aK=>?_) λh1 h60 Hl M aK=>?_
 ·cbv;refine A.Dy aK (he.mono M) λR _ _=>?_
  cbv;exact E R
 cbv;refine .seq (.of ?_);cbv;refine A.begun aK λR ld lp z Z nu qx SK _ dN av aO=>?_;have aQ:Mod h R []:=(M.trans av).mono λq _ _ a=>by simp at a
 have uE:=he.mono aQ;have nz:∀q,h.get q≠none->q∉z.own lp:=λq hl hm=>hl (aj M (by simp) (dN q hm));have D2:xG R v l:=⟨D.sl.mono aQ,D.mw,λx r=>(D.each x r).mono aQ⟩;cbv;refine .seq (.of ?_);cbv;refine .seq (.of ?_);cbv;refine B6 aO uE Z (by omega) (by omega) (by rw [qx];simp) (by rw [SK];exact bS.nil _ _) D2 (λq a=>nz q (Oi q a)) (λx r q a=>nz q (FL x r q a)) h60 Hl λh3 z3 T enm hlen sN=>?_;have Z3:=T.at';have aS:=T.wf;have xJ:=uE.mono T.mod;have f:z3.r.nm=[99,49]:=by rw [enm,nu]
 have good:=Z3.jr.good;have mw:=Z3.jr.mw;have xC:=Z3.jr.xC;have Y:=V1 good mw xC sN;have C:=λh0=>age Z3.jr.name sN h0;rw [f] at C;clear T;cbv;refine .seq (.of ?_);cbv;refine ga aS Z3.jr λwv h4 ow vT=>?_;have Z4:=Z3.mono vT.mod;have Ay:=xJ.mono vT.mod;cbv;refine .seq (.of ?_);have K:=λ{Q:V->H->Prop} n bN=>acA (Q:=Q) vT.wf Z4.jr n bN;rw [f] at K;cbv;refine K (λd Yx bf bK=>?_) λd pv p h0 N op fp bf bK=>?_
 all_goals
  have V5:Mod h3 d []:=(vT.mod.trans bf).mono λq _ _ a=>by simp at a
  have Z5:=Z3.mono V5;have MR:=xJ.mono V5;have G:=ow.mono bf;have e:=λ{h':H} (m:Mod d h' []) (w:Wf h') {Q:V->H->Prop} E=>acB (Q:=Q) w (Z5.mono m).jr E;rw [f] at e
 ·cbv;refine .of bK λl6 h6 Dn V6 bR cz=>?_
  cbv;refine .of (cs:=[.int .i64 0,.str [],.int .i64 0,.int .i64 0,.int .i64 0,.int .i64 0,.nilSlice 0]) cz Dn rfl rfl rfl rfl rfl rfl λh7 tf db eJ=>?_;have B:Mod d h7 []:=bR.fr db λq a=>.inl (by rw [List.mem_singleton] at a;rw [a];exact V6);cbv;refine .seq (.of ?_);cbv;refine e B eJ λh8 n8 U asS L W=>?_;cbv;refine .of W λl9 h9 FM i gE th=>?_;cbv;refine .of (cs:=[.int .i64 3,.str [99,49],.int .i64 0,.int .i64 n8,.int .i64 0,.int .i64 0,.nilSlice 0]) th FM rfl rfl rfl rfl rfl rfl λu tq ix S=>?_;have SM:Mod h8 u []:=gE.fr ix λq a=>.inl (by rw [List.mem_singleton] at a;rw [a];exact i);have Oj:Mod d u []:=((B.trans L).trans SM).mono λq _ _ a=>by simp at a
  have c:=SM.get (L.get tf);cbv;refine .seq (.of ?_);cbv;refine .of (G.sl.mono Oj) λk zQ hk=>?_;have aBm:k=0:=by rw [Yx] at hk;simp at hk;omega
  cbv;refine .Ij (by omega) ?_;cbv;refine .all tq rfl ?_;cbv;refine zR (l:=[]) S (.nil 0) (by simp) (by simp) (by decide) (by constructor<;>omega) (λVH n _ _=>(n (.pull rfl Yw ⟨by omega,by omega⟩ rfl rfl rfl rfl)).elim) λVH _ nG Dz=>?_;cbv;refine .iz rfl ?_;cbv;refine .seq (.of ?_);cbv;refine .all (nG.get c) rfl ?_;cbv;refine acD (l:=[]) Dz (.nil 0) (.nil 0) (by simp) λSy o FN=>?_;cbv;refine A.Dy FN (((MR.mono Oj).mono nG).mono o) λZP _ _=>?_;cbv;exact E ZP
 ·have fpv:=op.sl.flat
  have hpz:∀x∈p,MQ x:=λx r=>by rw [N] at r;exact Y x (List.mem_of_mem_take r)
  have P:xH [99,49] p:=by rw [N];exact C h0
  have hp8:=P.tr;cbv;refine .of bK λl6 h6 Dn V6 bR cz=>?_;cbv;refine .of (cs:=[.int .i64 1,.str [99,49],.int .i64 0,.int .i64 0,.int .i64 0,.int .i64 0,pv]) cz Dn rfl rfl rfl rfl (by show (true&&(true&&(true&&(true&&(true&&(true&&(cf pv&&true)))))))=true;rw [fpv];rfl) rfl λh7 tf db eJ=>?_;have B:Mod d h7 []:=bR.fr db λq a=>.inl (by rw [List.mem_singleton] at a;rw [a];exact V6);cbv;refine .seq (.of ?_);cbv;refine e B eJ λh8 n8 U asS L W=>?_;cbv;refine .of W λl9 h9 FM i gE th=>?_;cbv;refine .of (cs:=[.int .i64 3,.str [99,49],.int .i64 0,.int .i64 n8,.int .i64 0,.int .i64 0,.nilSlice 0]) th FM rfl rfl rfl rfl rfl rfl λu tq ix S=>?_;have SM:Mod h8 u []:=gE.fr ix λq a=>.inl (by rw [List.mem_singleton] at a;rw [a];exact i);have Oj:Mod d u []:=((B.trans L).trans SM).mono λq _ _ a=>by simp at a
  have c:=SM.get (L.get tf);have anN:=op.mono Oj;have J:=G.mono Oj;cbv;refine .seq (.of ?_);cbv;refine .of J.sl λk zQ hk=>?_;cbv;refine .ZQ (by omega) ?_;cbv;refine .all tq rfl ?_;cbv;refine zR (l:=[]) S (.nil 0) (by simp) (by simp) (by decide) (by constructor<;>omega) (λVH n _ _=>(n (.pull rfl Yw ⟨by omega,by omega⟩ rfl rfl rfl rfl)).elim) λVH _ nG Dz=>?_;cbv;refine .iz rfl ?_;cbv;refine .seq (.of ?_);cbv;refine .of ?_;have I:=nG.get c;cbv;refine .of follows 8 ?_;cbv;refine .all I rfl ?_;cbv;refine zR (l:=p) Dz (anN.sl.mono nG) hpz (by omega) (by decide) (by constructor<;>omega) (λSy n _ _=>(n (.push rfl P rfl rfl rfl rfl)).elim) λSy _ o FN=>?_;refine .nil ?_;cbv;refine .nH rfl ?_;have s:=o.get I;have F:=(J.mono nG).mono o;have asT:=(anN.mono nG).mono o;have asU:=((MR.mono Oj).mono nG).mono o;cbv;refine .of s rfl ?_;cbv;refine .aio rfl ?_;cbv;refine .of s rfl ?_;cbv;refine .of F.sl λk2 FO uF=>?_;cbv;refine .of λy hy=>?_;cbv;refine .upto F (by omega) (by omega) λv2 j _=>?_;rw [zS] at j;have Ik:z3.r.wait.take y.toNat=p:=by
   rw [N];rcases Nat.lt_or_ge z3.r.wait.length 8 with g | g
   ·rw [List.take_of_length_le (by omega),List.take_of_length_le (by omega)]
   ·rw [show y.toNat=8 by omega]
  have MS:y.toNat=p.length:=by rw [N,List.length_take];omega
  rw [Ik,MS] at j;cbv;refine tu asT.sl j (by omega) ?_;refine .nil ?_;cbv;refine A.Dy FN asU λZP _ _=>?_;refine .nil ?_;cbv;exact E ZP
end K
