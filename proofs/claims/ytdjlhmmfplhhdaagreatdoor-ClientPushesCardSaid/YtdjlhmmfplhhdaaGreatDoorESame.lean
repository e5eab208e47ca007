/-
  The client's laws. Part ESame of the proof: The laws of layer 14: messages that are the same are found to be.
-/
import Derived.Test.YtdjlhmmfplhhdaaGreatDoorZBF
import Derived.Test.YtdjlhmmfplhhdaaGreatDoorZBG
namespace K
open Go Go.Dx Go.RowKit Go.Proofs
set_option maxRecDepth 100000
theorem acD {h:H}{kind from_ g last top:Int}{r:List Nat}{n vb:V}{l:List ep}(u:Wf h)(ha:Sl h 6 n l.length (cx l))(hb:Sl h 6 vb l.length (cx l))(O:l.length<=1000000000){Q:V->H->Prop} (z:∀h',Mod h h' []->Wf h'->Q (.bool true) h'):
  CW pf G0 pr [M5 kind r from_ g last top n,M5 kind r from_ g last top vb] h Q:=by
 refine Az.enter (by kernel_rfl) ?_;cbv;refine .agg ?_;cbv;refine .of u λy R D Sz B w=>?_;cbv;refine .agg ?_;cbv;refine .of w λJ m b JE f K=>?_;have a:=f.get D;have e:Mod h m []:=(B.trans f).mono λq _ _ s=>by simp at s
 have c:=ha.mono e;have p:=hb.mono e;cbv;refine .of a rfl ?_;cbv;refine .of b rfl ?_;cbv;refine .iz rfl ?_;cbv;refine .of a rfl ?_;cbv;refine .of b rfl ?_;cbv;refine .acM rfl ?_;cbv;refine .of a rfl ?_;cbv;refine .of b rfl ?_;cbv;refine .iz rfl ?_;cbv;refine .of a rfl ?_;cbv;refine .of b rfl ?_;cbv;refine .iz rfl ?_;cbv;refine .of a rfl ?_;cbv;refine .of b rfl ?_;cbv;refine .iz rfl ?_;cbv;refine .of a rfl ?_;cbv;refine .of b rfl ?_;cbv;refine .iz rfl ?_;cbv;refine .of a rfl ?_;cbv;refine .of c λY M Dr=>?_;cbv;refine .of b rfl ?_;cbv;refine .of p λX SP G=>?_;cbv;refine .iz (by omega) ?_;cbv;refine .of a rfl ?_;cbv;refine .of c λF v C=>?_;cbv;refine .inv [p2,p3,p57,p58] (λk A h'=>∃(i:Int),A=[.ptr y 0,.ptr J 0,.int .i64 F,.int .i64 i]/\0<=i/\i.toNat<=l.length/\k=l.length - i.toNat/\h'=m) [_,_,_,_] rfl _
  ⟨0,rfl,by omega,by simp,rfl,rfl⟩ ?_
 rintro k _ h3 ⟨i,rfl,o,I0,Z,rfl⟩;cbv;refine .lt (λW=>?_) λjl=>?_
 ·obtain ⟨x,L⟩:∃x,l[i.toNat]? =some x:=⟨_,List.getElem?_eq_getElem (by omega)⟩
  have d:=dP _ _ _ L;obtain ⟨xc,xi,P,xs,T,S⟩:=x;dsimp only at d;cbv;refine .of follows 11 ?_;cbv;refine .of a rfl ?_;cbv;refine .of c o rfl (by omega) d λZV off E=>?_;cbv;refine .jC E rfl ?_;cbv;refine .of b rfl ?_;cbv;refine .of p o rfl (by omega) d λN FQ Im=>?_;cbv;refine .jC Im rfl ?_;cbv;refine .same (JF _ _ _ _ _ _) ?_;cbv;refine .add (by omega) (by omega) λj U=>?_;cbv;exact ⟨rfl,l.length - j.toNat,by omega,j,rfl,by omega,by omega,rfl,rfl⟩
 ·cbv;exact z h3 e K
end K
