/-
  The sequencer's laws. Part ESame of the proof: The laws of layer 14: messages that are the same are found to be.
-/
import Derived.Test.YteajeefphbjnmaaGreatDoorEEq
import Derived.Test.YteajeefphbjnmaaGreatDoorZBF
namespace K
open Go Go.Dx Go.RowKit Go.Proofs
set_option maxRecDepth 100000
theorem I8 {h:H}{kind from_ cookie last top:Int}{client:List Nat}{va vb:V}{l:List jB}(hw:Wf h)(ha:Sl h 6 va l.length (cW l))(hb:Sl h 6 vb l.length (cW l))(hn:l.length<=1000000000){Q:V->H->Prop} (hq:∀h',Mod h h' []->Wf h'->Q (.bool true) h'):
  CW pf G0 oM [sc kind client from_ cookie last top va,sc kind client from_ cookie last top vb] h Q:=by
 refine zN.enter (by kernel_rfl) ?_;cbv;refine .agg ?_;cbv;refine .of hw λl1 h1 xv hf1 ar aM=>?_;cbv;refine .agg ?_;cbv;refine .of aM λl2 h2 jc Bo aq aN=>?_;have xw:=aq.get xv;have aO:Mod h h2 []:=(ar.trans aq).mono λq _ _ aU=>by simp at aU
 have ha2:=ha.mono aO;have cR:=hb.mono aO;cbv;refine .of xw rfl ?_;cbv;refine .of jc rfl ?_;cbv;refine .eC rfl ?_;cbv;refine .of xw rfl ?_;cbv;refine .of jc rfl ?_;cbv;refine .aht rfl ?_;cbv;refine .of xw rfl ?_;cbv;refine .of jc rfl ?_;cbv;refine .eC rfl ?_;cbv;refine .of xw rfl ?_;cbv;refine .of jc rfl ?_;cbv;refine .eC rfl ?_;cbv;refine .of xw rfl ?_;cbv;refine .of jc rfl ?_;cbv;refine .eC rfl ?_;cbv;refine .of xw rfl ?_;cbv;refine .of jc rfl ?_;cbv;refine .eC rfl ?_;cbv;refine .of xw rfl ?_;cbv;refine .of ha2 λn1 amX Fj=>?_;cbv;refine .of jc rfl ?_;cbv;refine .of cR λn2 IW YL=>?_;cbv;refine .eC (by omega) ?_;cbv;refine .of xw rfl ?_;cbv;refine .of ha2 λn3 YI hn3=>?_;cbv;refine .inv [p2,p3,p57,p58] (λm' aC h'=>∃(i:Int),aC=[.ptr l1 0,.ptr l2 0,.int .i64 n3,.int .i64 i]/\0<=i/\i.toNat<=l.length/\m'=l.length - i.toNat/\h'=h2) [_,_,_,_] rfl _
  ⟨0,rfl,by omega,by simp,rfl,rfl⟩ ?_
 rintro m' _ h3 ⟨i,rfl,jG,Nv,dY,rfl⟩;cbv;refine .lt (λbA=>?_) λjb=>?_
 ·obtain ⟨x,hx⟩:∃x,l[i.toNat]? =some x:=⟨_,List.getElem?_eq_getElem (by omega)⟩
  have bG:=ea _ _ _ hx;obtain ⟨xc,xi,xk,xs,xn,xt⟩:=x;dsimp only at bG;cbv;refine .of follows 11 ?_;cbv;refine .of xw rfl ?_;cbv;refine .of ha2 jG rfl (by omega) bG λYJ off iR=>?_;cbv;refine .ka iR rfl ?_;cbv;refine .of jc rfl ?_;cbv;refine .of cR jG rfl (by omega) bG λsl3 UJ aby=>?_;cbv;refine .ka aby rfl ?_;cbv;refine .same (RF _ _ _ _ _ _) ?_;cbv;refine .add (by omega) (by omega) λj hj=>?_;cbv;exact ⟨rfl,l.length - j.toNat,by omega,j,rfl,by omega,by omega,rfl,rfl⟩
 ·cbv;exact hq h3 aO aN
theorem Fg:∀l:List Mi,(∀x∈l,bU x.lv=true/\bU x.kv=true)->bd (Rx l)=true
 | [],_=>rfl
 | x::r,h=>by
   obtain ⟨a,b⟩:=h x (by simp);have c:=Fg r λy hy=>h y (by simp [hy]);show (true&&(true&&(true&&(true&&(true&&(true&&(true&&(bU x.lv&&(bU x.kv&&(true&&bd (Rx r)))))))))))=true
   rw [a,b,c];rfl
def Ry (kind:Int)(client:List Nat)(from_ cookie last top:Int)(lv:V)(ml:List jB):Mi:=⟨0,kind,client,from_,cookie,last,top,lv,ml,.nilSlice 0,0⟩
end K
