/-
  The sequencer's laws. Part EPages of the proof: SequencerPages: its function.
-/
import Derived.Test.YteajeefphbjnmaaGreatDoorZBF
import Derived.Test.YteajeefphbjnmaaGreatDoorESame
namespace K
open Go Go.Dx Go.RowKit Go.Proofs
set_option maxRecDepth 100000
theorem YP {log p:List jB}{k:Nat}(hp:p=(log.drop k).take 8)(hk:k<=log.length):log.take k++p=log.take (k+p.length):=by
 rw [hp,<-List.take_add]
 by_cases h:k+8<=log.length
 ·rw [show (List.take 8 (List.drop k log)).length=8 by rw [List.length_take,List.length_drop];omega]
 ·have e:(List.take 8 (List.drop k log)).length=log.length - k:=by rw [List.length_take,List.length_drop];omega
  rw [e,List.take_of_length_le (by omega),List.take_of_length_le (by omega)]
theorem YQ {l:List jB}(g:uo l)(hl:l.length<=1000000)(hm:∀x∈l,uq x):∀x∈l,L9 x:=λx hx=>by
 obtain ⟨i,hi⟩:=List.mem_iff_getElem?.1 hx;have hlen:=(List.getElem?_eq_some_iff.1 hi).1;have g1:=g i x hi;have g2:0<=aW (l.take i) x.client/\aW (l.take i) x.client<=(l.take i).length:=mo (λj y hy=>by
  have hj:=(List.getElem?_eq_some_iff.1 hy).1;rw [List.getElem?_take_of_lt (by rw [List.length_take] at hj;omega)] at hy;rw [List.take_take,Nat.min_eq_left (by rw [List.length_take] at hj;omega)];exact g j y hy) x.client
 rw [List.length_take] at g2;obtain ⟨s1,s2,s3⟩:=(hm x hx).Xt;exact ⟨by omega,by omega,by omega,by omega,by omega⟩
theorem last_pos {l:List jB}(g:uo l)(n:Nat)(c:List Nat):0<=aW (l.take n) c:=
 (mo (λj y hy=>by
  have hj:=(List.getElem?_eq_some_iff.1 hy).1;rw [List.getElem?_take_of_lt (by rw [List.length_take] at hj;omega)] at hy;rw [List.take_take,Nat.min_eq_left (by rw [List.length_take] at hj;omega)];exact g j y hy) c).1
theorem YR (A:Nw){h:H}{v:V}{l:List Mi}{client:List Nat}(hw:Wf h)(he:HE h)(D:rz h v l)(IY:∀q,q∈af v->h.get q≠none) (Bk:∀x∈l,∀q,q∈af x.lv->h.get q≠none) (sL:client.length<=9223372036854775807) {Q:V->H->Prop}
  (hq:∀h',Q (.bool true) h'):CW pf G0 fP [v,.str client] h Q:=by
 refine mZ.enter (by kernel_rfl) ?_;cbv;refine y5 hw D (λh1 ar aM=>?_) λh1 h40 HO ar aM=>?_
 ·cbv;refine A.sS aM (he.mono ar) λh2 _ _=>?_
  cbv;exact hq h2
 cbv;refine cz aM sL (λh2 aho aq aN=>?_) λh2 aho aq aN=>?_;rotate_left
 ·cbv;refine A.sS aN ((he.mono ar).mono aq) λh3 _ _=>?_
  cbv;exact hq h3
 have aO:Mod h h2 []:=(ar.trans aq).mono λq _ _ aU=>by simp at aU
 have ur:=he.mono aO;cbv;refine A.begun aN ur λh3 ld lp z Z I0 _ dt aF aR=>?_;have aJ:Mod h h3 []:=(aO.trans aF).mono λq _ _ aU=>by simp at aU
 have nz:∀q,h.get q≠none->q∉z.own lp:=λq hl hm=>hl (ai aO (by simp) (dt q hm));have D3:rz h3 v l:=⟨D.sl.mono aJ,D.Fh,λx hx=>(D.each x hx).mono aJ⟩;cbv;refine Dc aR (he.mono aJ) Z I0 D3 (λq aU=>nz q (IY q aU)) (λx hx q aU=>nz q (Bk x hx q aU)) h40 HO λh4 z4 T hlen=>?_;have vL:=(he.mono aJ).mono T.mod;have Z4:=T.at';have aQ:=T.wf;clear T;generalize RL:z4.r.log=log at*;cbv;refine .inv [p1,p6,p8] (λm' aC h'=>∃(k:Nat) (av:V) (z':Zs),aC=[.str client,.ptr lp 0,av]/\k<=log.length/\m'=log.length - k/\E6 h' lp z' 4000000 320/\z'.r=z4.r/\aE h' cX 6 av (log.take k).length (cW (log.take k))/\(∀q,q∈af av->q∉z'.own lp)/\HE h'/\Wf h') [_,_,_] rfl _
  ⟨0,.nilSlice 0,z4,rfl,by omega,rfl,Z4,rfl,.nil,by simp [af],vL,aQ⟩ ?_
 rintro m' _ h5 ⟨k,av,z5,rfl,hk,dY,Z5,Iu,kh,nav,Jj,bH⟩;have vO:(log.take k).length=k:=by rw [List.length_take];omega
 cbv;refine .of kh.sl λn eT hn=>?_;rw [vO] at hn;have ahp:z5.r.log=log:=by rw [Iu];exact RL
 have hpl:=λQ=>Jf (Q:=Q) (kind:=3) (client:=client) (from_:=0) (cookie:=n) (last:=0) (top:=0) (lv:=.nilSlice 0) (l:=[]) bH Z5 (by omega) (.nil 0) (by simp) (by simp) sL ⟨by omega,by omega⟩;rw [ahp] at hpl;cbv;refine .flat rfl ?_;cbv;refine .flat rfl ?_;cbv;refine .flat rfl ?_;cbv;refine hpl _ (λh' bq _ _=>?_) (λh' _ _ Iq _ _=>?_) λh6 z6 pv p E8 tp _ _ _ _ T6 vP hp pZ hfp az6 uj RH htp=>?_
 ·exact (bq ⟨rfl,aho,⟨eT,by omega⟩,rfl,rfl,rfl,rfl⟩).elim
 ·omega
 have cy:=T6.wf;have arQ:p.length<=8:=by rw [hp,List.length_take];omega
 have fpv:=pZ.sl.flat;generalize fS:aW (log.take E8.toNat) client=la at*;cbv;refine .of cy λlx h7 Fi I9 cH eu=>?_;cbv;refine .of (cs:=[.int .i64 4,.str [],.int .i64 n,.int .i64 E8,.int .i64 la,.int .i64 tp,pv]) eu Fi rfl rfl rfl rfl (by show (true&&(true&&(true&&(true&&(true&&(true&&(bU pv&&true)))))))=true;rw [fpv];rfl) rfl λh8 Is cO ew=>?_;have US:Mod h6 h8 []:=cH.fr cO λq aU=>.inl (by rw [List.mem_singleton] at aU;rw [aU];exact I9);have sd:=pZ.mono US;have Z8:=T6.at'.mono US;have afi:=(kh.mono T6.mod nav).mono US;cbv;refine .of follows 20 ?_;cbv;refine .eC rfl ?_;cbv;refine .of Is rfl ?_;cbv;refine .of afi.sl λn2 IW YL=>?_;cbv;refine .eC (by omega) ?_;cbv;refine .of Is rfl ?_;have S8:=Z8.ub;have C8:=S8.cell;have L8:=S8.log.sl;have afj:z6.r.log=log:=by rw [vP];exact ahp
 rw [afj] at L8;cbv;refine rA C8 L8 λtp2 UP h2t=>?_;refine .load Is rfl (.nil ?_);cbv;refine .eC (by omega) ?_;cbv;refine .of Is rfl ?_;cbv;refine .of afi.sl λn3 YI hn3=>?_;cbv;refine .of Is rfl ?_;cbv;refine .of sd.sl λn4 az7 hn4=>?_;cbv;refine .add (by omega) (by omega) λn5 hn5=>?_;cbv;refine .eC (by omega) ?_;cbv;refine .of Is rfl ?_;cbv;refine .of sd.sl λn6 aiR RM=>?_;have pe:p.length=0->k=log.length:=λe=>by
  rw [hp,List.length_take,List.length_drop] at e;omega
 have hpk:k+p.length<=log.length:=by
  have:p.length<=log.length - k:=by rw [hp,List.length_take,List.length_drop];omega
  omega
 have cf:log.take k++p=log.take E8.toNat:=by rw [uj,hn];exact YP (by rw [hp,hn]) hk
 have uu:=S8.may;rw [afj] at uu;have RN:=S8.good;rw [afj] at RN;have aiO:0<=la:=by rw [<-fS];exact last_pos RN _ _
 have ahr:∀x∈p,x∈log:=λx hx=>List.mem_of_mem_drop (List.mem_of_mem_take (hp▸hx));have amT:∀x∈p,uq x:=λx hx=>uu x (ahr x hx);have arR:∀x∈p,L9 x:=λx hx=>YQ RN (by omega) uu x (ahr x hx);have abM:∀q,q∈af av->h5.get q≠none:=λq aU=>by obtain ⟨r,hr⟩:=kh.row aU;rw [hr];simp
 have ahs:∀q,q∈z6.own lp->q∉af av:=λq aU hm=>by
  rcases T6.own q aU with a | a
  ·exact nav q hm a
  ·exact abM q hm a
 have arS:∀q,q∈af pv->q∉af av:=λq aU hm=>by
  rcases (hfp q aU).2 with a | a
  ·exact abM q hm a
  ·exact nav q hm a
 have Mb:=(Jj.mono T6.mod).mono US;cbv;refine .eq (λe0=>?_) λe0=>?_;cbv;refine .of Is rfl ?_;cbv;refine .of Is rfl ?_;cbv;refine .eC (by omega) ?_
 all_goals
  cbv;refine .of Is rfl ?_;cbv;refine .of Is rfl ?_;cbv;refine .Jk (by omega) ?_;cbv;refine .of Is rfl ?_;cbv;refine .own ew afi sd.sl.elems sd.sl.len (uv _) (by show _<=1099511627776;omega) (by decide) λav2 h9 Jl gr9 eU pd=>?_;rw [<-rB,<-List.length_append,cf] at Jl;have hx9:=eU.get Is (λhl=>by obtain ⟨r,hr⟩:=afi.row hl;rw [Is] at hr;cases hr);have Z9:=Z8.mono eU ahs;have arT:=sd.sl.mono eU arS;have arU:∀q,q∈af av2->q∉z6.own lp:=λq aU hm=>by
   rcases gr9 q aU with a | a
   ·exact Z8.live hm a
   ·exact ahs q hm a
  have he9:=Mb.mono eU;generalize sN:log.take E8.toNat=al at*;have amU:al.length<=1000000000:=by rw [<-sN,List.length_take];omega
  have rl:=λ{Q:V->H->Prop}=>abG (Q:=Q) (c:=client) pd Jl.sl amU;rw [fS] at rl;cbv;refine .of follows 8 ?_;cbv;refine .of hx9 rfl ?_;cbv;refine rl λvM gZ sU=>?_;have Rz:=gZ.get hx9;refine .load Rz rfl (.nil ?_);cbv;refine .eC rfl ?_;cbv;refine .all Rz rfl ?_;cbv;refine y8 (l:=p) sU (arT.mono gZ) arR (by omega) (by simp) ⟨by omega,by omega⟩ (λUN bq _ _=>?_) λUN _ pg De=>?_
  ·exact (bq (.patch rfl ⟨eT,by omega⟩ ⟨RH,by omega⟩ aiO (by omega) (by omega) arQ amT rfl)).elim
  have abN:Mod h9 UN []:=(gZ.trans pg).mono λq _ _ aU=>by simp at aU
  have amV:=pg.get Rz;refine .nil ?_;cbv;refine .eC rfl ?_;cbv;refine .of amV rfl ?_;cbv;refine .of amV rfl ?_;have Z11:=Z9.mono abN;have Bq:=Jl.mono abN;have amW:=he9.mono abN;cbv;refine .eq (λet=>?_) λet=>?_
  ·have arV:al=log:=by rw [<-sN,show E8.toNat=log.length by omega,List.take_length]
   rw [arV] at Bq;have S11:=Z11.ub;have C11:=S11.cell;have L11:=S11.log;rw [afj] at L11;cbv;refine rA C11 L11.sl λtp3 h30 h3t=>?_;cbv;refine CW.mono (Q:=λv Ip=>aE Ip cX 6 v log.length (cW log)/\Loc UN Ip v) ?_ ?_
   ·refine O7 De C11 L11 (by omega) (by omega) (λbq=>?_) λpv2 Ip p2 h00 h01 h02 rC ke Dg=>?_
    ·have:log=[]:=List.length_eq_zero_iff.1 (by omega)
     rw [this];exact ⟨.nil,Loc.nil De 0⟩
    ·have:p2=log:=by rw [rC];show (log.drop 0).take tp3.toNat=log;rw [h3t];simp
     rw [<-this];exact ⟨ke,Dg⟩
   rintro bv Ip ⟨abO,RA⟩;cbv;refine YN (l:=log) (RA.sl Bq.sl) abO.sl (by omega) ?_;cbv;refine A.sS RA.wf (amW.mono RA.mod) λh13 _ _=>?_;cbv;exact hq h13
  ·cbv
   exact ⟨rfl,log.length - E8.toNat,by omega,E8.toNat,av2,z6,rfl,by omega,rfl,Z11,vP.trans Iu,by rw [sN];exact Bq,arU,amW,De⟩
end K
