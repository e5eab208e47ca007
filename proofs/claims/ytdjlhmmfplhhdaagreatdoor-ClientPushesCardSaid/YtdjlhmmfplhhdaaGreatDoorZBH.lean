/-
  The client's laws. Part ZBH of the proof: The laws of layer 15: others, play.
-/
import Derived.Recover
import Derived.Test.YtdjlhmmfplhhdaaGreatDoorProg
import Derived.WalkKit
import Derived.KernelRfl
import Derived.Sort.MapsRangeIn
import Derived.OwnWalkIn
import Derived.TacticsInMore
import Derived.RegionIn
import Derived.LoopNIn
import Derived.LoopIn
import Derived.Test.YtdjlhmmfplhhdaaGreatDoorZBG
import Derived.Test.YtdjlhmmfplhhdaaGreatDoorZAL
import Derived.Test.YtdjlhmmfplhhdaaGreatDoorZAZ
namespace K
open Go Go.Dx Go.RowKit Go.Proofs
set_option maxRecDepth 100000
variable{h:H}{lp:Lb}
def c2x (a:Int):ep:=⟨[99,50],a+1,2,[97],[],[117]⟩
def nD (base a:List ep)(k:Nat):List ep:=c2x (bP base [99,50])::a.take k
theorem Sb {W pv:V}{base a:List ep}{n:Int}(hw:Wf h)(hb:Sl h 6 W base.length (cx base))(hp:aG h cD 6 pv a.length (cx a))(MT:base.length<=2000)(hpl:a.length<=32)(good:iY base){Q:V->H->Prop}
  (hq:∀h' lv (k:Nat) (from_ ck:Int),0<=from_->from_.toNat=base.length->k<=7->0<=ck->ck.toNat=base.length+(nD base a k).length->aG h' cD 6 lv (nD base a k).length (cx (nD base a k))->Fr h lv->Mod h h' []->Wf h'->Q (M5 4 [] from_ ck 0 ck lv) h'):
  CW pf G0 mC [W,pv,.int .i64 n] h Q:=by
 refine xb.enter (by kernel_rfl) ?_;cbv;refine .of hw λY h1 Z dN ar aK=>?_;cbv;refine .of (hb.mono ar) λk zQ hk=>?_;cbv;refine .inv [p0,p1,p2,p6,p7,p11,SB,Yz] (λm' aB h'=>∃(i F:Int),aB=[W,pv,.int .i64 n,.ptr Y 0,.int .i64 F,W,.int .i64 k,.int .i64 i]/\0<=i/\i.toNat<=base.length/\m'=base.length - i.toNat/\F=bP (base.take i.toNat) [99,50]/\Mod h1 h' []/\Wf h') [_,_,_,_,_,_,_,_] rfl _
  ⟨0,0,rfl,by omega,by simp,rfl,rfl,Mod.refl _ _,aK⟩ ?_
 rintro m' _ h2 ⟨i,F,rfl,iB,I0,eF,E,fI,aO⟩;have av:Mod h h2 []:=(ar.trans fI).mono λq _ _ b=>by simp at b
 have d:=fI.get Z;cbv;refine .lt (λbA=>?_) λjl=>?_
 ·obtain ⟨x,hx⟩:∃x,base[i.toNat]? =some x:=⟨_,List.getElem?_eq_getElem (by omega)⟩
  have bC:=dP _ _ _ hx;have Ik:=eM hx;obtain ⟨xc,xi,xk,xs,xn,xt⟩:=x;dsimp only at bC;cbv;refine .of (hb.mono av) iB rfl (by omega) bC λZV off jA=>?_;cbv;refine .jC jA rfl ?_;cbv;refine .of aO λlx h3 FK Il B aS=>?_;cbv;refine .of (cs:=[.str xc,.int .i64 xi,.int .i64 xk,.str xs,.str xn,.str xt]) aS FK rfl rfl rfl rfl rfl rfl λh4 Ya aL U=>?_;have uo:Mod h2 h4 []:=B.fr aL λq b=>.inl (by rw [List.mem_singleton] at b;rw [b];exact Il);have Ca:Mod h1 h4 []:=(fI.trans uo).mono λq _ _ b=>by simp at b
  cbv;refine .of Ya rfl ?_;cbv;refine .seq (λheq=>?_) λcV=>?_
  ·cbv;refine .of Ya rfl ?_
   cbv;refine .add (by omega) (by omega) λj hj=>?_;have Dp:j.toNat=i.toNat+1:=by omega
   cbv;exact ⟨rfl,base.length - j.toNat,by omega,j,xi,rfl,by omega,by omega,rfl,by rw [Dp,Ik,dX,if_pos heq],Ca,U⟩
  ·cbv;refine .add (by omega) (by omega) λj hj=>?_
   have Dp:j.toNat=i.toNat+1:=by omega
   cbv;exact ⟨rfl,base.length - j.toNat,by omega,j,F,rfl,by omega,by omega,rfl,by rw [Dp,Ik,dX,if_neg cV,E],Ca,U⟩
 have dA:i.toNat=base.length:=by omega
 rw [dA,List.take_length] at E;obtain ⟨VJ,kK⟩:=dK good [99,50];have gb:(bP base [99,50]).toNat<=2000:=Nat.le_trans (Int.toNat_le.2 kK) MT;clear kK;rw [<-E] at VJ gb;have ke:c2x (bP base [99,50])=⟨[99,50],F+1,2,[97],[],[117]⟩:=by rw [E];rfl
 clear E;cbv;refine .of (hb.mono av) λA aeI ayg=>?_;cbv;refine .add (by omega) (by omega) λw ayi=>?_;cbv;refine .flat rfl ?_;cbv;refine .flat rfl ?_;cbv;refine .flat rfl ?_;cbv;refine .flat rfl ?_;cbv;refine .flat rfl ?_;cbv;refine .agg ?_;cbv;refine .agg ?_;cbv;refine .of aO λJ h3 l fK B aS=>?_;cbv;refine .flat rfl ?_;cbv;refine .flat rfl ?_;cbv;refine .flat rfl ?_;cbv;refine .of aS λlp h4 s f aL U=>?_;cbv;refine .of (cs:=[.int .i64 4,.str [],.int .i64 A,.int .i64 0,.int .i64 0,.int .i64 0,.slice J 0 1 (.exact 1)]) U s rfl rfl rfl rfl rfl rfl λh5 t bf bK=>?_;have ayk:=bf.get (aL.get l) (by simp;rintro rfl;rw [aL.get l] at s;cases s);have np:aG h5 cD 6 (.slice J 0 1 (.exact 1)) 1 (cx [⟨[99,50],w,2,[97],[],[117]⟩]):=.exact ayk rfl;have Na:Mod h h3 []:=(av.trans B).mono λq _ _ b=>by simp at b
 have alD:Mod h h4 []:=(Na.trans aL).mono λq _ _ b=>by simp at b
 have S:h.get J=none:=aj av (by simp) fK;have L:h.get lp=none:=aj Na (by simp) f;have o:Mod h h5 []:=alD.fr bf λq b=>by rw [List.mem_singleton] at b;subst b;exact .inl L
 have Fb:=hp.mono o;have N:J≠lp:=λe=>by rw [e] at l;have:=l;rw [f] at this;cases this
 cbv;refine .of follows 6 ?_;cbv;refine .of t rfl ?_;cbv;refine .of Fb.sl λk2 FO uF=>?_;cbv;refine .any λu hu=>?_;have M:=oO n;rw [<-hu] at M;obtain ⟨hu0,hu1⟩:=M;cbv;refine .rem (by omega) (by omega) λr hr=>?_;cbv;refine .i64 (by omega) (by omega) ?_;cbv;refine .of λy hy=>?_;cbv;refine .upto Fb (by omega) (by omega) λv hv hvl=>?_;rw [zS] at hv;have MS:y.toNat=(a.take y.toNat).length:=by rw [List.length_take];omega
 obtain ⟨pt,I⟩:∃pt,pt=a.take y.toNat:=⟨_,rfl⟩;rw [<-I] at MS hv;rw [MS] at hv;cbv;refine .own bK np (m:=pt.length) (new:=cx pt) hv.elems hv.len (ka _) (by unfold bg;omega) (by decide) λc h6 K H4 bR cz=>?_;rw [<-oH,show 1+pt.length=([(⟨[99,50],w,2,[97],[],[117]⟩:ep)]++pt).length from by simp;omega] at K;have ayl:=bR.get t (by simp [ag];exact Ne.symm N);have G:=H4.dp t (by simp [ag];exact Ne.symm N);have R:=K.sl.flat;cbv;refine .nil ?_;cbv;refine .one (vs':=[.int .i64 4,.str [],.int .i64 A,.int .i64 0,.int .i64 0,.int .i64 0,c]) cz ayl R rfl rfl rfl λh7 p db eJ=>?_;cbv;refine .nil ?_;have O8:=K.mono db (dJ G);have T:[(⟨[99,50],w,2,[97],[],[117]⟩:ep)]++pt=nD base a y.toNat:=by
  unfold nD;rw [ke,I,ayi];rfl
 rw [T] at O8;have hol:(nD base a y.toNat).length<=8:=by
  unfold nD;rw [List.length_cons,List.length_take];omega
 cbv;refine .of p rfl ?_;cbv;refine .of p rfl ?_;cbv;refine .of O8.sl λk3 anT V9=>?_;cbv;refine .add (by omega) (by omega) λck P7=>?_;cbv;refine .one (vs':=[.int .i64 4,.str [],.int .i64 A,.int .i64 ck,.int .i64 0,.int .i64 0,c]) eJ p rfl rfl rfl rfl λh8 C cU eL=>?_;cbv;refine .of C rfl ?_;cbv;refine .one (vs':=[.int .i64 4,.str [],.int .i64 A,.int .i64 ck,.int .i64 0,.int .i64 ck,c]) eL C rfl rfl rfl rfl λh9 aym gE th=>?_;have O:=bf.get (aL.get (B.get d)) (by simp;rintro rfl;rw [B.get d] at f;cases f);have P:Y≠J:=λe=>by rw [e] at d;rw [d] at fK;cases fK
 have nrp:Y≠lp:=λe=>by rw [e] at d;rw [B.get d] at f;cases f
 have ayn:=bR.get O (by simpa [ag] using P);have ayo:=H4.dp O (by simpa [ag] using P);have SY:Mod h6 h9 [lp]:=((db.trans cU).trans gE).mono λq _ _ b=>by simpa using b
 have ayp:=SY.get ayn (by simpa using nrp);cbv;refine .all aym rfl ?_;cbv;refine .of (cs:=[.int .i64 4,.str [],.int .i64 A,.int .i64 ck,.int .i64 0,.int .i64 ck,c]) th ayp rfl rfl rfl rfl (by show (true&&(true&&(true&&(true&&(true&&(true&&(cf c&&true)))))))=true;rw [R];rfl) rfl λsQ art ix qy=>?_;cbv;refine .all art rfl ?_;have f6:Fr h c:=H4.fr o (by simp) λq b=>by simp [ag] at b;subst b;exact S
 have aru:Mod h h6 []:=o.fr bR λq b=>.inl (by simp [ag] at b;subst b;exact S);have oE:Mod h h9 []:=aru.fr SY λq b=>.inl (by rw [List.mem_singleton] at b;subst b;exact L);rw [T] at K;cbv;refine hq sQ c y.toNat A ck aeI ayg (by omega) (by omega) (by omega) ((K.mono SY (dJ G)).mono ix (dJ ayo)) f6 (oE.fr ix λq b=>.inl (by rw [List.mem_singleton] at b;subst b;exact dN)) qy
structure CaS (h h':H)(lp:Lb)(z z':Cz)(n m:Nat):Prop where
 zs:gV h h' lp z z' n m
 nm:z'.r.nm=z.r.nm
 len:z'.r.base.length<=z.r.base.length+8
 wok:bS z'.r.nm z'.r.base z'.r.wait
theorem Fw {z:Cz}{n m:Nat}{kind from_ j last top:Int}{o:List Nat}{f:V}{l:List ep}(k:Wf h)(t:HE h)(Z:js h lp z n m)(r:n<=9000000)(p:m<=900)(c:bS z.r.nm z.r.base z.r.wait)(s:z.r.base.length<=1900)(hs:Sl h 6 f l.length (cx l))(i:∀q,q∈ag f->q∉z.own lp) (D:∀x∈l,MQ x) (u:l.length<=1000000) (FB:o.length<=9223372036854775807) (P7:i64 j) {Q:V->H->Prop}
  (d:∀v h' b,CaS h h' lp z b (n+1) (m+1)->Q v h'):
  CW pf G0 gA [.ptr lp 0,M5 kind o from_ j last top f] h Q:=
 JA k t Z r p c s hs i D u FB P7 (λh' e _ E y=>d _ h' z ⟨((gV.refl Z k).le (by omega) (by omega)).beside E y,rfl,by omega,c⟩)
  (λh' b e _ _ _ _ _ T g=>d _ h' b ⟨T.le (by omega) (by omega),by rw [g],by rw [g];omega,by rw [g];exact c⟩)
  λh' b _ A _ _ T C B G w=>d _ h' b ⟨T,C,by
   have F:l.length<=8:=by
    cases A with
    | push _ a=>exact a.tr
    | X3 _ _ _ _ _ _ a=>rw [a];simp
    | pull _ _ _ _ _ _ a=>rw [a];simp
    | patch _ _ _ _ _ _ a=>exact a
    | ami _ _ _ _ _ _ a=>rw [a];simp
   rw [B,List.length_append];omega,w⟩
theorem B6 {z:Cz}{n0 g:Nat}{v:V}{l:List M0}(hw:Wf h)(he:HE h)(Z:js h lp z n0 g)(hn:n0<=5000000)(F:g<=60)(hb:z.r.base.length<=480)(sN:bS z.r.nm z.r.base z.r.wait)(D:xG h v l)(hv:∀q,q∈ag v->q∉z.own lp) (Y:∀x∈l,∀q,q∈ag x.lv->q∉z.own lp) (h60:l.length<=60) (Hl:∀x∈l,JC x) {Q:V->H->Prop}
  (hq:∀h' z',gV h h' lp z z' (n0+40000*l.length) (g+l.length)->z'.r.nm=z.r.nm->z'.r.base.length<=z.r.base.length+8*l.length->bS z'.r.nm z'.r.base z'.r.wait->Q (.tuple []) h'):CW pf G0 py [.ptr lp 0,v] h Q:=by
 have hs:=D.sl;refine A5.enter (by kernel_rfl) ?_;cbv;refine .of hs λn fg Dr=>?_;cbv;refine .inv [p0,p6,p7,p8] (λm' aB h'=>∃(i:Int) (z':Cz),aB=[.ptr lp 0,v,.int .i64 n,.int .i64 i]/\0<=i/\i.toNat<=l.length/\m'=l.length - i.toNat/\gV h h' lp z z' (n0+40000*i.toNat) (g+i.toNat)/\z'.r.nm=z.r.nm/\z'.r.base.length<=z.r.base.length+8*i.toNat/\bS z'.r.nm z'.r.base z'.r.wait) [_,_,_,_] rfl _
  ⟨0,z,rfl,by omega,by simp,rfl,gV.refl Z hw,rfl,by omega,sN⟩ ?_
 rintro m' _ h1 ⟨i,z1,rfl,iB,I0,eF,T,w,hlen,m⟩;have aK:=T.wf;cbv;refine .lt (λbA=>?_) λjl=>?_;rotate_left
 ·cbv;exact hq h1 z1 (T.le (by omega) (by omega)) w (by omega) m
 obtain ⟨x,hx⟩:∃x,l[i.toNat]? =some x:=⟨_,List.getElem?_eq_getElem (by omega)⟩;have DH:=List.mem_of_getElem? hx;have bC:=I5 _ _ _ hx;have s:=(D.each x DH).mono T.mod (Y x DH);have fK:=afy s.VK.sl.flat s.kv;obtain ⟨h1l,S,J,h1t⟩:=Hl x DH;obtain ⟨op,mkd,mi,mn,mt,kind,af,from_,az,last,top,lv,C,N,kv,S6⟩:=x;have nW:=s.VK.sl;have FB:=s.af;have P7:=s.az;have K:∀y∈C,MQ y:=λy hy=>(s.VK.each y hy).1;unfold dcR at bC fK;dsimp only at bC fK nW FB P7 h1l S J h1t;cbv;refine .of (hs.mono T.mod hv) iB rfl (by omega) bC λsl off jA=>?_;cbv;refine .jC jA rfl ?_;cbv;refine .of aK λlx h2 FK Il av aO=>?_;cbv;refine .of (cs:=[.int .i64 op,.int .i64 mkd,.str mi,.str mn,.str mt,.int .i64 kind,.str af,.int .i64 from_,.int .i64 az,.int .i64 last,.int .i64 top,lv,.int .i64 N,kv,.int .i64 S6]) aO FK rfl rfl rfl rfl fK rfl λh3 Fz aI o=>?_;have W:Mod h1 h3 []:=av.fr aI λq f=>.inl (by rw [List.mem_singleton] at f;rw [f];exact Il);have Z3:=T.at'.mono W;have R3:gV h1 h3 lp z1 z1 (n0+40000*i.toNat) (g+i.toNat):=(gV.refl T.at' aK).beside W o;have T3:=T.trans R3;have ayq:=nW.mono W;have xJ:=he.mono T3.mod;have hn3:n0+40000*i.toNat<=8000000:=by omega
 cbv;refine .of Fz rfl ?_;cbv;refine .any λu hu=>?_;have B:=oO op;rw [<-hu] at B;obtain ⟨hu0,hu1⟩:=B;cbv;refine .rem (by omega) (by omega) λr G=>?_;cbv;refine .i64 (by omega) (by omega) ?_;have next:∀{h4:H} {d:Cz} {j:Int},gV h3 h4 lp z1 d (n0+40000*i.toNat+40000) (g+i.toNat+1)->d.r.nm=z1.r.nm->d.r.base.length<=z1.r.base.length+8->bS d.r.nm d.r.base d.r.wait->j=i+1->∃(i:Int) (z':Cz),[V.ptr lp 0,v,.int .i64 n,.int .i64 j]=[V.ptr lp 0,v,.int .i64 n,.int .i64 i]/\0<=i/\i.toNat<=l.length/\l.length - j.toNat=l.length - i.toNat/\gV h h4 lp z z' (n0+40000*i.toNat) (g+i.toNat)/\z'.r.nm=z.r.nm/\z'.r.base.length<=z.r.base.length+8*i.toNat/\bS z'.r.nm z'.r.base z'.r.wait:=λ{h4 d j} U E X A k=>by
  have Dp:j.toNat=i.toNat+1:=by omega
  refine ⟨j,d,rfl,by omega,by omega,rfl,?_,by rw [E,w],by omega,A⟩;rw [Dp];exact (T3.trans U).le (by omega) (by omega)
 have own:∀{M:V},Fr h3 M->∀q,q∈ag M->q∉z1.own lp:=λhf q f F=>Z3.live F (hf q f);have cw:z1.r.base.length<=1900:=by omega
 cbv;refine .eq (λA=>?_) λA=>?_
 ·cbv;refine .of Fz rfl ?_
  cbv;refine Oo o ayq (by omega) λM h4 ju YC O aW=>?_;cbv;refine Fw aW (xJ.mono O) (Z3.mono O) (by omega) (by omega) m cw ju.sl (own YC) K (by omega) FB P7 λ_ h5 z5 U=>?_;cbv;refine .add (by omega) (by omega) λj k=>?_;cbv;exact ⟨rfl,l.length - j.toNat,by omega,next ((((gV.refl Z3 o).beside O aW).trans U.zs).le (by omega) (by omega)) U.nm U.len U.wok k⟩
 cbv;refine .eq (λe4=>?_) λe4=>?_
 ·cbv;refine Vm o Z3 (by omega) (by omega) λh4 d e U G=>?_
  cbv;refine .add (by omega) (by omega) λj k=>?_;cbv;exact ⟨rfl,l.length - j.toNat,by omega,next (U.le (by omega) (by omega)) (by rw [G]) (by rw [G];omega) (by rw [G];exact m) k⟩
 have L:CW pf G0 gy [.ptr lp 0,Mu mkd mi mn mt] h3 λ_ h4=>∃d,gV h3 h4 lp z1 d (n0+40000*i.toNat+40000) (g+i.toNat+1)/\d.r.nm=z1.r.nm/\d.r.base.length<=z1.r.base.length+8/\bS d.r.nm d.r.base d.r.wait:=by
  refine JD o xJ Z3 (by omega) (by omega) (by omega) (by omega) (λh' z' a y _ _ U P=>⟨z',U.le (by omega) (by omega),by rw [P],by rw [P];omega,by rw [P];exact m⟩) λh' z' id P6 hid kJ aBa U E X A=>⟨z',U.le (by omega) (by omega),E,by rw [X];omega,?_⟩;rw [E,X,A];have:=dK Z3.jr.good z1.r.nm;exact m.snoc rfl (by dsimp only;omega) kJ
 cbv;refine .eq (λe5=>?_) λe5=>?_;rotate_left;cbv;refine .eq (λe6=>?_) λe6=>?_;rotate_left
 ·cbv;refine .of Fz rfl ?_
  cbv;refine L.mono λv4 h4 q4=>?_;obtain ⟨d,U,e7,e8,e9⟩:=q4;cbv;refine .add (by omega) (by omega) λj k=>?_;cbv;exact ⟨rfl,l.length - j.toNat,by omega,next U e7 e8 e9 k⟩
 all_goals
  cbv;refine .of follows 6 ?_;cbv;refine .of Fz rfl ?_;cbv;refine tA o Z3.jr λbv h4 ob vT=>?_;refine .load (vT.get Fz) rfl (.nil ?_);have Z4:=Z3.mono vT.mod;cbv;refine ga vT.wf Z4.jr λwv h5 ow MZ=>?_;have Z5:=Z4.mono MZ.mod;refine .load (MZ.get (vT.get Fz)) rfl (.nil ?_);have mw:=Z5.jr.mw;have xC:=Z5.jr.xC;cbv;refine Sb MZ.wf (ob.sl.mono MZ.mod) ow mw xC Z5.jr.good λh6 lv6 k6 aBb ck6 a1 a2 a3 a4 a5 oC V6 bR cz=>?_;have P9:Mod h3 h6 []:=((vT.mod.trans MZ.mod).trans bR).mono λq _ _ f=>by simp at f
  have Z6:=Z5.mono bR;have aru:Mod h3 h5 []:=(vT.mod.trans MZ.mod).mono λq _ _ f=>by simp at f
  have R:∀y∈nD z1.r.base z1.r.wait k6,MQ y:=λy hy=>by
   rcases List.mem_cons.1 hy with rfl | hy
   ·have:=dK Z5.jr.good [99,50]
    exact ⟨by simp [c2x],by simp [c2x],by simp [c2x],by simp only [c2x];constructor<;>omega⟩
   ·have F:=Z5.jr.R8 y (List.mem_of_mem_take hy)
    obtain ⟨s1,s2,s3⟩:=F.Bt;obtain ⟨iy,t⟩:=List.mem_iff_getElem?.1 (List.mem_of_mem_take hy);have bA:=(List.getElem?_eq_some_iff.1 t).1;obtain ⟨_,wid,_⟩:=m iy y t;have:=dK Z5.jr.good z1.r.nm;exact ⟨by omega,by omega,by omega,by constructor<;>omega⟩
  have hol:(nD z1.r.base z1.r.wait k6).length<=1000000:=by
   unfold nD;rw [List.length_cons,List.length_take];omega
  refine .nil ?_;cbv;refine Fw cz (xJ.mono P9) Z6 (by omega) (by omega) m cw oC.sl (λq f eF=>Z5.live eF (V6 q f)) R hol (by simp) (by constructor<;>omega) λ_ h7 z7 U=>?_;refine .nil ?_;cbv;refine .add (by omega) (by omega) λj k=>?_;cbv;exact ⟨rfl,l.length - j.toNat,by omega,next ((((gV.refl Z3 o).beside P9 cz).trans U.zs).le (by omega) (by omega)) U.nm U.len U.wok k⟩
end K
namespace K
open Go Go.Dx Go.RowKit Go.Proofs
set_option maxRecDepth 100000
variable{l:List ep}{j:Nat}
structure Jv:Prop where
 Dy:∀{h:H} {Q:V->H->Prop},Wf h->HE h->(∀h',Mod h h' []->Wf h'->Q (.bool true) h')->CW pf G0 nZ [] h Q
 begun:∀{h:H} {Q:V->H->Prop},Wf h->(∀h' ld lp z,js h' lp z 0 0->z.r.nm=[99,49]->z.r.base=[]->z.r.wait=[]->z.g.ld=ld->(∀q,q∈z.own lp->h.get q=none)->Mod h h' []->Wf h'->Q (.tuple [.ptr ld 0,.ptr lp 0,.bool true]) h')->CW pf G0 iD [.int .i64 16777216] h Q
theorem PT (g:iY l)(n:Nat):iY (l.take n):=λj y hy=>by
 have a:=(List.getElem?_eq_some_iff.1 hy).1;rw [List.length_take] at a;rw [List.getElem?_take_of_lt (by omega)] at hy;rw [List.take_take,Nat.min_eq_left (by omega)];exact g j y hy
theorem Dj {l:List ep}(g:iY l)(c:List Nat):∀n,n<=l.length->(bP (l.take n) c).toNat=mq (l.take n) c
 | 0,_=>by simp [bP,mq]
 | n+1,hn=>by
   obtain ⟨x,a⟩:∃x,l[n]? =some x:=⟨_,List.getElem?_eq_getElem (by omega)⟩;have d:=Dj g c n (by omega);have b:=g n x a;have h0:=(dK (PT g n) c).1;rw [eM a,dX,zV]
   by_cases e:x.af=c
   ·rw [if_pos e,if_pos e,b,e];omega
   ·rw [if_neg e,if_neg e];omega
theorem aj9 (g:iY l){x:ep}(a:l[j]? =some x):0<=x.id/\x.id.toNat=mq (l.take j) x.af+1:=by
 have b:=g j x a;have c:=(dK (PT g j) x.af).1;have h3:=Dj g x.af j (Nat.le_of_lt (List.getElem?_eq_some_iff.1 a).1);omega
theorem ags {b:List Nat}{base a:List ep}(g:iY base)(w:bS b base a){x:ep}(d:a[j]? =some x):0<=x.id/\x.id.toNat=mq base b+j+1/\x.af=b:=by
 obtain ⟨c,e,_⟩:=w j x d;have h3:=(dK g b).1;have h4:=Dj g b base.length (Nat.le_refl _);rw [List.take_length] at h4;exact ⟨by omega,by omega,c⟩
theorem agr {h:H}{x:M0}(D:SZ h x):aZ (dcR x)=true:=afy D.VK.sl.flat D.kv
end K
namespace Go.Dx
open Go Go.RowKit Go.Proofs
def Yc:FuncId->List V->H->Option H:=λf args h=>match Nat.beq f 211,args with
 | true,[_,_]=>some h
 | _,_=>none
theorem uu {P:Program}{Q:Exit->Act->List Frame->World->Prop} {a:Act} {cs:List Frame} {w:World} {x y:Code} (h:∀K:Act->List Frame->World->Prop,(∀a cs w,y.wpS P Q a cs w->K a cs w)->x.wpS P (Exit.thenS K Q) a cs w):(Code.seq x y).wpS P Q a cs w:=
 wpS_seq (h _ λ_ _ _ h=>h)
set_option maxRecDepth 20000 in
theorem Db (x y:Value)(w:World):CallsD Tryz.prog 211 #[x,y] .returning w λe u' w'=>∃v,e = .returned v/\u' = .returning/\w'=w:=by
 refine callsD_of_wpS Tryz.func211 rfl λa cs d=>?_;have c:recoverD (a::cs)=none:=by simp [recoverD,d]
 have f:({a with mode:=.returning}:Frame)=a:=by rw [<-d]
 have i:∀w,(eqGuard BinOp.eql 20 (.tmp 6) (.const .nilIface) .nilIface .nilIface).run Tryz.prog w = .ok () w:=λw=>by kernel_rfl
 have h:∀w,(Go.binOp .eql 20 .nilIface .nilIface).run Tryz.prog w = .ok (.bool true) w:=λw=>by kernel_rfl
 refine uu λK j=>?_;refine wpS_region ?_;simp [wpOpsS,List.range_succ,Region.wanted,execOp,resolve,invoke,builtin,c,Oper.upon,Act.put,Act.eval,Exit.thenS,Tryz.ntmps211];refine j _ _ _ (uu λK2 g=>?_);refine uu λK3 b=>?_;refine wpS_region ?_;simp [wpOpsS,List.range_succ,Region.wanted,execOp,Oper.upon,Act.put,Act.eval,Exit.thenS,i,h];refine b _ _ _ (wpS_cond (t:=true) ?_ ?_)
 ·simp [Act.eval]
 ·rw [if_pos rfl]
  refine wpS_of_wp (wp_ret ?_);exact ⟨rfl,.returning,by rw [f],.tuple #[],by kernel_rfl,.tuple #[],rfl,rfl,rfl⟩
theorem abS {G:Nat}:Cl Tryz.prog G Yc:=by
 intro f args h h' c B w0 ρ w xs R l j;unfold Yc at c;split at c
 ·rename_i a b d
  cases c;have d:f=211:=Nat.eq_of_beq_eq_true d;subst d;obtain ⟨x,y,rfl,_,_⟩:=j.two;refine ⟨by kernel_rfl,(Db x y w).mono λe u' w' g=>?_⟩;obtain ⟨v,i,k,rfl⟩:=g;exact ⟨v,i,k,ρ,Step.refl _ _,R⟩
 ·cases c
end Go.Dx
namespace Go.Proofs
open Go Go.RowKit Go.Dx
def ZB (w:World)(a:Option Nat):Prop:=a=none\/∃b c,a=some b/\w.heap[b]? =some (.map #[] c)
set_option maxRecDepth 100000 in
set_option maxHeartbeats 1000000 in
theorem Tz.arv (F:Fence)(n:Nat)(arw:F.fn 210)(hro:F.round=none)(l Bm:Nat)(w:World)(mb:Option Nat)(hm:w.cell? ⟨Bm,0,none⟩=some (.map mb))(hmb:ZB w mb):
  CallsIn F n Tryz.prog 210 #[.func (.yield l) #[] #[],.pointer (some ⟨Bm,0,none⟩)] w λe W'=>(∃v,e = .returned v)/\∃o,W'=w.alloc o:=by
 rcases hmb with rfl | ⟨b,c,rfl,hb⟩
 ·have h1:=@BY Tryz.prog w 140 _ _ Tryz.underlying140
  have h2:=@Fp Tryz.prog (w.alloc (.mapIter none 0 #[] 0)) w.heap.size 0 0 #[] (Go.Dx.heap_alloc_new _);refine callsIn_of_wp Tryz.func210 rfl arw ?_ hro;simp only [Tryz.ntmps210,List.size_toArray,List.length_cons,List.length_nil,Nat.reduceAdd,Nat.reduceSub,Array.replicate_succ,Array.replicate_zero,List.push_toArray,List.append_toArray,List.nil_append,List.cons_append]
  gi_wp2
  refine wpIn_loop_rounds 1 ?_;rw [roundsIn_succ]
  gi_wp2
  go_end0
  exact ⟨⟨_,rfl⟩,_,rfl⟩
 ·have h1:=Go.Dx.run_range_map (P:=Tryz.prog) Tryz.underlying140 hb
  have bA:=Go.Dx.nB hb;have h2:=@zH Tryz.prog (w.alloc (.mapIter (some b) c #[] c)) w.heap.size b c c c #[] (Go.Dx.heap_alloc_new _) ((Go.Dx.heap_alloc_old _ bA).trans hb);refine callsIn_of_wp Tryz.func210 rfl arw ?_ hro;simp only [Tryz.ntmps210,List.size_toArray,List.length_cons,List.length_nil,Nat.reduceAdd,Nat.reduceSub,Array.replicate_succ,Array.replicate_zero,List.push_toArray,List.append_toArray,List.nil_append,List.cons_append]
  gi_wp2
  refine wpIn_loop_rounds 1 ?_;rw [roundsIn_succ]
  gi_wp2
  go_end0
  exact ⟨⟨_,rfl⟩,_,rfl⟩
set_option maxRecDepth 100000 in
set_option maxHeartbeats 1000000 in
theorem Tz.arx (F:Fence)(n:Nat)(ary:F.fn 245)(hro:F.round=none)(l Bm:Nat)(w:World)(mb:Option Nat)(hm:w.cell? ⟨Bm,0,none⟩=some (.map mb))(hmb:ZB w mb):
  CallsIn F n Tryz.prog 245 #[.func (.yield l) #[] #[],.pointer (some ⟨Bm,0,none⟩)] w λe W'=>(∃v,e = .returned v)/\∃o,W'=w.alloc o:=by
 rcases hmb with rfl | ⟨b,c,rfl,hb⟩
 ·have h1:=@BY Tryz.prog w 102 _ _ Tryz.underlying102
  have h2:=@Fp Tryz.prog (w.alloc (.mapIter none 0 #[] 0)) w.heap.size 0 0 #[] (Go.Dx.heap_alloc_new _);refine callsIn_of_wp Tryz.func245 rfl ary ?_ hro;simp only [Tryz.ntmps245,List.size_toArray,List.length_cons,List.length_nil,Nat.reduceAdd,Nat.reduceSub,Array.replicate_succ,Array.replicate_zero,List.push_toArray,List.append_toArray,List.nil_append,List.cons_append]
  gi_wp2
  refine wpIn_loop_rounds 1 ?_;rw [roundsIn_succ]
  gi_wp2
  go_end0
  exact ⟨⟨_,rfl⟩,_,rfl⟩
 ·have h1:=Go.Dx.run_range_map (P:=Tryz.prog) Tryz.underlying102 hb
  have bA:=Go.Dx.nB hb;have h2:=@zH Tryz.prog (w.alloc (.mapIter (some b) c #[] c)) w.heap.size b c c c #[] (Go.Dx.heap_alloc_new _) ((Go.Dx.heap_alloc_old _ bA).trans hb);refine callsIn_of_wp Tryz.func245 rfl ary ?_ hro;simp only [Tryz.ntmps245,List.size_toArray,List.length_cons,List.length_nil,Nat.reduceAdd,Nat.reduceSub,Array.replicate_succ,Array.replicate_zero,List.push_toArray,List.append_toArray,List.nil_append,List.cons_append]
  gi_wp2
  refine wpIn_loop_rounds 1 ?_;rw [roundsIn_succ]
  gi_wp2
  go_end0
  exact ⟨⟨_,rfl⟩,_,rfl⟩
set_option maxRecDepth 100000 in
set_option maxHeartbeats 1000000 in
theorem Tz.amw (g:Nat)(lb:Array Value)(eg:∀args w,(callFunc g args).run Tryz.prog w = .ok (.enter g args) w) (w:World)
  (hg:∀l W,Below w.heap.size w W->CallsIn Fence.wide 0 Tryz.prog g (#[.func (.yield l) #[] #[]]++lb) W λe W'=>(∃v,e = .returned v)/\∃o,W'=W.alloc o):
  Calls Tryz.prog 251 #[.slice none 0 0,.func (.func g) #[] lb] w λe w'=>e = .returned (.slice none 0 0)/\Below w.heap.size w w':=by
 refine (callsIn_wide (n:=0)).1 ?_;refine callsIn_of_wp_marks Tryz.func251 rfl trivial ?_ rfl;simp only [Tryz.ntmps251,List.size_toArray,List.length_cons,List.length_nil,Nat.reduceAdd,Nat.reduceSub,Array.replicate_succ,Array.replicate_zero,List.push_toArray,List.append_toArray,List.nil_append,List.cons_append]
 gi_wp2
 refine jz rfl eg λfn L hL=>?_;have fC:Below w.heap.size w (w.alloc (.cells #[.slice none 0 0] 127)):=(Below.refl _ w).alloc (Nat.le_refl _) _;have cw:=(fC.alloc fC.size (.deferred (some [])));have dh:=cw.alloc cw.size (.loop L);refine (hg _ _ dh).mono ?_;rintro e W2 ⟨⟨v,rfl⟩,o,rfl⟩;have gZ:=dh.alloc dh.size o;obtain ⟨W3,RR⟩:∃W3,W3=(((w.alloc (.cells #[.slice none 0 0] 127)).alloc (.deferred (some []))).alloc (.loop L)).alloc o:=⟨_,rfl⟩;have q0:W3.heap[w.heap.size]? =some (.cells #[.slice none 0 0] 127):=by
  rw [RR,Go.Dx.heap_alloc_old _ (by simp<;>omega),Go.Dx.heap_alloc_old _ (by simp<;>omega),Go.Dx.heap_alloc_old _ (by simp<;>omega)];exact Go.Dx.heap_alloc_new _
 have q1:W3.heap[w.heap.size+1]? =some (.deferred (some [])):=by
  rw [RR,Go.Dx.heap_alloc_old _ (by simp<;>omega),Go.Dx.heap_alloc_old _ (by simp<;>omega)];have:=Go.Dx.heap_alloc_new (w:=w.alloc (.cells #[.slice none 0 0] 127)) (.deferred (some []))
  rwa [World.size_alloc] at this
 have q2:W3.heap[w.heap.size+2]? =some (.loop L):=by
  rw [RR,Go.Dx.heap_alloc_old _ (by simp<;>omega)];have:=Go.Dx.heap_alloc_new (w:=(w.alloc (.cells #[.slice none 0 0] 127)).alloc (.deferred (some []))) (.loop L)
  rwa [World.size_alloc,World.size_alloc] at this
 rw [<-RR] at gZ ⊢;rw [World.size_alloc];refine ⟨⟨_,rfl⟩,q2,?_⟩;obtain ⟨W4,VZ⟩:∃W4,W4=W3.putObj (w.heap.size+2) (.loop {L with state:=.exhausted}):=⟨_,rfl⟩;rw [<-VZ];have r0:W4.heap[w.heap.size]? =some (.cells #[.slice none 0 0] 127):=by rw [VZ];exact (World.putObj_heap_other (by omega)).trans q0
 have r1:W4.heap[w.heap.size+1]? =some (.deferred (some [])):=by rw [VZ];exact (World.putObj_heap_other (by omega)).trans q1
 have dH:Below w.heap.size w W4:=by rw [VZ];exact gZ.grown (Go.Dx.iV _ _ _) gZ.size (λk e=>by cases e;omega)
 obtain ⟨hc3,J9⟩:=Go.Dx.iW r0;clear VZ RR q0 q1 q2 gZ hL dh cw fC hg eg
 gi_wp2
 refine ⟨by simp,.inl ⟨_,_,rfl,run_takeDeferred r1,?_⟩⟩;exact ⟨_,results_tmp rfl _ _ _,rfl,dH.grown (Go.Dx.iV _ _ _) dH.size (λk e=>by cases e;omega)⟩
end Go.Proofs
namespace Go.Proofs
open Go Go.RowKit Go.Dx
theorem Tz.afz (w:World):(zeroValue 55).run Tryz.prog w = .ok (.agg #[.string ⟨#[]⟩,.string ⟨#[]⟩]) w:=by kernel_rfl
theorem Tz.amx:∃i z,Tryz.prog.info? 55=some i/\i.zero=some z/\i.size=2/\z.cells.size=2/\i.bytes<=1048576:=by
 have h:((Tryz.prog.info? 55).bind λi=>i.zero.map λz=>(i.size,z.cells.size,decide (i.bytes<=1048576)))=some (2,2,true):=by kernel_rfl
 cases hi:Tryz.prog.info? 55 with
 | none=>rw [hi] at h;cases h
 | some i=>
   cases hz:i.zero with
   | none=>simp [hi,hz] at h
   | some z=>
     simp [hi,hz] at h;exact ⟨i,z,rfl,hz,h.1,h.2.1,h.2.2⟩
theorem Tz.afA (w:World):(sizeOf 55).run Tryz.prog w = .ok 2 w:=by kernel_rfl
theorem ajJ {P:Program}(W:World)(c a k d:Value)(t:TypeId)(i:k.oneCell'=true)(j:d.oneCell'=true):
  ∃W1 W2,(store ⟨W.heap.size,0,none⟩ k).run P (W.alloc (.cells #[c,a] t)) = .ok () W1/\(store ⟨W.heap.size,1,none⟩ d).run P W1 = .ok () W2/\W2.heap[W.heap.size]? =some (.cells #[k,d] t (0,0))/\
   Below W.heap.size W W2/\KeepsWalks W W2/\W2.heap.size=W.heap.size+1/\W2.cell? ⟨W.heap.size,0,none⟩=some k/\W2.cell? ⟨W.heap.size,1,none⟩=some d/\W2.frozen? ⟨W.heap.size,0,none⟩=false:=by
 have h0:(W.alloc (.cells #[c,a] t)).heap[W.heap.size]? =some (.cells #[c,a] t (0,0)):=Go.Dx.heap_alloc_new _;have g:((W.alloc (.cells #[c,a] t)).setCell ⟨W.heap.size,0,none⟩ k).heap[W.heap.size]? =some (.cells #[k,a] t (0,0)):=by
  show ((W.alloc (.cells #[c,a] t)).heap.modify W.heap.size _)[W.heap.size]? =_
  rw [Array.getElem?_modify,if_pos rfl,h0];rfl
 have e:(((W.alloc (.cells #[c,a] t)).setCell ⟨W.heap.size,0,none⟩ k).setCell ⟨W.heap.size,1,none⟩ d).heap[W.heap.size]? =some (.cells #[k,d] t (0,0)):=by
  show (((W.alloc (.cells #[c,a] t)).setCell ⟨W.heap.size,0,none⟩ k).heap.modify W.heap.size _)[W.heap.size]? =_
  rw [Array.getElem?_modify,if_pos rfl,g];rfl
 refine ⟨(W.alloc (.cells #[c,a] t)).setCell ⟨W.heap.size,0,none⟩ k,((W.alloc (.cells #[c,a] t)).setCell ⟨W.heap.size,0,none⟩ k).setCell ⟨W.heap.size,1,none⟩ d,?_,?_,e,?_,?_,?_,?_,?_,?_⟩
 ·rw [run_store P _ _ k .plain i]
  have h:(W.alloc (.cells #[c,a] t)).cell? ⟨W.heap.size,0,none⟩=some c:=by unfold World.cell?;simp only [h0];rfl
  have f:(W.alloc (.cells #[c,a] t)).frozen? ⟨W.heap.size,0,none⟩=false:=by unfold World.frozen?;simp only [h0];rfl
  simp [h,f]
 ·rw [run_store P _ _ d .plain j]
  have h:((W.alloc (.cells #[c,a] t)).setCell ⟨W.heap.size,0,none⟩ k).cell? ⟨W.heap.size,1,none⟩=some a:=by unfold World.cell?;simp only [g];rfl
  have f:((W.alloc (.cells #[c,a] t)).setCell ⟨W.heap.size,0,none⟩ k).frozen? ⟨W.heap.size,1,none⟩=false:=by unfold World.frozen?;simp only [g];rfl
  simp [h,f]
 ·exact ((((Below.refl _ W).alloc (Nat.le_refl _) _).setCell (Nat.le_refl _) _).setCell (Nat.le_refl _) _)
 ·exact ((KeepsWalks.alloc _ _).trans (KeepsWalks.setCell _ _ _)).trans (KeepsWalks.setCell _ _ _)
 ·simp [World.setCell]
 ·unfold World.cell?;simp only [e];rfl
 ·unfold World.cell?;simp only [e];rfl
 ·unfold World.frozen?;simp only [e];rfl
def Sc (l:Nat)(x:Value)(w:World)(R:World->Prop):Prop:=
 ∀W1,Below w.heap.size w W1->YieldAt Fence.wide 0 Tryz.prog l #[x] W1 λe W'=>e = .returned (.bool true)/\KeepsWalks W1 W'/\R W'
set_option maxRecDepth 100000 in
set_option maxHeartbeats 1000000 in
theorem Tz.arz (l Bm b c:Nat)(en:MapEntry)(y1 y2:Value)(w:World)(hm:w.cell? ⟨Bm,0,none⟩=some (.map (some b)))(hb:w.heap[b]? =some (.map #[en] c))(hbn:en.born<c)(hv:en.val = .agg #[y1,y2])(o1:y1.oneCell'=true)(o2:y2.oneCell'=true)
  (R:World->Prop) (hY:Sc l (.agg #[y1,y2]) w R):
  CallsIn Fence.wide 0 Tryz.prog 281 #[.func (.yield l) #[] #[],.pointer (some ⟨Bm,0,none⟩)] w λe W'=>(∃v,e = .returned v)/\R W':=by
 have h1:=Go.Dx.run_range_map (P:=Tryz.prog) Tryz.underlying116 hb;have bA:=Go.Dx.nB hb;obtain ⟨W1,hW1⟩:∃W1,W1=w.alloc (.mapIter (some b) c #[] c):=⟨_,rfl⟩;have b1:W1.heap[b]? =some (.map #[en] c):=by rw [hW1];exact (Go.Dx.heap_alloc_old _ bA).trans hb
 have i1:W1.heap[w.heap.size]? =some (.mapIter (some b) c #[] c):=by rw [hW1];exact Go.Dx.heap_alloc_new _
 have B1:Below w.heap.size w W1:=by rw [hW1];exact (Below.refl _ w).alloc (Nat.le_refl _) _
 have s1:W1.heap.size=w.heap.size+1:=by rw [hW1];simp
 rw [<-hW1] at h1;clear hW1;have h2:=Mi (P:=Tryz.prog) i1 b1 hbn;rw [hv] at h2;obtain ⟨W2,hW2⟩:∃W2,W2=W1.putObj w.heap.size (.mapIter (some b) c #[en.born] c):=⟨_,rfl⟩;rw [<-hW2] at h2;have b2:W2.heap[b]? =some (.map #[en] c):=by rw [hW2];exact (World.putObj_heap_other (by omega)).trans b1
 have i2:W2.heap[w.heap.size]? =some (.mapIter (some b) c #[en.born] c):=by rw [hW2];exact World.putObj_heap_same (by omega)
 have B2:Below w.heap.size w W2:=by rw [hW2];exact B1.grown (Go.Dx.iV _ _ _) B1.size (λk e=>by cases e;omega)
 have s2:W2.heap.size=w.heap.size+1:=by rw [hW2];simp [s1]
 clear hW2;have h3:=Oc (P:=Tryz.prog) i2 b2;rw [hv] at h3;have hz:=Tz.afz;have fL:=Tz.afA;obtain ⟨W3,W4,f1,f2,f3,f4,f5,f6,f7,f8,f9⟩:=ajJ (P:=Tryz.prog) W2 (.string ⟨#[]⟩) (.string ⟨#[]⟩) y1 y2 55 o1 o2;rw [s2] at f1 f2 f3 f7 f8 f9;refine callsIn_of_wp Tryz.func281 rfl trivial ?_ rfl;simp only [Tryz.ntmps281,List.size_toArray,List.length_cons,List.length_nil,Nat.reduceAdd,Nat.reduceSub,Array.replicate_succ,Array.replicate_zero,List.push_toArray,List.append_toArray,List.nil_append,List.cons_append];clear B1 b1 i1 hb
 gi_wp2
 refine wpIn_loop_rounds 2 ?_;rw [roundsIn_succ];obtain ⟨fn,tmps,assign,body,hy,hR⟩:=hY W4 (B2.trans (f4.mono (by omega)));have k4:W4.heap[b]? =some (.map #[en] c):=f5.same b _ b2 rfl;have k5:W4.heap[w.heap.size]? =some (.mapIter (some b) c #[en.born] c):=f5.same _ _ i2 rfl
 gi_wp2
 refine ⟨rfl,hR.mono ?_⟩;rintro e W5 ⟨rfl,g1,g2⟩;have h4:=Ob (P:=Tryz.prog) (g1.same _ _ k5 rfl) (g1.same _ _ k4 rfl) hbn
 gi_wp2
 rw [roundsIn_succ]
 gi_wp2
 go_end0
 exact ⟨⟨_,rfl⟩,g2⟩
def ajK (w w':World)(e:TypeId)(c b:Value)(v:Value):Prop:=
 ∃g cap a,v = .slice (some ⟨g,0,none⟩) 1 cap/\w.heap.size<=g/\w'.heap[g]? =some (.cells a e (0,0))/\a.toList.take 2=[c,b]/\a.size=cap*2/\1<=cap
set_option maxRecDepth 100000 in
set_option maxHeartbeats 2000000 in
theorem Tz.amy (g:Nat)(lb:Array Value)(eg:∀args w,(callFunc g args).run Tryz.prog w = .ok (.enter g args) w) (w:World) (y1 y2:Value) (o1:y1.oneCell'=true) (o2:y2.oneCell'=true)
  (hg:∀l W (R:World->Prop),Below w.heap.size w W->Sc l (.agg #[y1,y2]) W R->CallsIn Fence.wide 0 Tryz.prog g (#[.func (.yield l) #[] #[]]++lb) W λe W'=>(∃v,e = .returned v)/\R W'):
  Calls Tryz.prog 311 #[.slice none 0 0,.func (.func g) #[] lb] w λe w'=>∃v,e = .returned v/\ajK w w' 55 y1 y2 v/\Below w.heap.size w w':=by
 refine (callsIn_wide (n:=0)).1 ?_;refine callsIn_of_wp_marks Tryz.func311 rfl trivial ?_ rfl;simp only [Tryz.ntmps311,List.size_toArray,List.length_cons,List.length_nil,Nat.reduceAdd,Nat.reduceSub,Array.replicate_succ,Array.replicate_zero,List.push_toArray,List.append_toArray,List.nil_append,List.cons_append]
 gi_wp2
 refine jz rfl eg λfn L hL=>?_;have fC:Below w.heap.size w (w.alloc (.cells #[.slice none 0 0] 42)):=(Below.refl _ w).alloc (Nat.le_refl _) _;have cw:=(fC.alloc fC.size (.deferred (some [])));have dh:=cw.alloc cw.size (.loop L);obtain ⟨W3,RR⟩:∃W3,W3=(((w.alloc (.cells #[.slice none 0 0] 42)).alloc (.deferred (some []))).alloc (.loop L)):=⟨_,rfl⟩;have q0:W3.heap[w.heap.size]? =some (.cells #[.slice none 0 0] 42 (0,0)):=by
  rw [RR,Go.Dx.heap_alloc_old _ (by simp<;>omega),Go.Dx.heap_alloc_old _ (by simp<;>omega)];exact Go.Dx.heap_alloc_new _
 have q1:W3.heap[w.heap.size+1]? =some (.deferred (some [])):=by
  rw [RR,Go.Dx.heap_alloc_old _ (by simp<;>omega)];have:=Go.Dx.heap_alloc_new (w:=w.alloc (.cells #[.slice none 0 0] 42)) (.deferred (some []))
  rwa [World.size_alloc] at this
 have q2:W3.heap[w.heap.size+2]? =some (.loop L):=by
  rw [RR];have:=Go.Dx.heap_alloc_new (w:=(w.alloc (.cells #[.slice none 0 0] 42)).alloc (.deferred (some []))) (.loop L)
  rwa [World.size_alloc,World.size_alloc] at this
 have s3:W3.heap.size=w.heap.size+3:=by rw [RR];simp
 rw [<-RR] at dh ⊢;clear RR cw fC;rw [World.size_alloc];have Ms:Sc (w.heap.size+2) (.agg #[y1,y2]) W3 λW'=>W'.heap[w.heap.size+2]? =some (.loop L)/\W'.heap[w.heap.size+1]? =some (.deferred (some []))/\
   (∃v,W'.heap[w.heap.size]? =some (.cells #[v] 42 (0,0))/\ajK w W' 55 y1 y2 v)/\Below w.heap.size w W':=by
  intro W1 B1;have p0:W1.heap[w.heap.size]? =some (.cells #[.slice none 0 0] 42 (0,0)):=(B1.block _ (by omega)).trans q0;have p1:W1.heap[w.heap.size+1]? =some (.deferred (some [])):=(B1.block _ (by omega)).trans q1;have p2:W1.heap[w.heap.size+2]? =some (.loop L):=(B1.block _ (by omega)).trans q2;have Bw:Below w.heap.size w W1:=dh.trans (B1.mono (by omega));have z1:w.heap.size+3<=W1.heap.size:=by have:=B1.size;omega
  clear B1 q0 q1 q2 dh hg;have hy:=run_yield (P:=Tryz.prog) (args:=#[.agg #[y1,y2]]) p2 (by rw [hL.params];rfl);rw [hL.fn,hL.assign,hL.params,hL.tmps,hL.body] at hy;simp at hy;refine ⟨_,_,_,_,hy,roundIn_of_wpIn trivial ?_⟩;have hz:=Tz.afz;have fL:=Tz.afA;obtain ⟨W4,W5,f1,f2,f3,f4,f5,f6,f7,f8,f9⟩:=ajJ (P:=Tryz.prog) W1 (.string ⟨#[]⟩) (.string ⟨#[]⟩) y1 y2 55 o1 o2;have r0:W5.heap[w.heap.size]? =some (.cells #[.slice none 0 0] 42 (0,0)):=(f4.block _ (by omega)).trans p0;have r1:W5.heap[w.heap.size+1]? =some (.deferred (some [])):=(f4.block _ (by omega)).trans p1;have r2:W5.heap[w.heap.size+2]? =some (.loop L):=(f4.block _ (by omega)).trans p2;have Bw5:Below w.heap.size w W5:=Bw.trans (f4.mono (by omega));clear hy
  gi_wp2_with (rw [Oper.semAt_eq _ _ _ (λc h=>by cases h)];go_simp;try go_bits)
  clear f1 f2;have hbr:=run_beginRound (P:=Tryz.prog) r2 hL.state;obtain ⟨W6,VY⟩:∃W6,W6=W5.putObj (w.heap.size+2) (.loop {L with state:=.busy}):=⟨_,rfl⟩;rw [<-VY] at hbr;have t0:W6.heap[w.heap.size]? =some (.cells #[.slice none 0 0] 42 (0,0)):=by rw [VY];exact (World.putObj_heap_other (by omega)).trans r0
  have t1:W6.heap[w.heap.size+1]? =some (.deferred (some [])):=by rw [VY];exact (World.putObj_heap_other (by omega)).trans r1
  have t2:W6.heap[w.heap.size+2]? =some (.loop {L with state:=.busy}):=by rw [VY];exact World.putObj_heap_same (by omega)
  have t3:W6.heap[W1.heap.size]? =some (.cells #[y1,y2] 55 (0,0)):=by rw [VY];exact (World.putObj_heap_other (by omega)).trans f3
  have Bw6:Below w.heap.size w W6:=by rw [VY];exact Bw5.grown (Go.Dx.iV _ _ _) Bw5.size (λk e=>by cases e;omega)
  have z6:W6.heap.size=W1.heap.size+1:=by rw [VY];simp [f6]
  have k6:KeepsWalks W1 W6:=by rw [VY];exact f5.trans (KeepsWalks.putObj _ r2 rfl)
  clear VY f3 f7 f8 f9;obtain ⟨c6,d6⟩:=Go.Dx.iW t0;have c61:W6.cell? ⟨W1.heap.size,0,none⟩=some y1:=by unfold World.cell?;simp only [t3];rfl
  have c62:W6.cell? ⟨W1.heap.size,1,none⟩=some y2:=by unfold World.cell?;simp only [t3];rfl
  obtain ⟨i73,zz,hi,ays,amz,OM,ayt⟩:=Tz.amx;have hcc:∀j v,([y1,y2]:List Value)[j]? =some v->(W6.alloc (.cells #[y1,y2] 55)).cell? ((⟨W1.heap.size+1,0,none⟩:Addr).add j)=some v:=λj v hv=>by
   rw [<-z6];have hn:=Go.Dx.heap_alloc_new (w:=W6) (.cells #[y1,y2] 55);rw [dk];show (W6.alloc (.cells #[y1,y2] 55)).cell? ⟨W6.heap.size,0+j,none⟩=some v
   unfold World.cell?;simp only [hn];rw [Nat.zero_add];simpa using hv
  obtain ⟨g',cap,cur,iK,hg',fE,zK,wB⟩:=Mj (P:=Tryz.prog) (w:=W6.alloc (.cells #[y1,y2] 55)) Tryz.underlying42 hi ays (by rw [OM,amz]) ayt (src:=⟨W1.heap.size+1,0,none⟩) (news:=[y1,y2]) (by rw [amz];rfl) hcc 42;rw [World.size_alloc] at hg';rw [amz] at fE zK;obtain ⟨W7,hW7⟩:∃W7,W7=(W6.alloc (.cells #[y1,y2] 55)).drew.alloc (.cells cur 55):=⟨_,rfl⟩;rw [<-hW7] at iK;have u0:W7.heap[w.heap.size]? =some (.cells #[.slice none 0 0] 42 (0,0)):=by rw [hW7];exact (Go.Dx.heap_alloc_old _ (by simp<;>omega)).trans ((Go.Dx.heap_alloc_old _ (by omega)).trans t0)
  have u1:W7.heap[w.heap.size+1]? =some (.deferred (some [])):=by rw [hW7];exact (Go.Dx.heap_alloc_old _ (by simp<;>omega)).trans ((Go.Dx.heap_alloc_old _ (by omega)).trans t1)
  have u2:W7.heap[w.heap.size+2]? =some (.loop {L with state:=.busy}):=by rw [hW7];exact (Go.Dx.heap_alloc_old _ (by simp<;>omega)).trans ((Go.Dx.heap_alloc_old _ (by omega)).trans t2)
  have u3:W7.heap[g']? =some (.cells cur 55 (0,0)):=by
   rw [hW7,hg'];have:=Go.Dx.heap_alloc_new (w:=(W6.alloc (.cells #[y1,y2] 55)).drew) (.cells cur 55);have e:(W6.alloc (.cells #[y1,y2] 55)).drew.heap.size=W6.heap.size+1:=World.size_alloc _ _
   rwa [e] at this
  have Bw7:Below w.heap.size w W7:=by
   rw [hW7];have a1:=Bw6.alloc Bw6.size (.cells #[y1,y2] 55);exact a1.drew.alloc a1.size _
  have k7:KeepsWalks W1 W7:=by
   rw [hW7];have a1:KeepsWalks W1 (W6.alloc (.cells #[y1,y2] 55)):=k6.trans (KeepsWalks.alloc _ _);have a2:KeepsWalks (W6.alloc (.cells #[y1,y2] 55)) (W6.alloc (.cells #[y1,y2] 55)).drew:=⟨Nat.le_refl _,λ_ _ h _=>h⟩;exact (a1.trans a2).trans (KeepsWalks.alloc _ _)
  have z7:W7.heap.size=W6.heap.size+2:=by
   rw [hW7,World.size_alloc];show (W6.alloc (.cells #[y1,y2] 55)).heap.size+1=_
   rw [World.size_alloc]
  clear hW7;have Uj:W1.heap.size+2<=g':=by omega
  have Iy:g'<W7.heap.size:=by omega
  clear hg';obtain ⟨c7,d7⟩:=Go.Dx.iW u0;refine ⟨W6,hbr,?_⟩
  gi_wp2_with (first
   | (gi_at_builtin;refine Bq rfl (.tmp 8) (.tmp 10) 42 42 rfl (sx:=.slice none 0 0) (xx:=.slice (some ⟨W1.heap.size+1,0,none⟩) 1 1) rfl rfl iK ?_;go_frame)
   | (rw [Oper.semAt_eq _ _ _ (λc h=>by cases h)];go_simp;try go_bits))
  obtain ⟨W8,XW⟩:∃W8,W8=W7.setCell ⟨w.heap.size,0,none⟩ (.slice (some ⟨g',0,none⟩) 1 cap):=⟨_,rfl⟩;rw [<-XW];have v0:W8.heap[w.heap.size]? =some (.cells #[.slice (some ⟨g',0,none⟩) 1 cap] 42 (0,0)):=by
   rw [XW];show (W7.heap.modify w.heap.size _)[w.heap.size]? =_
   rw [Array.getElem?_modify,if_pos rfl,u0];rfl
  have v1:W8.heap[w.heap.size+1]? =some (.deferred (some [])):=by rw [XW];exact (Below.heap_setCell _ _ _ _ (by show w.heap.size+1≠w.heap.size;omega)).trans u1
  have v2:W8.heap[w.heap.size+2]? =some (.loop {L with state:=.busy}):=by rw [XW];exact (Below.heap_setCell _ _ _ _ (by show w.heap.size+2≠w.heap.size;omega)).trans u2
  have v3:W8.heap[g']? =some (.cells cur 55 (0,0)):=by rw [XW];exact (Below.heap_setCell _ _ _ _ (by show g'≠w.heap.size;omega)).trans u3
  have Bw8:Below w.heap.size w W8:=by rw [XW];exact Bw7.setCell (Nat.le_refl _) _
  have k8:KeepsWalks W1 W8:=by rw [XW];exact k7.trans (KeepsWalks.setCell _ _ _)
  have z8:W8.heap.size=W7.heap.size:=by rw [XW];simp [World.setCell]
  clear XW;have ae9:=run_endRound (P:=Tryz.prog) none v2;have hLL:({({L with state:=.busy}:Loop) with state:=if (none:Option Code).isNone then .ready else .done,pending:=none}:Loop)=L:=by
   have e1:=hL.state;have e2:=hL.pending;cases L;simp only at e1 e2;subst e1;subst e2;rfl
  rw [hLL] at ae9;refine ⟨_,_,ae9,rfl,k8.trans (KeepsWalks.putObj _ v2 rfl),World.putObj_heap_same (by omega),(World.putObj_heap_other (by omega)).trans v1,⟨_,(World.putObj_heap_other (by omega)).trans v0,?_⟩,
   Bw8.grown (Go.Dx.iV _ _ _) Bw8.size (λk e=>by cases e;omega)⟩
  exact ⟨g',cap,cur,rfl,by omega,(World.putObj_heap_other (by omega)).trans v3,fE,zK,wB⟩
 refine (hg _ W3 _ dh Ms).mono ?_;rintro e W9 ⟨⟨v,rfl⟩,q2,q1,⟨rv,q0,g',cap,cur,rfl,m1,m2,m3,m4,m5⟩,Bw9⟩;refine ⟨⟨_,rfl⟩,q2,?_⟩;obtain ⟨W4,VZ⟩:∃W4,W4=W9.putObj (w.heap.size+2) (.loop {L with state:=.exhausted}):=⟨_,rfl⟩;rw [<-VZ];have cV:g'≠w.heap.size+2:=λe=>by rw [e] at m2;rw [m2] at q2;cases q2
 have ak9:g'≠w.heap.size+1:=λe=>by rw [e] at m2;rw [m2] at q1;cases q1
 have r0:W4.heap[w.heap.size]? =some (.cells #[.slice (some ⟨g',0,none⟩) 1 cap] 42 (0,0)):=by rw [VZ];exact (World.putObj_heap_other (by omega)).trans q0
 have r1:W4.heap[w.heap.size+1]? =some (.deferred (some [])):=by rw [VZ];exact (World.putObj_heap_other (by omega)).trans q1
 have r3:W4.heap[g']? =some (.cells cur 55 (0,0)):=by rw [VZ];exact (World.putObj_heap_other cV).trans m2
 have dH:Below w.heap.size w W4:=by rw [VZ];exact Bw9.grown (Go.Dx.iV _ _ _) Bw9.size (λk e=>by cases e;omega)
 obtain ⟨hc3,J9⟩:=Go.Dx.iW r0;clear VZ q0 q1 q2 hL dh hg eg Ms m2
 gi_wp2
 refine ⟨by simp,.inl ⟨_,_,rfl,run_takeDeferred r1,?_⟩⟩;exact ⟨_,results_tmp rfl _ _ _,_,rfl,⟨g',cap,cur,rfl,m1,(World.putObj_heap_other ak9).trans r3,m3,m4,m5⟩,dH.grown (Go.Dx.iV _ _ _) dH.size (λk e=>by cases e;omega)⟩
end Go.Proofs
namespace Go.Dx
open Go Go.RowKit Go.Proofs
variable{l:Lb}
section
variable {B:Nat} {w0:World} {ρ:bD} {h:H} {w:World}
theorem aA.cellAt (R:aA B w0 ρ h w){l:Lb}{b:ej}{v:V}(e:ρ l=some b)(a:cellAt h l 0=some v):∃x,w.cell? ⟨b.block,0,none⟩=some x/\RV ρ v x:=by
 simp only [Dx.cellAt,Q.ask] at a;split at a
 ·rename_i vs k f d j
  have m:dE ρ b vs k f d w:=R.obj _ _ _ e j;simp only [dB,bz] at a;obtain ⟨q,c,g⟩:=m.cell 0 _ (by rw [<-List.head?_eq_getElem?];exact a);refine ⟨q,?_,g⟩;unfold cQ at c;rw [(R.base _ _ e).1] at c;exact c
 ·cases a
theorem Yd (R:aA B w0 ρ h w){b:ej}(i:ρ l=some b)(hs:KZ h l=some []):∃j,w.cell? ⟨b.block,0,none⟩=some (.map j)/\ZB w j:=by
 unfold KZ at hs;split at hs
 ·rename_i r d
  obtain ⟨x,e,g⟩:=R.cellAt i d;obtain ⟨c,TN,rfl⟩:=lz g;split at hs
  ·rename_i a k
   obtain ⟨ms,m,f⟩:∃ms:Array MapEntry,w.heap[c.block]? =some (.map ms a)/\pO ρ [] ms.toList:=R.obj _ _ _ TN k;have:ms = #[]:=by
    cases ms with | mk ml=>
    have:RV ρ .nilPtr (.pointer none):=.nilPtr;have f:pO ρ [] ml:=f;cases f;rfl
   subst this;exact ⟨_,e,.inr ⟨_,_,rfl,m⟩⟩
  ·simp [ai] at hs
  ·cases hs
 ·rename_i d
  obtain ⟨x,e,g⟩:=R.cellAt i d;cases g;exact ⟨_,e,.inl rfl⟩
 ·cases hs
theorem Ye (R:aA B w0 ρ h w){b:ej}{e:V×V×Nat}(k:ρ l=some b)(hs:KZ h l=some [e]):
  ∃m d c,w.cell? ⟨b.block,0,none⟩=some (.map (some m))/\w.heap[m]? =some (.map #[d] c)/\d.born<c/\RV ρ e.1 d.key/\RV ρ e.2.1 d.val:=by
 unfold KZ at hs;split at hs
 ·rename_i r i
  obtain ⟨x,o,p⟩:=R.cellAt k i;obtain ⟨c,TN,rfl⟩:=lz p;split at hs
  ·cases hs
  ·rename_i y a j
   simp only [ai,Option.some.injEq,List.cons.injEq,and_true] at hs;obtain ⟨f,rfl⟩:=hs;have f:y.2.2<a:=by simpa using f
   obtain ⟨ms,n,g⟩:∃ms:Array MapEntry,w.heap[c.block]? =some (.map ms a)/\pO ρ [y] ms.toList:=R.obj _ _ _ TN j;cases ms with | mk ml=>
   have g:pO ρ [y] ml:=g;cases g with
   | cons hk hv hn hs=>
     cases hs;exact ⟨_,_,_,o,n,by rw [hn];exact f,hk,hv⟩
  ·cases hs
 ·cases hs
 ·cases hs
theorem enters {P:Program}{f:FuncId}{func:Func}{c:Code}(d:P.funcs[f]? =some func)(b:func.body=some c)(a:(func.name == "runtime.NumGoroutine")=false)(args:Array Value)(w:World):(callFunc f args).run P w = .ok (.enter f args) w:=by
 have a:¬func.name = "runtime.NumGoroutine":=λe=>by rw [e] at a;simp at a
 unfold callFunc;simp [d,a,b]
theorem Yf {G:Nat}:km Tryz.prog G 251 (.seq true 9 1 16 [210,245] []):=by
 intro args h v h' d B w0 ρ w xs R J E;simp only [fJ] at d;split at d
 ·rename_i g l
  obtain ⟨M,K,rfl,u,D⟩:=E.two;cases u;obtain ⟨L,N,rfl,C,P⟩:=qO D;cases C;obtain ⟨y,rfl,I⟩:=P.one;obtain ⟨b,r,rfl⟩:=dy I;rw [(R.base _ _ r).1];split at d
  ·rename_i hs
   simp only [ai,Option.some.injEq,Prod.mk.injEq] at d;obtain ⟨i,rfl,rfl⟩:=d;obtain ⟨n,s,t⟩:=Yd R r hs;have XX:b.block<w.heap.size:=by
    rcases Nat.lt_or_ge b.block w.heap.size with h | h
    ·exact h
    ·simp [World.cell?,Array.getElem?_eq_none h] at s
   have ZC:∀W,Below w.heap.size w W->W.cell? ⟨b.block,0,none⟩=some (.map n)/\ZB W n:=λW a=>by
    refine ⟨(a.cell (p:=⟨b.block,0,none⟩) XX).trans s,?_⟩;rcases t with rfl | ⟨m,c,rfl,j⟩
    ·exact .inl rfl
    ·exact .inr ⟨m,c,rfl,(a.block _ (nB j)).trans j⟩
   have k:(∀args w,(callFunc g args).run Tryz.prog w = .ok (.enter g args) w)->(∀l W,Below w.heap.size w W->CallsIn Fence.wide 0 Tryz.prog g (#[.func (.yield l) #[] #[]] ++ #[.pointer (some ⟨b.block,0,none⟩)]) W λe W'=>(∃v,e = .returned v)/\∃o,W'=W.alloc o)->
     Good Tryz.prog 251 [.slice none 0 0,.func (.func g) #[] #[.pointer (some ⟨b.block,0+0,none⟩)]] w λx w'=>∃f,Step ρ f h h/\RV f (.nilSlice 0) x/\aA B w0 f h w':=λH q=>
    Good.fQ Tryz.func251 rfl (by kernel_rfl) ((Tz.amw g _ H w q).mono λe w' ⟨A,F⟩=>⟨_,A,ρ,Step.refl _ _,.nilSlice 0,R.Fq F⟩)
   simp only [dr,Bool.or_false,Bool.or_eq_true] at i;rcases i with i | i
   ·have:=Nat.eq_of_beq_eq_true i
    subst this;exact k (enters Tryz.func210 rfl (by kernel_rfl)) λl W a=>Tz.arv _ _ trivial rfl l b.block W n (ZC W a).1 (ZC W a).2
   ·have:=Nat.eq_of_beq_eq_true i
    subst this;exact k (enters Tryz.func245 rfl (by kernel_rfl)) λl W a=>Tz.arx _ _ trivial rfl l b.block W n (ZC W a).1 (ZC W a).2
  ·simp [dr,bO] at d
  ·cases d
 ·cases d
theorem Yg {G:Nat}:km Tryz.prog G 311 (.seq false 55 2 32 [] [281]):=by
 intro args h v h' a B w0 ρ w xs R hG hx;simp only [fJ] at a;split at a
 ·rename_i g l
  obtain ⟨x1,x2,rfl,P,r2⟩:=hx.two;cases P;obtain ⟨a',b',rfl,Z,rb⟩:=qO r2;cases Z;obtain ⟨y,rfl,ry⟩:=rb.one;obtain ⟨b,K,rfl⟩:=dy ry;rw [(R.base _ _ K).1];split at a
  ·simp [dr,bO] at a
  ·rename_i e hs
   simp only [ai,dr,Bool.or_false] at a;obtain ⟨M,a⟩:=a;simp only [Bool.and_true] at M;have:=Nat.eq_of_beq_eq_true M;subst this;obtain ⟨m,en,c,O,o,F,-,d⟩:=Ye R K hs;unfold aiM at a;simp only [ai,Bool.and_eq_true] at a;obtain ⟨⟨⟨⟨j,-⟩,-⟩,N⟩,a⟩:=a;have j:=Nat.eq_of_beq_eq_true j;obtain ⟨k,f,z⟩:∃k f,e.2.1 = .agg [k,f]:=by
    generalize e.2.1=u at j;cases u with
    | agg cs=>
      match cs,j with
      | [k,f],_=>exact ⟨k,f,rfl⟩
    | _=>simp [V.cells] at j
   rw [z] at d a N;obtain ⟨ys,I,d⟩:∃ys,en.val = .agg ⟨ys⟩/\cZ ρ [k,f] ys:=by
    generalize en.val=ev at d;cases d with | agg q=>exact ⟨_,rfl,q⟩
   obtain ⟨C,A,rfl,s1,s2⟩:=d.two;have s:=Ad d N;have a:v = .slice h.next 0 1 (.toEnd 2)/\h'=h.add (.cells [k,f] 55 0 .yes):=by
    unfold eR at a;simp only [ai,Option.some.injEq,Prod.mk.injEq,V.cells] at a;exact ⟨a.2.1.symm,a.2.2.symm⟩
   obtain ⟨rfl,rfl⟩:=a;have XX:b.block<w.heap.size:=by
    rcases Nat.lt_or_ge b.block w.heap.size with h | h
    ·exact h
    ·simp [World.cell?,Array.getElem?_eq_none h] at O
   have key:=Tz.amy 281 #[.pointer (some ⟨b.block,0,none⟩)] (enters Tryz.func281 rfl (by kernel_rfl)) w C A (s C (by simp)) (s A (by simp)) λl W Q L hY=>
    Tz.arz l b.block m c en C A W ((L.cell (p:=⟨b.block,0,none⟩) XX).trans O) ((L.block _ (nB o)).trans o) F I (s C (by simp)) (s A (by simp)) Q hY
   refine Good.fQ Tryz.func311 rfl (by kernel_rfl) (key.mono λe w' U=>?_);obtain ⟨rv,Y,⟨H,cap,cur,rfl,jl,t,S,fL,X⟩,Mg⟩:=U;refine ⟨_,Y,uG ρ h.next (ej.mk H 0 (cap*2) .nilFunc),Step.add _ _ _ _,?_,R.named Mg jl ⟨rfl,rfl⟩ ?_⟩
   ·have:=RV.sliceEnd (ρ:=uG ρ h.next (ej.mk H 0 (cap*2) .nilFunc)) (l:=h.next) 0 1 2 cap (aU _ _ _) X (by simp)
    simpa using this
   ·have E:=eS (b:=(ej.mk H 0 (cap*2) .nilFunc)) R.fresh
    refine ⟨?_,?_,λi v z=>?_,λ_ i hi j=>?_,λ_=>⟨cur,0,0,t,Nat.zero_le _,Nat.le_refl _⟩⟩
    ·simp [World.shape?,t,fL]
    ·show 0+2<=cap*2;omega
    ·have n:i<2:=by
      have:=(List.getElem?_eq_some_iff.1 z).1;simpa using this
     obtain ⟨x,J,ke⟩:=(d.mono E).get z;refine ⟨x,?_,ke⟩;unfold cQ World.cell?;simp only [t,Nat.zero_add];have:cur.toList[i]? =some x:=by
      rw [<-S,List.getElem?_take,if_pos n] at J;exact J
     simpa using this
    ·simp [World.frozen?,t]
  ·cases a
 ·cases a
end
end Go.Dx
