/-
  The sequencer's laws. Part ZAY of the proof: blotter/jsonx: quoted, order.
-/
import Derived.Test.YteajeefphbjnmaaGreatDoorZAV
import Derived.Test.YteajeefphbjnmaaGreatDoorZAX
import Derived.Test.YteajeefphbjnmaaGreatDoorZAQ
namespace K
open Go Go.Dx Go.RowKit Go.Proofs
set_option maxRecDepth 100000
structure CL (h0 h:H)(l:Lb)(b0 bv:V):Prop where
 mod:Mod h0 h (l::af b0)
 grow:Grow h0 b0 bv
theorem CL.refl (h:H)(l:Lb)(bv:V):CL h h l bv bv:=⟨Mod.refl _ _,λ_x hx=>.inr hx⟩
theorem CL.more {h0 h h':H}{l:Lb}{b0 bv:V}(a:CL h0 h l b0 bv)(m:Mod h h' []):CL h0 h' l b0 bv:=
 ⟨(a.mod.trans m).mono λx o _ hx=>by simpa using hx,a.grow⟩
theorem CL.trans {h0 h h':H}{l:Lb}{b0 bv b':V}{t:List Nat}(a:CL h0 h l b0 bv)(b:CL h h' l bv b')(hb:Nj h l bv t):CL h0 h' l b0 b':=by
 obtain ⟨o,ho⟩:=hb.live;refine ⟨a.mod.fr b.mod λx hx=>?_,λx hx=>?_⟩
 ·rcases List.mem_cons.1 hx with rfl | hx
  ·exact .inr (List.mem_cons_self ..)
  ·exact (a.grow x hx).imp id λe=>List.mem_cons_of_mem _ e
 ·rcases b.grow x hx with e | e
  ·cases e0:h0.get x with
   | none=>exact .inl rfl
   | some o0=>
     by_cases hm:x∈l::af b0
     ·rcases List.mem_cons.1 hm with rfl | hm
      ·rw [ho] at e;cases e
      ·exact .inr hm
     ·rw [a.mod.get e0 hm] at e;cases e
  ·exact a.grow x e
theorem CL.get {h0 h:H}{l:Lb}{b0 bv:V}(a:CL h0 h l b0 bv){x:Lb}{o:Dx.Obj}(e:h0.get x=some o)(n1:x≠l)(n2:x∉af b0):h.get x=some o:=a.mod.get e (by simp only [List.mem_cons,not_or];exact ⟨n1,n2⟩)
theorem akp:∀c,c<256->zQ Nat.land .u8 (Int.ofNat c) 15=Int.ofNat (c % 16):=by decide +kernel
theorem OD {h:H}{l:Lb}{bv:V}{t s:List Nat}(hw:Wf h)(hB:Nj h l bv t)(ht:t.length<=150000000)(hs:bt s){Q:V->H->Prop} (hq:∀Nk t' h',Nj h' l Nk t'->t.length<t'.length->t'.length<=t.length+6*s.length+2->CL h h' l bv Nk->Wf h'->Q (.tuple []) h'):CW pf G0 yb [.ptr l 0,.str s] h Q:=by
 have AN:=hs.1;refine KU.enter (by kernel_rfl) ?_;cbv;refine gR hw hB (by omega) (by omega) (by decide) λb1 h1 hB1 Mf ar aM=>?_;have to1:CL h h1 l bv b1:=⟨ar,Mf⟩;cbv;refine .fr aM (by omega) λsv h2 yZ ao7 aq aN=>?_;have hB2:=hB1.mono aq;have to2:=to1.more aq;cbv;refine .of yZ λn eT hn=>?_;have uJ:l∉af sv:=by obtain ⟨o,ho⟩:=hB1.live;exact ao7.UD ho
 have hnb:∀x,x∈af sv->x∉af b1:=λx hx hm=>by obtain ⟨c,e⟩:=hB1.own.row hm;rw [ao7 x hx] at e;cases e
 cbv;refine .inv [p0,p1,p9,p10,p11] (λm' aC h'=>∃(i:Int) (Nk:V) (t':List Nat),aC=[.ptr l 0,.str s,sv,.int .i64 n,.int .i64 i]/\0<=i/\i.toNat<=s.length/\m'=s.length - i.toNat/\Nj h' l Nk t'/\t.length<t'.length/\t'.length<=t.length+6*i.toNat+1/\CL h h' l bv Nk/\CL h2 h' l b1 Nk/\Wf h') [_,_,_,_,_] rfl _ ⟨0,b1,t++[34],rfl,by omega,by simp,rfl,hB2,by simp,by simp,to2,CL.refl _ _ _,aN⟩ ?_;rintro m' _ h3 ⟨i,b3,t3,rfl,jG,hi,dY,No,agc,auJ,to3,adT,aR⟩;cbv;refine .lt (λbA=>?_) λjb=>?_
 ·obtain ⟨c,hc⟩:∃c,s[i.toNat]? =some c:=⟨_,List.getElem?_eq_getElem (by omega)⟩
  have KW:=hs.2 c (List.mem_of_getElem? hc);have auK:Sl h3 1 sv s.length (ae s):=yZ.mono adT.mod λx hx hm=>by
   rcases List.mem_cons.1 hm with rfl | hm
   ·exact uJ hx
   ·exact hnb x hx hm
  cbv;refine .byte auK jG hc λq off he=>?_;cbv;refine .byte he λy CU hy=>?_;cbv;refine .eq (λe1=>?_) λe1=>?_
  ·cbv;refine gR aR No (by omega) (by omega) (by decide) λb4 h4 Yd Oo aD aQ=>?_
   cbv;refine gR aQ Yd (by simp;omega) CU (by omega) λb5 h5 Np we aY bH=>?_;have to5:CL h3 h5 l b3 b5:=CL.trans ⟨aD,Oo⟩ ⟨aY,we⟩ Yd;cbv;refine .add (by omega) (by omega) λj hj=>?_;cbv;exact ⟨rfl,s.length - j.toNat,by omega,j,b5,_,rfl,by omega,by omega,rfl,Np,by simp;omega,by simp;omega,to3.trans to5 No,adT.trans to5 No,bH⟩
  cbv;refine .eq (λe2=>?_) λe2=>?_
  ·cbv;refine gR aR No (by omega) (by omega) (by decide) λb4 h4 Yd Oo aD aQ=>?_
   cbv;refine gR aQ Yd (by simp;omega) CU (by omega) λb5 h5 Np we aY bH=>?_;have to5:CL h3 h5 l b3 b5:=CL.trans ⟨aD,Oo⟩ ⟨aY,we⟩ Yd;cbv;refine .add (by omega) (by omega) λj hj=>?_;cbv;exact ⟨rfl,s.length - j.toNat,by omega,j,b5,_,rfl,by omega,by omega,rfl,Np,by simp;omega,by simp;omega,to3.trans to5 No,adT.trans to5 No,bH⟩
  cbv;refine .lt (λe3=>?_) λe3=>?_
  ·cbv;refine X9 aR No (by omega) (by simp) (λc hc=>by simp at hc;omega) λnn b4 h4 Yd Oo aD aQ=>?_
   cbv;refine .shr 16 (by omega) (by omega) (by decide) rfl λz hz=>?_;have hxe:∀k:Nat,k<16->∃x,[48,49,50,51,52,53,54,55,56,57,97,98,99,100,101,102][k]? =some x/\x<256:=λk hk=>by
    have:=List.getElem?_eq_getElem (l:=[48,49,50,51,52,53,54,55,56,57,97,98,99,100,101,102]) (i:=k) (by simpa using hk);have cf:∀b∈[48,49,50,51,52,53,54,55,56,57,97,98,99,100,101,102],b<256:=by decide
    exact ⟨_,this,cf _ (List.mem_of_getElem? this)⟩
   obtain ⟨x1,uf,aCZ⟩:=hxe z.toNat (by omega);cbv;refine .of (by omega) uf λy1 adg NW=>?_;cbv;refine gR aQ Yd (by simp;omega) adg (by omega) λb5 h5 Np we aY bH=>?_;cbv;refine .ajy λz2 pV=>?_;have hz3:z2=Int.ofNat (c % 16):=by
    have ey:y=Int.ofNat c:=by
     subst hy;obtain ⟨m,rfl⟩:=Int.eq_ofNat_of_zero_le CU;simp
    rw [pV,ey];exact akp c KW
   clear pV;have ao8:0<=z2/\z2.toNat<16:=by rw [hz3];refine ⟨Int.natCast_nonneg _,?_⟩;show c % 16<16;omega
   clear hz3;obtain ⟨x2,lH,aC0⟩:=hxe z2.toNat ao8.2;cbv;refine .of ao8.1 lH λy2 ajL Rq=>?_;cbv;refine gR bH Np (by simp;omega) ajL (by omega) λb6 h6 hB6 Qu bP cy=>?_;have to6:CL h3 h6 l b3 b6:=(CL.trans ⟨aD,Oo⟩ ⟨aY,we⟩ Yd).trans ⟨bP,Qu⟩ Np;cbv;refine .add (by omega) (by omega) λj hj=>?_;cbv;exact ⟨rfl,s.length - j.toNat,by omega,j,b6,_,rfl,by omega,by omega,rfl,hB6,by simp;omega,by simp;omega,to3.trans to6 No,adT.trans to6 No,cy⟩
  ·cbv;refine gR aR No (by omega) CU (by omega) λb5 h5 Np we aY bH=>?_
   have to5:CL h3 h5 l b3 b5:=⟨aY,we⟩;cbv;refine .add (by omega) (by omega) λj hj=>?_;cbv;exact ⟨rfl,s.length - j.toNat,by omega,j,b5,_,rfl,by omega,by omega,rfl,Np,by simp;omega,by simp;omega,to3.trans to5 No,adT.trans to5 No,bH⟩
 ·cbv;refine gR aR No (by omega) (by omega) (by decide) λb5 h5 Np we aY bH=>?_
  cbv;exact hq b5 _ h5 Np (by simp;omega) (by simp;omega) (to3.trans ⟨aY,we⟩ No) bH
end K
namespace K
open Go Go.Dx Go.RowKit Go.Proofs
set_option maxRecDepth 100000
theorem auL:cb Tryz.prog 291 Extern.BytealgCompare.compare:=⟨⟨_,Tryz.func291,by kernel_rfl,by kernel_rfl,by kernel_rfl,by kernel_rfl⟩⟩
theorem Wp {h:H}{a b:List Nat}{Q:V->H->Prop} (hq:∀r:Int,Q (.int .i64 r) h):CW pf G0 rY [.str a,.str b] h Q:=by
 refine EI.enter (by kernel_rfl) ?_;cbv;refine lC.enter (by kernel_rfl) ?_;cbv;obtain ⟨r,hr⟩:∃r,r=IG a b:=⟨_,rfl⟩;refine CW.ext (v:=.int .i64 r) (h':=h) (He auL) (by rw [hr];rfl) ?_;cbv;exact hq r
def ints:List Int->List V
 | []=>[]
 | i::r=>.int .i64 i::ints r
theorem yM:∀l,(ints l).length=l.length
 | []=>rfl
 | _::r=>by simp [ints,yM r]
theorem HF:∀a b,ints (a++b)=ints a++ints b
 | [],_=>rfl
 | _::r,b=>by simp [ints,HF r b]
theorem Lr:∀{l:List Int} {i:Nat} {x:Int},l[i]? =some x->(ints l)[i]? =some (.int .i64 x)
 | [],i,x,h=>by simp at h
 | y::l,0,x,h=>by simp at h;subst h;rfl
 | y::l,i+1,x,h=>by simpa [ints] using Lr (l:=l) (i:=i) (x:=x) (by simpa using h)
theorem ints_set:∀(l:List Int) (i:Nat) (x:Int),i<l.length->aX (ints l) i [.int .i64 x]=some (ints (l.set i x))
 | [],i,x,h=>by simp at h
 | y::l,0,x,h=>by simp [ints,aX,ob]
 | y::l,i+1,x,h=>by simp only [ints,aX,ints_set l i x (by simpa using h),ob,List.set_cons_succ]
theorem aao {h:H}{lb:Lb}{nv:V}{l:List (List Nat)}{x y:Int}(hb:h.get lb=some (.cells [nv] 129 0 .yes))(hr:Ro h 1 nv l.length (strs l))(lN:0<=x)(hx:x.toNat<l.length)(CU:0<=y)(hy:y.toNat<l.length){Q:V->H->Prop} (hq:∀r:Int,Q (.int .i64 r) h):
  CW pf G0 wc [.int .i64 x,.int .i64 y,.ptr lb 0] h Q:=by
 obtain ⟨s1,AN⟩:∃s,l[x.toNat]? =some s:=⟨_,List.getElem?_eq_getElem hx⟩;obtain ⟨s2,yZ⟩:∃s,l[y.toNat]? =some s:=⟨_,List.getElem?_eq_getElem hy⟩;refine Ib.enter (by kernel_rfl) ?_;cbv;refine .of follows 4 ?_;cbv;refine .of hb rfl ?_;cbv;refine .of hr.sl lN rfl hx (eQ AN) λq off he=>?_;cbv;refine .gH he 0 rfl ?_;cbv;refine .of hb rfl ?_;cbv;refine .of hr.sl CU rfl hy (eQ yZ) λq2 Fk ur=>?_;cbv;refine .gH ur 0 rfl ?_;cbv;refine Wp λr=>?_;cbv;refine .nil ?_;cbv;exact hq r
theorem aap {h:H}{lb:Lb}{nv sv:V}{l:List (List Nat)}{xs:List Int}{b:Int}(hw:Wf h)(hb:h.get lb=some (.cells [nv] 129 0 .yes))(hr:Ro h 1 nv l.length (strs l))(ho:aE h 3 1 sv xs.length (ints xs))(hn:b.toNat=xs.length)(fC:0<=b)(qY:xs.length<=100)(hx:∀x∈xs,0<=x/\x.toNat<l.length) (hnb:lb∉af sv) {Q:V->H->Prop}
  (hq:∀ys h',ys.length=xs.length->(∀x∈ys,0<=x/\x.toNat<l.length)->aE h' 3 1 sv ys.length (ints ys)->Mod h h' (af sv)->Wf h'->Q (.tuple []) h'):
  CW pf G0 eB [sv,.int .i64 0,.int .i64 b,.func 250 [] [.ptr lb 0]] h Q:=by
 refine kc.enter (by kernel_rfl) ?_;cbv;refine .add (by omega) (by omega) λi0 jG=>?_;cbv;refine .inv [p0,p1,p2,p3,p8] (λm' aC h'=>∃(i:Int) (ys:List Int),aC=[sv,.int .i64 0,.int .i64 b,.func 250 [] [.ptr lb 0],.int .i64 i]/\1<=i/\i<=1000/\m'=1000 - i.toNat/\ys.length=xs.length/\(∀x∈ys,0<=x/\x.toNat<l.length)/\aE h' 3 1 sv ys.length (ints ys)/\Mod h h' (af sv)/\Wf h') [_,_,_,_,_] rfl _ ⟨i0,xs,rfl,by omega,by omega,rfl,rfl,hx,ho,Mod.refl _ _,hw⟩ ?_;rintro m' _ h1 ⟨i,ys,rfl,Fa,DI,dY,Wh,hy,MA,ar,aM⟩;cbv;refine .lt (λbA=>?_) λjb=>?_
 ·cbv
  refine .inv [p0,p1,p2,p3,p8,p9] (λm' aC h'=>∃(j:Int) (zs:List Int),aC=[sv,.int .i64 0,.int .i64 b,.func 250 [] [.ptr lb 0],.int .i64 i,.int .i64 j]/\0<=j/\j<=i/\m'=j.toNat/\zs.length=xs.length/\(∀x∈zs,0<=x/\x.toNat<l.length)/\aE h' 3 1 sv zs.length (ints zs)/\Mod h h' (af sv)/\Wf h') [_,_,_,_,_,_] rfl _ ⟨i,ys,rfl,by omega,by omega,rfl,Wh,hy,MA,ar,aM⟩ ?_;rintro m2 _ h2 ⟨j,zs,rfl,Uy,Ny,YO,hzl,hz,ke,aq,aN⟩;have cR:=aq.get hb hnb;have qN:=hr.mono aq;cbv;refine .of follows 6 ?_;cbv;refine .gt (λg=>?_) λg=>?_
  ·obtain ⟨z1,FC⟩:∃z,zs[j.toNat]? =some z:=⟨_,List.getElem?_eq_getElem (by omega)⟩
   have cx:=hz z1 (List.mem_of_getElem? FC);cbv;refine .own ke (by omega) (by omega) λq1 ao9 sj Mf ao'=>?_;have uI:∀k:Nat,∀z,zs[k]? =some z->dI .one (ints zs) (k*1)=some (.int .i64 z):=λk z hk=>by
    show (bB (k*1) (ints zs)).head? =_
    rw [List.head?_eq_getElem?,pL,Nat.add_zero,Nat.mul_one];exact Lr hk
   cbv;refine .of Mf (by rw [ao'];exact uI _ _ FC) ?_;cbv;refine .sub (by omega) (by omega) λj1 hj1=>?_;obtain ⟨z2,pV⟩:∃z,zs[j1.toNat]? =some z:=⟨_,List.getElem?_eq_getElem (by omega)⟩;have gB:=hz z2 (List.mem_of_getElem? pV);cbv;refine .own ke (by omega) (by omega) λq2 Fk gV PX apa=>?_;cbv;refine .of PX (by rw [apa];exact uI _ _ pV) ?_;cbv;refine ⟨250,[],[.ptr lb 0],rfl,?_⟩;refine aao cR qN cx.1 cx.2 gB.1 gB.2 λr=>?_;cbv;refine .nil ?_;cbv;refine .lt (λe1=>?_) λe1=>?_
   ·cbv;refine .of follows 6 ?_
    cbv;refine .sub (by omega) (by omega) λj2 Ji=>?_;cbv;refine .sub (by omega) (by omega) λj3 X4=>?_;have auM:j2=j1:=by omega
    have auN:j3=j1:=by omega
    subst auM auN;clear Ji X4;cbv;refine .own ke (by omega) (by omega) λq3 UJ hq3 Og adQ=>?_;cbv;refine .of Og (by rw [adQ];exact uI _ _ pV) ?_;cbv;refine .own ke (by omega) (by omega) λq4 ago hq4 Oo adR=>?_;cbv;refine .of Oo (by rw [adR];exact uI _ _ FC) ?_;cbv;refine .own ke (by omega) (by omega) λq5 aC1 hq5 we apb=>?_;have auO:=ints_set zs j.toNat z2 (by omega);cbv;refine .one (vs':=ints (zs.set j.toNat z2)) aN we rfl rfl (by simp) (by rw [apb,Nat.mul_one];exact auO) λh3 Qu aF aR=>?_;have ZL:Mod h2 h3 (af sv):=aF.mono λx o _ hx=>by simp at hx;subst hx;exact hq5
    have fT:=ke.stored hq5 Qu (by rw [yM,yM,List.length_set]);rw [show zs.length=(zs.set j.toNat z2).length from by rw [List.length_set]] at fT;have auP:∀x∈zs.set j.toNat z2,0<=x/\x.toNat<l.length:=λx hx=>(List.mem_or_eq_of_mem_set hx).elim (hz x) λe=>by rw [e];exact gB
    have auQ:(zs.set j.toNat z2).length=xs.length:=by rw [List.length_set,hzl]
    generalize zs.set j.toNat z2=zs3 at*;cbv;refine .nil ?_;cbv;refine .own fT (by omega) (by omega) λq7 aC2 hq7 hg7 apc=>?_;have auR:=ints_set zs3 j3.toNat z1 (by omega);cbv;refine .one (vs':=ints (zs3.set j3.toNat z1)) aR hg7 rfl rfl (by simp) (by rw [apc,Nat.mul_one];exact auR) λh4 O0 aD aQ=>?_;have auS:Mod h3 h4 (af sv):=aD.mono λx o _ hx=>by simp at hx;subst hx;exact hq7
    have jv:=fT.stored hq7 O0 (by rw [yM,yM,List.length_set]);rw [show zs3.length=(zs3.set j3.toNat z1).length from by rw [List.length_set]] at jv;have auT:∀x∈zs3.set j3.toNat z1,0<=x/\x.toNat<l.length:=λx hx=>(List.mem_or_eq_of_mem_set hx).elim (auP x) λe=>by rw [e];exact cx
    have auU:(zs3.set j3.toNat z1).length=xs.length:=by rw [List.length_set,auQ]
    generalize zs3.set j3.toNat z1=zs4 at*;cbv;refine .nil ?_;cbv;refine .sub (by omega) (by omega) λj5 ZH=>?_;cbv;exact ⟨rfl,j5.toNat,by omega,j5,zs4,rfl,by omega,by omega,rfl,auU,auT,jv,((aq.trans ZL).trans auS).mono (λx o _ hx=>by simpa using hx),aQ⟩
   ·cbv;refine .add (by omega) (by omega) λi2 DI=>?_
    cbv;exact ⟨rfl,1000 - i2.toNat,by omega,i2,zs,rfl,by omega,by omega,rfl,hzl,hz,ke,aq,aN⟩
  ·cbv;refine .nil ?_
   cbv;refine .add (by omega) (by omega) λi2 DI=>?_;cbv;exact ⟨rfl,1000 - i2.toNat,by omega,i2,zs,rfl,by omega,by omega,rfl,hzl,hz,ke,aq,aN⟩
 ·cbv;exact hq ys h1 Wh hy MA ar aM
theorem adU {h:H}{nv:V}{l:List (List Nat)}(hw:Wf h)(hr:Ro h 1 nv l.length (strs l))(hl:l.length<=12){Q:V->H->Prop} (hq:∀ov ys h',ys.length=l.length->(∀x∈ys,0<=x/\x.toNat<l.length)->aE h' 3 1 ov ys.length (ints ys)->Fr h ov->Mod h h' []->Wf h'->Q ov h'):
  CW pf G0 A9 [nv] h Q:=by
 refine M4.enter (by kernel_rfl) ?_;cbv;refine .flat hr.sl.flat ?_;cbv;refine .of hw λlb h1 cx gG ar aM=>?_;cbv;refine .of cx rfl ?_;cbv;refine .of (hr.mono ar).sl λn eT hn=>?_;cbv;refine .inv [p1,p3,p6,p7] (λm' aC h'=>∃(i:Int) (ov:V) (ys:List Int),aC=[.ptr lb 0,ov,.int .i64 n,.int .i64 i]/\0<=i/\i.toNat<=l.length/\m'=l.length - i.toNat/\ys.length=i.toNat/\(∀x∈ys,0<=x/\x.toNat<l.length)/\aE h' 3 1 ov ys.length (ints ys)/\Fr h ov/\lb∉af ov/\h'.get lb=some (.cells [nv] 129 0 .yes)/\Mod h h' []/\Wf h') [_,_,_,_] rfl _ ⟨0,.nilSlice 0,[],rfl,by omega,by simp,rfl,rfl,by simp,.nil,Fr.EO _ _,by simp [af],cx,ar,aM⟩ ?_;rintro m' _ h2 ⟨i,ov,ys,rfl,jG,hi,dY,Wh,hy,ke,Bo,aks,cR,aq,aN⟩;cbv;refine .lt (λbA=>?_) λjb=>?_
 ·cbv;refine .flat rfl ?_
  cbv;refine .of aN λl3 h3 iY Mg aF aR=>?_;cbv;refine .own aR (ke.mono aF) (m:=1) (new:=[.int .i64 i]) (by simp only [de,iY];rfl) rfl rfl (by unfold bz;omega) (by decide) λov4 h4 jv Oo aD aQ=>?_;rw [show ints ys++[V.int .i64 i]=ints (ys++[i]) from by rw [HF];rfl,show ys.length+1=(ys++[i]).length from by simp] at jv;have aJ:Mod h h3 []:=(aq.trans aF).mono λx o _ hx=>by simp at hx
  have gB:=aF.get cR;cbv;refine .add (by omega) (by omega) λj hj=>?_;cbv;exact ⟨rfl,l.length - j.toNat,by omega,j,ov4,ys++[i],rfl,by omega,by omega,rfl,by simp;omega,(λx hx=>(List.mem_append.1 hx).elim (hy x) λe=>by simp at e;subst e;omega),jv,Oo.fr aJ (by simp) Bo,Oo.dG gB aks,aD.get gB aks,aJ.fr aD (λx hx=>.inl (Bo x hx)),aQ⟩
 ·cbv
  refine wZ.enter (by kernel_rfl) ?_;cbv;refine .of ke.sl λk Ir hk=>?_;cbv;refine .u64 (by omega) (by omega) ?_;cbv;refine Ia.enter (by kernel_rfl) ?_;cbv;refine Ts (by omega) (by omega) λz hz0 hz=>?_;clear hz;cbv;refine pG.enter (by kernel_rfl) ?_;cbv;refine .inv [p0,p1,p2,p3,p4] (λm' aC h'=>h'=h2/\aC=[ov,.int .i64 0,.int .i64 k,.int .i64 z,.func 250 [] [.ptr lb 0]]/\m'=0) [_,_,_,_,_] rfl 0 ⟨rfl,rfl,rfl⟩ ?_;rintro m3 _ h3 ⟨rfl,rfl,rfl⟩;cbv;refine .sub (by omega) (by omega) λd hd=>?_;cbv;refine .O6 (by omega) ?_;cbv;refine aap aN cR (hr.mono aq) ke (by omega) (by omega) (by omega) hy aks λzs h4 hzl hz jv aD aQ=>?_;cbv;exact hq ov zs h4 (by omega) hz jv Bo (aq.fr aD λx hx=>.inl (Bo x hx)) aQ
end K
namespace K
open Go Go.Dx Go.RowKit Go.Proofs
set_option maxRecDepth 100000
theorem adV (u:Nat):1<=(vH u).length:=by rw [ES];split<;>simp
theorem Ye {n:Int}(h:i64 n):1<=(dec n).length/\(dec n).length<=40/\∀b∈dec n,b<256:=by
 obtain ⟨h1,h2⟩:=h;have hd:∀u:Nat,u<=9223372036854775808->(vH u).length<=19:=λu hu=>tT 18 u (by omega);have hb:∀b∈dec n,b<256:=λb hb=>by
  unfold dec at hb;obtain ⟨u,_,rfl⟩:=List.mem_map.1 hb;exact u.toNat_lt
 refine ⟨?_,?_,hb⟩
 ·by_cases hn:n<0
  ·unfold dec Lib.itoa;rw [if_pos hn];simp
  ·rw [ET (by omega)];exact adV _
 ·by_cases hn:n<0
  ·have:=hd n.natAbs (by omega)
   unfold dec Lib.itoa;rw [if_pos hn];unfold vH at this;simp only [List.map_cons,List.length_cons];omega
  ·rw [ET (by omega)]
   have:=hd n.toNat (by omega);omega
mutual
def Wq:Js->Nat
 | .mk k _ t _ its=>60+6*t.length+12*(400+if k=5 then EV its else 0)
def EV:List Js->Nat
 | []=>0
 | x::r=>max (Wq x) (EV r)
end
theorem Yf:∀{its:List Js} {i:Nat} {x:Js},its[i]? =some x->Wq x<=EV its
 | [],i,x,h=>by simp at h
 | y::r,0,x,h=>by simp at h;subst h;simp only [EV];omega
 | y::r,i+1,x,h=>by have:=Yf (its:=r) (i:=i) (x:=x) (by simpa using h);simp only [EV];omega
theorem akt (n:Nat):∀{t:Js} {h:H} {cs:List V} {l:Lb} {bv:V} {x:List Nat},sizeOf t<n->Wf h->nS h t cs->Lay t->Nj h l bv x->x.length+Wq t<=100000000->∀{Q:V->H->Prop},(∀Nk x' h',Nj h' l Nk x'->x.length<x'.length->x'.length<=x.length+Wq t->CL h h' l bv Nk->Wf h'->Q (.tuple []) h')->CW pf G0 Ho [.ptr l 0,.agg cs] h Q:=by
 induction n with
 | zero=>intro t h cs l bv x hn;omega
 | succ n ih=>
   intro t h cs l bv x hn hw hj hl hB ft Q hq;cases hj with
   | @mk k i tx ns its nv iv rows ht CT Na UC h5' vB hi hr=>
   obtain ⟨jm,hjm⟩:∃jm,jm=if k=5 then EV its else 0:=⟨_,rfl⟩
   have hjs:Wq (.mk k i tx ns its)=60+6*tx.length+12*(400+jm):=by simp only [Wq,hjm]
   refine Tn.enter (by kernel_rfl) ?_;cbv;refine .agg ?_;cbv;refine .of hw λlb h1 cx gG ar aM=>?_;have hB1:=hB.mono ar;have to1:CL h h1 l bv bv:=(CL.refl h l bv).more ar;have aku:lb≠l:=λe=>by subst e;obtain ⟨o,ho⟩:=hB.live;rw [gG] at ho;cases ho
   have akv:lb∉af bv:=λhm=>by obtain ⟨c,e⟩:=hB.own.row hm;rw [gG] at e;cases e
   cbv;refine .of cx rfl ?_;cases hl with
   | int agn=>
     obtain ⟨d1,d2,d3⟩:=Ye agn;cbv;refine .cP (by omega) ?_;cbv;refine .cP (by omega) ?_;cbv;refine .mY (by omega) ?_;cbv;refine .of cx rfl ?_;cbv;refine QE agn.1 agn.2 ?_;generalize dec i=di at d1 d2 d3;cbv;refine X9 aM hB1 (by omega) (by omega) d3 λnn b2 h2 hB2 PX aq aN=>?_;cbv;exact hq b2 _ h2 hB2 (by simp;omega) (by simp;omega) (to1.trans ⟨aq,PX⟩ hB1) aN
   | text=>
     cbv;refine .cP (by omega) ?_;cbv;refine .cP (by omega) ?_;cbv;refine .cP (by omega) ?_;cbv;refine .mY (by omega) ?_;cbv;refine .of cx rfl ?_;cbv;refine OD aM hB1 (by omega) ht λb2 x2 h2 hB2 jc hu2 to2 aN=>?_;cbv;exact hq b2 _ h2 hB2 jc (by omega) (to1.trans to2 hB1) aN
   | obj hll NA UE IN=>
     rw [if_pos rfl] at hjm;obtain ⟨C,hC⟩:∃C,C=400+EV its:=⟨_,rfl⟩;cbv;refine .cP (by omega) ?_;cbv;refine .cP (by omega) ?_;cbv;refine .cP (by omega) ?_;cbv;refine .cP (by omega) ?_;cbv;refine .cP (by omega) ?_;cbv;refine .of cx rfl ?_;cbv;refine adU aM (vB.mono ar) NA λov ys h2 Wh hy ke Bo aq aN=>?_;have hB2:=hB1.mono aq;have to2:=to1.more aq;have cR:=aq.get cx;have nol:l∉af ov:=by obtain ⟨o,ho⟩:=hB1.live;exact Bo.UD ho
     have nob:∀z,z∈af ov->z∉af bv:=λz hz hm=>by obtain ⟨c,e⟩:=hB1.own.row hm;rw [Bo z hz] at e;cases e
     cbv;refine .of ke.sl λm hm0 hmn=>?_;cbv;refine .inv [p0,p3,p12,p13,p14] (λm' aC h'=>∃(j:Int) (Nk:V) (x':List Nat),aC=[.ptr l 0,.ptr lb 0,ov,.int .i64 m,.int .i64 j]/\0<=j/\j.toNat<=ys.length/\m'=ys.length - j.toNat/\Nj h' l Nk x'/\x.length<=x'.length/\x'.length<=x.length+j.toNat*C/\CL h2 h' l bv Nk/\Wf h') [_,_,_,_,_] rfl _ ⟨0,bv,x,rfl,by omega,by simp,rfl,hB2,by omega,by omega,CL.refl _ _ _,aN⟩ ?_;rintro m' _ h3 ⟨j,b3,x3,rfl,Uy,hj,dY,No,aC7,auJ,to3,aR⟩;have hjC:j.toNat*C<=12*C:=Nat.mul_le_mul_right _ (by omega);have gB:=to3.get cR aku akv;have hn3:Ro h3 1 nv ns.length (strs ns):=(vB.mono ar).mono aq |>.mono to3.mod;have OE:=((hi.mono ar).mono aq).mono to3.mod;cbv;refine .lt (λbA=>?_) λjb=>?_
     ·obtain ⟨y,NW⟩:∃y,ys[j.toNat]? =some y:=⟨_,List.getElem?_eq_getElem (by omega)⟩
      have hyb:=hy y (List.mem_of_getElem? NW);have fT:Sl h3 1 ov ys.length (ints ys):=ke.sl.mono to3.mod λz hz hm=>by
       rcases List.mem_cons.1 hm with rfl | hm
       ·exact nol hz
       ·exact nob z hz hm
      have uI:rowFrom (ints ys) (j.toNat*1) 1=some [.int .i64 y]:=by
       rw [Nat.mul_one];unfold rowFrom;have:=Lr NW;rw [<-Nat.add_zero j.toNat,<-pL] at this;generalize bB j.toNat (ints ys)=zs at this ⊢;cases zs with
       | nil=>simp at this
       | cons z zs=>simp at this;subst this;rfl
      cbv;refine .of fT Uy rfl (by omega) uI λq off he=>?_;cbv;refine .gH he 0 rfl ?_;cbv;refine .of λmn aC8=>?_;have U':∃c,[123,44][mn.toNat]? =some c/\c<256:=by
       have:mn.toNat=0\/mn.toNat=1:=by omega
       rcases this with e | e<;>rw [e]<;>exact ⟨_,rfl,by decide⟩
      obtain ⟨c1,U',aC9⟩:=U';cbv;refine .of (by omega) U' λy1 adg anU=>?_;cbv;refine gR aR No (by omega) adg (by omega) λb4 h4 Yd Oo aD aQ=>?_;have to4:CL h3 h4 l b3 b4:=⟨aD,Oo⟩;have apd:=to3.trans to4 No;have dB:=apd.get cR aku akv;obtain ⟨nm,si⟩:∃nm,ns[y.toNat]? =some nm:=⟨_,List.getElem?_eq_getElem (by omega)⟩;have auW:=CT nm (List.mem_of_getElem? si);have aDa:=UE nm (List.mem_of_getElem? si);cbv;refine .of dB rfl ?_;cbv;refine .of (hn3.mono aD).sl hyb.1 rfl (by omega) (eQ si) λq2 Fk ur=>?_;cbv;refine .gH ur 0 rfl ?_;cbv;refine OD aQ Yd (by simp;omega) auW λb5 x5 h5 Np Bg hu5 to5 bH=>?_;simp only [List.length_append,List.length_cons,List.length_nil] at Bg hu5;have auX:=apd.trans to5 Yd;cbv;refine gR bH Np (by omega) (by omega) (by decide) λb6 h6 hB6 Qu bP cy=>?_;have to6:CL h5 h6 l b5 b6:=⟨bP,Qu⟩;have agy:=auX.trans to6 Np;have Rs:=agy.get cR aku akv;have hi6:=((hi.mono ar).mono aq).mono agy.mod;obtain ⟨tz,htz⟩:∃t,its[y.toNat]? =some t:=⟨_,List.getElem?_eq_getElem (by omega)⟩;have hjm:=Yf htz;have aDb:j.toNat*C+C<=12*C:=by rw [<-Nat.succ_mul];exact Nat.mul_le_mul_right _ (by omega)
      obtain ⟨ecs,FR,hre⟩:=(((hr.mono ar).mono aq).mono agy.mod).get htz;have akd:=Js.IM (k:=5) (i:=i) (t:=tx) (ns:=ns) htz;obtain ⟨a1,a2,a3,a4,a5,rfl⟩:=FR.five;cbv;refine .of Rs rfl ?_;cbv;refine .of hi6.sl hyb.1 rfl (by omega) hre λq3 UJ CS=>?_;cbv;refine .ka CS rfl ?_;cbv;refine ih (by omega) cy FR (IN tz (List.mem_of_getElem? htz)) hB6 (by simp;omega) λb7 x7 h7 hB7 xj hu7 to7 eu=>?_;simp only [List.length_append,List.length_cons,List.length_nil] at xj hu7;cbv;refine .add (by omega) (by omega) λj2 Ji=>?_;have aDf:j2.toNat*C=j.toNat*C+C:=by rw [show j2.toNat=j.toNat+1 by omega,Nat.succ_mul]
      cbv;exact ⟨rfl,ys.length - j2.toNat,by omega,j2,b7,x7,rfl,by omega,by omega,rfl,hB7,by omega,by omega,agy.trans to7 hB6,eu⟩
     ·cbv;refine .of gB rfl ?_
      cbv;refine .of OE.sl λe he0 he=>?_;cbv;refine .eq (λe1=>?_) λe1=>?_
      ·cbv;refine gR aR No (by omega) (by omega) (by decide) λb4 h4 Yd Oo aD aQ=>?_
       cbv;refine gR aQ Yd (by simp;omega) (by omega) (by decide) λb5 h5 Np we aY bH=>?_;cbv;exact hq b5 _ h5 Np (by simp;omega) (by simp;omega) (to2.trans (to3.trans (CL.trans ⟨aD,Oo⟩ ⟨aY,we⟩ Yd) No) hB2) bH
      ·cbv;refine gR aR No (by omega) (by omega) (by decide) λb5 h5 Np we aY bH=>?_
       cbv;exact hq b5 _ h5 Np (by simp;omega) (by simp;omega) (to2.trans (to3.trans ⟨aY,we⟩ No) hB2) bH
theorem yN {t:Js}{h:H}{cs:List V}(hw:Wf h)(hj:nS h t cs)(hl:Lay t)(ft:Wq t<=90000000){Q:V->H->Prop} (hq:∀s (e:Int) h',s.length<=65536->(∀b∈s,b<256)->Mod h h' []->Wf h'->Q (.tuple [.str s,.int .i64 e]) h'):CW pf G0 A6 [.agg cs] h Q:=by
 have gC:=hj.bd;obtain ⟨a1,a2,a3,a4,a5,rfl⟩:=hj.five;refine MY.enter (by kernel_rfl) ?_;cbv;refine .agg ?_;cbv;refine .of hw λlb h1 cx gG ar aM=>?_;cbv;refine .of cx rfl ?_;cbv;refine MZ.enter (by kernel_rfl) ?_;cbv;refine .agg ?_;cbv;refine .of aM λlc h2 E5 hfc aq aN=>?_;cbv;refine .of E5 rfl ?_;have Ji:=(hj.mono ar).mono aq;cbv;refine adG (sizeOf t+1) (by omega) aN Ji hl (by omega) (by omega) λe h3 aF aR=>?_;have aJ:Mod h h3 []:=((ar.trans aq).trans aF).mono λx o _ hx=>by simp at hx
 cbv;refine .ne (λe1=>?_) λe1=>?_
 ·cbv;refine .of aR λl h4 vy M' aD aQ=>?_
  have Xp:h.get l=none:=ai aJ (by simp) M';have hB:Nj h4 l (.nilSlice 0) []:=⟨.inl vy,.nil,by simp [af],by simp⟩;have ay:Mod h h4 []:=(aJ.trans aD).mono λx o _ hx=>by simp at hx
  have dB:=aD.get (aF.get (aq.get cx));cbv;refine .of dB rfl ?_;cbv;refine akt (sizeOf t+1) (by omega) aQ ((Ji.mono aF).mono aD) hl hB (by simp;omega) λb5 x5 h5 Np Bg hu5 to5 bH=>?_;have aL:Mod h h5 []:=ay.fr to5.mod λx hx=>by simp [af] at hx;subst hx;exact .inl Xp
  cbv;refine akh Np λk Ir hk=>?_;cbv;refine .gt (λg=>?_) λg=>?_
  ·cbv;exact hq _ _ h5 (by simp) (by simp) aL bH
  ·have auY:Fr h b5:=λx hx=>by
    cases e0:h.get x with
    | none=>rfl
    | some o=>
      rcases to5.grow x hx with e2 | e2
      ·rw [ay.get e0] at e2;cases e2
      ·simp [af] at e2
   cbv;refine ZY bH Np (by simp at Bg;omega) (by omega) λh6 bP cy=>?_;cbv;exact hq _ _ h6 (by omega) Np.Gp (aL.fr bP λx hx=>.inl (auY x hx)) cy
 ·cbv;exact hq _ _ h3 (by simp) (by simp) aJ aR
end K
namespace Go.Dx
open Go Go.RowKit
structure Fm (pf:Unit->Program) (G n:Nat) (d:DC) (a:A) (h:H) (Q:Ex->A->H->Prop) (Pn:A->V->H->Prop):Prop where
 out:∀c,dy ⟨pf (),G,n⟩ c=d->Sm pf G n c a h Q Pn
section
variable {pf:Unit->Program} {G n:Nat} {d d1 d2:DC} {a:A} {h:H} {Q:Ex->A->H->Prop} {Pn:A->V->H->Prop}
theorem Fm.of (k:Uz pf G n d a h Q Pn):Fm pf G n d a h Q Pn:=⟨λ_ hc=>Kq hc k⟩
theorem Nq {C:CE}{c:Code}(h:dy C c = .seq d1 d2):∃c1 c2,c = .seq c1 c2/\dy C c1=d1/\dy C c2=d2:=by
 cases c with
 | seq c1 c2=>simp only [dy,DC.seq.injEq] at h;exact ⟨c1,c2,rfl,h.1,h.2⟩
 | region id ops draw=>
   simp only [dy] at h;split at h
   ·split at h
    ·unfold jf at h
     simp only at h;split at h<;>cases h
    ·cases h
   ·cases h
 | cond x y z=>
   simp only [dy] at h;split at h<;>cases h
 | _=>cases h
theorem Fm.seq (k:Fm pf G n d1 a h (ahL (λa h=>Fm pf G n d2 a h Q Pn) Q) Pn):Fm pf G n (.seq d1 d2) a h Q Pn:=by
 refine ⟨λc hc=>?_⟩;obtain ⟨c1,c2,rfl,h1,h2⟩:=Nq hc;refine .seq ((k.out c1 h1).mono λe a' h' q=>?_);cases e with
 | normal=>exact Fm.out q c2 h2
 | exit id=>exact q
 | ret=>exact q
theorem Fm.weak (ps:List Lb){aC:List V}(hv:ps.map (λp=>a.tmps.get p)=aC.map some) (k:Fm pf G n d {tmps:=fV ps aC,defers:=a.defers} h Q Pn):Fm pf G n d a h Q Pn:=
 ⟨λc hc=>(k.out c hc).weak (uT hv)⟩
theorem bM.mj {f:FuncId}{fn:bC}(c:bM pf G f fn){args:List V}{Q:V->H->Prop} (hl:Nat.ble args.length fn.ntmps=true)
  (hk:Fm pf G fn.ntmps fn.code {tmps:=fY args [] .leaf,defers:=[]} h (pW pf G fn.results Q) λ_ _ _=>False):CW pf G f args h Q:=by
 obtain ⟨func,h1,h2⟩:=c.out;exact CX.acR h1 h2 hl (λ_ _ _ q=>q.elim) λcc hc=>hk.out cc hc
end
end Go.Dx
namespace K
open Go Go.Dx Go.RowKit Go.Proofs
set_option maxRecDepth 100000
theorem _root_.Go.Dx.CX.auZ {pf:Unit->Program} {G:Nat} {f:FuncId} {s:List Nat} {h:H} {Q Pn:V->H->Prop} (k:(∀b∈s,b<256)->CX pf G f [.str s] h Q Pn):CX pf G f [.str s] h Q Pn:=by
 refine ⟨λ{B w0 ρ w xs} R hG hx=>?_⟩;have hb:∀b∈s,b<256:=by
  cases hx with
  | cons r t=>
    generalize hv:V.str s=v at r;cases r with
    | str t=>
      cases hv;intro b hb;unfold ax at hb;obtain ⟨u,_,rfl⟩:=List.mem_map.1 hb;exact u.toNat_lt
    | _=>cases hv
 exact (k hb).out R hG hx
theorem zD {h:H}{s:List Nat}(hw:Wf h){Q:V->H->Prop} (bq:∀h',Mod h h' []->Wf h'->Q (.bool false) h') (bw:∀h',s.length<=512->Mod h h' []->Wf h'->Q (.bool true) h'):CW pf G0 qy [.str s] h Q:=by
 refine yw.enter (by kernel_rfl) ?_;cbv;refine .UB (λe=>?_) λe=>?_
 ·cbv;exact bq h (Mod.refl _ _) hw
 ·cbv;refine .of λn eT hn=>?_
  cbv;refine .le (λe1=>?_) λe1=>?_
  ·cbv;refine .of hw (by omega) λbv h1 AN ar aM=>?_
   cbv;refine mL AN (by omega) λr=>?_;cbv;refine .lt (λe2=>?_) λe2=>?_
   ·cbv;exact bw h1 (by omega) ar aM
   ·cbv;exact bq h1 ar aM
  ·cbv;exact bq h (Mod.refl _ _) hw
structure au0 (kind:Int)(aI name text:List Nat):Prop where
 kind:1<=kind/\kind<=10
 aI:isName aI
 name:name=[]\/isName name
 text:text.length<=512
def hZ:DC->DC
 | .seq _ d=>d
 | d=>d
noncomputable def adW:DC:=hZ (hZ (hZ (hZ (hZ Bc.code))))
noncomputable def agz:DC:=hZ adW
theorem agA {h:H}{lb:Lb}{kind:Int}{aI name text:List Nat}{wb:Bool}(hw:Wf h)(hb:h.get lb=some (.cells [.int .i64 kind,.str aI,.str name,.str text] 35 0 .yes)){Q:V->H->Prop} (bq:∀(r:Int) h',0<=r->Mod h h' []->Wf h'->Q (.int .i64 r) h') (bw:∀h',text.length<=512->Mod h h' []->Wf h'->Q (.int .i64 (-1)) h'):
  Fm pf G0 86 agz {tmps:=fV [p1,p4] [.ptr lb 0,.bool wb],defers:=[]} h (pW pf G0 [.tmp p2] Q) λ_ _ _=>False:=by
 refine .of ?_;cbv;refine .of hb rfl ?_;cbv;refine .eq (λk3=>?_) λk3=>?_
 ·cbv;refine .of hb rfl ?_
  cbv;refine .UB (λq1=>?_) λq1=>?_
  ·cbv;exact bw h (by rw [q1];simp) (Mod.refl _ _) hw
  cbv;refine .of hb rfl ?_;cbv;refine .UB (λq2=>?_) λq2=>?_
  ·cbv;exact bw h (by rw [q2];simp) (Mod.refl _ _) hw
  ·cbv;exact bq 3 h (by omega) (Mod.refl _ _) hw
 ·cases wb
  ·cbv;refine .of hb rfl ?_
   cbv;refine .UB (λq1=>?_) λq1=>?_
   ·cbv;exact bw h (by rw [q1];simp) (Mod.refl _ _) hw
   ·cbv;exact bq 3 h (by omega) (Mod.refl _ _) hw
  ·cbv;refine .of hb rfl ?_
   cbv;refine zD hw (λh9 eU pd=>?_) λh9 ht9 eU pd=>?_
   ·cbv;exact bq 3 h9 (by omega) eU pd
   ·cbv;exact bw h9 ht9 eU pd
theorem agB {h:H}{lb:Lb}{kind:Int}{aI name text:List Nat}{nb wb:Bool}(hw:Wf h)(hn:name.length<=1000000)(hb:h.get lb=some (.cells [.int .i64 kind,.str aI,.str name,.str text] 35 0 .yes)){Q:V->H->Prop} (bq:∀(r:Int) h',0<=r->Mod h h' []->Wf h'->Q (.int .i64 r) h') (bw:∀h',(name=[]\/isName name)->text.length<=512->Mod h h' []->Wf h'->Q (.int .i64 (-1)) h'):
  Fm pf G0 86 adW {tmps:=fV [p1,p3,p4] [.ptr lb 0,.bool nb,.bool wb],defers:=[]} h (pW pf G0 [.tmp p2] Q) λ_ _ _=>False:=by
 refine .seq (.of ?_);have go:∀{h1:H} (a:A),Mod h h1 []->Wf h1->(name=[]\/isName name)->([p1,p4].map λp=>a.tmps.get p)=[V.ptr lb 0,.bool wb].map some->a.defers=[]->Fm pf G0 86 agz a h1 (pW pf G0 [.tmp p2] Q) λ_ _ _=>False:=λa ar aM si hv hd=>by
  obtain ⟨tm,df⟩:=a;cases hd;exact .weak [p1,p4] hv (agA aM (ar.get hb) (λr h' hr dY cG=>bq r h' hr ((ar.trans dY).mono λx o _ hx=>by simp at hx) cG) λh' ht dY cG=>bw h' si ht ((ar.trans dY).mono λx o _ hx=>by simp at hx) cG)
 cbv;refine .of hb rfl ?_;cbv;refine .eq (λk4=>?_) λk4=>?_
 ·cbv;refine .of hb rfl ?_
  cbv;refine .UB (λq1=>?_) λq1=>?_
  ·cbv;exact go _ (Mod.refl _ _) hw (.inl q1) rfl rfl
  ·cbv;refine .of hb rfl ?_
   cbv;refine cz hw (by omega) (λh3 vB aF aR=>?_) λh3 vB aF aR=>?_
   ·cbv;exact go _ aF aR (.inr vB) rfl rfl
   ·cbv;exact bq 2 h3 (by omega) aF aR
 ·cbv;refine .of hb rfl ?_
  cbv;refine cz hw (by omega) (λh3 vB aF aR=>?_) λh3 vB aF aR=>?_
  ·cases nb
   ·cbv;exact bq 2 h3 (by omega) aF aR
   ·cbv;exact go _ aF aR (.inr vB) rfl rfl
  ·cases nb
   ·cbv;refine .of (aF.get hb) rfl ?_
    cbv;refine .UB (λq0=>?_) λq0=>?_
    ·cbv;exact go _ aF aR (.inl q0) rfl rfl
    ·cbv;exact bq 2 h3 (by omega) aF aR
   ·cbv;exact bq 2 h3 (by omega) aF aR
theorem akx {h:H}{kind:Int}{aI name text:List Nat}(hw:Wf h)(hi:aI.length<=1000000)(hn:name.length<=1000000){Q:V->H->Prop} (bq:∀(r:Int) h',0<=r->Mod h h' []->Wf h'->Q (.int .i64 r) h') (bw:∀h',au0 kind aI name text->Mod h h' []->Wf h'->Q (.int .i64 (-1)) h'):
  CW pf G0 su [.agg [.int .i64 kind,.str aI,.str name,.str text]] h Q:=by
 refine Bd.mj (by kernel_rfl) ?_;refine .seq (.of ?_);cbv;refine .agg ?_;cbv;refine .of hw λlb h1 cx gG ar aM=>?_;cbv;refine .seq (.of ?_);cbv;refine .of cx rfl ?_;cbv;refine .lt (λe1=>?_) λe1=>?_
 ·cbv;exact bq _ h1 (by omega) ar aM
 cbv;refine .of cx rfl ?_;cbv;refine .gt (λe2=>?_) λe2=>?_
 ·cbv;exact bq _ h1 (by omega) ar aM
 cbv;refine .seq (.of ?_);cbv;refine .of cx rfl ?_;cbv;refine cz aM (by omega) (λh2 AP aq aN=>?_) λh2 AP aq aN=>?_
 ·have aO:Mod h h2 []:=(ar.trans aq).mono λx o _ hx=>by simp at hx
  have cR:=aq.get cx;have go:∀(a:A) (nb wb:Bool),([p1,p3,p4].map λp=>a.tmps.get p)=[V.ptr lb 0,.bool nb,.bool wb].map some->a.defers=[]->Fm pf G0 86 adW a h2 (pW pf G0 [.tmp p2] Q) λ_ _ _=>False:=λa nb wb hv hd=>by
   obtain ⟨tm,df⟩:=a;cases hd;exact .weak [p1,p3,p4] hv (agB aN hn cR (λr h' hr dY cG=>bq r h' hr ((aO.trans dY).mono λx o _ hx=>by simp at hx) cG) λh' si ht dY cG=>bw h' ⟨by omega,AP,si,ht⟩ ((aO.trans dY).mono λx o _ hx=>by simp at hx) cG)
  cbv;refine .seq (.of ?_);cbv;refine .seq (.of ?_);cbv;refine .of cR rfl ?_;cbv;refine .eq (λk5=>?_) λk5=>?_
  ·cbv;exact go _ _ _ rfl rfl
  cbv;refine .eq (λk6=>?_) λk6=>?_
  ·cbv;exact go _ _ _ rfl rfl
  cbv;refine .eq (λk7=>?_) λk7=>?_
  ·cbv;exact go _ _ _ rfl rfl
  cbv;refine .eq (λk8=>?_) λk8=>?_
  ·cbv;exact go _ _ _ rfl rfl
  cbv;refine .eq (λk9=>?_) λk9=>?_
  ·cbv;exact go _ _ _ rfl rfl
  cbv;refine .eq (λk1=>?_) λk1=>?_
  ·cbv;exact go _ _ _ rfl rfl
  cbv;refine .eq (λk2=>?_) λk2=>?_
  ·cbv;exact go _ _ _ rfl rfl
  ·cbv;exact go _ _ _ rfl rfl
 ·have aO:Mod h h2 []:=(ar.trans aq).mono λx o _ hx=>by simp at hx
  cbv;exact bq _ h2 (by omega) aO aN
theorem dM {h:H}{a y:Int}{Q:V->H->Prop} (hq:Q (.iface bV (.agg [.int .i64 a,.int .i64 y])) h):CW pf G0 vY [.int .i64 a,.int .i64 y] h Q:=by
 refine H6.enter (by kernel_rfl) ?_;cbv;refine .flat rfl ?_;cbv;refine .flat rfl ?_;cbv;exact hq
theorem j8 {h:H}{s:List Nat}(hs:s.length<=10000000){Q:V->H->Prop} (hq:∀r,r=[105,47]++s->Q (.str r) h):CW pf G0 qz [.str s] h Q:=by
 refine Ct.enter (by kernel_rfl) ?_;cbv;refine .cat (by simp;omega) λr hr=>?_;cbv;exact hq r hr
theorem jy {h:H}{s t:List Nat}(hs:s.length<=10000000)(ht:t.length<=10000000){Q:V->H->Prop} (hq:∀r:List Nat,r.length=s.length+t.length+3->Q (.str r) h):CW pf G0 nG [.str s,.str t] h Q:=by
 refine yz.enter (by kernel_rfl) ?_;cbv;refine .cat (by simp;omega) λr hr=>?_;have Wj:r.length=s.length+2:=by rw [hr];simp
 clear hr;cbv;refine .cat (by simp;omega) λr2 qN=>?_;have agr:r2.length=s.length+3:=by rw [qN];simp;omega
 clear qN;cbv;refine .cat (by omega) λr3 ug=>?_;have aky:r3.length=s.length+t.length+3:=by rw [ug];simp;omega
 clear ug;cbv;exact hq r3 aky
theorem yO {h:H}{s t:List Nat}(hs:s.length<=10000000)(ht:t.length<=10000000){Q:V->H->Prop} (hq:∀r:List Nat,r.length=s.length+t.length+3->Q (.str r) h):CW pf G0 qA [.str s,.str t] h Q:=by
 refine Cu.enter (by kernel_rfl) ?_;cbv;refine .cat (by simp;omega) λr hr=>?_;have Wj:r.length=s.length+2:=by rw [hr];simp
 clear hr;cbv;refine .cat (by simp;omega) λr2 qN=>?_;have agr:r2.length=s.length+3:=by rw [qN];simp;omega
 clear qN;cbv;refine .cat (by omega) λr3 ug=>?_;have aky:r3.length=s.length+t.length+3:=by rw [ug];simp;omega
 clear ug;cbv;exact hq r3 aky
theorem qR {h:H}{k v:List Nat}(hw:Wf h){Q:V->H->Prop} (hq:∀ov h',aE h' ej 3 ov 1 [.str k,.bool false,.str v]->Loc h h' ov->Q ov h'):CW pf G0 A7 [.str k,.str v] h Q:=by
 refine M0.enter (by kernel_rfl) ?_;cbv;refine .flat rfl ?_;cbv;refine .flat rfl ?_;cbv;refine .agg ?_;cbv;refine .of hw λl h1 hl hf hm aM=>?_;have ho:aE h1 ej 3 (.slice l 0 1 (.exact 1)) 1 [.str k,.bool false,.str v]:=.exact hl rfl;have lo:Loc h h1 (.slice l 0 1 (.exact 1)):=⟨hm,λx hx=>by simp [af] at hx;subst hx;exact hf,aM⟩;generalize V.slice l 0 1 (.exact 1)=ov at ho lo;cbv;exact hq ov h1 ho lo
end K
namespace K
open Go Go.Dx Go.RowKit Go.Proofs
set_option maxRecDepth 100000
def Wr (s:List Nat):Js:=.mk 3 0 s [] []
theorem Yg:∀{l:List (List Nat)},(∀s∈l,s.length<=300000)->EV (l.map Wr)<=1804860
 | [],_=>by simp [EV]
 | s::r,h=>by
   have h1:=h s (by simp);have h2:=Yg (l:=r) λx hx=>h x (by simp [hx]);have h3:Wq (Wr s)=60+6*s.length+12*400:=by simp [Wr,Wq]
   simp only [List.map_cons,EV,h3];omega
theorem tW {h:H}{nv vv:V}{ns vs:List (List Nat)}(hw:Wf h)(hn:Ro h 1 nv ns.length (strs ns))(hv:Sl h 1 vv vs.length (strs vs))(hl:ns.length=vs.length)(hs:ns.length<=12)(hnb:∀s∈ns,s.length<=64/\∀b∈s,b<256) (KZ:∀s∈vs,bt s) {Q:V->H->Prop} (hq:∀r h',r.length<=65536->Mod h h' []->Wf h'->Q (.str r) h'):
  CW pf G0 tq [nv,vv] h Q:=by
 have qW:=hn.flat;refine Gk.enter (by kernel_rfl) ?_;cbv;refine .flat rfl ?_;cbv;refine .flat qW ?_;cbv;refine .of hw λlb h1 cx gG ar aM=>?_;cbv;refine .of (cs:=[.int .i64 5,.int .i64 0,.str [],nv,.nilSlice 0]) aM cx rfl rfl rfl rfl (by show (true&&(true&&(true&&(bU nv&&(true&&true)))))=true;rw [qW];rfl) rfl λh2 cR aq aN=>?_;have aO:Mod h h2 []:=ar.fr aq λl hl=>by simp at hl;subst hl;exact .inl gG
 cbv;refine .of (hv.mono aO) λm hm0 hmn=>?_;cbv;refine .inv [p1,p5,p12,p13,p14] (λm' aC h'=>∃(x:Int) (lv:V) (rows:List V),aC=[vv,.ptr lb 0,vv,.int .i64 m,.int .i64 x]/\0<=x/\x.toNat<=vs.length/\m'=vs.length - x.toNat/\aE h' bK 5 lv (vs.take x.toNat).length rows/\oF h' ((vs.take x.toNat).map Wr) rows/\Fr h lv/\lb∉af lv/\h'.get lb=some (.cells [.int .i64 5,.int .i64 0,.str [],nv,lv] bK 0 .yes)/\Mod h h' []/\Wf h') [_,_,_,_,_] rfl _
  ⟨0,.nilSlice 0,[],rfl,by omega,by simp,rfl,.nil,.nil,Fr.EO _ _,by simp [af],cR,aO,aN⟩ ?_
 rintro m' _ h3 ⟨x,lv,rows,rfl,lN,hx,dY,fT,X4,Mg,nb3,gB,aJ,aR⟩;cbv;refine .lt (λbA=>?_) λjb=>?_
 ·obtain ⟨s,AN⟩:∃s,vs[x.toNat]? =some s:=⟨_,List.getElem?_eq_getElem (by omega)⟩
  have hsb:=KZ s (List.mem_of_getElem? AN);cbv;refine .of (hv.mono aJ) lN rfl (by omega) (eQ AN) λq off he=>?_;cbv;refine .gH he 0 rfl ?_;cbv;refine .of gB rfl ?_;cbv;refine .flat rfl ?_;cbv;refine .flat rfl ?_;cbv;refine .agg ?_;cbv;refine .of aR λl4 h4 vy X2 aD aQ=>?_;have hdl:(vs.take x.toNat).length<=12:=by rw [List.length_take];omega
  cbv;refine .own aQ (fT.mono aD) (m:=1) (new:=[.int .i64 3,.int .i64 0,.str s,.nilSlice 0,.nilSlice 0]) (by simp only [de,vy];rfl) rfl rfl (by unfold bz;omega) (by decide) λlv5 h5 kh we aY bH=>?_;have ay:Mod h h4 []:=(aJ.trans aD).mono λl o _ hl=>by simp at hl
  have aL:Mod h h5 []:=ay.fr aY λl hl=>.inl (Mg l hl);have pU:=aY.get (aD.get gB) nb3;have IL:Fr h lv5:=we.fr ay (by simp) Mg;have nb5:=we.dG (aD.get gB) nb3;have ZH:=((X4.mono aD).mono aY).snoc (nS.zero h5 3 0 hsb);cbv;refine .one bH pU kh.sl.flat rfl rfl rfl λh6 Rs bP cy=>?_;have bT:Mod h h6 []:=aL.fr bP λl hl=>by simp at hl;subst hl;exact .inl gG
  cbv;refine .add (by omega) (by omega) λx2 lH=>?_;have vS:vs.take x2.toNat=vs.take x.toNat++[s]:=by rw [show x2.toNat=x.toNat+1 by omega,List.take_add_one,AN];rfl
  cbv;exact ⟨rfl,vs.length - x2.toNat,by omega,x2,lv5,_,rfl,by omega,by omega,rfl,by rw [vS,List.length_append];exact kh.mono bP (fk nb5),by rw [vS,List.map_append];exact ZH.mono bP,IL,nb5,Rs,bT,cy⟩
 ·have cf:vs.take x.toNat=vs:=List.take_of_length_le (by omega)
  rw [cf] at fT X4;cbv;refine .of gB rfl ?_;obtain ⟨h4,l4,ro4,aD,aQ⟩:=fT.freeze aR;have ay:Mod h h4 []:=aJ.fr aD λl hl=>.inl (Mg l hl);cbv;refine CW.less l4 (yN (t:=.mk 5 0 [] ns (vs.map Wr)) aQ (.mk ⟨by simp,by simp⟩ (λs lJ=>⟨by have:=(hnb s lJ).1;omega,(hnb s lJ).2⟩) (by omega) (by simp;omega) (λ_=>by simp [hl]) (hn.mono ay) (by rw [List.length_map];exact ro4) (X4.mono aD)) (.obj (by simp [hl]) hs (λs lJ=>(hnb s lJ).1) λy hy=>?_) ?_ λr e h5 hr _ aY bH=>?_)
  ·obtain ⟨s,_,rfl⟩:=List.mem_map.1 hy
   exact .text
  ·have:=Yg λs lJ=>(KZ s lJ).1
   simp only [Wq,List.length_nil,if_true];omega
  ·cbv;exact hq r h5 hr ((ay.trans aY).mono λx o _ hx=>by simp at hx) bH
end K
namespace K
open Go Go.Dx Go.RowKit Go.Proofs
set_option maxRecDepth 100000
theorem pig:∀{ns nl:List (List Nat)},ns.Nodup->(∀a∈ns,a∈nl)->nl.length=ns.length->nl.Perm ns
 | [],nl,_,_,hl=>by
   cases nl with
   | nil=>exact .nil
   | cons a r=>simp at hl
 | a::r,nl,hd,hm,hl=>by
   have ha:a∈nl:=hm a (by simp);have Sf:=List.nodup_cons.1 hd;have h1:=pig (ns:=r) (nl:=nl.erase a) Sf.2 (λb hb=>(List.mem_erase_of_ne (λe=>Sf.1 (by rw [<-e];exact hb))).2 (hm b (by simp [hb]))) (by rw [List.length_erase_of_mem ha,hl];simp);exact (List.perm_cons_erase ha).trans (h1.cons a)
def Js.Ls:Js->Prop
 | .mk k _ _ _ _=>k=3
theorem Ws {ns nl:List (List Nat)}{its:List Js}{i:Int}{tx:List Nat}(hd:ns.Nodup)(hs:ns.length<=12)(hb:∀a∈ns,a.length<=64) (hl:nl.length=ns.length) (h5:nl.length=its.length) (cf:∀a∈ns,∃(j:Nat) (x:Js),nl[j]? =some a/\its[j]? =some x/\Js.Ls x):Lay (.mk 5 i tx nl its)/\∀x∈its,Js.Ls x:=by
 have hp:=pig hd (λa ha=>by obtain ⟨j,x,h1,_⟩:=cf a ha;exact List.mem_of_getElem? h1) hl;have hdl:nl.Nodup:=hp.nodup_iff.2 hd;have htx:∀x∈its,Js.Ls x:=λx hx=>by
  obtain ⟨j,hj,e⟩:=List.getElem_of_mem hx;have Ji:j<nl.length:=by omega
  obtain ⟨k,y,h1,h2,h3⟩:=cf nl[j] (hp.mem_iff.1 (List.getElem_mem Ji));obtain ⟨hk,e2⟩:=List.getElem?_eq_some_iff.1 h1;have:k=j:=by
   rcases Nat.lt_trichotomy k j with g | g | g
   ·exact absurd e2 (List.pairwise_iff_getElem.1 hdl k j hk Ji g)
   ·exact g
   ·exact absurd e2.symm (List.pairwise_iff_getElem.1 hdl j k Ji hk g)
  subst this;rw [List.getElem?_eq_getElem hj,e] at h2;cases h2;exact h3
 refine ⟨.obj h5 (by omega) (λs lJ=>hb s (hp.mem_iff.1 lJ)) λx hx=>?_,htx⟩;have:=htx x hx;obtain ⟨k,i,t,a,b⟩:=x;cases this;exact .text
theorem OG {h:H}:∀{its:List Js} {rows:List V},oF h its rows->(∀x∈its,Js.Ls x)->EV its<=1804860
 | _,_,.nil,_=>by simp [EV]
 | t::r,_,.cons ha hb,hx=>by
   have h1:=OG hb λx h=>hx x (by simp [h]);have h2:=hx t (by simp);cases ha with
   | mk ht=>
     cases h2;have:=ht.1;simp only [EV,Wq];simp;omega
theorem OH {h:H}{s:List Nat}{nv:V}{ns:List (List Nat)}(hw:Wf h)(he:HE h)(hn:Ro h 1 nv ns.length (strs ns))(hd:ns.Nodup)(hs:ns.length<=12)(uJ:∀a∈ns,a.length<=64) {Q:V->H->Prop} (bq:∀h',Mod h h' []->Wf h'->Q (.tuple [.nilSlice 0,.bool false]) h') (bw:∀ov vs b h',aE h' 9 1 ov vs.length (strs vs)->vs.length=ns.length->(∀v∈vs,bt v)->Mod h h' []->Fr h ov->Wf h'->Q (.tuple [ov,.bool b]) h'):
  CW pf G0 tv [.str s,nv] h Q:=by
 refine Gm.enter (by kernel_rfl) ?_;cbv;refine CX.auZ λhb=>TI hw he hb λt cs a0 e0 h1 hj1 ar aM=>?_;have gC:=hj1.bd;obtain ⟨k,i,tx,nl,its⟩:=t;cases hj1 with
 | @mk _ _ _ _ _ jn ji rows ht CT Na UC h5 vB hi hr=>
 cbv;refine .of aM λlb h2 cR gG aq aN=>?_;have fb:=ai ar (by simp) gG;cbv;refine .of (cs:=[.int .i64 k,.int .i64 i,.str tx,jn,ji]) aN cR rfl rfl rfl rfl gC rfl λh3 gB aF aR=>?_;have aJ:Mod h h3 []:=((ar.trans aq).fr aF λl hl=>by simp at hl;subst hl;exact .inl fb).mono λl o _ hl=>by simp at hl
 have fU:Mod h1 h3 []:=aq.fr aF λl hl=>by simp at hl;subst hl;exact .inl gG
 have ug:=hr.mono fU;have OE:=hi.mono fU;have akz:=vB.mono fU;clear hr hi vB ar aq aF gC;cbv;refine .ne (λe1=>?_) λe1=>?_;rotate_left
 ·cbv;exact bq h3 aJ aR
 cbv;refine .of gB rfl ?_;cbv;refine .ne (λe2=>?_) λe2=>?_;rotate_left
 ·cbv;exact bq h3 aJ aR
 subst e2;cbv;refine .of gB rfl ?_;cbv;refine .of akz.sl λn1 amX Fj=>?_;cbv;refine .of (hn.mono aJ).sl λn2 IW YL=>?_;cbv;refine .ne (λe3=>?_) λe3=>?_;rotate_left
 ·cbv;exact bq h3 aJ aR
 cbv;refine .of (hn.mono aJ).sl λm hm0 hmn=>?_;cbv;refine .inv [p0,p1,p6,p9,p37,p38,p39] (λm' aC h'=>∃(x:Int) (lv:V) (vs:List (List Nat)),aC=[.str s,nv,.ptr lb 0,lv,nv,.int .i64 m,.int .i64 x]/\0<=x/\x.toNat<=ns.length/\m'=ns.length - x.toNat/\vs.length=x.toNat/\(∀v∈vs,bt v)/\(∀a∈ns.take x.toNat,∃(j:Nat) (y:Js),nl[j]? =some a/\its[j]? =some y/\Js.Ls y)/\aE h' 9 1 lv vs.length (strs vs)/\Fr h lv/\lb∉af lv/\h'.get lb=some (.cells [.int .i64 5,.int .i64 i,.str tx,jn,ji] bK 0 .yes)/\Ro h' 1 jn nl.length (strs nl)/\Ro h' 5 ji its.length rows/\oF h' its rows/\Mod h h' []/\Wf h') [_,_,_,_,_,_,_] rfl _
  ⟨0,.nilSlice 0,[],rfl,by omega,by simp,rfl,rfl,by simp,by simp,.nil,Fr.EO _ _,by simp [af],gB,akz,OE,ug,aJ,aR⟩ ?_
 clear aJ aR gB akz OE ug;rintro m' _ h4 ⟨x,lv,vs,rfl,lN,hx,dY,hvl,KZ,cf,jv,X2,nb4,dB,akA,X8,xe,ay,aQ⟩;cbv;refine .lt (λbA=>?_) λjb=>?_
 ·obtain ⟨a,ha⟩:∃a,ns[x.toNat]? =some a:=⟨_,List.getElem?_eq_getElem (by omega)⟩
  cbv;refine .of (hn.mono ay).sl lN rfl (by omega) (eQ ha) λq off heq=>?_;cbv;refine .gH heq 0 rfl ?_;cbv;refine .of dB rfl ?_;cbv;refine ZW aQ (.mk ht CT Na UC h5 akA X8 xe) (λh5' aY bH=>?_) λj y VE h5' hj1 Ji hjy aY bH=>?_
  all_goals
   have aL:Mod h h5' []:=(ay.trans aY).mono λl o _ hl=>by simp at hl
  ·cbv;refine .of bH λle h6 xq lA bP cy=>?_
   have fe:=ai aL (by simp) lA;cbv;refine .of (cs:=[.int .i64 0,.int .i64 0,.str [],.nilSlice 0,.nilSlice 0]) cy xq rfl rfl rfl rfl rfl rfl λh7 Bp cH eu=>?_;have cM:Mod h h7 []:=((aL.trans bP).fr cH λl hl=>by simp at hl;subst hl;exact .inl fe).mono λl o _ hl=>by simp at hl
   cbv;exact bq h7 cM eu
  ·have hfy:=hjy.bd
   obtain ⟨ky,iy,ty,nsy,aDi⟩:=y;cases hjy with
   | @mk _ _ _ _ _ jn2 ji2 ayN hty aDl aDm aDn h5y aDo hiy hry=>
   cbv;refine .of bH λle h6 xq lA bP cy=>?_;have fe:=ai aL (by simp) lA;cbv;refine .of (cs:=[.int .i64 ky,.int .i64 iy,.str ty,jn2,ji2]) cy xq rfl rfl rfl rfl hfy rfl λh7 Bp cH eu=>?_;have CC:Mod h5' h7 []:=bP.fr cH λl hl=>by simp at hl;subst hl;exact .inl lA
   have au2:Mod h4 h7 []:=(aY.trans CC).mono λl o _ hl=>by simp at hl
   have cM:Mod h h7 []:=(aL.trans CC).mono λl o _ hl=>by simp at hl
   cbv;refine .of Bp rfl ?_;cbv;refine .ne (λe4=>?_) λe4=>?_
   ·subst e4
    cbv;refine .of Bp rfl ?_;cbv;refine .flat rfl ?_;cbv;refine .of eu λl8 h8 sQ Nh cO ew=>?_;have akB:Mod h4 h8 []:=(au2.trans cO).mono λl o _ hl=>by simp at hl
    have dL:Mod h h8 []:=(cM.trans cO).mono λl o _ hl=>by simp at hl
    cbv;refine .own ew (jv.mono akB) (m:=1) (new:=[.str ty]) (by simp only [de,sQ];rfl) rfl rfl (by unfold bz;omega) (by decide) λlv9 h9 Jl hg9 eU pd=>?_;rw [show strs vs++[V.str ty]=strs (vs++[ty]) from by rw [jZ];rfl,show vs.length+1=(vs++[ty]).length from by simp] at Jl;have pJ:Mod h h9 []:=dL.fr eU λl hl=>.inl (X2 l hl);have II:=akB.get dB;have akC:=akB.trans eU;cbv;refine .add (by omega) (by omega) λx2 lH=>?_;cbv;exact ⟨rfl,ns.length - x2.toNat,by omega,x2,lv9,vs++[ty],rfl,by omega,by omega,rfl,by simp;omega,(λv hv=>(List.mem_append.1 hv).elim (KZ v) λe=>by simp at e;subst e;exact hty),(λb G3=>by
     rw [show x2.toNat=x.toNat+1 by omega,List.take_add_one,ha] at G3;rcases List.mem_append.1 G3 with h | h
     ·exact cf b h
     ·simp at h;subst h;exact ⟨j,_,hj1,Ji,rfl⟩),Jl,hg9.fr dL (by simp) X2,hg9.dG II nb4,eU.get II nb4,akA.mono akC,X8.mono akC,xe.mono akC,pJ,pd⟩
   ·cbv;exact bq h7 cM eu
 ·rw [List.take_of_length_le (by omega)] at cf
  obtain ⟨akD,htx⟩:=Ws (i:=i) (tx:=tx) hd hs uJ (by omega) (h5 rfl) cf;have hjm:=OG xe htx;have hjs:Wq (.mk 5 i tx nl its)<=90000000:=by
   have:=ht.1;simp only [Wq,if_true];omega
  cbv;refine .of dB rfl ?_;cbv;refine yN aQ (.mk ht CT Na UC h5 akA X8 xe) akD hjs λr e h6 vP hrb bP cy=>?_;have bT:Mod h h6 []:=(ay.trans bP).mono λl o _ hl=>by simp at hl
  cbv;refine .seq (λq=>?_) λq=>?_
  ·cbv;exact bw lv vs true h6 (jv.mono bP) (by omega) KZ bT X2 cy
  ·cbv;exact bw lv vs false h6 (jv.mono bP) (by omega) KZ bT X2 cy
end K
