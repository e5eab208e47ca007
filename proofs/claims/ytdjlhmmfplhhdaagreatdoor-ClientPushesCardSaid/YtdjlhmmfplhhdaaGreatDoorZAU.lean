/-
  The client's laws. Part ZAU of the proof: blotter/jsonx: the parser's members.
-/
import Derived.Recover
import Derived.Test.YtdjlhmmfplhhdaaGreatDoorZAT
import Derived.Test.YtdjlhmmfplhhdaaGreatDoorZAL
import Derived.Test.YtdjlhmmfplhhdaaGreatDoorZAQ
namespace K
open Go Go.Dx Go.RowKit Go.Proofs
set_option maxRecDepth 100000
variable{h0 h h':H}{v:V}
theorem one_mod {p:Lb}(a:Mod h0 h [p])(b:Mod h h' [p]):Mod h0 h' [p]:=(a.trans b).mono λl o _ c=>by simpa using c
theorem iq {p x:Lb}(a:Mod h0 h [p])(b:Mod h h' [x])(f:h0.get x=none):Mod h0 h' [p]:=a.fr b λl c=>by simp at c;subst c;exact .inl f
theorem Rx {p:Lb}(a:Mod h0 h [p])(b:Mod h h' (ag v))(f:Fr h0 v):Mod h0 h' [p]:=a.fr b λl c=>.inl (f l c)
theorem ur {p:Lb}(a:Mod h0 h [p])(b:Mod h h' []):Mod h0 h' [p]:=(a.trans b).mono λl o _ c=>by simpa using c
theorem aj {F:List Lb}(m:Mod h h' F){x:Lb}(n:x∉F)(e:h'.get x=none):h.get x=none:=by
 cases e':h.get x with
 | none=>rfl
 | some o=>rw [m.get e' n] at e;cases e
theorem dJ {x:Lb}(n:x∉ag v):∀l,l∈ag v->l∉[x]:=λl b a=>by simp at a;subst a;exact n b
theorem aa2 {n:Nat}(ih:VS n){p:Lb}{s:List Nat}{i f:Int}(hw:Wf h)(a:mj h p s i)(hn:s.length - i.toNat<n)(sW:0<=f)(hd:f<=16){Q Pn:V->H->Prop} (hq:∀t cs j h',i<j->mj h' p s j->oL h' t cs->Mod h h' [p]->Wf h'->Q (.agg cs) h') (hx:∀v h',Y' v->Mod h h' [p]->Wf h'->Pn v h'):
  CX pf G0 lN [.ptr p 0,.int .i64 f] h Q Pn:=by
 have HB:=a.lo;have Ir:=a.hi;have rN:=a.small;refine CW.qp ?_;refine vE.oZ (by kernel_rfl) ?_;cbv;refine .of hw λR h1 Rr dN ar aK=>?_;cbv;refine .flat rfl ?_;cbv;refine .of aK λM h2 hv2 Dt av aO=>?_;cbv;refine .of aO hv2 rfl rfl rfl rfl rfl rfl λh3 Rs aI aS=>?_;cbv;refine .of aS λF h3' gQ FC Na auU=>?_;have Xv:Mod h h1 [p]:=ur (Mod.refl h [p]) ar;have aQ:=ur Xv av;have IX:R≠M:=λe=>by subst e;rw [Rr] at Dt;cases Dt
 have L:R≠p:=λe=>by subst e;rw [a.get] at dN;cases dN
 have MY:M≠p:=λe=>by subst e;rw [ar.get a.get] at Dt;cases Dt
 have N1:h.get M=none:=aj ar (by simp) Dt;have aN:Mod h h3 [p]:=iq aQ aI N1;have apr:=ur aN Na;have Ao:mj h3' p s i:=(((a.mono ar).mono av).mono aI (by simpa using Ne.symm MY)).mono Na;have uI:=Na.get (aI.get (av.get Rr) (by simpa using IX));have Rs:=Na.get Rs;have Z:F≠M:=λe=>by subst e;rw [Rs] at gQ;cases gQ
 have hmr:F≠R:=λe=>by subst e;rw [uI] at gQ;cases gQ
 have b:F≠p:=λe=>by subst e;rw [Ao.get] at gQ;cases gQ
 have aa3:h.get F=none:=by
  cases e:h.get F with
  | none=>rfl
  | some o=>rw [aN.get e (by simpa using b)] at FC;cases FC
 cbv;refine .H3 <| oD auU Ao λj4 h4 G1 qh aL aW=>?_;have aC:Mod h h4 [p]:=one_mod apr aL;have xu:=aL.get uI (by simpa using L);have hv4:=aL.get Rs (by simpa using MY);have xD:=aL.get gQ (by simpa using b);cbv;refine vG qh (λy c auH hc BV hyc=>?_) λv u=>?_
 ·cbv;refine .eq (λe=>?_) λe=>?_
  ·cbv;refine .of qh.get rfl ?_
   cbv;refine .add (by omega) (by omega) λk hk=>?_;cbv;refine .of aW qh.get rfl rfl rfl rfl rfl rfl λh5 Ap bf bK=>?_;cbv;refine .of (bf.get hv4 (by simpa using MY)) rfl ?_;cbv;refine .of bK (bf.get xu (by simpa using L)) rfl rfl rfl rfl rfl rfl λh6 H4 bR cz=>?_;cbv;refine .of H4 rfl ?_;cbv;refine ⟨h6,.refl _,hq _ _ k h6 (by omega) ?_ (oL.zero h6 5 0 bt.nil) ?_ cz⟩
   ·exact mj.mono ⟨Ap,by omega,by omega,rN,a.GZ⟩ bR (by simpa using Ne.symm L)
   ·exact iq (one_mod aC bf) bR dN
  ·cbv
   refine .inv [p0,p1,p4,p5,p6] (λm' aB h'=>∃(nv iv:V) (ns:List (List Nat)) (its:List Js) (d:List V) (mm:bH) (cl:Nat) (j:Int),aB=[.ptr p 0,.int .i64 f,.ptr R 0,.ptr M 0,.map F]/\h'.get R=some (.cells [.int .i64 0,.int .i64 0,.str [],.nilSlice 0,.nilSlice 0] bL 0 .yes)/\h'.get M=some (.cells [.int .i64 5,.int .i64 0,.str [],nv,iv] bL 0 .yes)/\
    h'.get F=some (.map (cd mm) cl)/\(∀k v,cO mm k=some v->v = .int .i64 1)/\aG h' 9 1 nv ns.length (strs ns)/\aG h' bL 5 iv its.length d/\pj h' its d/\Fr h nv/\Fr h iv/\(R∉ag nv/\M∉ag nv/\F∉ag nv)/\(R∉ag iv/\M∉ag iv/\F∉ag iv)/\(∀l,l∈ag nv->l∉ag iv)/\
    (∀s,s∈ns->bt s)/\ns.length=its.length/\its.length<=j.toNat/\i<=j/\m'=s.length - j.toNat/\mj h' p s j/\Mod h h' [p]/\Wf h') [_,_,_,_,_] rfl _
    ⟨.nilSlice 0,.nilSlice 0,[],[],[],[],0,j4,rfl,xu,hv4,xD,(λk v e=>by cases e),.nil,.nil,.nil,Fr.Ff _ _,Fr.Ff _ _,by simp [ag],by simp [ag],by simp [ag],by simp,rfl,by simp,G1,rfl,qh,aC,aW⟩ ?_
   rintro m' _ h5 ⟨nv,iv,ns,its,d,mm,cl,j,rfl,NY,hv5,Bn,ai6,auW,np,hj5,C,FF,⟨nr,nvv,nm⟩,⟨ir,ivv,im⟩,aa4,hbt,aps,hlen,zT,eF,Fb,aT,bK⟩;have auI:=Fb.lo;have auJ:=Fb.hi;cbv;refine .H3 <| oD bK Fb λj6 h6 apj fG bR cz=>?_;have bQ:=one_mod aT bR;cbv;refine aej cz fG (λtx j7 h7 aDU aDV hp7 auY aDW db eJ=>?_) λv h7 u db eJ=>?_
   ·have cH:=one_mod bQ db
    have sO:=one_mod bR db;have UO:=sO.get NY (by simpa using L);have Ru:=sO.get hv5 (by simpa using MY);have tf:=sO.get Bn (by simpa using b);have auZ:=auW.mono sO (C.ne a.get);have O8:=np.mono sO (FF.ne a.get);have hj7:=hj5.mono sO;have aDX:=hp7.lo;have au1:bt tx:=⟨by omega,auY⟩;cases hg:cO mm tx with
    | some v=>
      have O3:=ai6 _ _ hg;subst O3;cbv;refine .hit tf hg ?_;cbv;refine .add (by omega) (by omega) λq iC=>?_;cbv;refine .of eJ tf λh8 tk E eL=>?_;cbv;refine .hit tk (by rw [eh,if_pos rfl]) ?_;cbv;refine .ZQ (by omega) ?_;cbv;refine fW (hp7.mono E (by simpa using Ne.symm b)) λv u=>?_;cbv;exact hx v h8 u (iq cH E aa3) eL
    | none=>
      cbv;refine .Gs tf hg ?_;cbv;refine .add (by omega) (by omega) λq iC=>?_;have iC:q=1:=by omega
      subst iC;cbv;refine .of eJ tf λh8 tk E eL=>?_;cbv;refine .hit tk (by rw [eh,if_pos rfl]) ?_;cbv;refine .Ij (by omega) ?_;have H6:∀k v,cO (dt mm tx (.int .i64 1) cl) k=some v->v = .int .i64 1:=λk v e=>by
       rw [eh] at e;split at e
       ·cases e;rfl
       ·exact ai6 k v e
      generalize dt mm tx (.int .i64 1) cl=mm8 at tk H6;generalize eB mm tx cl=cl8 at tk;have dT:=iq cH E aa3;have hr8:=E.get UO (by simpa using Ne.symm hmr);have hv8:=E.get Ru (by simpa using Ne.symm Z);have hp8:=hp7.mono E (by simpa using Ne.symm b);have au2:=auZ.mono E (dJ nm);have uJ:=O8.mono E (dJ im);have hj8:=hj7.mono E;cbv;refine .of hp8.get rfl ?_;cbv;refine .add (by omega) (by omega) λk hk=>?_;cbv;refine .of eL hp8.get rfl rfl rfl rfl rfl rfl λh9 hg9 gE th=>?_;have hp9:mj h9 p s k:=⟨hg9,by omega,by omega,rN,a.GZ⟩;have oE:=one_mod dT gE;cbv;refine .H3 <| oD th hp9 λj10 sQ apn aer ix qy=>?_;have mR:=one_mod oE ix;cbv;refine zu qy aer (λx11 c11 VH apo auS azS azT _ aa0 nG Dz=>?_) λv u=>?_
      ·have Pc:=one_mod mR nG
       have DI:=one_mod (one_mod gE ix) nG;have XD:=DI.get hr8 (by simpa using L);have N:=DI.get hv8 (by simpa using MY);have Ry:=DI.get tk (by simpa using b);have apv:=au2.mono DI (C.ne a.get);have L0:=uJ.mono DI (FF.ne a.get);have au3:=hj8.mono DI;have azU:=aer.lo;have azW:=aa0.hi;cbv;refine .of N rfl ?_;cbv;refine .flat rfl ?_;cbv;refine .of Dz λl12 Sy xN aDY fI FN=>?_;have Pd:=ur Pc fI;cbv;refine .own FN (apv.mono fI) (m:=1) (new:=[.str tx]) (by simp only [cW,xN];rfl) rfl rfl (by unfold bg;omega) (by decide) λg ZP Zd B jD Z0=>?_;have alf:=(aa0.mono fI).mono jD (C.VT a.get);have au4:=jD.get (fI.get XD) nr;have au5:=jD.get (fI.get N) nvv;have alg:=jD.get (fI.get Ry) nm;have au6:=(L0.mono fI).mono jD (λl D K=>aa4 l K D);have au7:=(au3.mono fI).mono jD;have aet:=Rx Pd jD C;have UP:Fr h g:=B.frp Pd (aa0.mono fI).get C;have apw:=B.dp (fI.get XD) nr;have P:=B.dp (fI.get N) nvv;have au8:=B.dp (fI.get Ry) nm;have aex:∀l,l∈ag g->l∉ag iv:=λl D K=>by
        obtain ⟨cs,e⟩:=(L0.mono fI).row K;exact B.dp e (λeF=>aa4 l eF K) D
       rw [show strs ns++[V.str tx]=strs (ns++[tx]) from by rw [kB];rfl,show ns.length+1=(ns++[tx]).length from by simp] at Zd;have U:∀s,s∈ns++[tx]->bt s:=λs hs=>(List.mem_append.1 hs).elim (hbt s) λhs=>by simp at hs;subst hs;exact au1
       have aez:(ns++[tx]).length=its.length+1:=by simp [aps]
       generalize ns++[tx]=alh at Zd U aez;cbv;refine .one Z0 au5 Zd.sl.flat rfl rfl rfl λh14 apx Ca aka=>?_;have au9:=alf.mono Ca (by simpa using Ne.symm MY);have au':=Ca.get au4 (by simpa using IX);have ava:=Ca.get alg (by simpa using Z);have apy:=Zd.mono Ca (dJ P);have avb:=au6.mono Ca (dJ ivv);have avc:=au7.mono Ca;have ai8:=iq aet Ca N1;cbv;refine .of follows 8 ?_;cbv;refine .of apx rfl ?_;cbv;refine ih aka au9 (by omega) sW hd (λt cs j15 h15 azX apz ali JH O=>?_) λv h15 u JH O=>?_
       ·have apA:=JH.get apx (by simpa using MY)
        have avd:=JH.get au' (by simpa using L);have ave:=JH.get ava (by simpa using b);have apB:=one_mod ai8 JH;have apC:=apy.mono JH (UP.ne a.get);have avf:=avb.mono JH (FF.ne a.get);have apD:=avc.mono JH;have azY:=apz.hi;have apE:=ali.aZ;obtain ⟨a1,a2,a3,a4,a5,rfl⟩:=ali.five;cbv;refine .load apA rfl (.nil ?_);cbv;refine .agg ?_;cbv;refine .of O λl16 h16 avg aD0 Rz avh=>?_;have X:=Rz.get apA;have apF:=Rz.get avd;have ai9:=Rz.get ave;have apG:=apz.mono Rz;have ai':=ur apB Rz;have avi:=avf.mono Rz;have aja:=apC.mono Rz;cbv;refine .load X rfl (.nil ?_);cbv;refine .own avh avi (m:=1) (new:=[a1,a2,a3,a4,a5]) (by simp only [cW,avg];rfl) rfl apE (by unfold bg;omega) (by decide) λw h17 apH aeB UQ avj=>?_;have avk:=UQ.get X ivv;have avl:=UQ.get apF ir;have avm:=UQ.get ai9 im;have avn:=apG.mono UQ (FF.VT a.get);have apI:=Rx ai' UQ FF;have apJ:=aja.mono UQ (λl D K=>aex l D K);have ahk:Fr h w:=aeB.frp ai' apG.get FF;have apK:=aeB.dp apF ir;have ajb:=aeB.dp X ivv;have avo:=aeB.dp ai9 im;have aeC:∀l,l∈ag g->l∉ag w:=λl D=>by
         obtain ⟨cs,e⟩:=aja.row D;exact aeB.dp e (aex l D)
        have apL:=((apD.mono Rz).mono UQ).snoc ((ali.mono Rz).mono UQ);cbv;refine .nil ?_;refine .one avj avk apH.sl.flat rfl rfl rfl λh18 avp XE avq=>?_;have apM:=apH.mono XE (dJ ajb);have apN:=apJ.mono XE (dJ P);have avr:=XE.get avl (by simpa using IX);have avs:=XE.get avm (by simpa using Z);have avt:=avn.mono XE (by simpa using Ne.symm MY);have apO:=apL.mono XE;have apP:=iq apI XE N1;have aeD:alh.length=(its++[t]).length:=by simp [aez]
        have azZ:(its++[t]).length<=j15.toNat:=by simp;omega
        rw [show its.length+1=(its++[t]).length from by simp] at apM;generalize its++[t]=ajc at*;generalize d++_=alk at*;cbv;refine .nil ?_;cbv;refine .H3 <| oD avq avt λj19 h19 az1 W apQ apR=>?_;have ajd:=one_mod apP apQ;cbv;refine zu apR W (λx c h20 az2 avu kG hxc _ apS L3 L4=>?_) λv u=>?_
        ·have G5:=one_mod apQ L3
         have apT:=G5.get avp (by simpa using MY);have apU:=G5.get avr (by simpa using L);have avv:=G5.get avs (by simpa using b);have H7:=one_mod ajd L3;have aln:=apM.mono G5 (ahk.ne a.get);have Y:=apN.mono G5 (UP.ne a.get);have aje:=apO.mono G5;have az3:=W.hi;have az4:=W.lo;cbv;refine .eq (λe=>?_) λe=>?_
         ·cbv;refine .of apT rfl ?_
          cbv;refine .of (cs:=[.int .i64 5,.int .i64 0,.str [],g,w]) L4 apU rfl rfl rfl rfl (by show (true&&(true&&(true&&(cf g&&(cf w&&true)))))=true;rw [aln.sl.flat,Y.sl.flat];rfl) rfl λh21 avw z apV=>?_;have avx:=aln.mono z (dJ apK);have apW:=Y.mono z (dJ apw);have apX:=iq H7 z dN;have avy:=apS.mono z (by simpa using Ne.symm L);obtain ⟨h22,l22,avz,J,w22⟩:=avx.freeze apV;have apY:=apW.mono J (λl D K=>aeC l D K);obtain ⟨h23,l23,avA,G,w23⟩:=apY.freeze w22;have avB:=(avy.mono J (ahk.VT a.get)).mono G (UP.VT a.get);have apZ:=Rx (Rx apX J ahk) G UP;have ap0:=((aje.mono z).mono J).mono G;cbv;refine .of avw rfl ?_;cbv;exact ⟨h23,l22.trans l23,hq (.mk 5 0 [] alh ajc) _ _ h23 (by omega) avB (.mk bt.nil U (by omega) (by omega) (λ_=>aeD) avA (avz.mono G) ap0) apZ w23⟩
         ·cbv;exact ⟨rfl,s.length - (j19+1).toNat,by omega,g,w,alh,ajc,alk,mm8,cl8,j19+1,rfl,apU,apT,avv,H6,Y,aln,aje,UP,ahk,⟨apw,P,au8⟩,⟨apK,ajb,avo⟩,aeC,U,aeD,by omega,by omega,rfl,apS,H7,L4⟩
        ·cbv;exact hx v h19 u ajd apR
       ·cbv;exact hx v h15 u (one_mod ai8 JH) O
      ·cbv;exact hx v sQ u mR qy
   ·cbv;exact hx v h7 u (one_mod bQ db) eJ
 ·cbv;exact hx v h4 u aC aW
end K
namespace K
open Go Go.Dx Go.RowKit Go.Proofs
set_option maxRecDepth 100000
theorem aeG (n:Nat):VS n:=by
 induction n with
 | zero=>intro h p s i J _ _ W;omega
 | succ n ih=>
   intro h p s i J hw C W sW hd Q Pn F z;have HB:=C.lo;have Ir:=C.hi;have L:=C.small;refine zq.oZ (by kernel_rfl) ?_;cbv;refine .of hw λlr h1 Rr B Y aK=>?_;have Xv:Mod h h1 [p]:=ur (Mod.refl h [p]) Y;have l:lr≠p:=λe=>by subst e;rw [C.get] at B;cases B
   cbv;refine .H3 <| oD aK (C.mono Y) λj2 K aD6 o av x=>?_;have m:=one_mod Xv av;have D:=av.get Rr (by simpa using l);have akT:=o.lo;cbv;refine vG o (λy c M' hc BV hyc=>?_) λv g=>?_
   ·cbv;refine .eq (λe1=>?_) λe1=>?_
    ·cbv;refine .ge (λT=>?_) λT=>?_
     ·cbv;refine fW o λv g=>?_
      cbv;exact z v K g m x
     cbv;refine .of o.get rfl ?_;cbv;refine .add (by omega) (by omega) λk Z=>?_;cbv;refine .of x o.get rfl rfl rfl rfl rfl rfl λh3 O9 aI G=>?_;have Ao:mj h3 p s k:=⟨O9,by omega,by omega,L,C.GZ⟩;have E:=one_mod m aI;have H:=aI.get D (by simpa using l);cbv;refine .nH (by omega) ?_;cbv;refine .add (by omega) (by omega) λd yh=>?_;cbv;refine alc ih G Ao (by omega) (by omega) (by omega) (λt cs j4 h4 G1 w XF a f=>?_) λv h4 g a f=>?_
     ·have NU:=XF.aZ
      have u:=one_mod E a;have q:=a.get H (by simpa using l);obtain ⟨a1,a2,S,U,R,rfl⟩:=XF.five;cbv;refine .of (cs:=[a1,a2,S,U,R]) f q rfl rfl rfl rfl NU rfl λSJ G6 j G7=>?_;cbv;refine .of G6 rfl ?_;cbv;exact F t _ _ SJ (by omega) (w.mono j (by simpa using Ne.symm l)) (XF.mono j) (iq u j B) G7
     ·cbv;exact z v h4 g (one_mod E a) f
    cbv;refine .eq (λe2=>?_) λe2=>?_
    ·cbv;refine .ge (λT=>?_) λT=>?_
     ·cbv;refine fW o λv g=>?_
      cbv;exact z v K g m x
     cbv;refine .of o.get rfl ?_;cbv;refine .add (by omega) (by omega) λk Z=>?_;cbv;refine .of x o.get rfl rfl rfl rfl rfl rfl λh3 O9 aI G=>?_;have Ao:mj h3 p s k:=⟨O9,by omega,by omega,L,C.GZ⟩;have E:=one_mod m aI;have H:=aI.get D (by simpa using l);cbv;refine .cK (by omega) ?_;cbv;refine .add (by omega) (by omega) λd yh=>?_;cbv;refine aa2 ih G Ao (by omega) (by omega) (by omega) (λt cs j4 h4 G1 w XF a f=>?_) λv h4 g a f=>?_
     ·have NU:=XF.aZ
      have u:=one_mod E a;have q:=a.get H (by simpa using l);obtain ⟨a1,a2,S,U,R,rfl⟩:=XF.five;cbv;refine .of (cs:=[a1,a2,S,U,R]) f q rfl rfl rfl rfl NU rfl λSJ G6 j G7=>?_;cbv;refine .of G6 rfl ?_;cbv;exact F t _ _ SJ (by omega) (w.mono j (by simpa using Ne.symm l)) (XF.mono j) (iq u j B) G7
     ·cbv;exact z v h4 g (one_mod E a) f
    cbv;refine .eq (λe3=>?_) λe3=>?_
    ·cbv;refine aej x o (λtx j3 h3 aus O Ao N Ct aI G=>?_) λv h3 g aI G=>?_
     ·have E:=one_mod m aI
      have H:=aI.get D (by simpa using l);have aD7:=Ao.lo;cbv;refine .of Ao.get rfl ?_;cbv;refine .add (by omega) (by omega) λk Z=>?_;cbv;refine .of G Ao.get rfl rfl rfl rfl rfl rfl λh4 IY a f=>?_;have w:mj h4 p s k:=⟨IY,by omega,by omega,L,C.GZ⟩;have u:=one_mod E a;have q:=a.get H (by simpa using l);cbv;refine .flat rfl ?_;cbv;refine .flat rfl ?_;cbv;refine .of (cs:=[.int .i64 3,.int .i64 0,.str tx,.nilSlice 0,.nilSlice 0]) f q rfl rfl rfl rfl rfl rfl λSJ G6 j G7=>?_;cbv;refine .of G6 rfl ?_;cbv;exact F (.mk 3 0 tx [] []) _ _ SJ (by omega) (w.mono j (by simpa using Ne.symm l)) (oL.zero SJ 3 0 ⟨by omega,N⟩) (iq u j B) G7
     ·cbv;exact z v h3 g (one_mod m aI) G
    cbv;refine .eq (λe4=>?_) λe4=>?_
    ·cbv;refine Rn x o (by simp) (λb I=>by simp at I;omega) (λk h4 G1 w a f=>?_) λv h4 g a f=>?_
     ·have u:=one_mod m a
      have q:=a.get D (by simpa using l);cbv;refine .of (cs:=[.int .i64 0,.int .i64 0,.str [],.nilSlice 0,.nilSlice 0]) f q rfl rfl rfl rfl rfl rfl λSJ G6 j G7=>?_;cbv;refine .of G6 rfl ?_;cbv;exact F (.mk 0 0 [] [] []) _ _ SJ (by omega) (w.mono j (by simpa using Ne.symm l)) (oL.zero SJ 0 0 bt.nil) (iq u j B) G7
     ·cbv;exact z v h4 g (one_mod m a) f
    cbv;refine .eq (λe5=>?_) λe5=>?_
    ·cbv;refine Rn x o (by simp) (λb I=>by simp at I;omega) (λk h4 G1 w a f=>?_) λv h4 g a f=>?_
     ·have u:=one_mod m a
      have q:=a.get D (by simpa using l);cbv;refine .flat rfl ?_;cbv;refine .flat rfl ?_;cbv;refine .of (cs:=[.int .i64 1,.int .i64 1,.str [],.nilSlice 0,.nilSlice 0]) f q rfl rfl rfl rfl rfl rfl λSJ G6 j G7=>?_;cbv;refine .of G6 rfl ?_;cbv;exact F (.mk 1 1 [] [] []) _ _ SJ (by omega) (w.mono j (by simpa using Ne.symm l)) (oL.zero SJ 1 1 bt.nil) (iq u j B) G7
     ·cbv;exact z v h4 g (one_mod m a) f
    cbv;refine .eq (λe6=>?_) λe6=>?_
    ·cbv;refine Rn x o (by simp) (λb I=>by simp at I;omega) (λk h4 G1 w a f=>?_) λv h4 g a f=>?_
     ·have u:=one_mod m a
      have q:=a.get D (by simpa using l);cbv;refine .flat rfl ?_;cbv;refine .of (cs:=[.int .i64 1,.int .i64 0,.str [],.nilSlice 0,.nilSlice 0]) f q rfl rfl rfl rfl rfl rfl λSJ G6 j G7=>?_;cbv;refine .of G6 rfl ?_;cbv;exact F (.mk 1 0 [] [] []) _ _ SJ (by omega) (w.mono j (by simpa using Ne.symm l)) (oL.zero SJ 1 0 bt.nil) (iq u j B) G7
     ·cbv;exact z v h4 g (one_mod m a) f
    cbv;refine vG o (λy3 c3 O V M aD8=>?_) λv g=>?_
    ·have aD9:=o.at V
     cbv;refine .H3 <| cP M (by omega) (λW=>?_) λr hr0 hr=>?_
     ·cbv;refine .QP (by omega) ?_
      cbv;refine fW o λv g=>?_;cbv;exact z v K g m x
     ·cbv;refine .DF (by omega) ?_
      cbv;refine aek x o (λP k h4 G1 w a f=>?_) λv h4 g a f=>?_
      ·have u:=one_mod m a
       have q:=a.get D (by simpa using l);cbv;refine .of (cs:=[.int .i64 2,.int .i64 P,.str [],.nilSlice 0,.nilSlice 0]) f q rfl rfl rfl rfl rfl rfl λSJ G6 j G7=>?_;cbv;refine .of G6 rfl ?_;cbv;exact F (.mk 2 P [] [] []) _ _ SJ (by omega) (w.mono j (by simpa using Ne.symm l)) (oL.zero SJ 2 P bt.nil) (iq u j B) G7
      ·cbv;exact z v h4 g (one_mod m a) f
    ·cbv;exact z v K g m x
   ·cbv;exact z v K g m x
end K
namespace K
open Go Go.Dx Go.RowKit Go.Proofs
set_option maxRecDepth 100000
variable{w:World}{h:H}{a1 a2 v:V}
theorem uu {P:Program}{Q:Exit->Go.Act->List Frame->World->Prop} {a:Go.Act} {cs:List Frame}  {x y:Code} (h:∀K:Go.Act->List Frame->World->Prop,(∀a cs w,y.wpS P Q a cs w->K a cs w)->x.wpS P (Exit.thenS K Q) a cs w):(Code.seq x y).wpS P Q a cs w:=
 wpS_seq (h _ λ_ _ _ h=>h)
def behind:DC->DC
 | .seq _ r=>r
 | c=>c
theorem XG:∃a,Tryz.f211.body=some (.seq (.region 0 #[{dst:=some 5,op:=Op.call {callee:=Callee.builtin Builtin.recover,args:=#[],argTypes:=#[]},type:=20,pos:= "jsonx.go:375",after:=#[],guard:=none},
   {dst:=some 2,op:=Op.assign (Operand.tmp 5),type:=20,pos:= "jsonx.go:375",after:=#[{on:=0,ground:=Ground.data},{on:=0,ground:=Ground.chain},{on:=0,ground:=Ground.phase}],guard:=none}] false) a)/\dF ⟨pf (),G0,17⟩ a=behind rh.code:=⟨_,rfl,by kernel_rfl⟩
theorem Pe {K:H->Prop} (I:VQ pf G0 17 (behind rh.code) {tmps:=((gk [a1,a2] [] .leaf).set p5 (some v)).set p2 (some v),defers:=[]} h (adX [] K) λ_ _ _=>False)
  {B:Nat} {w0:World} {ρ:bD}  {xs:List Value} {x:Value} (R:aA B w0 ρ h w) (F:GB (pf ()) B w0 ρ G0) (QB:cZ ρ [a1,a2] xs) (z:RV ρ v x) {u u':FrameMode}
  (m:∀(a:Frame) (cs:List Frame),a.mode=u->(recoverD (a::cs)=some (x,{a with mode:=u'} ::cs)\/recoverD (a::cs)=none/\x = .nilIface/\u'=u)):
  CallsD Tryz.prog lM ⟨xs⟩ u w λe c w'=>∃r,e = .returned r/\c=u'/\∃h' b,K h'/\Step ρ b h h'/\aA B w0 b h' w':=by
 obtain ⟨y,G,E⟩:=XG;have S:Sm pf G0 17 y {tmps:=((gk [a1,a2] [] .leaf).set p5 (some v)).set p2 (some v),defers:=[]} h (adX [] K) λ_ _ _=>False:=Li E I;refine callsD_of_wpS Tryz.func211 G λa cs D=>?_;refine uu λK' t=>?_;refine wpS_region ?_;have U:=Ei (n:=17) QB (by decide) (by simp);generalize P:(xs.toArray++Array.replicate (17 - xs.toArray.size) Go.undef:Array Value)=A0 at U;have o:((⟨xs⟩:Array Value)++Array.replicate (Tryz.f211.ntmps - (⟨xs⟩:Array Value).size) Go.undef)=A0:=P;rw [o];have P0:PR ρ 17 {tmps:=gk [a1,a2] [] .leaf,defers:=[]} {tmps:=A0,defers:=[]}:=⟨_,.refl _,U,.nil⟩;have P1:=(P0.put (C:=⟨pf (),G0,17⟩) (d:=some 5) (d':=some p5) rfl z).put (C:=⟨pf (),G0,17⟩) (d:=some 2) (d':=some p2) rfl z;have g:∀W0,W0 = {a with mode:=u'} ::cs->y.wpS Tryz.prog (bodyPostS Tryz.prog Tryz.f211 a cs λe c w'=>∃r,e = .returned r/\c=u'/\∃h' b,K h'/\Step ρ b h h'/\aA B w0 b h' w') {tmps:=(A0.setIfInBounds 5 x).setIfInBounds 2 x,defers:=[]} W0 w:=λW0 J=>by
  subst J;refine wpS_of_wp (S.out P1 F R (λe k h' q b A' w' s P R'=>?_) λ_ _ _ q=>q.elim);have f:Eo k.defers (Gl k.tmps h' [] λ_=>K h')->A'.defers=[]/\∃c,({a with mode:=u'} ::cs:List Frame) = {a with mode:=c} ::cs/\∃r,(results Tryz.f211 A'.tmps).run Tryz.prog w' = .ok r w'/\∃M,Ending.returned r = .returned M/\c=u'/\∃h' b,K h'/\Step ρ b h h'/\aA B w0 b h' w':=λq=>by
   obtain ⟨tm,N,L⟩:=P.out;have j:=L.defers;generalize k.defers=ds at q j;cases ds with
   | cons d ds=>exact q.elim
   | nil=>
     refine ⟨by generalize A'.defers=es at j;cases j;rfl,u',rfl,.tuple #[],results_none rfl _ _ _,_,rfl,rfl,h',b,q,s,R'⟩
  cases e with
  | exit id=>exact q.elim
  | normal=>exact f q
  | ret=>exact f q
 have A:A0.size=17:=U.size;rcases m a cs D with l | ⟨l,rfl,rfl⟩
 ·simp [wpOpsS,List.range_succ,Region.wanted,execOp,resolve,invoke,builtin,l,Oper.upon,Act.put,Act.eval,Exit.thenS,A]
  exact t _ _ _ (g _ rfl)
 ·simp [wpOpsS,List.range_succ,Region.wanted,execOp,resolve,invoke,builtin,l,Oper.upon,Act.put,Act.eval,Exit.thenS,A]
  exact t _ _ _ (g _ (by rw [<-D]))
theorem Db {K:H->Prop} (b:K h):LW pf G0 lM [a1,a2] h K:=by
 refine ⟨λ{B w0 ρ w xs} R c QB=>⟨zp.enters _ _,?_⟩⟩;refine (Pe (a1:=a1) (a2:=a2) (v:=.nilIface) (h:=h) (K:=K) ?_ R c QB .nilIface (u:=.returning) (u':=.returning) λa cs g=>.inr ⟨by simp [recoverD,g],rfl,rfl⟩).mono λe u' w' ⟨r,f,d,h3⟩=>⟨r,f,d,h3⟩;cbv;refine .is (λ_=>rfl) ?_;cbv;exact b
theorem _root_.Go.Dx.PdN.pM {pf:Unit->Program} {want:Array (String×TypeId)} {z:V} {b:Bool} {x:X} {a:T V} {t:TypeId}  {K:V->Prop} (e:x.VI a=some (.iface t v)) (d:(dq (pf ())).has want t=some true) (c:K (okV b (.iface t v) true)):PdN pf (.pM want z b x) a K:=
 ⟨λtm s=>⟨_,by simp only [PD.eval,qz s e,tv,d,ob],c⟩⟩
theorem UR:(dq (pf ())).has #[("Error",187)] bW=some true:=by kernel_rfl
theorem L5 {b le:Lb}{f:V}{D z t F I n:V}{K:H->Prop} (p:Wf h) (C:Y' f) (g:h.get b=some (.cells [D,z,t,F,I] bL 0 .yes)) (c:h.get le=some (.cells [n] Y7 0 .yes))
  (y:∀h',h'.get b=some (.cells [.int .i64 0,.int .i64 0,.str [],.nilSlice 0,.nilSlice 0] bL 0 .yes)->h'.get le=some (.cells [f] Y7 0 .yes)->Mod h h' [b,le]->Wf h'->K h'):RW pf G0 lM [.ptr b 0,.ptr le 0] f h K:=by
 have j:b≠le:=λe=>by subst e;rw [g] at c;cases c
 obtain ⟨a,s,rfl⟩:=C;refine ⟨λ{B w0 ρ w xs x} R o QB G=>⟨zp.enters _ _,?_⟩⟩;refine (Pe (a1:=.ptr b 0) (a2:=.ptr le 0) (K:=K) ?_ R o QB G (u:=.panicking [{v:=x,recovered:=false}]) (u':=.panicking [{v:=x,recovered:=true}]) λm cs J=>.inl (by simp [recoverD,J])).mono λe u' w' ⟨r,k,d,h3⟩=>⟨r,k,by subst d;rfl,h3⟩;cbv;refine .pM rfl UR ?_;cbv;refine .of (cs:=[.int .i64 0,.int .i64 0,.str [],.nilSlice 0,.nilSlice 0]) p g rfl rfl rfl rfl rfl rfl λk O3 l q=>?_;cbv;refine .of (cs:=[.iface bW (.agg [.int .i64 a,.int .i64 s])]) q (l.get c (by simpa using Ne.symm j)) rfl rfl rfl rfl rfl rfl λd A L E=>?_;cbv;exact y d (L.get O3 (by simpa using j)) A (l.trans L) E
theorem XH {s:List Nat}(hw:Wf h)(hs:s.length<=65536)(hb:∀b∈s,b<256) {Q:V->H->Prop} (hq:∀t cs h',oL h' t cs->Mod h h' []->Wf h'->Q (.tuple [.agg cs,.nilIface]) h')
  (Y:∀f h',Y' f->Mod h h' []->Wf h'->Q (.tuple [.agg [.int .i64 0,.int .i64 0,.str [],.nilSlice 0,.nilSlice 0],f]) h'):CW pf G0 EG [.str s] h Q:=by
 refine CX.H3 ?_;refine Rj.oZ (by kernel_rfl) ?_;cbv;refine .of hw λC h1 O3 Dt E aK=>?_;cbv;refine .of aK λle h2 W D av aO=>?_;cbv;refine .flat rfl ?_;cbv;refine .agg ?_;cbv;refine .of aO λp h3 Ao d J aS=>?_;have Rs:=J.get (av.get O3);have O:=J.get W;have i:C≠le:=λe=>by subst e;rw [O3] at D;cases D
 have MY:C≠p:=λe=>by subst e;rw [av.get O3] at d;cases d
 have k:le≠p:=λe=>by subst e;rw [W] at d;cases d
 have US:h.get le=none:=aj E (by simp) D;have I:h.get p=none:=aj E (by simp) (aj av (by simp) d);have R:Mod h h3 []:=((E.trans av).trans J).mono λl o _ c=>by simp at c
 have hP:mj h3 p s 0:=⟨Ao,by omega,by simp,hs,hb⟩;have g:∀{h' Eg} {F:List Lb},Mod h h' []->Mod h' Eg F->(∀l,l∈F->h.get l=none)->Mod h Eg []:=λa b f=>a.fr b λl c=>.inl (f l c);have K:∀l,l∈[p]->h.get l=none:=λl c=>by simp at c;subst c;exact I
 have w:∀l,l∈[C,le]->h.get l=none:=λl c=>by simp at c;rcases c with rfl | rfl;exact Dt;exact US
 have P:∀l,l∈[C]->h.get l=none:=λl c=>by simp at c;subst c;exact Dt
 have fe:∀l,l∈[le]->h.get l=none:=λl c=>by simp at c;subst c;exact US
 cbv;refine aeG (s.length+1) aS hP (by omega) (by omega) (by omega) (λt cs j h4 zT qh XF q L=>?_) λf h4 v q L=>?_
 ·have r:=q.get Rs (by simpa using MY)
  have Ay:=q.get O (by simpa using k);have M:=g R q K;have NU:=XF.aZ;obtain ⟨a1,a2,U,X,T,rfl⟩:=XF.five;cbv;refine .of (cs:=[a1,a2,U,X,T]) L r rfl rfl rfl rfl NU rfl λh5 G B bK=>?_;have MR:=B.get Ay (by simpa using Ne.symm i);have Fb:=qh.mono B (by simpa using Ne.symm MY);have aT:=g M B P;cbv;refine .H3 <| oD bK Fb λj6 h6 apj fG y cz=>?_;have u:=y.get G (by simpa using MY);have Bu:=y.get MR (by simpa using k);have Z:=g aT y K;cbv;refine .of fG.get rfl ?_;cbv;refine .of λn fg hn=>?_;cbv;refine .lt (λe=>?_) λe=>?_
  ·cbv;refine fW fG λf v=>?_
   cbv;refine L5 cz v u Bu λA Ru Fg m x=>?_;cbv;refine .of Ru rfl ?_;cbv;refine .of Fg rfl ?_;cbv;exact Y f A v (g Z m w) x
  ·cbv;refine .of u rfl ?_
   cbv;refine .of (cs:=[a1,a2,U,X,T]) cz u rfl rfl rfl rfl NU rfl λA Ru m x=>?_;cbv;refine .of (cs:=[.nilIface]) x (m.get Bu (by simpa using Ne.symm i)) rfl rfl rfl rfl rfl rfl λh8 XI N eL=>?_;cbv;refine Db ?_;cbv;refine .of (N.get Ru (by simpa using i)) rfl ?_;cbv;refine .of XI rfl ?_;cbv;exact hq t _ h8 ((((XF.mono B).mono y).mono m).mono N) (g (g Z m P) N fe) eL
 ·have r:=q.get Rs (by simpa using MY)
  have Ay:=q.get O (by simpa using k);have M:=g R q K;cbv;refine L5 L v r Ay λA Ru Fg m x=>?_;cbv;refine .of Ru rfl ?_;cbv;refine .of Fg rfl ?_;cbv;exact Y f A v (g M m w) x
end K
namespace K
open Go Go.Dx Go.RowKit Go.Proofs
set_option maxRecDepth 100000
variable{h:H}
structure HE (h:H):Prop where
 out:∃e fz,h.get (pathOf 0)=some (.cells [.iface 226 (.agg [.ptr (pathOf 7) 45])] e fz .no)
theorem HE.mono {h':H}{F:List Lb}(a:HE h)(m:Mod h h' F):HE h':=let ⟨e,fz,g⟩:=a.out;⟨e,fz,m.ro g rfl⟩
theorem aa7 {B:Nat}{w0 w:World}{ρ:bD}(R:aA B w0 ρ h w)(c:gM ρ G0)(s:HE h):w.cell? ⟨0,0,none⟩=some (.iface 226 (.agg #[.pointer (some ⟨7,45,none⟩)])):=by
 obtain ⟨n0,d⟩:=c 0 (by decide);obtain ⟨r,a⟩:=c 7 (by decide);obtain ⟨e,f,m⟩:=s.out;have l:dE ρ _ _ e f .no w:=R.obj _ _ _ d m;obtain ⟨q,b,g⟩:=l.cell 0 _ rfl;obtain ⟨o,rfl,k⟩:=je g;cases k with | agg q4=>
 obtain ⟨n,rfl,j⟩:=q4.one;obtain ⟨p,FG,rfl⟩:=dy j;rw [a] at FG;cases FG;unfold cQ at b;simpa using b
theorem aa8 {t:V}{Q:V->H->Prop} (b:Q (.bool false) h):CW pf G0 HU [.nilIface,t] h Q:=by
 refine .mk λ{B w0 ρ w xs} R j f=>?_;obtain ⟨k,d,rfl,a,i⟩:=f.two;cases a;exact Good.fQ Tryz.func44 rfl (by kernel_rfl) ((Tz.adK d w).mono λe w' ⟨c,g⟩=>⟨_,c,_,h,ρ,b,Step.refl _ _,.bool false,by rw [g];exact R⟩)
theorem Ol {a y:Int}{l:Lb}{n m:V}(s:Wf h)(z:HE h)(f:h.get l=some (.cells [n,m] bW 0 .yes)){Q:V->H->Prop}
  (u:∀h',h'.get l=some (.cells [.int .i64 a,.int .i64 y] bW 0 .yes)->Mod h h' [l]->Wf h'->Q (.bool true) h'):CW pf G0 HU [.iface bW (.agg [.int .i64 a,.int .i64 y]),.iface Nw (.ptr l 0)] h Q:=by
 refine .mk λ{B w0 ρ w xs} R Y E=>?_;obtain ⟨N,K,rfl,r,C⟩:=E.two;obtain ⟨P,rfl,x⟩:=je r;obtain ⟨O,rfl,o⟩:=je C;obtain ⟨b,k,rfl⟩:=dy o;cases x with | agg q1=>
 rename_i ys;have U:=q1;obtain ⟨M,L,rfl,G,t⟩:=U.two;cases G;cases t;obtain ⟨A,D,q⟩:=H.eD s f rfl (.cells [.int .i64 a,.int .i64 y] bW 0 .yes);have Bx:eu h l 0 [.int .i64 a,.int .i64 y]=some (h.set l (.cells [.int .i64 a,.int .i64 y] bW 0 .yes)):=by simp only [eu,f];rfl
 have W:dE ρ b [n,m] bW 0 .yes w:=R.obj l b _ k f;have I:=W.fits;simp only [List.length_cons,List.length_nil] at I;have d:=Tz.adP (.int .i64 a) (.int .i64 y) rfl rfl b.block (b.base+0) w (aa7 R Y.rel z)
  (λj J=>by
   have:=W.isSome (i:=0+j) (by simp;omega);unfold cQ at this
   rwa [<-Nat.add_assoc] at this) (λj J=>W.free rfl _ (by omega) (by omega))
 have R4:=(((R.junk (.cells #[.pointer (some ⟨b.block,b.base+0,none⟩)] 92)).junk (Tz.VV w.heap.size)).junk (Tz.VV w.heap.size)).junk (.cells #[.int .i64 a,.int .i64 y] 90);have R5:=(R4.store k Bx q1).2;exact Good.fQ Tryz.func44 rfl (by kernel_rfl) (d.mono λe w' ⟨v,F⟩=>⟨_,v,_,_,ρ,u _ A D q,Step.same rfl,.bool true,by rw [F];exact R5⟩)
theorem UT {s:List Nat}(Y:Wf h)(Z:HE h)(X:∀b∈s,b<256) {Q:V->H->Prop} (F:∀t cs (a e:Int) h',oL h' t cs->Mod h h' []->Wf h'->Q (.tuple [.agg cs,.int .i64 a,.int .i64 e]) h'):CW pf G0 BL [.str s] h Q:=by
 refine NM.enter (by kernel_rfl) ?_;cbv;refine .of Y λy h1 Rr dN u P=>?_;have m:∀l,l∈[y]->h.get l=none:=λl c=>by simp at c;subst c;exact dN
 cbv;refine .of λn fg hn=>?_;cbv;refine .gt (λe=>?_) λe=>?_
 ·cbv;refine .of (cs:=[.int .i64 0,.int .i64 0,.str [],.nilSlice 0,.nilSlice 0]) P Rr rfl rfl rfl rfl rfl rfl λA g d w=>?_
  cbv;refine .of g rfl ?_;cbv;exact F _ _ _ _ A (oL.zero A 0 0 bt.nil) (u.fr d λl c=>.inl (m l c)) w
 cbv;refine XH P (by omega) X (λt cs A JG d w=>?_) λf A hf d w=>?_
 ·have r:=JG.aZ
  obtain ⟨a1,a2,T,U,S,rfl⟩:=JG.five;have g:=d.get Rr;cbv;refine .of w λM h3 Rs Dt j J=>?_;have N1:=aj u (by simp) (aj d (by simp) Dt);have IX:y≠M:=λe=>by subst e;rw [g] at Dt;cases Dt
  cbv;refine .of (cs:=[a1,a2,T,U,S]) J Rs rfl rfl rfl rfl r rfl λh4 v aL K=>?_;cbv;refine .of K λx D Bn O' k G=>?_;cbv;refine aa8 ?_;cbv;refine .of (k.get v) rfl ?_;have NY:=k.get (aL.get (j.get g) (by simpa using IX));cbv;refine .of (cs:=[a1,a2,T,U,S]) G NY rfl rfl rfl rfl r rfl λI C bR N=>?_;cbv;refine .of C rfl ?_;have E:Mod h h3 []:=((u.trans d).trans j).mono λl o _ c=>by simp at c
  have B:Mod h h4 []:=E.fr aL λl c=>by simp at c;subst c;exact .inl N1
  have aT:Mod h D []:=(B.trans k).mono λl o _ c=>by simp at c
  cbv;exact F t _ _ _ I ((((JG.mono j).mono aL).mono k).mono bR) (aT.fr bR λl c=>.inl (m l c)) N
 ·have g:=d.get Rr
  obtain ⟨fa,fw,rfl⟩:=hf;cbv;refine .of w λM h3 Rs Dt j J=>?_;have N1:=aj u (by simp) (aj d (by simp) Dt);have IX:y≠M:=λe=>by subst e;rw [g] at Dt;cases Dt
  cbv;refine .of (cs:=[.int .i64 0,.int .i64 0,.str [],.nilSlice 0,.nilSlice 0]) J Rs rfl rfl rfl rfl rfl rfl λh4 v aL K=>?_;have E:Mod h h3 []:=((u.trans d).trans j).mono λl o _ c=>by simp at c
  have B:Mod h h4 []:=E.fr aL λl c=>by simp at c;subst c;exact .inl N1
  cbv;refine .of K λx D Bn O' k G=>?_;have aT:Mod h D []:=(B.trans k).mono λl o _ c=>by simp at c
  have NY:=k.get (aL.get (j.get g) (by simpa using IX));have q:y≠x:=λe=>by subst e;rw [aL.get (j.get g) (by simpa using IX)] at O';cases O'
  have L:h.get x=none:=by
   cases e:h.get x with
   | none=>rfl
   | some o=>rw [B.get e] at O';cases O'
  cbv;refine Ol G (Z.mono aT) Bn λI Dn bR N=>?_;have C:=bR.get NY (by simpa using q);have bQ:Mod h I []:=aT.fr bR λl c=>by simp at c;subst c;exact .inl L
  cbv;refine .of follows 4 ?_;cbv;refine .of Dn rfl ?_;cbv;refine .of Dn rfl ?_;cbv;refine .of (cs:=[.int .i64 0,.int .i64 0,.str [],.nilSlice 0,.nilSlice 0]) N C rfl rfl rfl rfl rfl rfl λR UO db eJ=>?_;have W:=db.get Dn (by simpa using Ne.symm q);cbv;refine .load W rfl (.load W rfl (.nil ?_));cbv;refine .of UO rfl ?_;cbv;exact F _ _ _ _ R (oL.zero R 0 0 bt.nil) (bQ.fr db λl c=>.inl (m l c)) eJ
end K
namespace K
open Go Go.Dx Go.RowKit Go.Proofs
set_option maxRecDepth 100000
variable{its:List Js}{ns:List (List Nat)}{k:Int}{h:H}
theorem RA:bI pf G0 wJ (s7 9 1 16):=⟨_,Go.Proofs.Tryz.func291,by kernel_rfl⟩
theorem Js.Jo {i:Int}{t:List Nat}{j:Nat}{x:Js}(h:its[j]? =some x):sizeOf x<sizeOf (Js.mk k i t ns its):=by
 have:=List.sizeOf_lt_of_mem (List.mem_of_getElem? h);simp only [Js.mk.sizeOf_spec];omega
theorem alo (n:Nat):∀{t:Js} {h:H} {cs:List V},sizeOf t<n->Wf h->oL h t cs->∀{Q:V->H->Prop},(∀W0 h',oL h' t W0->Mod h h' []->Wf h'->Q (.agg W0) h')->CW pf G0 HZ [.agg cs] h Q:=by
 induction n with
 | zero=>intro t h cs hn;omega
 | succ n ih=>
   intro t h cs hn hw hj Q hq;cases hj with
   | @mk k i tx ns its nv iv rows ht Ds NV VR h5 xy hi hr=>
   refine CW.qp ?_;refine UF.enter (by kernel_rfl) ?_;cbv;refine .agg ?_;cbv;refine .of hw λB h1 cw gi ar aK=>?_;cbv;refine .of aK λE h2 rL dN av aO=>?_;have dh:=av.get cw;have N:B≠E:=λe=>by subst e;rw [cw] at dN;cases dN
   have aQ:Mod h h2 []:=(ar.trans av).mono λl o _ a=>by simp at a
   have aeI:=aj ar (by simp) dN;cbv;refine .of dh rfl ?_;cbv;refine rn RA aO ((xy.sl.mono aQ (by simp))) (CV ns) (by omega) (by decide) λf h3 K aI aS=>?_;have gZ:=aI.get dh;have uI:=aI.get rL;cbv;refine .one aS gZ K.sl.flat rfl rfl rfl λh4 dH aL aW=>?_;have xu:=aL.get uI (by simpa using Ne.symm N);have fb:∀l,l∈[B]->h.get l=none:=λl a=>by simp at a;subst a;exact gi
   have aC:Mod h h4 []:=((aQ.trans aI).fr aL (λl a=>.inl (fb l a))).mono λl o _ a=>by simp at a
   cbv;refine .of dH rfl ?_;have Ze:=hi.mono aC;cbv;refine .of Ze.sl λm hm0 hmn=>?_;cbv;refine .inv [p1,p2,p3,p11,SB,Yz] (λm' aB h'=>∃(g:V) (done:List Js) (p:List V) (x:Int),aB=[.ptr B 0,.ptr E 0,g,iv,.int .i64 m,.int .i64 x]/\0<=x/\x.toNat<=its.length/\m'=its.length - x.toNat/\done=its.take x.toNat/\aG h' bL 5 g done.length p/\pj h' done p/\Fr h g/\B∉ag g/\E∉ag g/\
    h'.get B=some (.cells [.int .i64 k,.int .i64 i,.str tx,f,iv] bL 0 .yes)/\h'.get E=some (.cells [.int .i64 0,.int .i64 0,.str [],.nilSlice 0,.nilSlice 0] bL 0 .yes)/\Ro h' 1 f ns.length (strs ns)/\Mod h h' []/\Wf h') [_,_,_,_,_,_] rfl _
    ⟨.nilSlice 0,[],[],0,rfl,by omega,by simp,rfl,by simp,.nil,.nil,Fr.Ff _ _,by simp [ag],by simp [ag],dH,xu,K.mono aL,aC,aW⟩ ?_
   rintro m' _ h5 ⟨g,done,p,x,rfl,kG,hx,eF,r,L,hj5,FF,s,j,Y,NY,w,F,bK⟩;cbv;refine .lt (λbA=>?_) λjl=>?_
   ·obtain ⟨y,z⟩:∃t,its[x.toNat]? =some t:=⟨_,List.getElem?_eq_getElem (by omega)⟩
    obtain ⟨ecs,Gr,R⟩:=(hr.mono F).get z;have alq:=Js.Jo (k:=k) (i:=i) (t:=tx) (ns:=ns) z;have mS:=Gr.aZ;obtain ⟨a1,a2,a3,a4,a5,rfl⟩:=Gr.five;cbv;refine .of (hi.mono F).sl kG rfl (by omega) R λq off he=>?_;cbv;refine .jC he rfl ?_;cbv;refine .of bK λle h6 Bu L7 bR cz=>?_;have US:h.get le=none:=by
     cases e:h.get le with
     | none=>rfl
     | some o=>rw [F.get e] at L7;cases L7
    have FH:B≠le:=λe=>by subst e;rw [Y] at L7;cases L7
    have avK:E≠le:=λe=>by subst e;rw [NY] at L7;cases L7
    cbv;refine .of (cs:=[a1,a2,a3,a4,a5]) cz Bu rfl rfl rfl rfl mS rfl λS Fg d X=>?_;cbv;refine .of Fg rfl ?_;have hj7:=(Gr.mono bR).mono d;have U:le∉ag g:=λa=>by obtain ⟨c,e⟩:=L.row a;rw [L7] at e;cases e
    have O8:=(L.mono bR).mono d (dJ U);have cH:Mod h S []:=((F.trans bR).fr d (λl a=>by simp at a;subst a;exact .inl US)).mono λl o _ a=>by simp at a
    have FG:=d.get (bR.get Y) (by simpa using FH);have UO:=d.get (bR.get NY) (by simpa using avK);cbv;refine ih (by omega) X hj7 λcs8 P hj8 cU eL=>?_;have Z:=hj8.aZ;obtain ⟨b1,b2,b3,b4,b5,rfl⟩:=hj8.five;cbv;refine .agg ?_;cbv;refine .of eL λl9 h9 FM hf9 u th=>?_;have Rv:=(O8.mono cU).mono u;have hdl:done.length<=100000:=by rw [r,List.length_take];omega
    cbv;refine .own th Rv (m:=1) (new:=[b1,b2,b3,b4,b5]) (by simp only [cW,FM];rfl) rfl Z (by unfold bg;omega) (by decide) λM sQ zA v C qy=>?_;have oE:Mod h h9 []:=((cH.trans cU).trans u).mono λl o _ a=>by simp at a
    have mR:Mod h sQ []:=oE.fr C λl a=>.inl (FF l a);have J:=u.get (cU.get FG);have G:=u.get (cU.get UO);have ap6:Fr h M:=v.fr oE (by simp) FF;have aes:=((((((hj5.mono bR).mono d).mono cU).mono u).mono C)).snoc ((hj8.mono u).mono C);rw [show done.length+1=(done++[y]).length from by simp] at zA;have avM:=((((w.mono bR).mono d).mono cU).mono u).mono C;cbv;refine .add (by omega) (by omega) λx2 ke=>?_;have ya:done++[y]=its.take x2.toNat:=by rw [r,show x2.toNat=x.toNat+1 by omega,List.take_add_one,z];rfl
    cbv;exact ⟨rfl,its.length - x2.toNat,by omega,M,done++[y],_,x2,rfl,by omega,by omega,rfl,ya,zA,aes,ap6,v.dp J s,v.dp G j,C.get J s,C.get G j,avM,mR,qy⟩
   ·have dA:done=its:=by rw [r,List.take_of_length_le (by omega)]
    subst dA;cbv;refine .one bK Y L.sl.flat rfl rfl rfl λh6 VL bR cz=>?_;cbv;refine .of VL rfl ?_;have oC:=L.mono bR (dJ s);have zv:=bR.get NY (by simpa using Ne.symm N);cbv;refine .of (cs:=[.int .i64 k,.int .i64 i,.str tx,f,g]) cz zv rfl rfl rfl rfl (by show (true&&(true&&(true&&(cf f&&(cf g&&true)))))=true;rw [w.sl.flat,L.sl.flat];rfl) rfl λS UO d X=>?_;cbv;refine .of UO rfl ?_;have O8:=oC.mono d (dJ j);obtain ⟨P,l8,W,m8,w8⟩:=O8.freeze X;have bQ:Mod h h6 []:=F.fr bR λl a=>.inl (fb l a);have cH:Mod h S []:=bQ.fr d λl a=>by simp at a;subst a;exact .inl aeI
    have dT:Mod h P []:=cH.fr m8 λl a=>.inl (FF l a);cbv;exact ⟨P,l8,hq _ P (.mk ht Ds NV VR h5 (((w.mono bR).mono d).mono m8) W (((hj5.mono bR).mono d).mono m8)) dT w8⟩
theorem eZ:∀{l:List (List Nat)} {i:Nat} {x:List Nat},l[i]? =some x->rowFrom (strs l) (i*1) 1=some [.str x]
 | [],i,x,h=>by simp at h
 | y::l,0,x,h=>by simp at h;subst h;rfl
 | y::l,i+1,x,h=>by
   have:=eZ (l:=l) (i:=i) (x:=x) (by simpa using h);rw [show (i+1)*1=i*1+1 by omega];exact this
theorem aa9 {v:V}{l:List (List Nat)}{s:List Nat}(hs:Sl h 1 v l.length (strs l))(r:l.length<=1000000){Q:V->H->Prop} (k:(∀x∈l,x≠s)->Q (.int .i64 (-1)) h) (g:∀i:Int,0<=i->l[i.toNat]? =some s->Q (.int .i64 i) h):CW pf G0 mP [v,.str s] h Q:=by
 refine xq.enter (by kernel_rfl) ?_;cbv;refine .of hs λn o t=>?_;cbv;refine .inv [p0,p1,p6,p7,p8] (λc f h'=>h'=h/\∃i:Int,f=[v,.str s,v,.int .i64 n,.int .i64 i]/\0<=i/\i.toNat<=l.length/\c=l.length - i.toNat/\∀x∈l.take i.toNat,x≠s) [_,_,_,_,_] rfl _ ⟨rfl,0,rfl,by omega,by simp,rfl,by simp⟩ ?_;rintro c _ h' ⟨rfl,i,rfl,d,hi,p,b⟩;cbv;refine .lt (λw=>?_) λu=>?_
 ·obtain ⟨x,a⟩:∃x,l[i.toNat]? =some x:=⟨_,List.getElem?_eq_getElem (by omega)⟩
  cbv;refine .of hs d rfl (by omega) (eZ a) λq off m=>?_;cbv;refine .fR m 0 rfl ?_;cbv;refine .seq (λe=>?_) λe=>?_
  ·subst e
   cbv;exact g i d a
  ·cbv;refine .add (by omega) (by omega) λj z=>?_
   cbv;exact ⟨rfl,l.length - j.toNat,by omega,rfl,j,rfl,by omega,by omega,rfl,λy hy=>by
    rw [show j.toNat=i.toNat+1 by omega,List.take_add_one,a] at hy;rcases List.mem_append.1 hy with hy | hy
    ·exact b y hy
    ·simp at hy;subst hy;exact Ne.symm e⟩
 ·rw [List.take_of_length_le (by omega)] at b
  cbv;exact k b
theorem aa' {i:Int}{tx name:List Nat}{cs:List V}(F:Wf h)(u:oL h (.mk k i tx ns its) cs){Q:V->H->Prop}
  (y:∀h',Mod h h' []->Wf h'->Q (.tuple [.agg [.int .i64 0,.int .i64 0,.str [],.nilSlice 0,.nilSlice 0],.bool false]) h') (U:∀(j:Nat) x W0 h',ns[j]? =some name->its[j]? =some x->oL h' x W0->Mod h h' []->Wf h'->Q (.tuple [.agg W0,.bool true]) h'):
  CW pf G0 HX [.agg cs,.str name] h Q:=by
 cases u with
 | @mk _ _ _ _ _ nv iv rows ht Ds NV VR h5 xy hi hr=>
 refine UD.enter (by kernel_rfl) ?_;cbv;refine .agg ?_;cbv;refine .of F λlb h1 X gi B I=>?_;cbv;refine .of I λK S n N av r=>?_;have s:=av.get X;have aQ:Mod h S []:=(B.trans av).mono λl o _ a=>by simp at a
 have v:=aj B (by simp) N;have p:∀l,l∈[K]->h.get l=none:=λl a=>by simp at a;subst a;exact v
 cbv;refine .of s rfl ?_;cbv;refine .ne (λe=>?_) λe=>?_
 ·cbv;refine .of s rfl ?_
  cbv;refine aa9 (xy.sl.mono aQ (by simp)) (by omega) (λhn=>?_) λj YD u=>?_
  ·cbv;refine .QP (by omega) ?_
   cbv;refine .of (cs:=[.int .i64 0,.int .i64 0,.str [],.nilSlice 0,.nilSlice 0]) r n rfl rfl rfl rfl rfl rfl λh3 f aI d=>?_;cbv;refine .of f rfl ?_;cbv;exact y h3 (aQ.fr aI λl a=>.inl (p l a)) d
  ·cbv;refine .DF (by omega) ?_
   cbv;refine .of s rfl ?_;cbv;refine .of (hi.mono aQ).sl λm L R=>?_;cbv;refine .ge (λg=>?_) λg=>?_
   ·cbv;refine .of (cs:=[.int .i64 0,.int .i64 0,.str [],.nilSlice 0,.nilSlice 0]) r n rfl rfl rfl rfl rfl rfl λh3 f aI d=>?_
    cbv;refine .of f rfl ?_;cbv;exact y h3 (aQ.fr aI λl a=>.inl (p l a)) d
   ·obtain ⟨x,C⟩:∃x,its[j.toNat]? =some x:=⟨_,List.getElem?_eq_getElem (by omega)⟩
    obtain ⟨G,Gr,t⟩:=(hr.mono aQ).get C;obtain ⟨a1,a2,a3,a4,a5,rfl⟩:=Gr.five;cbv;refine .of s rfl ?_;cbv;refine .of (hi.mono aQ).sl YD rfl (by omega) t λq off M=>?_;cbv;refine .jC M rfl ?_;cbv;refine alo (sizeOf x+1) (by omega) r Gr λZ h3 Wc aI d=>?_;have w:=Wc.aZ;obtain ⟨D,W,J,O,Y,rfl⟩:=Wc.five;cbv;refine .of (cs:=[D,W,J,O,Y]) d (aI.get n) rfl rfl rfl rfl w rfl λh4 P A T=>?_;cbv;refine .of P rfl ?_;have E:Mod h h3 []:=(aQ.trans aI).mono λl o _ a=>by simp at a
    cbv;exact U j.toNat x _ h4 u C (Wc.mono A) (E.fr A λl a=>.inl (p l a)) T
 ·cbv;refine .of (cs:=[.int .i64 0,.int .i64 0,.str [],.nilSlice 0,.nilSlice 0]) r n rfl rfl rfl rfl rfl rfl λh3 f aI d=>?_
  cbv;refine .of f rfl ?_;cbv;exact y h3 (aQ.fr aI λl a=>.inl (p l a)) d
end K
