/-
  The sequencer's laws. Part ZAZ of the proof: blotter/tracker: issue.text, readIssue, readComment.
-/
import Derived.Shelf.SortM.Plain
import Derived.Shelf.SortM.SortNone
import Derived.Ground.SlgmProg
import Derived.Test.YteajeefphbjnmaaGreatDoorZAY
import Derived.Test.YteajeefphbjnmaaGreatDoorZAA
import Derived.Test.YteajeefphbjnmaaGreatDoorZAR
import Derived.Test.YteajeefphbjnmaaGreatDoorZAX
import Derived.Test.YteajeefphbjnmaaGreatDoorZAU
namespace K
open Go Go.Dx Go.RowKit Go.Proofs
set_option maxRecDepth 100000
def QJ:List (List Nat):=[[111,119,110,101,114],[115,116,97,116,117,115],[116,105,116,108,101]]
def jz:List (List Nat):=[[98,121],[116,101,120,116]]
theorem mT {h:H}{a b c:List Nat}(hw:Wf h)(ha:bt a)(hb:bt b)(hc:bt c){Q:V->H->Prop} (hq:∀r h',r.length<=65536->Mod h h' []->Wf h'->Q (.str r) h'):CW pf G0 nF [.agg [.str a,.str b,.str c]] h Q:=by
 refine yy.enter (by kernel_rfl) ?_;cbv;refine .agg ?_;cbv;refine .of hw λlb h1 cx gG ar aM=>?_;cbv;refine .of aM λln h2 YL qW aq aN=>?_;have cR:=aq.get cx;cbv;refine .of cR rfl ?_;cbv;refine .of cR rfl ?_;cbv;refine .of cR rfl ?_;cbv;refine .flat rfl ?_;cbv;refine .flat rfl ?_;cbv;refine .flat rfl ?_;cbv;refine .of aN λlv h3 Qx CV aF aR=>?_;have on:aE h3 9 1 (.slice ln 0 3 (.exact 3)) 3 (strs QJ):=.exact (aF.get YL) rfl;have ov:aE h3 9 1 (.slice lv 0 3 (.exact 3)) 3 (strs [a,b,c]):=.exact Qx rfl;obtain ⟨h4,l4,rn4,aD,aQ⟩:=on.freeze aR;have hnv:lv≠ln:=λe=>by subst e;rw [YL] at CV;cases CV
 have ov4:=ov.mono aD (by simp [af];exact hnv);have aJ:Mod h h3 []:=((ar.trans aq).trans aF).mono λl o _ hl=>by simp at hl
 have fn:=ai ar (by simp) qW;have ay:Mod h h4 []:=aJ.fr aD λl hl=>by simp [af] at hl;subst hl;exact .inl fn
 cbv;refine CW.less l4 (tW (ns:=QJ) (vs:=[a,b,c]) aQ rn4 ov4.sl rfl (by decide) (by decide) (by simp;exact ⟨ha,hb,hc⟩) λr h5 hr aY bH=>?_);cbv;exact hq r h5 hr ((ay.trans aY).mono λl o _ hl=>by simp at hl) bH
theorem gL:bt []:=⟨by simp,by simp⟩
theorem QK {h:H}{s:List Nat}(hw:Wf h)(he:HE h){Q:V->H->Prop} (hq:∀a b c ok h',bt a->bt b->bt c->Mod h h' []->Wf h'->Q (.tuple [.agg [.str a,.str b,.str c],.bool ok]) h'):CW pf G0 oS [.str s] h Q:=by
 refine Aq.enter (by kernel_rfl) ?_;cbv;refine .of hw λlb h1 cx gG ar aM=>?_;cbv;refine .of aM λln h2 YL qW aq aN=>?_;have on:aE h2 9 1 (.slice ln 0 3 (.exact 3)) 3 (strs QJ):=.exact YL rfl;obtain ⟨h3,l3,rn3,aF,aR⟩:=on.freeze aN;have hbn:lb≠ln:=λe=>by subst e;rw [cx] at qW;cases qW
 have gB:=aF.get (aq.get cx) (by simp [af];exact hbn);have aO:Mod h h2 []:=(ar.trans aq).mono λl o _ hl=>by simp at hl
 have fn:=ai ar (by simp) qW;have aJ:Mod h h3 []:=aO.fr aF λl hl=>by simp [af] at hl;subst hl;exact .inl fn
 have fb:∀l,l∈[lb]->h.get l=none:=λl hl=>by simp at hl;subst hl;exact gG
 cbv;refine CW.less l3 (OH (ns:=QJ) aR (he.mono aJ) rn3 (by decide) (by decide) (by decide) (λh4 aD aQ=>?_) λov vs b h4 jv hvl KZ aD X2 aQ=>?_)
 all_goals
  have dB:=aD.get gB;have ay:Mod h h4 []:=(aJ.trans aD).mono λl o _ hl=>by simp at hl
 ·cbv;refine .of (cs:=[.str [],.str [],.str []]) aQ dB rfl rfl rfl rfl rfl rfl λh5 pU aY bH=>?_
  cbv;refine .of pU rfl ?_;cbv;exact hq [] [] [] false h5 gL gL gL (ay.fr aY λl hl=>.inl (fb l hl)) bH
 cases b
 ·cbv;refine .of (cs:=[.str [],.str [],.str []]) aQ dB rfl rfl rfl rfl rfl rfl λh5 pU aY bH=>?_
  cbv;refine .of pU rfl ?_;cbv;exact hq [] [] [] false h5 gL gL gL (ay.fr aY λl hl=>.inl (fb l hl)) bH
 ·obtain ⟨a,b,c,rfl⟩:∃a b c,vs=[a,b,c]:=by
   match vs,hvl with
   | [a,b,c],_=>exact ⟨a,b,c,rfl⟩
  simp at KZ;obtain ⟨ba,bb,bc⟩:=KZ;have rd:∀{n:Nat} {x:List Nat},[a,b,c][n]? =some x->rowFrom (strs [a,b,c]) (n*1) 1=some [.str x]:=λe=>eQ e;cbv;refine .of follows 6 ?_;cbv;refine .of aQ λle h5 Jj lA aY bH=>?_;have pU:=aY.get dB;have so5:=jv.sl.mono aY (by simp);cbv;refine .of so5 (by omega) rfl (by simp) (rd (n:=0) rfl) λq off heq=>?_;cbv;refine .gH heq 0 rfl ?_;cbv;refine .of so5 (by omega) rfl (by simp) (rd (n:=1) rfl) λq1 ao9 akE=>?_;cbv;refine .gH akE 0 rfl ?_;cbv;refine .of so5 (by omega) rfl (by simp) (rd (n:=2) rfl) λq2 Fk akF=>?_;cbv;refine .gH akF 0 rfl ?_;cbv;refine .flat rfl ?_;cbv;refine .flat rfl ?_;cbv;refine .flat rfl ?_;cbv;refine .fresh Jj rfl ?_;cbv;refine .of (cs:=[.str a,.str b,.str c]) bH Jj rfl rfl rfl rfl rfl rfl λh6 xq bP cy=>?_;have Ff:lb≠le:=λe=>by subst e;rw [dB] at lA;cases lA
  have Rs:=bP.get pU (by simpa using Ff);have aL:Mod h h5 []:=(ay.trans aY).mono λl o _ hl=>by simp at hl
  have fe:=ai ay (by simp) lA;have bT:Mod h h6 []:=aL.fr bP λl hl=>by simp at hl;subst hl;exact .inl fe
  cbv;refine .nil ?_;clear bP aY rd;cbv;refine .of follows 6 ?_;cbv;refine .of xq rfl ?_;cbv;refine .of xq rfl ?_;cbv;refine .seq (λqa=>?_) λqa=>?_
  ·skip
   cbv;refine .load xq rfl ?_;cbv;refine .nil ?_;cbv;refine .of xq rfl ?_;cbv;refine .seq (λqo=>?_) λqo=>?_
   ·skip
    cbv;refine .of xq rfl ?_;cbv;refine zD cy (λUP Lc Ni=>?_) λUP _ Lc Ni=>?_
    all_goals
     have HA:Mod h UP []:=(bT.trans Lc).mono λl o _ hl=>by simp at hl
     have adX:=Lc.get xq;have akG:=Lc.get Rs
    ·skip
     cbv;refine .load adX rfl ?_;cbv;refine .nil ?_;cbv;refine .of (cs:=[.str a,.str b,.str c]) Ni akG rfl rfl rfl rfl rfl rfl λh22 au5 au6 au7=>?_;cbv;refine .nil ?_;cbv;refine .of au5 rfl ?_;cbv;exact hq a b c _ h22 ba bb bc (HA.fr au6 λl hl=>.inl (fb l hl)) au7
    ·skip
     cbv;refine .load adX rfl ?_;cbv;refine .nil ?_;cbv;refine .of (cs:=[.str a,.str b,.str c]) Ni akG rfl rfl rfl rfl rfl rfl λh23 au8 UL au9=>?_;cbv;refine .nil ?_;cbv;refine .of au8 rfl ?_;cbv;exact hq a b c _ h23 ba bb bc (HA.fr UL λl hl=>.inl (fb l hl)) au9
   ·cbv;refine .of xq rfl ?_
    cbv;refine .seq (λqc=>?_) λqc=>?_
    ·skip
     cbv;refine .of xq rfl ?_;cbv;refine zD cy (λh24 KX akH=>?_) λh24 _ KX akH=>?_
     all_goals
      have aid:Mod h h24 []:=(bT.trans KX).mono λl o _ hl=>by simp at hl
      have apf:=KX.get xq;have apg:=KX.get Rs
     ·skip
      cbv;refine .load apf rfl ?_;cbv;refine .nil ?_;cbv;refine .of (cs:=[.str a,.str b,.str c]) akH apg rfl rfl rfl rfl rfl rfl λh26 au' ava avb=>?_;cbv;refine .nil ?_;cbv;refine .of au' rfl ?_;cbv;exact hq a b c _ h26 ba bb bc (aid.fr ava λl hl=>.inl (fb l hl)) avb
     ·skip
      cbv;refine .load apf rfl ?_;cbv;refine .nil ?_;cbv;refine .of (cs:=[.str a,.str b,.str c]) akH apg rfl rfl rfl rfl rfl rfl λh27 avc avd ave=>?_;cbv;refine .nil ?_;cbv;refine .of avc rfl ?_;cbv;exact hq a b c _ h27 ba bb bc (aid.fr avd λl hl=>.inl (fb l hl)) ave
    ·skip
     cbv;refine .load xq rfl ?_;cbv;refine .nil ?_;cbv;refine .of (cs:=[.str a,.str b,.str c]) cy Rs rfl rfl rfl rfl rfl rfl λh28 avf avg avh=>?_;cbv;refine .nil ?_;cbv;refine .of avf rfl ?_;cbv;exact hq a b c _ h28 ba bb bc (bT.fr avg λl hl=>.inl (fb l hl)) avh
  ·cbv;refine .of xq rfl ?_
   cbv;refine cz cy (by have:=ba.1;omega) (λh7 AP cH eu=>?_) λh7 AP cH eu=>?_
   all_goals
    have cM:Mod h h7 []:=(bT.trans cH).mono λl o _ hl=>by simp at hl
    have Bp:=cH.get xq;have Ij:=cH.get Rs
   ·skip
    cbv;refine .load Bp rfl ?_;cbv;refine .nil ?_;cbv;refine .of Bp rfl ?_;cbv;refine .seq (λqo=>?_) λqo=>?_
    ·skip
     cbv;refine .of Bp rfl ?_;cbv;refine zD eu (λh29 agD akI=>?_) λh29 _ agD akI=>?_
     all_goals
      have aie:Mod h h29 []:=(cM.trans agD).mono λl o _ hl=>by simp at hl
      have aph:=agD.get Bp;have api:=agD.get Ij
     ·skip
      cbv;refine .load aph rfl ?_;cbv;refine .nil ?_;cbv;refine .of (cs:=[.str a,.str b,.str c]) akI api rfl rfl rfl rfl rfl rfl λh31 avi avj avk=>?_;cbv;refine .nil ?_;cbv;refine .of avi rfl ?_;cbv;exact hq a b c _ h31 ba bb bc (aie.fr avj λl hl=>.inl (fb l hl)) avk
     ·skip
      cbv;refine .load aph rfl ?_;cbv;refine .nil ?_;cbv;refine .of (cs:=[.str a,.str b,.str c]) akI api rfl rfl rfl rfl rfl rfl λh32 avl avm avn=>?_;cbv;refine .nil ?_;cbv;refine .of avl rfl ?_;cbv;exact hq a b c _ h32 ba bb bc (aie.fr avm λl hl=>.inl (fb l hl)) avn
    ·cbv;refine .of Bp rfl ?_
     cbv;refine .seq (λqc=>?_) λqc=>?_
     ·skip
      cbv;refine .of Bp rfl ?_;cbv;refine zD eu (λh33 agE akJ=>?_) λh33 _ agE akJ=>?_
      all_goals
       have aif:Mod h h33 []:=(cM.trans agE).mono λl o _ hl=>by simp at hl
       have apj:=agE.get Bp;have apk:=agE.get Ij
      ·skip
       cbv;refine .load apj rfl ?_;cbv;refine .nil ?_;cbv;refine .of (cs:=[.str a,.str b,.str c]) akJ apk rfl rfl rfl rfl rfl rfl λh35 avo UR avp=>?_;cbv;refine .nil ?_;cbv;refine .of avo rfl ?_;cbv;exact hq a b c _ h35 ba bb bc (aif.fr UR λl hl=>.inl (fb l hl)) avp
      ·skip
       cbv;refine .load apj rfl ?_;cbv;refine .nil ?_;cbv;refine .of (cs:=[.str a,.str b,.str c]) akJ apk rfl rfl rfl rfl rfl rfl λh36 avq avr avs=>?_;cbv;refine .nil ?_;cbv;refine .of avq rfl ?_;cbv;exact hq a b c _ h36 ba bb bc (aif.fr avr λl hl=>.inl (fb l hl)) avs
     ·skip
      cbv;refine .load Bp rfl ?_;cbv;refine .nil ?_;cbv;refine .of (cs:=[.str a,.str b,.str c]) eu Ij rfl rfl rfl rfl rfl rfl λh37 avt avu avv=>?_;cbv;refine .nil ?_;cbv;refine .of avt rfl ?_;cbv;exact hq a b c _ h37 ba bb bc (cM.fr avu λl hl=>.inl (fb l hl)) avv
   ·skip
    cbv;refine .load Bp rfl ?_;cbv;refine .nil ?_;cbv;refine .load Bp rfl ?_;cbv;refine .nil ?_;cbv;refine .of (cs:=[.str a,.str b,.str c]) eu Ij rfl rfl rfl rfl rfl rfl λh38 avw avx avy=>?_;cbv;refine .nil ?_;cbv;refine .of avw rfl ?_;cbv;exact hq a b c _ h38 ba bb bc (cM.fr avx λl hl=>.inl (fb l hl)) avy
end K
namespace K
open Go Go.Dx Go.RowKit Go.Proofs
set_option maxRecDepth 100000
theorem Lt {h:H}{s:List Nat}(hw:Wf h)(he:HE h){Q:V->H->Prop} (hq:∀a b ok h',bt a->bt b->Mod h h' []->Wf h'->Q (.tuple [.str a,.str b,.bool ok]) h'):CW pf G0 lV [.str s] h Q:=by
 refine wU.enter (by kernel_rfl) ?_;cbv;refine .of hw λln h2 YL qW aq aN=>?_;have on:aE h2 9 1 (.slice ln 0 2 (.exact 2)) 2 (strs jz):=.exact YL rfl;obtain ⟨h3,l3,rn3,aF,aR⟩:=on.freeze aN;have aJ:Mod h h3 []:=aq.fr aF λl hl=>by simp [af] at hl;subst hl;exact .inl qW
 cbv;refine CW.less l3 (OH (ns:=jz) aR (he.mono aJ) rn3 (by decide) (by decide) (by decide) (λh4 aD aQ=>?_) λov vs b h4 jv hvl KZ aD X2 aQ=>?_)
 all_goals
  have ay:Mod h h4 []:=(aJ.trans aD).mono λl o _ hl=>by simp at hl
 ·cbv;exact hq [] [] false h4 gL gL ay aQ
 cases b
 ·cbv;exact hq [] [] false h4 gL gL ay aQ
 ·obtain ⟨a,b,rfl⟩:∃a b,vs=[a,b]:=by
   match vs,hvl with
   | [a,b],_=>exact ⟨a,b,rfl⟩
  simp at KZ;obtain ⟨ba,bb⟩:=KZ;have rd:∀{n:Nat} {x:List Nat},[a,b][n]? =some x->rowFrom (strs [a,b]) (n*1) 1=some [.str x]:=λe=>eQ e;cbv;refine .of jv.sl (by omega) rfl (by simp) (rd (n:=0) rfl) λq off heq=>?_;cbv;refine .gH heq 0 rfl ?_;cbv;refine cz aQ (by have:=ba.1;omega) (λh5 AP aY bH=>?_) λh5 AP aY bH=>?_
  all_goals
   have aL:Mod h h5 []:=(ay.trans aY).mono λl o _ hl=>by simp at hl
  ·cbv;refine .of (jv.sl.mono aY (by simp)) (by omega) rfl (by simp) (rd (n:=1) rfl) λq1 ao9 akE=>?_
   cbv;refine .gH akE 0 rfl ?_;cbv;refine zD bH (λh6 bP cy=>?_) λh6 ht6 bP cy=>?_
   all_goals
    have bT:Mod h h6 []:=(aL.trans bP).mono λl o _ hl=>by simp at hl
   ·cbv;exact hq [] [] false h6 gL gL bT cy
   ·have so6:=(jv.sl.mono aY (by simp)).mono bP (by simp)
    cbv;refine .of follows 6 ?_;cbv;refine .of so6 (by omega) rfl (by simp) (rd (n:=0) rfl) λq2 Fk akF=>?_;cbv;refine .gH akF 0 rfl ?_;cbv;refine .of so6 (by omega) rfl (by simp) (rd (n:=1) rfl) λq3 UJ avz=>?_;cbv;refine .gH avz 0 rfl ?_;cbv;exact hq a b true h6 ba bb bT cy
  ·cbv;exact hq [] [] false h5 gL gL aL bH
end K
namespace K
open Go Go.Dx Go.RowKit Go.Proofs
set_option maxRecDepth 100000
abbrev EL:=List (List Nat×List Nat)
def dJ:EL->List V
 | []=>[]
 | e::r=>.str e.1 :: .str e.2::dJ r
theorem jA:∀l,(dJ l).length=l.length*2
 | []=>rfl
 | _::r=>by simp [dJ,jA r];omega
theorem Bn:∀l,bd (dJ l)=true
 | []=>rfl
 | _::r=>by simp [dJ,bd,bU,Bn r]
theorem IX:∀{l:EL} {i:Nat} {x:List Nat×List Nat},l[i]? =some x->rowFrom (dJ l) (i*2) 2=some [.str x.1,.str x.2]
 | [],i,x,h=>by simp at h
 | y::l,0,x,h=>by simp at h;subst h;rfl
 | y::l,i+1,x,h=>by
   have:=IX (l:=l) (i:=i) (x:=x) (by simpa using h);rw [show (i+1)*2=i*2+1+1 by omega];exact this
structure qS (h:H)(lm:Lb)(m:bF)(c:Nat):Prop where
 get:h.get lm=some (.map (cg m) c)
 ok:fG m c
 dJ:∀e∈m,e.1.length<=1000000/\∃v,e.2.1 = .agg [.str e.1,.str v]
theorem qS.mono {h h':H}{lm:Lb}{m:bF}{c:Nat}{F:List Lb}(s:qS h lm m c)(hm:Mod h h' F)(hl:lm∉F:=by simp):qS h' lm m c:=⟨hm.get s.get hl,s.ok,s.dJ⟩
theorem Lu (m:bF)(k:List Nat)(v:V)(c:Nat):(dh m k v c).length<=m.length+1:=by
 induction m with
 | nil=>simp [dh]
 | cons e r ih=>
   obtain ⟨x,w,b⟩:=e;simp only [dh];split
   ·simp
   ·simp;omega
theorem qS.set {h h':H}{lm:Lb}{m:bF}{c:Nat}(s:qS h lm m c){k v2:List Nat}(hk:k.length<=1000000)(hg:h'.get lm=some (.map (cg (dh m k (.agg [.str k,.str v2]) c)) (dQ m k c))):qS h' lm (dh m k (.agg [.str k,.str v2]) c) (dQ m k c):=
 ⟨hg,s.ok.set k _,λe he=>by
  rcases ki he with q | ⟨q1,q,_⟩
  ·exact s.dJ e q
  ·exact ⟨by rw [q1];exact hk,v2,by rw [q1];exact q⟩⟩
theorem qS.del {h h':H}{lm:Lb}{m:bF}{c:Nat}(s:qS h lm m c){k:List Nat}(hg:h'.get lm=some (.map (cg (fA m k)) c)):qS h' lm (fA m k) c:=⟨hg,s.ok.del k,λe he=>s.dJ e (Kz he)⟩
theorem aih {h:H}{ev:V}{es:EL}(hw:Wf h)(hs:Sl h 2 ev es.length (dJ es))(hl:es.length<=1000000000)(vO:∀e∈es,e.1.length<=1000000) {Q:V->H->Prop} (hq:∀lm m c h',qS h' lm m c->m.length<=es.length->h.get lm=none->Mod h h' []->Wf h'->Q (.map lm) h'):CW pf G0 Ed [ev] h Q:=by
 refine Ql.enter (by kernel_rfl) ?_;cbv;refine .of hw λlm h1 avA CR ar aM=>?_;cbv;refine .of (hs.mono ar) λn eT hn=>?_;cbv;refine .inv [p3,p7,p8,p9] (λm' aC h'=>∃(x:Int) (m:bF) (c:Nat),aC=[.map lm,ev,.int .i64 n,.int .i64 x]/\0<=x/\x.toNat<=es.length/\m'=es.length - x.toNat/\m.length<=x.toNat/\qS h' lm m c/\Mod h h' []/\Wf h') [_,_,_,_] rfl _
  ⟨0,[],0,rfl,by omega,by simp,rfl,by simp,⟨avA,.nil 0,by simp⟩,ar,aM⟩ ?_
 rintro m' _ h2 ⟨x,m,c,rfl,lN,hx,dY,PT,S2,aq,aN⟩;cbv;refine .lt (λbA=>?_) λjb=>?_
 ·obtain ⟨e,he⟩:∃e,es[x.toNat]? =some e:=⟨_,List.getElem?_eq_getElem (by omega)⟩
  cbv;refine .of (hs.mono aq) lN rfl (by omega) (IX he) λq off heq=>?_;cbv;refine .ka heq rfl ?_;cbv;refine .of aN λle h3 CS lA aF aR=>?_;cbv;refine .of (cs:=[.str e.1,.str e.2]) aR CS rfl rfl rfl rfl rfl rfl λh4 vL aD aQ=>?_;have fe:=ai aq (by simp) lA;have uJ:lm≠le:=λe=>by subst e;rw [S2.get] at lA;cases lA
  have S4:=(S2.mono aF).mono aD (by simpa using uJ);have ay:Mod h h4 []:=((aq.trans aF).fr aD λl hl=>by simp at hl;subst hl;exact .inl fe).mono λl o _ hl=>by simp at hl
  cbv;refine .of vL rfl ?_;cbv;refine .of vL rfl ?_;cbv;refine .of aQ S4.get λh5 we aY bH=>?_;have aL:Mod h h5 []:=ay.fr aY λl hl=>by simp at hl;subst hl;exact .inl CR
  have:=Lu m e.1 (.agg [.str e.1,.str e.2]) c;cbv;refine .add (by omega) (by omega) λx2 lH=>?_;cbv;exact ⟨rfl,es.length - x2.toNat,by omega,x2,_,_,rfl,by omega,by omega,rfl,by omega,S4.set (vO e (List.mem_of_getElem? he)) we,aL,bH⟩
 ·cbv;exact hq lm m c h2 S2 (by omega) CR aq aN
end K
namespace K
open Go Go.Dx Go.RowKit Go.Proofs Go.Sort
set_option maxRecDepth 100000
theorem _root_.Go.Dx.aA.rewrite {α:Type} [Inhabited α] {B:Nat}{w0 w:World}{ρ:bE}{h:H}(R:aA B w0 ρ h w){l:Lb}{b:dZ}{vs us:List V}{e:TypeId}(hl:ρ l=some b)(hg:h.get l=some (.cells vs e 0 .yes))(enc:α->Value) (d:Array α) (hd:d.size=vs.length) (hu:us.length=vs.length) (hr:∀i v,us[i]? =some v->RV ρ v (enc (d[(i:Nat)]!))):
  aA B w0 ρ (h.set l (.cells us e 0 .yes)) (putRow enc w b.block 0 d):=by
 have c:dO ρ b vs e 0 .yes w:=R.obj l b _ hl hg;obtain ⟨cs,lo,hi,hc,h1,h2⟩:=c.bare rfl;have fC:=(R.base l b hl).1;have bA:b.block<w.heap.size:=(R.obj l b _ hl hg).lt;have avB:putRow enc w b.block 0 d = {w with heap:=w.heap.setIfInBounds b.block (.cells (putCells enc 0 d cs) e (lo,hi))}:=by
  unfold putRow mapBlock
  congr 1
  apply Array.ext_getElem?;intro i;rw [Array.getElem?_modify,Array.getElem?_setIfInBounds]
  by_cases ja:b.block=i
  ·subst ja
   obtain ⟨_,hce⟩:=Array.getElem?_eq_some_iff.1 hc;simp [bA,onCells,hce]
  ·simp [ja]
 rw [avB];have R8:=c.shape;unfold World.shape? at R8;simp only [hc] at R8;have uH:=c.fits;have hps:(putCells enc 0 d cs).size=cs.size:=by simp [putCells]
 refine R.setObj hl hg rfl λw' cG=>⟨?_,by omega,λi v hv=>?_,λ_ i Fa DI=>?_,λ_=>⟨_,lo,hi,cG,h1,h2⟩⟩
 ·unfold World.shape?
  simp only [cG,hps];exact R8
 ·have hi:=(List.getElem?_eq_some_iff.1 hv).1
  refine ⟨_,?_,hr i v hv⟩;have jQ:cs.size=b.total:=by simpa using R8
  unfold World.cell? cZ;simp only [cG,fC,Nat.zero_add];unfold putCells;simp;exact ⟨_,Array.getElem?_eq_getElem (by omega),λh=>by omega⟩
 ·unfold World.frozen?
  simp only [cG];simp;omega
theorem CM {B:Nat}{w0 w:World}{ρ:bE}{h:H}(R:aA B w0 ρ h w):∀n,aA B w0 ρ h (Sort.ahead w n)
 | 0=>R
 | n+1=>by rw [<-Sort.ahead_drew];exact (CM R n).drew
theorem CN {B:Nat}{w0:World}{ρ:bE}{h:H}:∀(os:List Go.Obj) {w:World},aA B w0 ρ h w->aA B w0 ρ h (grow w os.toArray)
 | [],w,R=>by rw [show ([]:List Go.Obj).toArray = #[] from rfl,grow_empty];exact R
 | o::r,w,R=>by
   have:=CN r (R.junk o);rw [alloc_eq_grow,grow_grow] at this;simpa using this
theorem GC:∀{l:List (List Nat)} {i:Nat} {v:V},(strs l)[i]? =some v->∃s,l[i]? =some s/\v = .str s
 | [],i,v,h=>by simp [strs] at h
 | x::l,0,v,h=>by simp [strs] at h;exact ⟨x,rfl,h.symm⟩
 | x::l,i+1,v,h=>by
   obtain ⟨s,a,b⟩:=GC (l:=l) (i:=i) (v:=v) (by simpa [strs] using h);exact ⟨s,by simpa using a,b⟩
theorem TS {h:H}{v:V}{xs:List (List Nat)}(hw:Wf h)(ho:aE h 9 1 v xs.length (strs xs))(hl:xs.length<=1000000000000){Q:V->H->Prop} (hq:∀ys h',ys.length=xs.length->(∀y∈ys,y∈xs)->aE h' 9 1 v ys.length (strs ys)->Mod h h' (af v)->Wf h'->Q (.tuple []) h'):CW pf G0 eO [v] h Q:=by
 refine .mk λ{B w0 ρ w us} R hG hx=>?_;have key:∀(l:Lb) (b:dZ) (cap:Nat),h.get l=some (.cells (strs xs) 9 0 .yes)->ρ l=some b->af v=[l]->(∀h' ys,ys.length=xs.length->h'.get l=some (.cells (strs ys) 9 0 .yes)->aE h' 9 1 v ys.length (strs ys))->Good (pf ()) eO [.slice (some ⟨b.block,b.base,none⟩) xs.length cap] w λx w'=>∃v h' ρ',Q v h'/\Step ρ ρ' h h'/\RV ρ' v x/\aA B w0 ρ' h' w':=λl b cap hg hb Qt sY=>by
  have c:dO ρ b (strs xs) 9 0 .yes w:=R.obj l b _ hb hg;obtain ⟨zs,FC,pV⟩:=vD c rfl (by rw [<-ep];exact dA rfl);have hzl:zs.length=xs.length:=by rw [<-FC,List.length_map]
  have fC:=(R.base l b hb).1;have uH:=c.fits;rw [ep] at uH;obtain ⟨ss,hss⟩:∃ss,ss=zs.map (·.data.toList):=⟨_,rfl⟩;have mD:ss.length=xs.length:=by rw [hss,List.length_map,hzl]
  have hH:Holds encStr w b.block b.base ss.toArray:=λj hj=>by
   have hj':j<ss.length:=by simpa using hj
   refine ⟨?_,c.free rfl _ (by omega) (by omega)⟩;have:=pV j zs[j] (List.getElem?_eq_getElem (by omega));rw [Nat.add_zero] at this;rw [this];subst hss;simp at hj' ⊢;rw [List.getElem?_eq_getElem hj'];simp
  have gw:Calls (pf ()) eO ⟨[.slice (some ⟨b.block,b.base,none⟩) xs.length cap]⟩ w λe w'=>e = .returned (.tuple #[])/\∃n os,w'=grow (putRow encStr (Sort.ahead w n) b.block b.base (ss.mergeSort λx y=>decide (x<=y)).toArray) os:=by
   rw [<-mD];exact AnyM.slices_Sort_string Tryz.ahv b.block b.base cap ss w hH (R.obj l b _ hb hg:sf ρ b w _).lt (by omega)
  refine Good.iq Tryz.func191 rfl rfl (gw.mono λe w' ⟨he,n,os,cG⟩=>⟨_,he,?_⟩);obtain ⟨ts,AQ⟩:∃ts,ts=ss.mergeSort λx y=>decide (x<=y):=⟨_,rfl⟩;rw [<-AQ] at cG;have Cc:ts.length=xs.length:=by rw [AQ,List.length_mergeSort,mD]
  obtain ⟨ys,hys⟩:∃ys,ys=ts.map λt=>ax ⟨t.toArray⟩:=⟨_,rfl⟩;have Wh:ys.length=xs.length:=by rw [hys,List.length_map,Cc]
  obtain ⟨g1,g2,g3⟩:=H.eM hw hg rfl (.cells (strs ys) 9 0 .yes);have R':aA B w0 ρ (h.set l (.cells (strs ys) 9 0 .yes)) (putRow encStr (Sort.ahead w n) b.block 0 ts.toArray):=(CM R n).rewrite hb hg encStr ts.toArray (by simp [ep,Cc]) (by simp [ep,Wh]) λi v hv=>by
   obtain ⟨s,h1,rfl⟩:=GC hv;rw [hys,List.getElem?_map] at h1;have hi:i<ts.length:=by
    rcases Nat.lt_or_ge i ts.length with g | g
    ·exact g
    ·rw [List.getElem?_eq_none g] at h1;simp at h1
   rw [List.getElem?_eq_getElem hi] at h1;simp at h1;rw [<-h1];have:ts.toArray[i]! =ts[i]:=by simp [hi]
   rw [this];exact .str _
  refine ⟨.tuple [],_,ρ,hq ys _ Wh (λy hy=>?_) (sY _ ys Wh g1) (Qt▸g2) g3,⟨λ_ _=>rfl,g2.next⟩,.tuple .nil,?_⟩
  ·rw [hys] at hy
   obtain ⟨t,ht,rfl⟩:=List.mem_map.1 hy;rw [AQ,List.mem_mergeSort,hss] at ht;obtain ⟨z,hz,rfl⟩:=List.mem_map.1 ht;rw [<-FC];exact List.mem_map_of_mem hz
  ·rw [cG,fC]
   have:=CN os.toList R';simpa using this
 generalize vB:xs.length=n at ho key;generalize jQ:strs xs=cs at ho key;cases hx with
 | cons r tl=>
   cases tl;cases ho with
   | nil=>
     cases r with
     | nilSlice c=>
       have gw:Calls (pf ()) eO ⟨[.slice none 0 0]⟩ w λe w'=>e = .returned (.tuple #[])/\w'=w:=AnyM.slices_Sort_string_none Tryz.ahv none 0 w;refine Good.iq Tryz.func191 rfl rfl (gw.mono λe w' ⟨he,cG⟩=>⟨_,he,?_⟩);have lN:xs=[]:=by cases xs with | nil=>rfl | cons a b=>cases vB
       subst lN;exact ⟨.tuple [],h,ρ,hq [] h rfl (by simp) .nil (Mod.refl _ _) hw,Step.refl _ _,.tuple .nil,cG▸R⟩
   | ends hg hlen=>
     cases r with
     | @sliceEnd _ b _ _ size c hb jc E5=>
       exact key _ b c hg hb rfl λh' ys hy hg'=>by rw [hy];exact .ends hg' (by rw [ep,hy,Nat.mul_one])
   | exact hg hlen=>
     cases r with
     | @slice _ b _ _ c hb=>
       exact key _ b _ hg hb rfl λh' ys hy hg'=>by rw [hy];exact .exact hg' (by rw [ep,hy,Nat.mul_one])
end K
namespace K
open Go Go.Dx Go.RowKit Go.Proofs
set_option maxRecDepth 100000
theorem _root_.Go.Dx.acJ.front {s:List Nat}{k:IntKind}{j:Int}{K:V->Prop} (h0:0<=j) (hj:j.toNat<=s.length) (hk:∀t,t=s.take j.toNat->K (.str t)):acJ s none (some (.int k j)) K:=by
 obtain ⟨b,rfl⟩:=Int.eq_ofNat_of_zero_le h0;have hj:b<=s.length:=by simpa using hj
 exact ⟨.str ((s.take b).drop 0),by simp only [mw,bD,dm hj,ob],hk _ (by simp)⟩
theorem QL {h:H}{s p:List Nat}{Q:V->H->Prop} (hq:∀b,Q (.bool b) h):CW pf G0 oR [.str s,.str p] h Q:=by
 refine Ap.enter (by kernel_rfl) ?_;cbv;refine kZ.enter (by kernel_rfl) ?_;cbv;refine .of λn eT hn=>?_;cbv;refine .of λk Ir hk=>?_;cbv;refine .ge (λe=>?_) λe=>?_
 ·cbv;refine .of λk2 af9 Fc=>?_
  cbv;refine .front (by omega) (by omega) λt ht=>?_;cbv;refine .seq (λ_=>?_) λ_=>?_
  ·cbv;exact hq _
  ·cbv;exact hq _
 ·cbv;exact hq _
theorem aaq (m:bF)(seen:List Nat):(fQ m seen).length<=m.length:=List.length_filter_le _ _
theorem tX {h:H}{lm:Lb}{m:bF}{c:Nat}{pre:List Nat}(hw:Wf h)(S:qS h lm m c)(PT:m.length<=1000000000){Q:V->H->Prop} (hq:∀ov (ks:List (List Nat)) h',ks.length<=m.length->(∀k∈ks,k.length<=1000000)->aE h' 9 1 ov ks.length (strs ks)->Fr h ov->Mod h h' []->Wf h'->Q ov h'):CW pf G0 lU [.map lm,.str pre] h Q:=by
 refine wT.enter (by kernel_rfl) ?_;cbv;refine .rangeMap rfl hw S.get λli h1 IN E9 ar aM=>?_;cbv;refine .inv [p1,p5,p8] (λm' aC h'=>∃(seen:List Nat) (ks:List (List Nat)) (ov:V) (last:Nat),aC=[.str pre,ov,.ptr li 0]/\m'=(fQ m seen).length/\ks.length+(fQ m seen).length<=m.length/\(∀k∈ks,k.length<=1000000)/\h'.get li=some (.mapIter (some lm) c seen last)/\c<=last/\aE h' 9 1 ov ks.length (strs ks)/\Fr h ov/\li∉af ov/\Mod h h' []/\Wf h') [_,_,_] rfl _
  ⟨[],[],.nilSlice 0,c,rfl,rfl,by simpa using aaq m [],by simp,IN,by omega,.nil,Fr.EO _ _,by simp [af],ar,aM⟩ ?_
 rintro m' _ h' ⟨seen,ks,ov,last,rfl,dY,vO,hks,hl,pY,ho,hf,uJ,aq,aN⟩;have PX:=aq.get S.get (by simp);cbv;refine .of aN hl PX pY (λe he=>S.ok.old e he) (λbq=>?_) λk v b gi h3 iY aF aR=>?_
 ·cbv
  refine TS aN ho (by omega) λys h3 Wh hym fT aF aR=>?_;cbv;exact hq ov ys h3 (by omega) (λk hk=>hks k (hym k hk)) fT hf (aq.fr aF λl pn=>.inl (hf l pn)) aR
 ·have O8:lm≠li:=by rintro rfl;rw [PX] at hl;cases hl
  have Og:=aF.get PX (by simpa using O8);have bA:(fQ m (seen++[b])).length<(fQ m seen).length:=Tb gi;have fT:=ho.mono aF (fk uJ);have aJ:Mod h h3 []:=aq.fr aF λl pn=>by simp at pn;subst pn;exact .inl E9
  cbv;refine .entry iY Og S.ok (pT gi) ?_;cbv;refine QL λyes=>?_;cases yes
  ·cbv;exact ⟨rfl,_,(by rw [dY];exact bA),seen++[b],ks,ov,c,rfl,rfl,by omega,hks,iY,by omega,fT,hf,uJ,aJ,aR⟩
  ·cbv;refine .flat rfl ?_
   cbv;refine .of aR λl8 h8 sQ Nh cO ew=>?_;have dL:Mod h h8 []:=(aJ.trans cO).mono λl o _ hl=>by simp at hl
   cbv;refine .own ew (fT.mono cO) (m:=1) (new:=[.str k]) (by simp only [de,sQ];rfl) rfl rfl (by unfold bz;omega) (by decide) λlv9 h9 Jl hg9 eU pd=>?_;rw [show strs ks++[V.str k]=strs (ks++[k]) from by rw [jZ];rfl,show ks.length+1=(ks++[k]).length from by simp] at Jl;have pJ:Mod h h9 []:=dL.fr eU λl hl=>.inl (hf l hl);have agF:=cO.get iY;cbv;exact ⟨rfl,_,(by rw [dY];exact bA),seen++[b],ks++[k],lv9,c,rfl,rfl,by simp;omega,(λx hx=>(List.mem_append.1 hx).elim (hks x) λe=>by simp at e;subst e;exact (S.dJ _ (pT gi)).1),eU.get agF uJ,by omega,Jl,hg9.fr dL (by simp) hf,hg9.dG agF uJ,pJ,pd⟩
end K
namespace K
open Go Go.Dx Go.RowKit
set_option maxRecDepth 100000
def mc (gone:Bool)(v:List Nat):List Nat:=if gone then [1] else 0::(cV v.length++v)
theorem Yh {h0 h:H}{b:V}{m:Nat}{cs:List V}{gone:Bool}{v:List Nat}(lo:Loc h0 h b)(ho:aE h 5 1 b m cs)(hf:bd cs=true)(hm:m<=9000000)(hv:v.length<=1000000){Q:V->H->Prop}
  (hq:∀r h',aE h' 5 1 r (m+(mc gone v).length) (cs++ae (mc gone v))->Loc h0 h' r->Q r h'):CW pf G0 x9 [b,.bool gone,.str v] h Q:=by
 refine KQ.enter (by kernel_rfl) ?_;cases gone with
 | true=>
   cbv;refine .of lo.wf λl h1 hl gC ar aM=>?_;cbv;refine .one (lo.al ar aM) (ho.mono ar (by simp)) hl rfl rfl (by omega) (by decide) λr h2 ke Dg _=>?_;cbv;exact hq r h2 ke Dg
 | false=>
   cbv;refine .of lo.wf λl h1 hl gC ar aM=>?_;cbv;refine .one (lo.al ar aM) (ho.mono ar (by simp)) hl rfl rfl (by omega) (by decide) λr h2 ke Dg _=>?_;cbv;refine Gn Dg.wf ke.sl (eN hf rfl) (by omega) hv λr3 h3 fT lL=>?_;cbv;refine hq r3 h3 ?_ (lL.base Dg.mod);have e:cs++ae (mc false v)=cs++[V.int .u8 0]++ae (cV v.length++v):=by
    simp [mc,ae]
   rw [e,show m+(mc false v).length=m+1+(cV v.length++v).length by simp [mc];omega];exact fT
structure zE where
 key:List Nat
 gone:Bool
 val:List Nat
def AI:List zE->List V
 | []=>[]
 | o::r=>.str o.key :: .bool o.gone :: .str o.val::AI r
theorem zF:∀(l:List zE) (i:Nat) (o:zE),l[i]? =some o->rowFrom (AI l) (i*3) 3=some [.str o.key,.bool o.gone,.str o.val]
 | [],i,o,h=>by simp at h
 | x::r,0,o,h=>by simp at h;subst h;rfl
 | x::r,i+1,o,h=>by
   have:=zF r i o (by simpa using h);rw [show (i+1)*3=i*3+1+1+1 by omega];exact this
structure aij (l:List zE):Prop where
 some:1<=l.length
 iZ:l.length<=256
 each:∀o,o∈l->1<=o.key.length/\o.key.length<=128/\(o.gone=true->o.val=[])/\o.val.length<=4096
 keys:(l.map (·.key)).Nodup
theorem adZ {h:H}{vo:V}{l:List zE}(hw:Wf h)(hs:Sl h 3 vo l.length (AI l))(hk:∀o,o∈l->o.key.length<=100000000/\o.val.length<=100000000) (hl:l.length<=1000000) {Q:V->H->Prop}
  (bq:∀h' (e:Int),e≠0->Mod h h' []->Wf h'->Q (.int .i64 e) h') (hq:∀h',aij l->Mod h h' []->Wf h'->Q (.int .i64 0) h'):CW pf G0 vZ [vo] h Q:=by
 refine H7.enter (by kernel_rfl) ?_;cbv;refine .of hs λn eT Fj=>?_;cbv;refine .eq (λh0=>?_) λdj=>?_
 ·cbv;exact bq h 1 (by decide) (Mod.refl _ _) hw
 cbv;refine .of hs λn2 IW akl=>?_;cbv;refine .gt (λIq=>?_) λhle=>?_
 ·cbv;exact bq h 1 (by decide) (Mod.refl _ _) hw
 cbv;refine .of hw λlm h1 sM CR ar aM=>?_;have AN:=hs.mono ar (by simp);cbv;refine .of AN λn3 YI avC=>?_;cbv;refine .inv [p3,p15,p16,p17] (λm' aC h'=>∃i es c,aC=[.map lm,vo,.int .i64 n3,.int .i64 i]/\0<=i/\i.toNat<=l.length/\m'=l.length - i.toNat/\h'.get lm=some (.map (cg es) c)/\(∀e,e∈es->∃x:Int,e.2.1 = .int .i64 x)/\(∀k,dC es k=if k∈(l.take i.toNat).map (·.key) then 1 else 0)/\
   (∀o,o∈l.take i.toNat->1<=o.key.length/\o.key.length<=128/\(o.gone=true->o.val=[])/\o.val.length<=4096)/\((l.take i.toNat).map (·.key)).Nodup/\Mod h h' []/\Wf h') [_,_,_,_] rfl _
  ⟨0,[],0,rfl,by omega,by simp,rfl,sM,by simp,by simp [dC,cK],by simp,by simp,ar,aM⟩ ?_
 rintro m' _ h' ⟨i,es,c,rfl,jG,hi,dY,ad0,hints,OI,Yi,Rl,hm,cG⟩;cbv;refine .lt (λbA=>?_) λjb=>?_
 ·obtain ⟨o,ho⟩:∃o,l[i.toNat]? =some o:=⟨_,List.getElem?_eq_getElem (by omega)⟩
  have bG:=zF _ _ _ ho;have fh:=mf ho;obtain ⟨Xq,Fc⟩:=hk o (List.mem_of_getElem? ho);obtain ⟨key,gone,val⟩:=o;dsimp only at bG Xq Fc;cbv;refine .of (hs.mono hm (by simp)) jG rfl (by omega) bG λsl off iR=>?_;cbv;refine .ka iR rfl ?_;cbv;refine .of cG λla h2 fS Bl aq aN=>?_;cbv;refine .of aN fS rfl rfl rfl rfl rfl rfl λh3 iY aF aR=>?_;have OJ:h3.get lm=some (.map (cg es) c):=aF.get (aq.get ad0 (by simp)) (by rw [List.mem_singleton];rintro rfl;rw [ad0] at Bl;cases Bl);have m3:Mod h h3 []:=(hm.fr aq (by simp)).fr aF λl hl=>.inl (by
   rw [List.mem_singleton] at hl;subst hl;cases hy:h.get l with
   | none=>rfl
   | some o=>have:=hm.get hy (by simp);rw [Bl] at this;cases this)
  cases gone with
  | true=>
    cbv;refine .of iY rfl ?_;cbv;refine .seq (λe=>?_) λakK=>?_
    ·cbv;exact bq h3 6 (by decide) m3 aR
    cbv;refine .of iY rfl ?_;cbv;refine .of λkl avD avE=>?_;cbv;refine .gt (λDa=>?_) λakL=>?_
    ·cbv;exact bq h3 6 (by decide) m3 aR
    have hkp:1<=key.length:=by rcases key with _ | ⟨a,b⟩;exact absurd rfl akK;simp
    cbv;refine .of iY rfl ?_;cbv;refine .of iY rfl ?_;cbv;refine .UB (λe=>?_) λe=>?_
    ·have hgv:true=true->val=[]:=λ_=>e
     cbv;refine .of iY rfl ?_;cbv;refine .of λvl avH avI=>?_;cbv;refine .gt (λapl=>?_) λakM=>?_
     ·cbv;exact bq h3 4 (by decide) m3 aR
     cbv;refine .of iY rfl ?_;cbv;refine .held OJ hints λx hx=>?_;cbv;refine .gt (λakN=>?_) λapm=>?_
     ·cbv;exact bq h3 61 (by decide) m3 aR
     have oi:key∉(l.take i.toNat).map (·.key):=λAP=>by
      rw [OI,if_pos AP] at hx;omega
     cbv;refine .of iY rfl ?_;cbv;refine .held OJ hints λx2 lH=>?_;have akO:x2=0:=by rw [lH,OI,if_neg oi]
     cbv;refine .add (by omega) (by omega) λx3 Uv=>?_;cbv;refine .of aR OJ λh4 vy aD aQ=>?_;cbv;refine .add (by omega) (by omega) λj hj=>?_;cbv;refine ⟨rfl,l.length - j.toNat,by omega,j,_,_,rfl,by omega,by omega,rfl,vy,λe he=>?_,λk=>?_,λo oe=>?_,?_,m3.fr aD (λq aU=>.inl (by rw [List.mem_singleton] at aU;subst aU;exact CR)),aQ⟩
     ·rcases ki he with he | ⟨_,he,_⟩
      ·exact hints e he
      ·exact ⟨_,he⟩
     ·rw [show j.toNat=i.toNat+1 by omega,fh,List.map_append]
      have hg:=OI k;unfold dC at hg ⊢;rw [dX]
      by_cases e:k=key
      ·subst e
       rw [if_pos rfl,if_pos (List.mem_append_right _ (by simp))];show x3=1
       omega
      ·rw [if_neg e,hg]
       have:(k∈(l.take i.toNat).map (·.key)++[key])<->k∈(l.take i.toNat).map (·.key):=by simp [e]
       simp only [List.map_cons,List.map_nil,this]
     ·rw [show j.toNat=i.toNat+1 by omega,fh] at oe
      rcases List.mem_append.1 oe with oe | oe
      ·exact Yi o oe
      ·rw [List.mem_singleton] at oe;subst oe
       have q1:key.length<=128:=by omega
       have q2:val.length<=4096:=by omega
       exact ⟨hkp,q1,hgv,q2⟩
     ·rw [show j.toNat=i.toNat+1 by omega,fh,List.map_append]
      refine List.nodup_append.2 ⟨Rl,by simp,λa ha b hb e=>?_⟩;simp only [List.map_cons,List.map_nil,List.mem_singleton] at hb;subst hb;subst e;exact oi ha
    ·cbv;exact bq h3 1 (by decide) m3 aR
  | false=>
    cbv;refine .of iY rfl ?_;cbv;refine .seq (λe=>?_) λakK=>?_
    ·cbv;exact bq h3 6 (by decide) m3 aR
    cbv;refine .of iY rfl ?_;cbv;refine .of λkl avD avE=>?_;cbv;refine .gt (λDa=>?_) λakL=>?_
    ·cbv;exact bq h3 6 (by decide) m3 aR
    have hkp:1<=key.length:=by rcases key with _ | ⟨a,b⟩;exact absurd rfl akK;simp
    cbv;refine .of iY rfl ?_;have hgv:false=true->val=[]:=λe=>by cases e
    cbv;refine .of iY rfl ?_;cbv;refine .of λvl avH avI=>?_;cbv;refine .gt (λapl=>?_) λakM=>?_
    ·cbv;exact bq h3 4 (by decide) m3 aR
    cbv;refine .of iY rfl ?_;cbv;refine .held OJ hints λx hx=>?_;cbv;refine .gt (λakN=>?_) λapm=>?_
    ·cbv;exact bq h3 61 (by decide) m3 aR
    have oi:key∉(l.take i.toNat).map (·.key):=λAP=>by
     rw [OI,if_pos AP] at hx;omega
    cbv;refine .of iY rfl ?_;cbv;refine .held OJ hints λx2 lH=>?_;have akO:x2=0:=by rw [lH,OI,if_neg oi]
    cbv;refine .add (by omega) (by omega) λx3 Uv=>?_;cbv;refine .of aR OJ λh4 vy aD aQ=>?_;cbv;refine .add (by omega) (by omega) λj hj=>?_;cbv;refine ⟨rfl,l.length - j.toNat,by omega,j,_,_,rfl,by omega,by omega,rfl,vy,λe he=>?_,λk=>?_,λo oe=>?_,?_,m3.fr aD (λq aU=>.inl (by rw [List.mem_singleton] at aU;subst aU;exact CR)),aQ⟩
    ·rcases ki he with he | ⟨_,he,_⟩
     ·exact hints e he
     ·exact ⟨_,he⟩
    ·rw [show j.toNat=i.toNat+1 by omega,fh,List.map_append]
     have hg:=OI k;unfold dC at hg ⊢;rw [dX]
     by_cases e:k=key
     ·subst e
      rw [if_pos rfl,if_pos (List.mem_append_right _ (by simp))];show x3=1
      omega
     ·rw [if_neg e,hg]
      have:(k∈(l.take i.toNat).map (·.key)++[key])<->k∈(l.take i.toNat).map (·.key):=by simp [e]
      simp only [List.map_cons,List.map_nil,this]
    ·rw [show j.toNat=i.toNat+1 by omega,fh] at oe
     rcases List.mem_append.1 oe with oe | oe
     ·exact Yi o oe
     ·rw [List.mem_singleton] at oe;subst oe
      have q1:key.length<=128:=by omega
      have q2:val.length<=4096:=by omega
      exact ⟨hkp,q1,hgv,q2⟩
    ·rw [show j.toNat=i.toNat+1 by omega,fh,List.map_append]
     refine List.nodup_append.2 ⟨Rl,by simp,λa ha b hb e=>?_⟩;simp only [List.map_cons,List.map_nil,List.mem_singleton] at hb;subst hb;subst e;exact oi ha
 ·cbv
  have e:l.take i.toNat=l:=List.take_of_length_le (by omega);rw [e] at Yi Rl;exact hq h' ⟨by omega,by omega,Yi,Rl⟩ hm cG
end K
namespace K
open Go Go.Dx Go.RowKit Go.Proofs
set_option maxRecDepth 100000
theorem xu:∀{m:bF} {k:List Nat} {v:V},cK m k=some v->∃b,(k,v,b)∈m
 | [],k,v,h=>by simp [cK] at h
 | (x,w,b)::r,k,v,h=>by
   simp only [cK] at h;split at h
   ·rename_i e
    simp at h;subst h e;exact ⟨b,by simp⟩
   ·obtain ⟨b',hb⟩:=xu h
    exact ⟨b',by simp [hb]⟩
theorem qS.hit {h:H}{lm:Lb}{m:bF}{c:Nat}(S:qS h lm m c){k:List Nat}{v:V}(hv:cK m k=some v):∃a b,v = .agg [.str a,.str b]:=by
 obtain ⟨b,hb⟩:=xu hv;obtain ⟨v',e⟩:=(S.dJ _ hb).2;exact ⟨_,v',e⟩
theorem _root_.Go.Dx.RJ.entry {h:H}{lm:Lb}{m:bF}{c:Nat}{k:List Nat}{K:V->Prop} (S:qS h lm m c) (hk:∀a b ok,K (.tuple [.agg [.str a,.str b],.bool ok])):RJ h .str (.agg [.str [],.str []]) true (.map lm) (.str k) K:=by
 cases hv:cK m k with
 | none=>exact .Fp S.get hv (hk [] [] false)
 | some v=>
   obtain ⟨a,b,rfl⟩:=S.hit hv;exact .hit S.get hv (hk a b true)
theorem TT {h:H}{lm:Lb}{m:bF}{c:Nat}{id:List Nat}(hw:Wf h)(he:HE h)(S:qS h lm m c)(hid:id.length<=1000000){Q:V->H->Prop} (hq:∀a b c' ok h',bt a->bt b->bt c'->Mod h h' []->Wf h'->Q (.tuple [.agg [.str a,.str b,.str c'],.bool ok]) h'):CW pf G0 lR [.map lm,.str id] h Q:=by
 refine wQ.enter (by kernel_rfl) ?_;cbv;refine .of hw λlb h1 cx gG ar aM=>?_;have fb:∀l,l∈[lb]->h.get l=none:=λl hl=>by simp at hl;subst hl;exact gG
 cbv;refine j8 (by omega) λr _=>?_;cbv;refine .entry (S.mono ar) λek ev ok=>?_;cbv;refine .of aM λle h2 ur lA aq aN=>?_;have Ff:lb≠le:=λe=>by subst e;rw [cx] at lA;cases lA
 have fe:=ai ar (by simp) lA;cbv;refine .of (cs:=[.str ek,.str ev]) aN ur rfl rfl rfl rfl rfl rfl λh3 CS aF aR=>?_;have gB:=aF.get (aq.get cx) (by simpa using Ff);have aJ:Mod h h3 []:=((ar.trans aq).fr aF λl hl=>by simp at hl;subst hl;exact .inl fe).mono λl o _ hl=>by simp at hl
 cases ok
 ·cbv;refine .of (cs:=[.str [],.str [],.str []]) aR gB rfl rfl rfl rfl rfl rfl λh4 dB aD aQ=>?_
  cbv;refine .of dB rfl ?_;cbv;exact hq [] [] [] false h4 gL gL gL (aJ.fr aD λl hl=>.inl (fb l hl)) aQ
 ·cbv;refine .of CS rfl ?_
  cbv;refine QK aR (he.mono aJ) λa b c' ok h4 ba bb bc aD aQ=>?_;have ay:Mod h h4 []:=(aJ.trans aD).mono λl o _ hl=>by simp at hl
  cbv;refine .of (cs:=[.str a,.str b,.str c']) aQ (aD.get gB) rfl rfl rfl rfl rfl rfl λh5 pU aY bH=>?_;cbv;refine .of pU rfl ?_;cbv;exact hq a b c' ok h5 ba bb bc (ay.fr aY λl hl=>.inl (fb l hl)) bH
theorem GD {ρ:bE}:∀{l:List V} {xs:List Value},cU ρ l xs->∀s,V.str s∈l->∀b∈s,b<256
 | _,_,.nil,s,hs=>by simp at hs
 | v::l,_,.cons r t,s,hs=>by
   rcases List.mem_cons.1 hs with e | hs
   ·intro b hb
    subst e;generalize hv:V.str s=v at r;cases r with
    | str t=>
      cases hv;unfold ax at hb;obtain ⟨u,_,rfl⟩:=List.mem_map.1 hb;exact u.toNat_lt
    | _=>cases hv
   ·exact GD t s hs
theorem QM {ρ:bE}:∀{l:List V} {xs:List Value},cU ρ l xs->∀v,v∈l->∃x,RV ρ v x
 | _,_,.nil,s,hs=>by simp at hs
 | v::l,_,.cons r t,s,hs=>by
   rcases List.mem_cons.1 hs with e | hs
   ·subst e;exact ⟨_,r⟩
   ·exact QM t s hs
theorem _root_.Go.Dx.CX.bytes {pf:Unit->Program} {G:Nat} {f:FuncId} {args:List V} {h:H} {Q Pn:V->H->Prop} (k:(∀s,V.str s∈args->∀b∈s,b<256)->(∀cs s,V.agg cs∈args->V.str s∈cs->∀b∈s,b<256)->CX pf G f args h Q Pn):CX pf G f args h Q Pn:=by
 refine ⟨λ{B w0 ρ w xs} R hG hx=>?_⟩;refine (k (GD hx) λcs s hc hs=>?_).out R hG hx;obtain ⟨x,r⟩:=QM hx _ hc;cases r with
 | agg h=>exact GD h s hs
abbrev Mu (kind:Int)(aI name text:List Nat):V:=.agg [.int .i64 kind,.str aI,.str name,.str text]
abbrev Wt (a y:Int):V:=.iface bV (.agg [.int .i64 a,.int .i64 y])
theorem aar {h:H}{lm:Lb}{m:bF}{c:Nat}{kind:Int}{aI name text:List Nat}(hw:Wf h)(he:HE h)(S:qS h lm m c)(hi:aI.length<=1000)(ht:text.length<=512){Q:V->H->Prop}
  (bq:∀(a y:Int) h',Mod h h' []->Wf h'->Q (.tuple [.nilSlice 0,Wt a y]) h') (bw:∀ov k v h',aE h' ej 3 ov 1 (AI [⟨k,false,v⟩])->k.length<=3000->v.length<=65536->Mod h h' []->Fr h ov->Wf h'->Q (.tuple [ov,.nilIface]) h'):
  CW pf G0 kM [.map lm,Mu kind aI name text] h Q:=by
 refine CX.bytes λ_ hb=>?_;have btt:bt text:=⟨by omega,hb _ text (.tail _ (.head _)) (by simp)⟩;have btx:bt [111,112,101,110]:=⟨by decide,by decide⟩;refine vm.enter (by kernel_rfl) ?_;cbv;refine .agg ?_;cbv;refine .of hw λlb h1 cx gG ar aM=>?_;cbv;refine .of cx rfl ?_;cbv;refine TT aM (he.mono ar) (S.mono ar) (by omega) λa b c' ok h2 _ _ _ aq aN=>?_;cbv;refine .of aN λli h3 OE E9 aF aR=>?_;cbv;refine .of (cs:=[.str a,.str b,.str c']) aR OE rfl rfl rfl rfl rfl rfl λh4 X8 aD aQ=>?_;have cR:=aq.get cx;have hbi:lb≠li:=λe=>by subst e;rw [cR] at E9;cases E9
 have dB:=aD.get (aF.get cR) (by simpa using hbi);have aO:Mod h h2 []:=(ar.trans aq).mono λl o _ hl=>by simp at hl
 have fi:=ai aO (by simp) E9;have ay:Mod h h4 []:=((aO.trans aF).fr aD λl hl=>by simp at hl;subst hl;exact .inl fi).mono λl o _ hl=>by simp at hl
 cases ok
 ·cbv;refine .of follows 6 ?_
  cbv;refine .of dB rfl ?_;cbv;refine .of dB rfl ?_;cbv;refine .flat rfl ?_;cbv;refine .flat rfl ?_;cbv;refine .flat rfl ?_;cbv;refine j8 (s:=aI) (by omega) λkk hkk=>?_;have vO:kk.length<=3000:=by rw [hkk];simp;omega
  clear hkk;cbv;refine .load dB rfl ?_;cbv;refine .nil ?_;cbv;refine mT aQ gL btx btt λr h5 hr aY bH=>?_;have aL:Mod h h5 []:=(ay.trans aY).mono λl o _ hl=>by simp at hl
  cbv;refine .nil ?_;cbv;refine qR bH λov h6 pZ zy=>?_;have bT:Mod h h6 []:=(aL.trans zy.mod).mono λl o _ hl=>by simp at hl
  cbv;refine .nil ?_;cbv;exact bw ov kk r h6 pZ vO hr bT (λl hl=>ai aL (by simp) (zy.fr l hl)) zy.wf
 ·cbv;refine dM ?_
  cbv;exact bq _ _ h4 ay aQ
theorem GF {h:H}{a b c':List Nat}{kind:Int}{aI name text:List Nat}(hw:Wf h)(ba:bt a)(bb:bt b)(bc:bt c')(hi:aI.length<=1000)(hn:name.length<=1000)(ht:text.length<=512){Q:V->H->Prop}
  (bw:∀ov k v h',aE h' ej 3 ov 1 (AI [⟨k,false,v⟩])->k.length<=3000->v.length<=65536->Mod h h' []->Fr h ov->Wf h'->Q ov h'):
  CW pf G0 ti [.agg [.str a,.str b,.str c'],Mu kind aI name text] h Q:=by
 refine CX.bytes λ_ hb=>?_;have btt:bt text:=⟨by omega,hb _ text (.tail _ (.head _)) (by simp)⟩;have btn:bt name:=⟨by omega,hb _ name (.tail _ (.head _)) (by simp)⟩;refine Gf.enter (by kernel_rfl) ?_;cbv;refine .agg ?_;cbv;refine .of hw λli h1 Fa E9 ar aM=>?_;cbv;refine .agg ?_;cbv;refine .of aM λlb h2 cR gG aq aN=>?_;have DI:=aq.get Fa;have hbi:lb≠li:=λe=>by subst e;rw [Fa] at gG;cases gG
 have aO:Mod h h2 []:=(ar.trans aq).mono λl o _ hl=>by simp at hl
 cbv;refine .of cR rfl ?_;cbv;refine .eq (λk2=>?_) λk2=>?_
 ·skip
  cbv;refine .of cR rfl ?_;cbv;refine .one (vs':=[.str a,.str b,.str text]) aN DI rfl rfl rfl rfl λh3 OE aF aR=>?_;have gB:=aF.get cR (by simpa using hbi);have aJ:Mod h h3 []:=(aO.fr aF λl hl=>by simp at hl;subst hl;exact .inl E9).mono λl o _ hl=>by simp at hl
  cbv;refine .of follows 6 ?_;cbv;refine .of gB rfl ?_;cbv;refine .of OE rfl ?_;cbv;refine j8 (s:=aI) (by omega) λkk hkk=>?_;have vO:kk.length<=3000:=by rw [hkk];simp;omega
  clear hkk;cbv;refine .load OE rfl ?_;cbv;refine .nil ?_;cbv;refine mT aR ba bb btt λr h5 hr aY bH=>?_;have aL:Mod h h5 []:=(aJ.trans aY).mono λl o _ hl=>by simp at hl
  cbv;refine .nil ?_;cbv;refine qR bH λov h6 pZ zy=>?_;have bT:Mod h h6 []:=(aL.trans zy.mod).mono λl o _ hl=>by simp at hl
  cbv;refine .nil ?_;cbv;exact bw ov kk r h6 pZ vO hr bT (λl hl=>ai aL (by simp) (zy.fr l hl)) zy.wf
 ·cbv;refine .eq (λk3=>?_) λk3=>?_
  ·skip
   cbv;refine .of cR rfl ?_;cbv;refine .one (vs':=[.str a,.str text,.str c']) aN DI rfl rfl rfl rfl λh3 OE aF aR=>?_;have gB:=aF.get cR (by simpa using hbi);have aJ:Mod h h3 []:=(aO.fr aF λl hl=>by simp at hl;subst hl;exact .inl E9).mono λl o _ hl=>by simp at hl
   cbv;refine .of follows 6 ?_;cbv;refine .of gB rfl ?_;cbv;refine .of OE rfl ?_;cbv;refine j8 (s:=aI) (by omega) λkk hkk=>?_;have vO:kk.length<=3000:=by rw [hkk];simp;omega
   clear hkk;cbv;refine .load OE rfl ?_;cbv;refine .nil ?_;cbv;refine mT aR ba btt bc λr h5 hr aY bH=>?_;have aL:Mod h h5 []:=(aJ.trans aY).mono λl o _ hl=>by simp at hl
   cbv;refine .nil ?_;cbv;refine qR bH λov h6 pZ zy=>?_;have bT:Mod h h6 []:=(aL.trans zy.mod).mono λl o _ hl=>by simp at hl
   cbv;refine .nil ?_;cbv;exact bw ov kk r h6 pZ vO hr bT (λl hl=>ai aL (by simp) (zy.fr l hl)) zy.wf
  ·skip
   cbv;refine .of cR rfl ?_;cbv;refine .one (vs':=[.str name,.str b,.str c']) aN DI rfl rfl rfl rfl λh3 OE aF aR=>?_;have gB:=aF.get cR (by simpa using hbi);have aJ:Mod h h3 []:=(aO.fr aF λl hl=>by simp at hl;subst hl;exact .inl E9).mono λl o _ hl=>by simp at hl
   cbv;refine .of follows 6 ?_;cbv;refine .of gB rfl ?_;cbv;refine .of OE rfl ?_;cbv;refine j8 (s:=aI) (by omega) λkk hkk=>?_;have vO:kk.length<=3000:=by rw [hkk];simp;omega
   clear hkk;cbv;refine .load OE rfl ?_;cbv;refine .nil ?_;cbv;refine mT aR btn bb bc λr h5 hr aY bH=>?_;have aL:Mod h h5 []:=(aJ.trans aY).mono λl o _ hl=>by simp at hl
   cbv;refine .nil ?_;cbv;refine qR bH λov h6 pZ zy=>?_;have bT:Mod h h6 []:=(aL.trans zy.mod).mono λl o _ hl=>by simp at hl
   cbv;refine .nil ?_;cbv;exact bw ov kk r h6 pZ vO hr bT (λl hl=>ai aL (by simp) (zy.fr l hl)) zy.wf
end K
namespace K
open Go Go.Dx Go.Dx.W Go.Proofs
theorem yP:bM pf G0 nJ yq:=⟨_,Tryz.func211,by kernel_rfl⟩
end K
