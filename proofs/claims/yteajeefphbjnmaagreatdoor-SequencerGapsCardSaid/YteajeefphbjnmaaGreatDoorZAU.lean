/-
  The sequencer's laws. Part ZAU of the proof: blotter/jsonx: the parser's members.
-/
import Derived.Recover
import Derived.Test.YteajeefphbjnmaaGreatDoorZAT
import Derived.Test.YteajeefphbjnmaaGreatDoorZAL
import Derived.Test.YteajeefphbjnmaaGreatDoorZAR
namespace K
open Go Go.Dx Go.RowKit Go.Proofs
set_option maxRecDepth 100000
theorem one_mod {h0 h h':H}{p:Lb}(a:Mod h0 h [p])(b:Mod h h' [p]):Mod h0 h' [p]:=(a.trans b).mono λl o _ hl=>by simpa using hl
theorem gQ {h0 h h':H}{p x:Lb}(a:Mod h0 h [p])(b:Mod h h' [x])(f:h0.get x=none):Mod h0 h' [p]:=a.fr b λl hl=>by simp at hl;subst hl;exact .inl f
theorem Qz {h0 h h':H}{p:Lb}{v:V}(a:Mod h0 h [p])(b:Mod h h' (af v))(f:Fr h0 v):Mod h0 h' [p]:=a.fr b λl hl=>.inl (f l hl)
theorem tR {h0 h h':H}{p:Lb}(a:Mod h0 h [p])(b:Mod h h' []):Mod h0 h' [p]:=(a.trans b).mono λl o _ hl=>by simpa using hl
theorem ai {h h':H}{F:List Lb}(m:Mod h h' F){x:Lb}(n:x∉F)(e:h'.get x=none):h.get x=none:=by
 cases e':h.get x with
 | none=>rfl
 | some o=>rw [m.get e' n] at e;cases e
theorem fk {v:V}{x:Lb}(n:x∉af v):∀l,l∈af v->l∉[x]:=λl hl hm=>by simp at hm;subst hm;exact n hl
theorem ZK {n:Nat}(ih:VS n){h:H}{p:Lb}{s:List Nat}{i deep:Int}(hw:Wf h)(hp:lM h p s i)(hn:s.length - i.toNat<n)(sq:0<=deep)(hd:deep<=16){Q Pn:V->H->Prop} (hq:∀t cs j h',i<j->lM h' p s j->nS h' t cs->Mod h h' [p]->Wf h'->Q (.agg cs) h') (hx:∀v h',X0 v->Mod h h' [p]->Wf h'->Pn v h'):
  CX pf G0 kS [.ptr p 0,.int .i64 deep] h Q Pn:=by
 have IB:=hp.lo;have HP:=hp.hi;have qY:=hp.small;refine CW.pQ ?_;refine vr.oo (by kernel_rfl) ?_;cbv;refine .of hw λlr h1 TE dt ar aM=>?_;cbv;refine .flat rfl ?_;cbv;refine .of aM λlv h2 hv2 CV aq aN=>?_;cbv;refine .of aN hv2 rfl rfl rfl rfl rfl rfl λh3 Qx aF aR=>?_;cbv;refine .of aR λlm h3' iY CR ZL ats=>?_;have Tw:Mod h h1 [p]:=tR (Mod.refl h [p]) ar;have aO:=tR Tw aq;have Ii:lr≠lv:=λe=>by subst e;rw [TE] at CV;cases CV
 have yH:lr≠p:=λe=>by subst e;rw [hp.get] at dt;cases dt
 have Mh:lv≠p:=λe=>by subst e;rw [ar.get hp.get] at CV;cases CV
 have Ng:h.get lv=none:=ai ar (by simp) CV;have aJ:Mod h h3 [p]:=gQ aO aF Ng;have aod:=tR aJ ZL;have zA:lM h3' p s i:=(((hp.mono ar).mono aq).mono aF (by simpa using Ne.symm Mh)).mono ZL;have ug:=ZL.get (aF.get (aq.get TE) (by simpa using Ii));have Qx:=ZL.get Qx;have hmv:lm≠lv:=λe=>by subst e;rw [Qx] at iY;cases iY
 have hmr:lm≠lr:=λe=>by subst e;rw [ug] at iY;cases iY
 have hmp:lm≠p:=λe=>by subst e;rw [zA.get] at iY;cases iY
 have ZM:h.get lm=none:=by
  cases e:h.get lm with
  | none=>rfl
  | some o=>rw [aJ.get e (by simpa using hmp)] at CR;cases CR
 cbv;refine .Hv <| nO ats zA λj4 h4 Gq pH aD aQ=>?_;have ay:Mod h h4 [p]:=one_mod aod aD;have xe:=aD.get ug (by simpa using yH);have hv4:=aD.get Qx (by simpa using Mh);have vy:=aD.get iY (by simpa using hmp);cbv;refine vw pH (λy c atf hc CU hyc=>?_) λv hv=>?_
 ·cbv;refine .eq (λe=>?_) λe=>?_
  ·cbv;refine .of pH.get rfl ?_
   cbv;refine .add (by omega) (by omega) λk hk=>?_;cbv;refine .of aQ pH.get rfl rfl rfl rfl rfl rfl λh5 we aY bH=>?_;cbv;refine .of (aY.get hv4 (by simpa using Mh)) rfl ?_;cbv;refine .of bH (aY.get xe (by simpa using yH)) rfl rfl rfl rfl rfl rfl λh6 Qu bP cy=>?_;cbv;refine .of Qu rfl ?_;cbv;refine ⟨h6,.refl _,hq _ _ k h6 (by omega) ?_ (nS.zero h6 5 0 bt.nil) ?_ cy⟩
   ·exact lM.mono ⟨we,by omega,by omega,qY,hp.Gp⟩ bP (by simpa using Ne.symm yH)
   ·exact gQ (one_mod ay aY) bP dt
  ·cbv
   refine .inv [p0,p1,p4,p5,p6] (λm' aC h'=>∃(nv iv:V) (ns:List (List Nat)) (its:List Js) (rows:List V) (mm:bF) (cl:Nat) (j:Int),aC=[.ptr p 0,.int .i64 deep,.ptr lr 0,.ptr lv 0,.map lm]/\h'.get lr=some (.cells [.int .i64 0,.int .i64 0,.str [],.nilSlice 0,.nilSlice 0] bK 0 .yes)/\h'.get lv=some (.cells [.int .i64 5,.int .i64 0,.str [],nv,iv] bK 0 .yes)/\
    h'.get lm=some (.map (cg mm) cl)/\(∀k v,cK mm k=some v->v = .int .i64 1)/\aE h' 9 1 nv ns.length (strs ns)/\aE h' bK 5 iv its.length rows/\oF h' its rows/\Fr h nv/\Fr h iv/\(lr∉af nv/\lv∉af nv/\lm∉af nv)/\(lr∉af iv/\lv∉af iv/\lm∉af iv)/\(∀l,l∈af nv->l∉af iv)/\
    (∀s,s∈ns->bt s)/\ns.length=its.length/\its.length<=j.toNat/\i<=j/\m'=s.length - j.toNat/\lM h' p s j/\Mod h h' [p]/\Wf h') [_,_,_,_,_] rfl _
    ⟨.nilSlice 0,.nilSlice 0,[],[],[],[],0,j4,rfl,xe,hv4,vy,(λk v e=>by cases e),.nil,.nil,.nil,Fr.EO _ _,Fr.EO _ _,by simp [af],by simp [af],by simp [af],by simp,rfl,by simp,Gq,rfl,pH,ay,aQ⟩ ?_
   rintro m' _ h5 ⟨nv,iv,ns,its,rows,mm,cl,j,rfl,Iu,hv5,Bg,ah0,atu,kh,ZH,ado,IL,⟨nr,nvv,nm⟩,⟨ir,ivv,im⟩,ZN,hbt,aoe,hlen,zO,dY,Hw,aL,bH⟩;have atg:=Hw.lo;have ath:=Hw.hi;cbv;refine .Hv <| nO bH Hw λj6 h6 an7 fu bP cy=>?_;have bT:=one_mod aL bP;cbv;refine ade cy fu (λtx j7 h7 aCu aCv hp7 atw aCw cH eu=>?_) λv h7 hv cH eu=>?_
   ·have cM:=one_mod bT cH
    have CC:=one_mod bP cH;have Nz:=CC.get Iu (by simpa using yH);have Qy:=CC.get hv5 (by simpa using Mh);have xj:=CC.get Bg (by simpa using hmp);have atx:=atu.mono CC (ado.ne hp.get);have Ma:=kh.mono CC (IL.ne hp.get);have hj7:=ZH.mono CC;have aCx:=hp7.lo;have atz:bt tx:=⟨by omega,atw⟩;cases hg:cK mm tx with
    | some v=>
      have MG:=ah0 _ _ hg;subst MG;cbv;refine .hit xj hg ?_;cbv;refine .add (by omega) (by omega) λq gV=>?_;cbv;refine .of eu xj λh8 sQ cO ew=>?_;cbv;refine .hit sQ (by rw [dX,if_pos rfl]) ?_;cbv;refine .Zm (by omega) ?_;cbv;refine fL (hp7.mono cO (by simpa using Ne.symm hmp)) λv hv=>?_;cbv;exact hx v h8 hv (gQ cM cO ZM) ew
    | none=>
      cbv;refine .Fp xj hg ?_;cbv;refine .add (by omega) (by omega) λq gV=>?_;have gV:q=1:=by omega
      subst gV;cbv;refine .of eu xj λh8 sQ cO ew=>?_;cbv;refine .hit sQ (by rw [dX,if_pos rfl]) ?_;cbv;refine .Jk (by omega) ?_;have Hz:∀k v,cK (dh mm tx (.int .i64 1) cl) k=some v->v = .int .i64 1:=λk v e=>by
       rw [dX] at e;split at e
       ·cases e;rfl
       ·exact ah0 k v e
      generalize dh mm tx (.int .i64 1) cl=mm8 at sQ Hz;generalize dQ mm tx cl=cl8 at sQ;have dL:=gQ cM cO ZM;have hr8:=cO.get Nz (by simpa using Ne.symm hmr);have hv8:=cO.get Qy (by simpa using Ne.symm hmv);have hp8:=hp7.mono cO (by simpa using Ne.symm hmp);have atA:=atx.mono cO (fk nm);have sd:=Ma.mono cO (fk im);have ZO:=hj7.mono cO;cbv;refine .of hp8.get rfl ?_;cbv;refine .add (by omega) (by omega) λk hk=>?_;cbv;refine .of ew hp8.get rfl rfl rfl rfl rfl rfl λh9 hg9 eU pd=>?_;have hp9:lM h9 p s k:=⟨hg9,by omega,by omega,qY,hp.Gp⟩;have pJ:=one_mod dL eU;cbv;refine .Hv <| nO pd hp9 λj10 vM aoa adk gZ sU=>?_;have l5:=one_mod pJ gZ;cbv;refine yF sU adk (λx11 c11 UN aob atq ayh ayi _ ZI pg De=>?_) λv hv=>?_
      ·have Ol:=one_mod l5 pg
       have On:=one_mod (one_mod eU gZ) pg;have Wa:=On.get hr8 (by simpa using yH);have ZJ:=On.get hv8 (by simpa using Mh);have QA:=On.get sQ (by simpa using hmp);have aoh:=atA.mono On (ado.ne hp.get);have Bq:=sd.mono On (IL.ne hp.get);have atB:=ZO.mono On;have ayj:=adk.lo;have ayk:=ZI.hi;cbv;refine .of ZJ rfl ?_;cbv;refine .flat rfl ?_;cbv;refine .of De λl12 Ip xw aCy kd O1=>?_;have Om:=tR Ol kd;cbv;refine .own O1 (aoh.mono kd) (m:=1) (new:=[.str tx]) (by simp only [de,xw];rfl) rfl rfl (by unfold bz;omega) (by decide) λZP h13 X7 adp fU abB=>?_;have aj2:=(ZI.mono kd).mono fU (ado.UD hp.get);have atC:=fU.get (kd.get Wa) nr;have atD:=fU.get (kd.get ZJ) nvv;have aj3:=fU.get (kd.get QA) nm;have aiE:=(Bq.mono kd).mono fU (λl hl hm=>ZN l hm hl);have atE:=(atB.mono kd).mono fU;have adn:=Qz Om fU ado;have TF:Fr h ZP:=adp.frp Om (ZI.mono kd).get ado;have aoi:=adp.dG (kd.get Wa) nr;have adq:=adp.dG (kd.get ZJ) nvv;have atF:=adp.dG (kd.get QA) nm;have adr:∀l,l∈af ZP->l∉af iv:=λl hl hm=>by
        obtain ⟨cs,e⟩:=(Bq.mono kd).row hm;exact adp.dG e (λdY=>ZN l dY hm) hl
       rw [show strs ns++[V.str tx]=strs (ns++[tx]) from by rw [jZ];rfl,show ns.length+1=(ns++[tx]).length from by simp] at X7;have ads:∀s,s∈ns++[tx]->bt s:=λs hs=>(List.mem_append.1 hs).elim (hbt s) λhs=>by simp at hs;subst hs;exact atz
       have adt:(ns++[tx]).length=its.length+1:=by simp [aoe]
       generalize ns++[tx]=aj4 at X7 ads adt;cbv;refine .one abB atD X7.sl.flat rfl rfl rfl λh14 aoj Wb aiG=>?_;have atG:=aj2.mono Wb (by simpa using Ne.symm Mh);have aiF:=Wb.get atC (by simpa using Ii);have atH:=Wb.get aj3 (by simpa using hmv);have aok:=X7.mono Wb (fk adq);have atI:=aiE.mono Wb (fk ivv);have atJ:=atE.mono Wb;have ah2:=gQ adn Wb Ng;cbv;refine .of follows 8 ?_;cbv;refine .of aoj rfl ?_;cbv;refine ih aiG atG (by omega) sq hd (λt cs j15 h15 ayl aol aj5 Ja abC=>?_) λv h15 hv Ja abC=>?_
       ·have aom:=Ja.get aoj (by simpa using Mh)
        have atK:=Ja.get aiF (by simpa using yH);have atL:=Ja.get atH (by simpa using hmp);have aon:=one_mod ah2 Ja;have aoo:=aok.mono Ja (TF.ne hp.get);have atM:=atI.mono Ja (IL.ne hp.get);have aop:=atJ.mono Ja;have aym:=aol.hi;have aoq:=aj5.bd;obtain ⟨a1,a2,a3,a4,a5,rfl⟩:=aj5.five;cbv;refine .load aom rfl (.nil ?_);cbv;refine .agg ?_;cbv;refine .of abC λl16 h16 atN aCA Jb aiH=>?_;have aj6:=Jb.get aom;have aor:=Jb.get atK;have ah3:=Jb.get atL;have aos:=aol.mono Jb;have ah4:=tR aon Jb;have atO:=atM.mono Jb;have ah5:=aoo.mono Jb;cbv;refine .load aj6 rfl (.nil ?_);cbv;refine .own aiH atO (m:=1) (new:=[a1,a2,a3,a4,a5]) (by simp only [de,atN];rfl) rfl aoq (by unfold bz;omega) (by decide) λadu h17 aot adv Jc aiI=>?_;have atP:=Jc.get aj6 ivv;have atS:=Jc.get aor ir;have atT:=Jc.get ah3 im;have atU:=aos.mono Jc (IL.UD hp.get);have aou:=Qz ah4 Jc IL;have aov:=ah5.mono Jc (λl hl hm=>adr l hl hm);have agj:Fr h adu:=adv.frp ah4 aos.get IL;have aow:=adv.dG aor ir;have ah6:=adv.dG aj6 ivv;have atV:=adv.dG ah3 im;have adw:∀l,l∈af ZP->l∉af adu:=λl hl=>by
         obtain ⟨cs,e⟩:=ah5.row hl;exact adv.dG e (adr l hl)
        have aox:=((aop.mono Jb).mono Jc).snoc ((aj5.mono Jb).mono Jc);cbv;refine .nil ?_;refine .one aiI atP aot.sl.flat rfl rfl rfl λh18 atW Jd aiJ=>?_;have aoy:=aot.mono Jd (fk ah6);have aoz:=aov.mono Jd (fk adq);have atX:=Jd.get atS (by simpa using Ii);have atY:=Jd.get atT (by simpa using hmv);have atZ:=atU.mono Jd (by simpa using Ne.symm Mh);have aoA:=aox.mono Jd;have aoB:=gQ aou Jd Ng;have adx:aj4.length=(its++[t]).length:=by simp [adt]
        have ayn:(its++[t]).length<=j15.toNat:=by simp;omega
        rw [show its.length+1=(its++[t]).length from by simp] at aoy;generalize its++[t]=ah7 at*;generalize rows++_=aj7 at*;cbv;refine .nil ?_;cbv;refine .Hv <| nO aiJ atZ λj19 h19 ayp aj8 aoC aoD=>?_;have ah8:=one_mod aoB aoC;cbv;refine yF aoD aj8 (λx c UP ayq at0 lN hxc _ aoE Lc Ni=>?_) λv hv=>?_
        ·have Gv:=one_mod aoC Lc
         have aoF:=Gv.get atW (by simpa using Mh);have aoG:=Gv.get atX (by simpa using yH);have at1:=Gv.get atY (by simpa using hmp);have HA:=one_mod ah8 Lc;have aj9:=aoy.mono Gv (agj.ne hp.get);have ady:=aoz.mono Gv (TF.ne hp.get);have ah9:=aoA.mono Gv;have ayr:=aj8.hi;have ays:=aj8.lo;cbv;refine .eq (λe=>?_) λe=>?_
         ·cbv;refine .of aoF rfl ?_
          cbv;refine .of (cs:=[.int .i64 5,.int .i64 0,.str [],ZP,adu]) Ni aoG rfl rfl rfl rfl (by show (true&&(true&&(true&&(bU ZP&&(bU adu&&true)))))=true;rw [aj9.sl.flat,ady.sl.flat];rfl) rfl λh21 at2 adz at3=>?_;have at4:=aj9.mono adz (fk aow);have aoH:=ady.mono adz (fk aoi);have aoI:=gQ HA adz dt;have at5:=aoE.mono adz (by simpa using Ne.symm yH);obtain ⟨h22,l22,at6,m22,w22⟩:=at4.freeze at3;have aoJ:=aoH.mono m22 (λl hl hm=>adw l hl hm);obtain ⟨h23,l23,at7,m23,w23⟩:=aoJ.freeze w22;have aua:=(at5.mono m22 (agj.UD hp.get)).mono m23 (TF.UD hp.get);have aoK:=Qz (Qz aoI m22 agj) m23 TF;have aoL:=((ah9.mono adz).mono m22).mono m23;cbv;refine .of at2 rfl ?_;cbv;exact ⟨h23,l22.trans l23,hq (.mk 5 0 [] aj4 ah7) _ _ h23 (by omega) aua (.mk bt.nil ads (by omega) (by omega) (λ_=>adx) at7 (at6.mono m23) aoL) aoK w23⟩
         ·cbv;exact ⟨rfl,s.length - (j19+1).toNat,by omega,ZP,adu,aj4,ah7,aj7,mm8,cl8,j19+1,rfl,aoG,aoF,at1,Hz,ady,aj9,ah9,TF,agj,⟨aoi,adq,atF⟩,⟨aow,ah6,atV⟩,adw,ads,adx,by omega,by omega,rfl,aoE,HA,Ni⟩
        ·cbv;exact hx v h19 hv ah8 aoD
       ·cbv;exact hx v h15 hv (one_mod ah2 Ja) abC
      ·cbv;exact hx v vM hv l5 sU
   ·cbv;exact hx v h7 hv (one_mod bT cH) eu
 ·cbv;exact hx v h4 hv ay aQ
end K
namespace K
open Go Go.Dx Go.RowKit Go.Proofs
set_option maxRecDepth 100000
theorem adA (n:Nat):VS n:=by
 induction n with
 | zero=>intro h p s i deep _ _ hn;omega
 | succ n ih=>
   intro h p s i deep hw hp hn sq hd Q Pn hq hx;have IB:=hp.lo;have HP:=hp.hi;have qY:=hp.small;refine yB.oo (by kernel_rfl) ?_;cbv;refine .of hw λlr h1 TE dt ar aM=>?_;have Tw:Mod h h1 [p]:=tR (Mod.refl h [p]) ar;have yH:lr≠p:=λe=>by subst e;rw [hp.get] at dt;cases dt
   cbv;refine .Hv <| nO aM (hp.mono ar) λj2 h2 aCF rC aq aN=>?_;have aO:=one_mod Tw aq;have qN:=aq.get TE (by simpa using yH);have ajB:=rC.lo;cbv;refine vw rC (λy c zM hc CU hyc=>?_) λv hv=>?_
   ·cbv;refine .eq (λe1=>?_) λe1=>?_
    ·cbv;refine .ge (λg1=>?_) λg1=>?_
     ·cbv;refine fL rC λv hv=>?_
      cbv;exact hx v h2 hv aO aN
     cbv;refine .of rC.get rfl ?_;cbv;refine .add (by omega) (by omega) λk hk=>?_;cbv;refine .of aN rC.get rfl rfl rfl rfl rfl rfl λh3 Og aF aR=>?_;have zA:lM h3 p s k:=⟨Og,by omega,by omega,qY,hp.Gp⟩;have aJ:=one_mod aO aF;have ug:=aF.get qN (by simpa using yH);cbv;refine .mY (by omega) ?_;cbv;refine .add (by omega) (by omega) λd xP=>?_;cbv;refine aj0 ih aR zA (by omega) (by omega) (by omega) (λt cs j4 h4 Gq pH Wc aD aQ=>?_) λv h4 hv aD aQ=>?_
     ·have M':=Wc.bd
      have ay:=one_mod aJ aD;have xe:=aD.get ug (by simpa using yH);obtain ⟨a1,a2,a3,a4,a5,rfl⟩:=Wc.five;cbv;refine .of (cs:=[a1,a2,a3,a4,a5]) aQ xe rfl rfl rfl rfl M' rfl λRr Gw rn Gx=>?_;cbv;refine .of Gw rfl ?_;cbv;exact hq t _ _ Rr (by omega) (pH.mono rn (by simpa using Ne.symm yH)) (Wc.mono rn) (gQ ay rn dt) Gx
     ·cbv;exact hx v h4 hv (one_mod aJ aD) aQ
    cbv;refine .eq (λe2=>?_) λe2=>?_
    ·cbv;refine .ge (λg1=>?_) λg1=>?_
     ·cbv;refine fL rC λv hv=>?_
      cbv;exact hx v h2 hv aO aN
     cbv;refine .of rC.get rfl ?_;cbv;refine .add (by omega) (by omega) λk hk=>?_;cbv;refine .of aN rC.get rfl rfl rfl rfl rfl rfl λh3 Og aF aR=>?_;have zA:lM h3 p s k:=⟨Og,by omega,by omega,qY,hp.Gp⟩;have aJ:=one_mod aO aF;have ug:=aF.get qN (by simpa using yH);cbv;refine .cP (by omega) ?_;cbv;refine .add (by omega) (by omega) λd xP=>?_;cbv;refine ZK ih aR zA (by omega) (by omega) (by omega) (λt cs j4 h4 Gq pH Wc aD aQ=>?_) λv h4 hv aD aQ=>?_
     ·have M':=Wc.bd
      have ay:=one_mod aJ aD;have xe:=aD.get ug (by simpa using yH);obtain ⟨a1,a2,a3,a4,a5,rfl⟩:=Wc.five;cbv;refine .of (cs:=[a1,a2,a3,a4,a5]) aQ xe rfl rfl rfl rfl M' rfl λRr Gw rn Gx=>?_;cbv;refine .of Gw rfl ?_;cbv;exact hq t _ _ Rr (by omega) (pH.mono rn (by simpa using Ne.symm yH)) (Wc.mono rn) (gQ ay rn dt) Gx
     ·cbv;exact hx v h4 hv (one_mod aJ aD) aQ
    cbv;refine .eq (λe3=>?_) λe3=>?_
    ·cbv;refine ade aN rC (λtx j3 h3 as3 agc zA htb Cc aF aR=>?_) λv h3 hv aF aR=>?_
     ·have aJ:=one_mod aO aF
      have ug:=aF.get qN (by simpa using yH);have aCG:=zA.lo;cbv;refine .of zA.get rfl ?_;cbv;refine .add (by omega) (by omega) λk hk=>?_;cbv;refine .of aR zA.get rfl rfl rfl rfl rfl rfl λh4 Oo aD aQ=>?_;have pH:lM h4 p s k:=⟨Oo,by omega,by omega,qY,hp.Gp⟩;have ay:=one_mod aJ aD;have xe:=aD.get ug (by simpa using yH);cbv;refine .flat rfl ?_;cbv;refine .flat rfl ?_;cbv;refine .of (cs:=[.int .i64 3,.int .i64 0,.str tx,.nilSlice 0,.nilSlice 0]) aQ xe rfl rfl rfl rfl rfl rfl λRr Gw rn Gx=>?_;cbv;refine .of Gw rfl ?_;cbv;exact hq (.mk 3 0 tx [] []) _ _ Rr (by omega) (pH.mono rn (by simpa using Ne.symm yH)) (nS.zero Rr 3 0 ⟨by omega,htb⟩) (gQ ay rn dt) Gx
     ·cbv;exact hx v h3 hv (one_mod aO aF) aR
    cbv;refine .eq (λe4=>?_) λe4=>?_
    ·cbv;refine Qs aN rC (by simp) (λb hb=>by simp at hb;omega) (λk h4 Gq pH aD aQ=>?_) λv h4 hv aD aQ=>?_
     ·have ay:=one_mod aO aD
      have xe:=aD.get qN (by simpa using yH);cbv;refine .of (cs:=[.int .i64 0,.int .i64 0,.str [],.nilSlice 0,.nilSlice 0]) aQ xe rfl rfl rfl rfl rfl rfl λRr Gw rn Gx=>?_;cbv;refine .of Gw rfl ?_;cbv;exact hq (.mk 0 0 [] [] []) _ _ Rr (by omega) (pH.mono rn (by simpa using Ne.symm yH)) (nS.zero Rr 0 0 bt.nil) (gQ ay rn dt) Gx
     ·cbv;exact hx v h4 hv (one_mod aO aD) aQ
    cbv;refine .eq (λe5=>?_) λe5=>?_
    ·cbv;refine Qs aN rC (by simp) (λb hb=>by simp at hb;omega) (λk h4 Gq pH aD aQ=>?_) λv h4 hv aD aQ=>?_
     ·have ay:=one_mod aO aD
      have xe:=aD.get qN (by simpa using yH);cbv;refine .flat rfl ?_;cbv;refine .flat rfl ?_;cbv;refine .of (cs:=[.int .i64 1,.int .i64 1,.str [],.nilSlice 0,.nilSlice 0]) aQ xe rfl rfl rfl rfl rfl rfl λRr Gw rn Gx=>?_;cbv;refine .of Gw rfl ?_;cbv;exact hq (.mk 1 1 [] [] []) _ _ Rr (by omega) (pH.mono rn (by simpa using Ne.symm yH)) (nS.zero Rr 1 1 bt.nil) (gQ ay rn dt) Gx
     ·cbv;exact hx v h4 hv (one_mod aO aD) aQ
    cbv;refine .eq (λe6=>?_) λe6=>?_
    ·cbv;refine Qs aN rC (by simp) (λb hb=>by simp at hb;omega) (λk h4 Gq pH aD aQ=>?_) λv h4 hv aD aQ=>?_
     ·have ay:=one_mod aO aD
      have xe:=aD.get qN (by simpa using yH);cbv;refine .flat rfl ?_;cbv;refine .of (cs:=[.int .i64 1,.int .i64 0,.str [],.nilSlice 0,.nilSlice 0]) aQ xe rfl rfl rfl rfl rfl rfl λRr Gw rn Gx=>?_;cbv;refine .of Gw rfl ?_;cbv;exact hq (.mk 1 0 [] [] []) _ _ Rr (by omega) (pH.mono rn (by simpa using Ne.symm yH)) (nS.zero Rr 1 0 bt.nil) (gQ ay rn dt) Gx
     ·cbv;exact hx v h4 hv (one_mod aO aD) aQ
    cbv;refine vw rC (λy3 c3 agc X3 aub aCH=>?_) λv hv=>?_
    ·have aCI:=rC.at X3
     cbv;refine .Hv <| cL aub (by omega) (λhn=>?_) λr hr0 hr=>?_
     ·cbv;refine .PZ (by omega) ?_
      cbv;refine fL rC λv hv=>?_;cbv;exact hx v h2 hv aO aN
     ·cbv;refine .FP (by omega) ?_
      cbv;refine adf aN rC (λnn k h4 Gq pH aD aQ=>?_) λv h4 hv aD aQ=>?_
      ·have ay:=one_mod aO aD
       have xe:=aD.get qN (by simpa using yH);cbv;refine .of (cs:=[.int .i64 2,.int .i64 nn,.str [],.nilSlice 0,.nilSlice 0]) aQ xe rfl rfl rfl rfl rfl rfl λRr Gw rn Gx=>?_;cbv;refine .of Gw rfl ?_;cbv;exact hq (.mk 2 nn [] [] []) _ _ Rr (by omega) (pH.mono rn (by simpa using Ne.symm yH)) (nS.zero Rr 2 nn bt.nil) (gQ ay rn dt) Gx
      ·cbv;exact hx v h4 hv (one_mod aO aD) aQ
    ·cbv;exact hx v h2 hv aO aN
   ·cbv;exact hx v h2 hv aO aN
end K
namespace K
open Go Go.Dx Go.RowKit Go.Proofs
set_option maxRecDepth 100000
theorem tS {P:Program}{Q:Exit->Go.Act->List Frame->World->Prop} {a:Go.Act} {cs:List Frame} {w:World} {x y:Code} (h:∀K:Go.Act->List Frame->World->Prop,(∀a cs w,y.wpS P Q a cs w->K a cs w)->x.wpS P (Exit.thenS K Q) a cs w):(Code.seq x y).wpS P Q a cs w:=
 wpS_seq (h _ λ_ _ _ h=>h)
def behind:DC->DC
 | .seq _ r=>r
 | c=>c
theorem Wd:∃c2,Tryz.f180.body=some (.seq (.region 0 #[{dst:=some 5,op:=Op.call {callee:=Callee.builtin Builtin.recover,args:=#[],argTypes:=#[]},type:=20,pos:= "jsonx.go:375",after:=#[],guard:=none},
   {dst:=some 2,op:=Op.assign (Operand.tmp 5),type:=20,pos:= "jsonx.go:375",after:=#[{on:=0,ground:=Ground.data},{on:=0,ground:=Ground.chain},{on:=0,ground:=Ground.phase}],guard:=none}] false) c2)/\dy ⟨pf (),G0,17⟩ c2=behind qI.code:=⟨_,rfl,by kernel_rfl⟩
theorem Oq {a1 a2 v:V}{h:H}{K:H->Prop} (hk:Uz pf G0 17 (behind qI.code) {tmps:=((fY [a1,a2] [] .leaf).set p5 (some v)).set p2 (some v),defers:=[]} h (acQ [] K) λ_ _ _=>False)
  {B:Nat} {w0:World} {ρ:bE} {w:World} {xs:List Value} {x:Value} (R:aA B w0 ρ h w) (hG:GB (pf ()) B w0 ρ G0) (PH:cU ρ [a1,a2] xs) (hx:RV ρ v x) {u u':FrameMode}
  (adB:∀(c₀:Frame) (cs:List Frame),c₀.mode=u->(recoverD (c₀::cs)=some (x,{c₀ with mode:=u'} ::cs)\/recoverD (c₀::cs)=none/\x = .nilIface/\u'=u)):
  CallsD Tryz.prog kR ⟨xs⟩ u w λe u'' w'=>∃r,e = .returned r/\u''=u'/\∃h' ρ',K h'/\Step ρ ρ' h h'/\aA B w0 ρ' h' w':=by
 obtain ⟨c2,hb,hc⟩:=Wd;have S:Sm pf G0 17 c2 {tmps:=((fY [a1,a2] [] .leaf).set p5 (some v)).set p2 (some v),defers:=[]} h (acQ [] K) λ_ _ _=>False:=Kq hc hk;refine callsD_of_wpS Tryz.func180 hb λc₀ cs hu=>?_;refine tS λK' hK=>?_;refine wpS_region ?_;have hp:=DJ (n:=17) PH (by decide) (by simp);generalize hA:(xs.toArray++Array.replicate (17 - xs.toArray.size) Go.undef:Array Value)=A0 at hp;have hA':((⟨xs⟩:Array Value)++Array.replicate (Tryz.f180.ntmps - (⟨xs⟩:Array Value).size) Go.undef)=A0:=hA;rw [hA'];have P0:PR ρ 17 {tmps:=fY [a1,a2] [] .leaf,defers:=[]} {tmps:=A0,defers:=[]}:=⟨_,.refl _,hp,.nil⟩;have P1:=(P0.put (C:=⟨pf (),G0,17⟩) (d:=some 5) (d':=some p5) rfl hx).put (C:=⟨pf (),G0,17⟩) (d:=some 2) (d':=some p2) rfl hx;have fin:∀VE,VE = {c₀ with mode:=u'} ::cs->c2.wpS Tryz.prog (bodyPostS Tryz.prog Tryz.f180 c₀ cs λe u'' w'=>∃r,e = .returned r/\u''=u'/\∃h' ρ',K h'/\Step ρ ρ' h h'/\aA B w0 ρ' h' w') {tmps:=(A0.setIfInBounds 5 x).setIfInBounds 2 x,defers:=[]} VE w:=λVE jQ=>by
  subst jQ;refine wpS_of_wp (S.out P1 hG R (λe a' h' q ρ' A' w' s hA R'=>?_) λ_ _ _ q=>q.elim);have aoM:DS a'.defers (FL a'.tmps h' [] λ_=>K h')->A'.defers=[]/\∃u'',({c₀ with mode:=u'} ::cs:List Frame) = {c₀ with mode:=u''} ::cs/\∃r,(results Tryz.f180 A'.tmps).run Tryz.prog w' = .ok r w'/\∃r',Ending.returned r = .returned r'/\u''=u'/\∃h' ρ',K h'/\Step ρ ρ' h h'/\aA B w0 ρ' h' w':=λq=>by
   obtain ⟨tm,st,hT⟩:=hA.out;have hd:=hT.defers;generalize a'.defers=ds at q hd;cases ds with
   | cons d ds=>exact q.elim
   | nil=>
     refine ⟨by generalize A'.defers=es at hd;cases hd;rfl,u',rfl,.tuple #[],results_none rfl _ _ _,_,rfl,rfl,h',ρ',q,s,R'⟩
  cases e with
  | exit id=>exact q.elim
  | normal=>exact aoM q
  | ret=>exact aoM q
 have ft:A0.size=17:=hp.size;rcases adB c₀ cs hu with hr | ⟨hr,rfl,rfl⟩
 ·simp [wpOpsS,List.range_succ,Region.wanted,execOp,resolve,invoke,builtin,hr,Oper.upon,Act.put,Act.eval,Exit.thenS,ft]
  exact hK _ _ _ (fin _ rfl)
 ·simp [wpOpsS,List.range_succ,Region.wanted,execOp,resolve,invoke,builtin,hr,Oper.upon,Act.put,Act.eval,Exit.thenS,ft]
  exact hK _ _ _ (fin _ (by rw [<-hu]))
theorem CI {a1 a2:V}{h:H}{K:H->Prop} (hk:K h):LW pf G0 kR [a1,a2] h K:=by
 refine ⟨λ{B w0 ρ w xs} R hG PH=>⟨yA.enters _ _,?_⟩⟩;refine (Oq (a1:=a1) (a2:=a2) (v:=.nilIface) (h:=h) (K:=K) ?_ R hG PH .nilIface (u:=.returning) (u':=.returning) λc₀ cs hu=>.inr ⟨by simp [recoverD,hu],rfl,rfl⟩).mono λe u' w' ⟨r,h1,h2,h3⟩=>⟨r,h1,h2,h3⟩;cbv;refine .is (λ_=>rfl) ?_;cbv;exact hk
theorem _root_.Go.Dx.PdN.ux {pf:Unit->Program} {want:Array (String×TypeId)} {z:V} {ok:Bool} {x:X} {tp:T V} {t:TypeId} {v:V} {K:V->Prop} (hx:x.Vz tp=some (.iface t v)) (hh:(dz (pf ())).has want t=some true) (hk:K (okV ok (.iface t v) true)):PdN pf (.ux want z ok x) tp K:=
 ⟨λtm s=>⟨_,by simp only [PD.eval,sr s hx,zb,hh,ob],hk⟩⟩
theorem TG:(dz (pf ())).has #[("Error",193)] bV=some true:=by kernel_rfl
theorem Ld {lv le:Lb}{f:V}{c1 c2 c3 c4 c5 c6:V}{h:H}{K:H->Prop} (hw:Wf h) (hf:X0 f) (hv:h.get lv=some (.cells [c1,c2,c3,c4,c5] bK 0 .yes)) (he:h.get le=some (.cells [c6] XX 0 .yes))
  (hk:∀h',h'.get lv=some (.cells [.int .i64 0,.int .i64 0,.str [],.nilSlice 0,.nilSlice 0] bK 0 .yes)->h'.get le=some (.cells [f] XX 0 .yes)->Mod h h' [lv,le]->Wf h'->K h'):RW pf G0 kR [.ptr lv 0,.ptr le 0] f h K:=by
 have dj:lv≠le:=λe=>by subst e;rw [hv] at he;cases he
 obtain ⟨a,wy,rfl⟩:=hf;refine ⟨λ{B w0 ρ w xs x} R hG PH hx=>⟨yA.enters _ _,?_⟩⟩;refine (Oq (a1:=.ptr lv 0) (a2:=.ptr le 0) (K:=K) ?_ R hG PH hx (u:=.panicking [{v:=x,recovered:=false}]) (u':=.panicking [{v:=x,recovered:=true}]) λc₀ cs hu=>.inl (by simp [recoverD,hu])).mono λe u' w' ⟨r,h1,h2,h3⟩=>⟨r,h1,by subst h2;rfl,h3⟩;cbv;refine .ux rfl TG ?_;cbv;refine .of (cs:=[.int .i64 0,.int .i64 0,.str [],.nilSlice 0,.nilSlice 0]) hw hv rfl rfl rfl rfl rfl rfl λh1 MG ar aM=>?_;cbv;refine .of (cs:=[.iface bV (.agg [.int .i64 a,.int .i64 wy])]) aM (ar.get he (by simpa using Ne.symm dj)) rfl rfl rfl rfl rfl rfl λh2 ur aq aN=>?_;cbv;exact hk h2 (aq.get MG (by simpa using dj)) ur (ar.trans aq) aN
theorem Wg {h:H}{s:List Nat}(hw:Wf h)(hs:s.length<=65536)(hb:∀b∈s,b<256) {Q:V->H->Prop} (hq:∀t cs h',nS h' t cs->Mod h h' []->Wf h'->Q (.tuple [.agg cs,.nilIface]) h')
  (hx:∀f h',X0 f->Mod h h' []->Wf h'->Q (.tuple [.agg [.int .i64 0,.int .i64 0,.str [],.nilSlice 0,.nilSlice 0],f]) h'):CW pf G0 Ee [.str s] h Q:=by
 refine CX.Hv ?_;refine Qm.oo (by kernel_rfl) ?_;cbv;refine .of hw λlv h1 MG CV ar aM=>?_;cbv;refine .of aM λle h2 ur lA aq aN=>?_;cbv;refine .flat rfl ?_;cbv;refine .agg ?_;cbv;refine .of aN λp h3 zA hfp aF aR=>?_;have Qx:=aF.get (aq.get MG);have CS:=aF.get ur;have hve:lv≠le:=λe=>by subst e;rw [MG] at lA;cases lA
 have Mh:lv≠p:=λe=>by subst e;rw [aq.get MG] at hfp;cases hfp
 have hep:le≠p:=λe=>by subst e;rw [ur] at hfp;cases hfp
 have TH:h.get le=none:=ai ar (by simp) lA;have aud:h.get p=none:=ai ar (by simp) (ai aq (by simp) hfp);have aJ:Mod h h3 []:=((ar.trans aq).trans aF).mono λl o _ hl=>by simp at hl
 have hP:lM h3 p s 0:=⟨zA,by omega,by simp,hs,hb⟩;have nm:∀{h' DG} {F:List Lb},Mod h h' []->Mod h' DG F->(∀l,l∈F->h.get l=none)->Mod h DG []:=λa b f=>a.fr b λl hl=>.inl (f l hl);have fp:∀l,l∈[p]->h.get l=none:=λl hl=>by simp at hl;subst hl;exact aud
 have fve:∀l,l∈[lv,le]->h.get l=none:=λl hl=>by simp at hl;rcases hl with rfl | rfl;exact CV;exact TH
 have fv:∀l,l∈[lv]->h.get l=none:=λl hl=>by simp at hl;subst hl;exact CV
 have fe:∀l,l∈[le]->h.get l=none:=λl hl=>by simp at hl;subst hl;exact TH
 cbv;refine adA (s.length+1) aR hP (by omega) (by omega) (by omega) (λt cs j h4 zO pH Wc aD aQ=>?_) λf h4 hf aD aQ=>?_
 ·have hv4:=aD.get Qx (by simpa using Mh)
  have vL:=aD.get CS (by simpa using hep);have ay:=nm aJ aD fp;have M':=Wc.bd;obtain ⟨a1,a2,a3,a4,a5,rfl⟩:=Wc.five;cbv;refine .of (cs:=[a1,a2,a3,a4,a5]) aQ hv4 rfl rfl rfl rfl M' rfl λh5 hv5 aY bH=>?_;have Jj:=aY.get vL (by simpa using Ne.symm hve);have Hw:=pH.mono aY (by simpa using Ne.symm Mh);have aL:=nm ay aY fv;cbv;refine .Hv <| nO bH Hw λj6 h6 an7 fu bP cy=>?_;have hv6:=bP.get hv5 (by simpa using Mh);have xq:=bP.get Jj (by simpa using hep);have bT:=nm aL bP fp;cbv;refine .of fu.get rfl ?_;cbv;refine .of λn eT hn=>?_;cbv;refine .lt (λe=>?_) λe=>?_
  ·cbv;refine fL fu λf hf=>?_
   cbv;refine Ld cy hf hv6 xq λh7 Qy Bp cH eu=>?_;cbv;refine .of Qy rfl ?_;cbv;refine .of Bp rfl ?_;cbv;exact hx f h7 hf (nm bT cH fve) eu
  ·cbv;refine .of hv6 rfl ?_
   cbv;refine .of (cs:=[a1,a2,a3,a4,a5]) cy hv6 rfl rfl rfl rfl M' rfl λh7 Qy cH eu=>?_;cbv;refine .of (cs:=[.nilIface]) eu (cH.get xq (by simpa using Ne.symm hve)) rfl rfl rfl rfl rfl rfl λh8 Mb cO ew=>?_;cbv;refine CI ?_;cbv;refine .of (cO.get Qy (by simpa using hve)) rfl ?_;cbv;refine .of Mb rfl ?_;cbv;exact hq t _ h8 ((((Wc.mono aY).mono bP).mono cH).mono cO) (nm (nm bT cH fv) cO fe) ew
 ·have hv4:=aD.get Qx (by simpa using Mh)
  have vL:=aD.get CS (by simpa using hep);have ay:=nm aJ aD fp;cbv;refine Ld aQ hf hv4 vL λh7 Qy Bp cH eu=>?_;cbv;refine .of Qy rfl ?_;cbv;refine .of Bp rfl ?_;cbv;exact hx f h7 hf (nm ay cH fve) eu
end K
namespace K
open Go Go.Dx Go.RowKit Go.Proofs
set_option maxRecDepth 100000
structure HE (h:H):Prop where
 out:∃e fz,h.get (pathOf 0)=some (.cells [.iface 324 (.agg [.ptr (pathOf 7) 112])] e fz .no)
theorem HE.mono {h h':H}{F:List Lb}(a:HE h)(m:Mod h h' F):HE h':=let ⟨e,fz,g⟩:=a.out;⟨e,fz,m.ro g rfl⟩
theorem ZQ {B:Nat}{w0 w:World}{ρ:bE}{h:H}(R:aA B w0 ρ h w)(hG:gv ρ G0)(hc:HE h):w.cell? ⟨0,0,none⟩=some (.iface 324 (.agg #[.pointer (some ⟨7,112,none⟩)])):=by
 obtain ⟨n0,eT⟩:=hG 0 (by decide);obtain ⟨n7,hn7⟩:=hG 7 (by decide);obtain ⟨e,fz,hg⟩:=hc.out;have c0:dO ρ _ _ e fz .no w:=R.obj _ _ _ eT hg;obtain ⟨q,q1,q2⟩:=c0.cell 0 _ rfl;obtain ⟨q',rfl,q3⟩:=sZ q2;cases q3 with | agg q4=>
 obtain ⟨q'',rfl,q5⟩:=q4.one;obtain ⟨b7,Ij,rfl⟩:=dP q5;rw [hn7] at Ij;cases Ij;unfold cZ at q1;simpa using q1
theorem ZT {t:V}{h:H}{Q:V->H->Prop} (hq:Q (.bool false) h):CW pf G0 Hn [.nilIface,t] h Q:=by
 refine .mk λ{B w0 ρ w xs} R hG hx=>?_;obtain ⟨x1,x2,rfl,r1,r2⟩:=hx.two;cases r1;exact Good.iq Tryz.func115 rfl (by kernel_rfl) ((Tz.aje x2 w).mono λe w' ⟨h1,h2⟩=>⟨_,h1,_,h,ρ,hq,Step.refl _ _,.bool false,by rw [h2];exact R⟩)
theorem ZU {h:H}{a y:Int}{l:Lb}{c1 c2:V}(hw:Wf h)(he:HE h)(hl:h.get l=some (.cells [c1,c2] bV 0 .yes)){Q:V->H->Prop}
  (hq:∀h',h'.get l=some (.cells [.int .i64 a,.int .i64 y] bV 0 .yes)->Mod h h' [l]->Wf h'->Q (.bool true) h'):CW pf G0 Hn [.iface bV (.agg [.int .i64 a,.int .i64 y]),.iface MK (.ptr l 0)] h Q:=by
 refine .mk λ{B w0 ρ w xs} R hG hx=>?_;obtain ⟨x1,x2,rfl,r1,r2⟩:=hx.two;obtain ⟨y1,rfl,t1⟩:=sZ r1;obtain ⟨y2,rfl,t2⟩:=sZ r2;obtain ⟨b,hb,rfl⟩:=dP t2;cases t1 with | agg q1=>
 rename_i ys;have q1':=q1;obtain ⟨z1,z2,rfl,s1,s2⟩:=q1'.two;cases s1;cases s2;obtain ⟨g1,g2,g3⟩:=H.eM hw hl rfl (.cells [.int .i64 a,.int .i64 y] bV 0 .yes);have zl:eb h l 0 [.int .i64 a,.int .i64 y]=some (h.set l (.cells [.int .i64 a,.int .i64 y] bV 0 .yes)):=by simp only [eb,hl];rfl
 have cr:dO ρ b [c1,c2] bV 0 .yes w:=R.obj l b _ hb hl;have uH:=cr.fits;simp only [List.length_cons,List.length_nil] at uH;have hit:=Tz.ajj (.int .i64 a) (.int .i64 y) rfl rfl b.block (b.base+0) w (ZQ R hG.rel he)
  (λj hj=>by
   have:=cr.isSome (i:=0+j) (by simp;omega);unfold cZ at this
   rwa [<-Nat.add_assoc] at this) (λj hj=>cr.free rfl _ (by omega) (by omega))
 have R4:=(((R.junk (.cells #[.pointer (some ⟨b.block,b.base+0,none⟩)] 199)).junk (Tz.VV w.heap.size)).junk (Tz.VV w.heap.size)).junk (.cells #[.int .i64 a,.int .i64 y] 197);have R5:=(R4.store hb zl q1).2;exact Good.iq Tryz.func115 rfl (by kernel_rfl) (hit.mono λe w' ⟨h1,h2⟩=>⟨_,h1,_,_,ρ,hq _ g1 g2 g3,Step.same rfl,.bool true,by rw [h2];exact R5⟩)
theorem TI {h:H}{s:List Nat}(hw:Wf h)(he:HE h)(hb:∀b∈s,b<256) {Q:V->H->Prop} (hq:∀t cs (a e:Int) h',nS h' t cs->Mod h h' []->Wf h'->Q (.tuple [.agg cs,.int .i64 a,.int .i64 e]) h'):CW pf G0 A3 [.str s] h Q:=by
 refine MV.enter (by kernel_rfl) ?_;cbv;refine .of hw λlr h1 TE dt ar aM=>?_;have fr1:∀l,l∈[lr]->h.get l=none:=λl hl=>by simp at hl;subst hl;exact dt
 cbv;refine .of λn eT hn=>?_;cbv;refine .gt (λe=>?_) λe=>?_
 ·cbv;refine .of (cs:=[.int .i64 0,.int .i64 0,.str [],.nilSlice 0,.nilSlice 0]) aM TE rfl rfl rfl rfl rfl rfl λh2 qN aq aN=>?_
  cbv;refine .of qN rfl ?_;cbv;exact hq _ _ _ _ h2 (nS.zero h2 0 0 bt.nil) (ar.fr aq λl hl=>.inl (fr1 l hl)) aN
 cbv;refine Wg aM (by omega) hb (λt cs h2 Ji aq aN=>?_) λf h2 hf aq aN=>?_
 ·have aoO:=Ji.bd
  obtain ⟨a1,a2,a3,a4,a5,rfl⟩:=Ji.five;have qN:=aq.get TE;cbv;refine .of aN λlv h3 Qx CV aF aR=>?_;have Ng:=ai ar (by simp) (ai aq (by simp) CV);have Ii:lr≠lv:=λe=>by subst e;rw [qN] at CV;cases CV
  cbv;refine .of (cs:=[a1,a2,a3,a4,a5]) aR Qx rfl rfl rfl rfl aoO rfl λh4 hv4 aD aQ=>?_;cbv;refine .of aQ λlf h5 Bg Fe aY bH=>?_;cbv;refine ZT ?_;cbv;refine .of (aY.get hv4) rfl ?_;have Iu:=aY.get (aD.get (aF.get qN) (by simpa using Ii));cbv;refine .of (cs:=[a1,a2,a3,a4,a5]) bH Iu rfl rfl rfl rfl aoO rfl λh6 vP bP cy=>?_;cbv;refine .of vP rfl ?_;have aJ:Mod h h3 []:=((ar.trans aq).trans aF).mono λl o _ hl=>by simp at hl
  have ay:Mod h h4 []:=aJ.fr aD λl hl=>by simp at hl;subst hl;exact .inl Ng
  have aL:Mod h h5 []:=(ay.trans aY).mono λl o _ hl=>by simp at hl
  cbv;exact hq t _ _ _ h6 ((((Ji.mono aF).mono aD).mono aY).mono bP) (aL.fr bP λl hl=>.inl (fr1 l hl)) cy
 ·have qN:=aq.get TE
  obtain ⟨fa,fw,rfl⟩:=hf;cbv;refine .of aN λlv h3 Qx CV aF aR=>?_;have Ng:=ai ar (by simp) (ai aq (by simp) CV);have Ii:lr≠lv:=λe=>by subst e;rw [qN] at CV;cases CV
  cbv;refine .of (cs:=[.int .i64 0,.int .i64 0,.str [],.nilSlice 0,.nilSlice 0]) aR Qx rfl rfl rfl rfl rfl rfl λh4 hv4 aD aQ=>?_;have aJ:Mod h h3 []:=((ar.trans aq).trans aF).mono λl o _ hl=>by simp at hl
  have ay:Mod h h4 []:=aJ.fr aD λl hl=>by simp at hl;subst hl;exact .inl Ng
  cbv;refine .of aQ λlf h5 Bg Fe aY bH=>?_;have aL:Mod h h5 []:=(ay.trans aY).mono λl o _ hl=>by simp at hl
  have Iu:=aY.get (aD.get (aF.get qN) (by simpa using Ii));have hrf:lr≠lf:=λe=>by subst e;rw [aD.get (aF.get qN) (by simpa using Ii)] at Fe;cases Fe
  have auf:h.get lf=none:=by
   cases e:h.get lf with
   | none=>rfl
   | some o=>rw [ay.get e] at Fe;cases Fe
  cbv;refine ZU bH (he.mono aL) Bg λh6 Gu bP cy=>?_;have vP:=bP.get Iu (by simpa using hrf);have bT:Mod h h6 []:=aL.fr bP λl hl=>by simp at hl;subst hl;exact .inl auf
  cbv;refine .of follows 4 ?_;cbv;refine .of Gu rfl ?_;cbv;refine .of Gu rfl ?_;cbv;refine .of (cs:=[.int .i64 0,.int .i64 0,.str [],.nilSlice 0,.nilSlice 0]) cy vP rfl rfl rfl rfl rfl rfl λh7 Nz cH eu=>?_;have xj:=cH.get Gu (by simpa using Ne.symm hrf);cbv;refine .load xj rfl (.load xj rfl (.nil ?_));cbv;refine .of Nz rfl ?_;cbv;exact hq _ _ _ _ h7 (nS.zero h7 0 0 bt.nil) (bT.fr cH λl hl=>.inl (fr1 l hl)) eu
end K
namespace K
open Go Go.Dx Go.Dx.W Go.Proofs
theorem xg:bM pf G0 lY wO:=⟨_,Tryz.func237,by kernel_rfl⟩
theorem lC:bM pf G0 kU kY:=⟨_,Tryz.func268,by kernel_rfl⟩
end K
namespace K
open Go Go.Dx Go.RowKit Go.Proofs
set_option maxRecDepth 100000
theorem QB:bM pf G0 wC (vu 9 1 16):=⟨_,Go.Proofs.Tryz.func264,by kernel_rfl⟩
theorem Js.IM {k i:Int}{t:List Nat}{ns:List (List Nat)}{its:List Js}{j:Nat}{x:Js}(h:its[j]? =some x):sizeOf x<sizeOf (Js.mk k i t ns its):=by
 have:=List.sizeOf_lt_of_mem (List.mem_of_getElem? h);simp only [Js.mk.sizeOf_spec];omega
theorem aj' (n:Nat):∀{t:Js} {h:H} {cs:List V},sizeOf t<n->Wf h->nS h t cs->∀{Q:V->H->Prop},(∀VE h',nS h' t VE->Mod h h' []->Wf h'->Q (.agg VE) h')->CW pf G0 Hr [.agg cs] h Q:=by
 induction n with
 | zero=>intro t h cs hn;omega
 | succ n ih=>
   intro t h cs hn hw hj Q hq;cases hj with
   | @mk k i tx ns its nv iv rows ht CT Na UC h5 vB hi hr=>
   refine CW.pQ ?_;refine Tr.enter (by kernel_rfl) ?_;cbv;refine .agg ?_;cbv;refine .of hw λlb h1 cx gG ar aM=>?_;cbv;refine .of aM λlr h2 qN dt aq aN=>?_;have cR:=aq.get cx;have hbr:lb≠lr:=λe=>by subst e;rw [cx] at dt;cases dt
   have aO:Mod h h2 []:=(ar.trans aq).mono λl o _ hl=>by simp at hl
   have aka:=ai ar (by simp) dt;cbv;refine .of cR rfl ?_;cbv;refine qM QB aN ((vB.sl.mono aO (by simp))) (CA ns) (by omega) (by decide) λnv3 h3 ro3 aF aR=>?_;have gB:=aF.get cR;have ug:=aF.get qN;cbv;refine .one aR gB ro3.sl.flat rfl rfl rfl λh4 dB aD aQ=>?_;have xe:=aD.get ug (by simpa using Ne.symm hbr);have fb:∀l,l∈[lb]->h.get l=none:=λl hl=>by simp at hl;subst hl;exact gG
   have ay:Mod h h4 []:=((aO.trans aF).fr aD (λl hl=>.inl (fb l hl))).mono λl o _ hl=>by simp at hl
   cbv;refine .of dB rfl ?_;have X8:=hi.mono ay;cbv;refine .of X8.sl λm hm0 hmn=>?_;cbv;refine .inv [p1,p2,p3,p11,p12,p13] (λm' aC h'=>∃(lv:V) (done:List Js) (adC:List V) (x:Int),aC=[.ptr lb 0,.ptr lr 0,lv,iv,.int .i64 m,.int .i64 x]/\0<=x/\x.toNat<=its.length/\m'=its.length - x.toNat/\done=its.take x.toNat/\aE h' bK 5 lv done.length adC/\oF h' done adC/\Fr h lv/\lb∉af lv/\lr∉af lv/\
    h'.get lb=some (.cells [.int .i64 k,.int .i64 i,.str tx,nv3,iv] bK 0 .yes)/\h'.get lr=some (.cells [.int .i64 0,.int .i64 0,.str [],.nilSlice 0,.nilSlice 0] bK 0 .yes)/\Ro h' 1 nv3 ns.length (strs ns)/\Mod h h' []/\Wf h') [_,_,_,_,_,_] rfl _
    ⟨.nilSlice 0,[],[],0,rfl,by omega,by simp,rfl,by simp,.nil,.nil,Fr.EO _ _,by simp [af],by simp [af],dB,xe,ro3.mono aD,ay,aQ⟩ ?_
   rintro m' _ h5 ⟨lv,done,adC,x,rfl,lN,hx,dY,adD,kh,ZH,IL,nb5,nr5,pU,Iu,ro5,aL,bH⟩;cbv;refine .lt (λbA=>?_) λjb=>?_
   ·obtain ⟨tx5,akc⟩:∃t,its[x.toNat]? =some t:=⟨_,List.getElem?_eq_getElem (by omega)⟩
    obtain ⟨ecs,FR,hre⟩:=(hr.mono aL).get akc;have akd:=Js.IM (k:=k) (i:=i) (t:=tx) (ns:=ns) akc;have lA:=FR.bd;obtain ⟨a1,a2,a3,a4,a5,rfl⟩:=FR.five;cbv;refine .of (hi.mono aL).sl lN rfl (by omega) hre λq off he=>?_;cbv;refine .ka he rfl ?_;cbv;refine .of bH λle h6 xq Le bP cy=>?_;have TH:h.get le=none:=by
     cases e:h.get le with
     | none=>rfl
     | some o=>rw [aL.get e] at Le;cases Le
    have Ff:lb≠le:=λe=>by subst e;rw [pU] at Le;cases Le
    have auj:lr≠le:=λe=>by subst e;rw [Iu] at Le;cases Le
    cbv;refine .of (cs:=[a1,a2,a3,a4,a5]) cy xq rfl rfl rfl rfl lA rfl λh7 Bp cH eu=>?_;cbv;refine .of Bp rfl ?_;have hj7:=(FR.mono bP).mono cH;have hle:le∉af lv:=λhl=>by obtain ⟨c,e⟩:=kh.row hl;rw [Le] at e;cases e
    have Ma:=(kh.mono bP).mono cH (fk hle);have cM:Mod h h7 []:=((aL.trans bP).fr cH (λl hl=>by simp at hl;subst hl;exact .inl TH)).mono λl o _ hl=>by simp at hl
    have Ij:=cH.get (bP.get pU) (by simpa using Ff);have Nz:=cH.get (bP.get Iu) (by simpa using auj);cbv;refine ih (by omega) eu hj7 λcs8 h8 ZO cO ew=>?_;have auk:=ZO.bd;obtain ⟨b1,b2,b3,b4,b5,rfl⟩:=ZO.five;cbv;refine .agg ?_;cbv;refine .of ew λl9 h9 Lf hf9 eU pd=>?_;have Jl:=(Ma.mono cO).mono eU;have hdl:done.length<=100000:=by rw [adD,List.length_take];omega
    cbv;refine .own pd Jl (m:=1) (new:=[b1,b2,b3,b4,b5]) (by simp only [de,Lf];rfl) rfl auk (by unfold bz;omega) (by decide) λaoP vM yI ake gZ sU=>?_;have pJ:Mod h h9 []:=((cM.trans cO).trans eU).mono λl o _ hl=>by simp at hl
    have l5:Mod h vM []:=pJ.fr gZ λl hl=>.inl (IL l hl);have hb9:=eU.get (cO.get Ij);have hr9:=eU.get (cO.get Nz);have aoR:Fr h aoP:=ake.fr pJ (by simp) IL;have adl:=((((((ZH.mono bP).mono cH).mono cO).mono eU).mono gZ)).snoc ((ZO.mono eU).mono gZ);rw [show done.length+1=(done++[tx5]).length from by simp] at yI;have aul:=((((ro5.mono bP).mono cH).mono cO).mono eU).mono gZ;cbv;refine .add (by omega) (by omega) λx2 lH=>?_;have vS:done++[tx5]=its.take x2.toNat:=by rw [adD,show x2.toNat=x.toNat+1 by omega,List.take_add_one,akc];rfl
    cbv;exact ⟨rfl,its.length - x2.toNat,by omega,aoP,done++[tx5],_,x2,rfl,by omega,by omega,rfl,vS,yI,adl,aoR,ake.dG hb9 nb5,ake.dG hr9 nr5,gZ.get hb9 nb5,gZ.get hr9 nr5,aul,l5,sU⟩
   ·have cf:done=its:=by rw [adD,List.take_of_length_le (by omega)]
    subst cf;cbv;refine .one bH pU kh.sl.flat rfl rfl rfl λh6 Rs bP cy=>?_;cbv;refine .of Rs rfl ?_;have pZ:=kh.mono bP (fk nb5);have vP:=bP.get Iu (by simpa using Ne.symm hbr);cbv;refine .of (cs:=[.int .i64 k,.int .i64 i,.str tx,nv3,lv]) cy vP rfl rfl rfl rfl (by show (true&&(true&&(true&&(bU nv3&&(bU lv&&true)))))=true;rw [ro5.sl.flat,kh.sl.flat];rfl) rfl λh7 Nz cH eu=>?_;cbv;refine .of Nz rfl ?_;have Ma:=pZ.mono cH (fk nr5);obtain ⟨h8,l8,ro8,m8,w8⟩:=Ma.freeze eu;have bT:Mod h h6 []:=aL.fr bP λl hl=>.inl (fb l hl);have cM:Mod h h7 []:=bT.fr cH λl hl=>by simp at hl;subst hl;exact .inl aka
    have dL:Mod h h8 []:=cM.fr m8 λl hl=>.inl (IL l hl);cbv;exact ⟨h8,l8,hq _ h8 (.mk ht CT Na UC h5 (((ro5.mono bP).mono cH).mono m8) ro8 (((ZH.mono bP).mono cH).mono m8)) dL w8⟩
theorem eQ:∀{l:List (List Nat)} {i:Nat} {x:List Nat},l[i]? =some x->rowFrom (strs l) (i*1) 1=some [.str x]
 | [],i,x,h=>by simp at h
 | y::l,0,x,h=>by simp at h;subst h;rfl
 | y::l,i+1,x,h=>by
   have:=eQ (l:=l) (i:=i) (x:=x) (by simpa using h);rw [show (i+1)*1=i*1+1 by omega];exact this
theorem ZV {h:H}{v:V}{l:List (List Nat)}{s:List Nat}(hs:Sl h 1 v l.length (strs l))(hl:l.length<=1000000){Q:V->H->Prop} (bq:(∀x∈l,x≠s)->Q (.int .i64 (-1)) h) (bw:∀i:Int,0<=i->l[i.toNat]? =some s->Q (.int .i64 i) h):CW pf G0 lY [v,.str s] h Q:=by
 refine xg.enter (by kernel_rfl) ?_;cbv;refine .of hs λn eT hn=>?_;cbv;refine .inv [p0,p1,p6,p7,p8] (λm' aC h'=>h'=h/\∃i:Int,aC=[v,.str s,v,.int .i64 n,.int .i64 i]/\0<=i/\i.toNat<=l.length/\m'=l.length - i.toNat/\∀x∈l.take i.toNat,x≠s) [_,_,_,_,_] rfl _ ⟨rfl,0,rfl,by omega,by simp,rfl,by simp⟩ ?_;rintro m' _ h' ⟨rfl,i,rfl,jG,hi,dY,cf⟩;cbv;refine .lt (λbA=>?_) λjb=>?_
 ·obtain ⟨x,hx⟩:∃x,l[i.toNat]? =some x:=⟨_,List.getElem?_eq_getElem (by omega)⟩
  cbv;refine .of hs jG rfl (by omega) (eQ hx) λq off he=>?_;cbv;refine .gH he 0 rfl ?_;cbv;refine .seq (λe=>?_) λe=>?_
  ·subst e
   cbv;exact bw i jG hx
  ·cbv;refine .add (by omega) (by omega) λj hj=>?_
   cbv;exact ⟨rfl,l.length - j.toNat,by omega,rfl,j,rfl,by omega,by omega,rfl,λy hy=>by
    rw [show j.toNat=i.toNat+1 by omega,List.take_add_one,hx] at hy;rcases List.mem_append.1 hy with hy | hy
    ·exact cf y hy
    ·simp at hy;subst hy;exact Ne.symm e⟩
 ·rw [List.take_of_length_le (by omega)] at cf
  cbv;exact bq cf
theorem ZW {k i:Int}{tx name:List Nat}{ns:List (List Nat)}{its:List Js}{h:H}{cs:List V}(hw:Wf h)(hj:nS h (.mk k i tx ns its) cs){Q:V->H->Prop}
  (bq:∀h',Mod h h' []->Wf h'->Q (.tuple [.agg [.int .i64 0,.int .i64 0,.str [],.nilSlice 0,.nilSlice 0],.bool false]) h') (bw:∀(j:Nat) x VE h',ns[j]? =some name->its[j]? =some x->nS h' x VE->Mod h h' []->Wf h'->Q (.tuple [.agg VE,.bool true]) h'):
  CW pf G0 Hp [.agg cs,.str name] h Q:=by
 cases hj with
 | @mk _ _ _ _ _ nv iv rows ht CT Na UC h5 vB hi hr=>
 refine Tp.enter (by kernel_rfl) ?_;cbv;refine .agg ?_;cbv;refine .of hw λlb h1 cx gG ar aM=>?_;cbv;refine .of aM λlr h2 qN dt aq aN=>?_;have cR:=aq.get cx;have aO:Mod h h2 []:=(ar.trans aq).mono λl o _ hl=>by simp at hl
 have aka:=ai ar (by simp) dt;have fr:∀l,l∈[lr]->h.get l=none:=λl hl=>by simp at hl;subst hl;exact aka
 cbv;refine .of cR rfl ?_;cbv;refine .ne (λe=>?_) λe=>?_
 ·cbv;refine .of cR rfl ?_
  cbv;refine ZV (vB.sl.mono aO (by simp)) (by omega) (λhn=>?_) λj Uy hj=>?_
  ·cbv;refine .PZ (by omega) ?_
   cbv;refine .of (cs:=[.int .i64 0,.int .i64 0,.str [],.nilSlice 0,.nilSlice 0]) aN qN rfl rfl rfl rfl rfl rfl λh3 ug aF aR=>?_;cbv;refine .of ug rfl ?_;cbv;exact bq h3 (aO.fr aF λl hl=>.inl (fr l hl)) aR
  ·cbv;refine .FP (by omega) ?_
   cbv;refine .of cR rfl ?_;cbv;refine .of (hi.mono aO).sl λm hm0 hmn=>?_;cbv;refine .ge (λg=>?_) λg=>?_
   ·cbv;refine .of (cs:=[.int .i64 0,.int .i64 0,.str [],.nilSlice 0,.nilSlice 0]) aN qN rfl rfl rfl rfl rfl rfl λh3 ug aF aR=>?_
    cbv;refine .of ug rfl ?_;cbv;exact bq h3 (aO.fr aF λl hl=>.inl (fr l hl)) aR
   ·obtain ⟨x,hx⟩:∃x,its[j.toNat]? =some x:=⟨_,List.getElem?_eq_getElem (by omega)⟩
    obtain ⟨ecs,FR,hre⟩:=(hr.mono aO).get hx;obtain ⟨a1,a2,a3,a4,a5,rfl⟩:=FR.five;cbv;refine .of cR rfl ?_;cbv;refine .of (hi.mono aO).sl Uy rfl (by omega) hre λq off he=>?_;cbv;refine .ka he rfl ?_;cbv;refine aj' (sizeOf x+1) (by omega) aN FR λcs3 h3 X4 aF aR=>?_;have aum:=X4.bd;obtain ⟨b1,b2,b3,b4,b5,rfl⟩:=X4.five;cbv;refine .of (cs:=[b1,b2,b3,b4,b5]) aR (aF.get qN) rfl rfl rfl rfl aum rfl λh4 xe aD aQ=>?_;cbv;refine .of xe rfl ?_;have aJ:Mod h h3 []:=(aO.trans aF).mono λl o _ hl=>by simp at hl
    cbv;exact bw j.toNat x _ h4 hj hx (X4.mono aD) (aJ.fr aD λl hl=>.inl (fr l hl)) aQ
 ·cbv;refine .of (cs:=[.int .i64 0,.int .i64 0,.str [],.nilSlice 0,.nilSlice 0]) aN qN rfl rfl rfl rfl rfl rfl λh3 ug aF aR=>?_
  cbv;refine .of ug rfl ?_;cbv;exact bq h3 (aO.fr aF λl hl=>.inl (fr l hl)) aR
end K
