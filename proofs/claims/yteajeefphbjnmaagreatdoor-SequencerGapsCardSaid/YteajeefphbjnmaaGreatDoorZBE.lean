/-
  The sequencer's laws. Part ZBE of the proof: blotter/sequencer: commit, Last.
-/
import Derived.Shelf.SlIter.Collect
import Derived.Sort.KeysCollected
import Derived.Ground.GgzProg
import Derived.Test.YteajeefphbjnmaaGreatDoorZBD
import Derived.Test.YteajeefphbjnmaaGreatDoorZAA
import Derived.Test.YteajeefphbjnmaaGreatDoorZBB
import Derived.Test.YteajeefphbjnmaaGreatDoorZAU
namespace K
open Go Go.Dx Go.RowKit Go.Proofs
set_option maxRecDepth 100000
theorem uq.text {x:jB}(m:uq x):x.text.length<=512:=by
 have h:=m.m.text;unfold iM at h;split at h
 ·rcases h with h | h<;>rw [h]<;>decide
 ·split at h
  ·exact h.iZ
  ·rw [h];simp
theorem WK {h:H}{lp:Lb}{z:Zs}{x:jB}{n m:Nat}(hw:Wf h)(he:HE h)(Z:E6 h lp z n m)(hn:n<=10000000)(eU:m<=1000)(hz:L9 x)(uu:uq x)(hf:z.r.log.length<1000){Q:V->H->Prop}
  (bq:∀h' z' (e:Int),e≠0->ZS h h' lp z z' (n+1) m->z'.r=z.r->Q (.int .i64 e) h')
  (bw:∀h' z',ZS h h' lp z z' (n+1) (m+1)->z'.r.ls=z.r.ls->(x.id=aW z.r.log x.client+1/\z'.r.log=z.r.log++[x]\/x.id≠aW z.r.log x.client+1/\z'.r.log=z.r.log)->Q (.int .i64 0) h'):
  CW pf G0 iN [.ptr lp 0,ad7 x] h Q:=by
 have htx:=uu.text;have awB:=uu.id;obtain ⟨z1,z2,z3⟩:=uu.Xt;obtain ⟨client,id,kind,aI,name,text⟩:=x;dsimp only at htx awB z1 z2 z3;refine rf.mj (by kernel_rfl) ?_;refine .seq (.of ?_);cbv;refine .agg ?_;cbv;refine .of hw λlb h1 cx gG ar aM=>?_;cbv;refine .seq (.of ?_);cbv;refine .all cx rfl ?_;cbv;refine agT (x:=⟨client,id,kind,aI,name,text⟩) aM hz (by dsimp only;omega) λt e h2 Cc _ _ aq aN=>?_;have aO:Mod h h2 []:=(ar.trans aq).mono λl o _ hl=>by simp at hl
 have cR:=aq.get cx;have Z2:=Z.mono aO;cbv;refine .seq (.of ?_);cbv;refine .ne (λe0=>?_) λe1=>?_;rotate_left
 ·cbv;exact bq h2 z e e1 ((ZS.refl (Z.le (Nat.le_succ n) (Nat.le_refl m)) hw).beside aO aN) rfl
 have S2:=Z2.ub;have I0:z.r.log.length<=1000:=by omega
 have zl:=S2.stl;have hk:=S2.keys;have mD:=S2.st.sl;have C2:=S2.cell;have lbn:lb∉z.own lp:=λhm=>Z.live hm gG;generalize Jg:z.r.sv=sv at*;generalize NA:z.r.ls=ls at*;generalize hlv:z.r.lv=lv at*;generalize sM:z.r.lm=lm at*;cbv;refine .seq (.of ?_);cbv;refine .of follows 5 ?_;cbv;refine .of C2 rfl ?_;cbv;refine .of cR rfl ?_;cbv;refine .of cR rfl ?_;cbv;refine Lx (es:=z.r.st) aN (he.mono aO) mD ⟨by omega,hk⟩ (by omega) (by omega) (by omega) (λa y h3 aF aR=>?_) λov ops h3 fT apY _ aF Mg aR=>?_
 ·refine .nil ?_
  cbv;have aJ:Mod h h3 []:=(aO.trans aF).mono λl o _ hl=>by simp at hl
  exact .weak [p0,p3,p5,p7] rfl (LH (x:=⟨client,id,kind,aI,name,text⟩) (ops:=[]) aR (he.mono aJ) (Z.mono aJ) hn eU hz uu hf (aF.get cR) lbn (by dsimp only;omega) (by omega) .nil (by simp [af]) (by simp) (by simp) (λh' z' e' dj T hr=>bq h' z' e' dj (((ZS.refl Z hw).beside aJ aR).trans T) hr) λh' z' T h1 h2=>bw h' z' (((ZS.refl Z hw).beside aJ aR).trans T) (h1.trans NA) h2)
 ·refine .nil ?_
  cbv;have aJ:Mod h h3 []:=(aO.trans aF).mono λl o _ hl=>by simp at hl
  have tm:=apY.iZ;exact .weak [p0,p3,p5,p7] rfl (LH (x:=⟨client,id,kind,aI,name,text⟩) aR (he.mono aJ) (Z.mono aJ) hn eU hz uu hf (aF.get cR) lbn (by dsimp only;omega) (by omega) fT (λq hq hm=>Z2.live hm (Mg q hq)) (by omega) apY.each (λh' z' e' dj T hr=>bq h' z' e' dj (((ZS.refl Z hw).beside aJ aR).trans T) hr) λh' z' T h1 h2=>bw h' z' (((ZS.refl Z hw).beside aJ aR).trans T) (h1.trans NA) h2)
theorem RG {h:H}{lp:Lb}{r:Ik}{c:List Nat}(S:nR h lp r){Q:V->H->Prop} (hq:Q (.int .i64 (aW r.log c)) h):CW pf G0 jT [.ptr lp 0,.str c] h Q:=by
 have C:=S.cell;have L:=λK=>S.lookup (c:=c) (K:=K);generalize aW r.log c=n at*;generalize r.lm=lm at*;generalize r.ls=ls at*;generalize r.lv=lv at*;generalize r.sv=sv at*;refine tG.enter (by kernel_rfl) ?_;cbv;refine qT C ?_;cbv;refine .of C rfl ?_;cbv;refine L _ ?_;cbv;exact hq
end K
namespace K
open Go Go.Dx Go.RowKit Go.Proofs Go.Maps Go.Sort
open Go.WideElems (rg rd Fit)
set_option maxRecDepth 100000
def RU:Value->Option (DataW Unit×List MemPlace):=λ_=>some (.lit (.bool true),[])
theorem LI {ρ:bE}:∀{m:bF} {ms:List MapEntry},pj ρ (cg m) ms->(∀e∈m,e.1.length<=1000000)->
  ms.length=m.length/\ms.map (·.born)=m.map (λe=>e.2.2)/\(ms.map λx=>HG x.key)=cB m/\∀x∈ms,∃t,x.key = .string t/\t.size<=1000000
 | [],_,r,_=>by
   generalize hm:cg []=l at r;cases r with
   | nil=>exact ⟨rfl,rfl,rfl,by simp⟩
   | cons=>cases hm
 | (k,v,b)::m,_,r,hg=>by
   generalize hm:cg ((k,v,b)::m)=l at r;cases r with
   | nil=>cases hm
   | cons hk hv hn hs=>
     simp only [cg,List.cons.injEq,Prod.mk.injEq] at hm;obtain ⟨⟨rfl,rfl,rfl⟩,rfl⟩:=hm;obtain ⟨i1,i2,i3,i4⟩:=LI (m:=m) hs λe he=>hg e (by simp [he]);have vO:=hg (k,v,b) (by simp);simp only at vO;obtain ⟨t,ht,hkt⟩:=vI hk;refine ⟨by simp [i1],by simp [i2,hn],?_,λx hx=>?_⟩
     ·have e0:HG (Value.string t)=k:=hkt
      simp only [List.map_cons,cB,ht,e0];simp only [cB] at i3;rw [i3]
     ·rcases List.mem_cons.1 hx with rfl | hx
      ·exact ⟨t,ht,by rw [<-yQ,hkt];exact vO⟩
      ·exact i4 x hx
theorem agX (ss:List (List UInt8)):∃xs:List (List Nat),xs.length=ss.length/\∀(ρ:bE) (i:Nat) v,(strs xs)[i]? =some v->∃x,(ss.map encStr)[i]? =some x/\RV ρ v x:=by
 refine ⟨ss.map λs=>ax ⟨s.toArray⟩,by simp,λρ i v h=>?_⟩;obtain ⟨s,h1,rfl⟩:=GC h;rw [List.getElem?_map] at h1;cases hs:ss[i]? with
 | none=>rw [hs] at h1;simp at h1
 | some t=>
   rw [hs] at h1;simp at h1;subst h1;exact ⟨encStr t,by rw [List.getElem?_map,hs];rfl,.str _⟩
theorem LJ {h:H}{lm lb:Lb}{m:bF}{c:Nat}{e:TypeId}{fz:Nat}{own:Own}(hw:Wf h)(hg:h.get lm=some (.map (cg m) c))(Yo:fG m c)(vO:∀e∈m,e.1.length<=1000000) (PT:m.length<=1000000000) (hb:h.get lb=some (.cells [.map lm] e fz own)) {Q:V->H->Prop} (hq:∀ov (xs:List (List Nat)) h',aE h' 9 1 ov xs.length (strs xs)->xs.length<=m.length->Fr h ov->Mod h h' []->Wf h'->Q ov h'):
  CW pf G0 iO [.nilSlice 0,.func 192 [] [.ptr lb 0]] h Q:=by
 refine .mk λ{B w0 ρ w xs} R hG hx=>?_;obtain ⟨x1,x2,rfl,r1,r2⟩:=hx.two;cases r1;obtain ⟨a',b',rfl,ra,rb⟩:=qm r2;cases ra;obtain ⟨y,rfl,ry⟩:=rb.one;obtain ⟨bb,Y9,rfl⟩:=dP ry;have c0:dO ρ bb [.map lm] e fz own w:=R.obj _ _ _ Y9 hb;obtain ⟨q,q1,q2⟩:=c0.cell 0 _ rfl;obtain ⟨bm,hbm,rfl⟩:=kE q2;obtain ⟨ms,NT,lP⟩:∃ms:Array MapEntry,w.heap[bm.block]? =some (.map ms c)/\pj ρ (cg m) ms.toList:=R.obj _ _ _ hbm hg;obtain ⟨f1,f2,f3,f4⟩:=LI lP vO;have G8:=(R.base _ _ Y9).1;unfold cZ at q1;rw [G8] at q1;have Mw:maxLen=9223372036854775807:=rfl;have sY:w.ownsMap Tryz.prog 9 RU bm.block m.length (.map ((ms.toList.map (rg Tryz.prog 9 RU)).foldr DataW.insert [])):=by
  refine ⟨ms,c,NT,⟨?_,⟨λx hx=>?_,?_,?_⟩,λx hx=>?_⟩,?_,rfl⟩
  ·rw [<-Array.length_toList,f1];omega
  ·have G3:x.born∈ms.toList.map (·.born):=List.mem_map_of_mem hx
   rw [f2] at G3;obtain ⟨e',It,e2⟩:=List.mem_map.1 G3;rw [<-e2];exact Yo.old e' It
  ·rw [f2];exact Yo.DV
  ·have hk:=Yo.keys
   rw [<-f3] at hk;have Fc:((ms.toList.map (·.key)).map HG).Nodup:=by rw [List.map_map];exact hk
   exact List.Pairwise.of_map HG (λ_ _ h e=>h (by rw [e])) Fc
  ·obtain ⟨t,hk,ht⟩:=f4 x hx
   have agN:Go.keyOf Tryz.prog 9 x.key=some (.string t.data.toList):=by
    rw [hk];simp [Go.keyOf,Tryz.underlying9,mapKey];omega
   exact ⟨_,by unfold Go.WideElems.rd;rw [agN];rfl⟩
  ·rw [<-Array.length_toList,f1];exact Nat.le_refl _
 have Wz:bb.block<w.heap.size:=(R.obj _ _ _ Y9 hb:sf ρ bb w _).lt;generalize hD:(ms.toList.map (rg Tryz.prog 9 RU)).foldr DataW.insert []=D at sY;have hDl:D.length=m.length:=by rw [<-hD,(Go.WideShapes.sorted_perm _).length_eq,List.length_map,f1]
 have ak2:SeqGives Fence.wide 1 Tryz.prog 192 #[.pointer (some ⟨bb.block,0,none⟩)] encStr (λss=>ss.Perm (strKeys (.map D))) (Maps.size (.map D)) w:=
  AnyZ.keys_gives (ρ:=Tryz.NC) {Tryz.amZ with} Fence.wide 1 trivial rfl (by omega) bb.block bm.block m.length _ w Wz q1 sY
 have ft:Maps.size (.map D)=m.length:=hDl;have gw:CallsIn Fence.wide 2 Tryz.prog 243 #[.slice none 0 0,.func (.func 192) #[] #[.pointer (some ⟨bb.block,0,none⟩)]] w λe w'=>∃(v:Value) (ss:List (List UInt8)),e = .returned v/\ss.Perm (strKeys (.map D))/\w'.ownsRow w.heap.size 9 1 v ss.length (ss.map encStr)/\(v = .slice none 0 0<->ss=[])/\RowKit.Below w.heap.size w w':=
  AnyZ.appendSeq_in (ρ:=Tryz.GV) {Tryz.afm with} Fence.wide 2 trivial rfl (by omega) 192 _ trivial (enters Tryz.func192 rfl (by kernel_rfl)) _ _ (by omega) (by omega) w ak2
 have WA:Calls (pf ()) iO ⟨[.slice none 0 0,.func (.func 192) #[] #[.pointer (some ⟨bb.block,bb.base+0,none⟩)]]⟩ w λe w'=>∃(v:Value) (ss:List (List UInt8)),e = .returned v/\ss.Perm (strKeys (.map D))/\w'.ownsRow w.heap.size 9 1 v ss.length (ss.map encStr)/\(v = .slice none 0 0<->ss=[])/\RowKit.Below w.heap.size w w':=by rw [G8];exact (callsIn_wide (n:=2)).1 gw
 refine Good.iq Tryz.func243 rfl rfl (WA.mono λe' w' ⟨v,ss,he,AN,bG,Vp,Lq⟩=>⟨_,he,?_⟩);have mD:ss.length=m.length:=by
  rw [AN.length_eq];show (D.map λp=>strOf p.1).length=_
  rw [List.length_map,hDl]
 obtain ⟨es,e1,e3⟩:=agX ss;rcases bG.2 with ⟨rfl,eT⟩ | ⟨g',cap,cur,rfl,jb,yR,hle,wm,ft,fh⟩
 ·have:es=[]:=by cases es with | nil=>rfl | cons a b=>simp at e1;omega
  subst this;exact ⟨.nilSlice 0,h,ρ,hq _ [] h .nil (by simp) (Fr.EO _ _) (Mod.refl _ _) hw,Step.refl _ _,.nilSlice 0,R.DR Lq⟩
 ·obtain ⟨a1,a2,a3,a4⟩:=H.add_mod hw (.cells (strs es) 9 0 .yes)
  have E:=eI (b:=dZ.mk g' 0 (cap*1) .nilFunc) R.fresh;have iR:(strs es).length=ss.length*1:=by rw [ep,e1,Nat.mul_one]
  refine ⟨.slice h.next 0 es.length (.toEnd 1),_,uc ρ h.next (dZ.mk g' 0 (cap*1) .nilFunc),hq _ es _ (.ends a1 (by rw [ep,Nat.mul_one])) (by omega) (λl hl=>by simp [af] at hl;subst hl;exact a2) a3 a4,Step.add _ _ _ _,?_,R.named Lq jb ⟨rfl,rfl⟩ ?_⟩
  ·have:=RV.sliceEnd (ρ:=uc ρ h.next (dZ.mk g' 0 (cap*1) .nilFunc)) (l:=h.next) 0 es.length 1 cap (aS _ _ _) (by omega) (by simp)
   rw [e1] at this ⊢;simpa using this
  ·refine ⟨?_,?_,λi v hv=>?_,λ_ i hi hl=>?_,λ_=>⟨cur,0,0,yR,Nat.zero_le _,Nat.le_refl _⟩⟩
   ·simp [World.shape?,yR,ft]
   ·show 0+(strs es).length<=cap*1;omega
   ·obtain ⟨x,uf,lH⟩:=e3 (uc ρ h.next (dZ.mk g' 0 (cap*1) .nilFunc)) i v hv
    refine ⟨x,?_,lH⟩;have hi:=(List.getElem?_eq_some_iff.1 hv).1;unfold cZ World.cell?;simp only [yR,Nat.zero_add];have:cur.toList[i]? =some x:=by
     rw [<-fh,List.getElem?_take,if_pos (by omega)] at uf;exact uf
    simpa using this
   ·simp [World.frozen?,yR]
theorem Ub {h:H}{lm:Lb}{m:bF}{c:Nat}(hw:Wf h)(hg:h.get lm=some (.map (cg m) c))(Yo:fG m c)(vO:∀e∈m,e.1.length<=1000000) (PT:m.length<=1000000000) {lb:Lb} {e:TypeId} {fz:Nat} {own:Own} (hb:h.get lb=some (.cells [.map lm] e fz own)) {Q:V->H->Prop} (hq:∀ov (xs:List (List Nat)) h',aE h' 9 1 ov xs.length (strs xs)->xs.length<=m.length->Fr h ov->Mod h h' []->Wf h'->Q ov h'):
  CW pf G0 kO [.func 192 [] [.ptr lb 0]] h Q:=by
 refine vp.enter (by kernel_rfl) ?_;cbv;refine tP.enter (by kernel_rfl) ?_;cbv;refine LJ hw hg Yo vO PT hb λov xs h1 MA xv hf1 ar aM=>?_;cbv;refine TS aM MA (by omega) λys h2 jc _ ke aq aN=>?_;cbv;exact hq ov ys h2 ke (by omega) hf1 (ar.fr aq λl hl=>.inl (hf1 l hl)) aN
end K
namespace K
open Go Go.Dx Go.RowKit Go.Proofs
set_option maxRecDepth 100000
structure Itm where
 key:List Nat
 gone:Bool
 val:List Nat
 at_:Int
structure Itm.ok (x:Itm):Prop where
 key:x.key.length<=128
 val:x.val.length<=4096
 lo:0<=x.at_
 hi:x.at_<=1099511627776
def itC:List Itm->List V
 | []=>[]
 | x::r=>.str x.key :: .bool x.gone :: .str x.val :: .int .i64 x.at_::itC r
theorem LK:∀(a b:List Itm),itC (a++b)=itC a++itC b
 | [],b=>rfl
 | x::r,b=>by simp only [List.cons_append,itC,LK r b]
theorem Yp:∀(l:List Itm) (i:Nat) (x:Itm),l[i]? =some x->rowFrom (itC l) (i*4) 4=some [.str x.key,.bool x.gone,.str x.val,.int .i64 x.at_]
 | [],i,x,h=>by simp at h
 | y::r,0,x,h=>by simp at h;subst h;rfl
 | y::r,i+1,x,h=>by
   have:=Yp r i x (by simpa using h);rw [show (i+1)*4=i*4+1+1+1+1 by omega];exact this
abbrev itA (x:Itm):V:=.agg [.str x.key,.bool x.gone,.str x.val,.int .i64 x.at_]
theorem aaF {h:H}{x:Itm}{lb:Lb}{n:Int}(hw:Wf h)(hb:h.get lb=some (.cells [.int .i64 n] 3 0 .yes)){Q:V->H->Prop} (hq:∀h' b,Mod h h' []->Wf h'->Q (.bool b) h'):CW pf G0 fI [itA x,.ptr lb 0] h Q:=by
 obtain ⟨key,gone,val,at_⟩:=x;refine tN.enter (by kernel_rfl) ?_;cbv;refine .agg ?_;cbv;refine .of hw λla h1 fS Bl ar aM=>?_;cbv;refine .of fS rfl ?_;cbv;refine .of (ar.get hb) rfl ?_;cbv;refine .gt (λIq=>?_) λhle=>?_
 ·cbv;exact hq h1 true ar aM
 ·cbv;exact hq h1 false ar aM
theorem _root_.Go.Dx.RJ.item {h:H}{li:Lb}{m:bF}{c:Nat}{k:List Nat}{K:V->Prop} (hi:h.get li=some (.map (cg m) c)) (rows:∀e,e∈m->e.1.length<=128/\GJ e.2.1) (hk:∀(key:List Nat) (gone:Bool) (val:List Nat) (at_:Int),Itm.ok ⟨key,gone,val,at_⟩->K (.agg [.str key,.bool gone,.str val,.int .i64 at_])):
  RJ h .str (.agg [.str [],.bool false,.str [],.int .i64 0]) false (.map li) (.str k) K:=by
 cases hv:cK m k with
 | none=>
   refine .Fp hi hv ?_;exact hk [] false [] 0 ⟨by simp,by simp,by decide,by decide⟩
 | some v=>
   obtain ⟨b,hb⟩:=xu hv;obtain ⟨_,key,gone,val,at_,e,a1,a2,a3,a4⟩:=rows _ hb;have e:v=_:=e;subst e;refine .hit hi hv ?_;exact hk key gone val at_ ⟨a1,a2,a3,a4⟩
theorem aaG {h:H}{ls lg li lb:Lb}{a b c d:V}{t:TypeId}{items:bF}{ci:Nat}{n:Int}(hw:Wf h)(hc:h.get ls=some (.cells [a,b,.ptr lg 0,.map li,c,d] t 0 .yes))(hi:h.get li=some (.map (cg items) ci))(Yo:fG items ci)(rows:∀e,e∈items->e.1.length<=128/\GJ e.2.1) (PT:items.length<=100000000) (hb:h.get lb=some (.cells [.int .i64 n] 3 0 .yes)) {Q:V->H->Prop}
  (hq:∀v h' (l:List Itm),aE h' Cf 4 v l.length (itC l)->l.length<=items.length->(∀x∈l,x.ok)->Loc h h' v->Q v h'):CW pf G0 kL [.ptr ls 0,.func 126 [] [.ptr lb 0]] h Q:=by
 refine vk.enter (by kernel_rfl) ?_;cbv;refine IQ hc ?_;cbv;refine .of hc rfl ?_;cbv;refine Gh.enter (by kernel_rfl) ?_;cbv;refine .flat rfl ?_;cbv;refine .of hw λlk h1 Xq hfk ar aM=>?_;cbv;refine Ub aM (ar.get hi) Yo (λe he=>by have:=(rows e he).1;omega) (by omega) Xq λov xs h2 ke jc Bo aq aN=>?_;have aO:Mod h h2 []:=(ar.trans aq).mono λl o _ hl=>by simp at hl
 cbv;refine .of ke.sl λm hm0 hmn=>?_;cbv;refine .inv [p0,p1,p5,p16,p17,p18] (λm' aC h'=>∃(i:Int) (v:V) (l:List Itm),aC=[.ptr ls 0,.func 126 [] [.ptr lb 0],v,ov,.int .i64 m,.int .i64 i]/\0<=i/\i.toNat<=xs.length/\m'=xs.length - i.toNat/\aE h' Cf 4 v l.length (itC l)/\l.length<=i.toNat/\(∀x∈l,x.ok)/\Loc h2 h' v) [_,_,_,_,_,_] rfl _ ⟨0,_,[],rfl,by omega,by simp,rfl,.nil,by simp,by simp,Loc.nil aN 0⟩ ?_;rintro m' _ h3 ⟨i,v,l,rfl,jG,Nv,dY,fT,iY,alf,lL⟩;have X3:=lL.get (aO.get hc);have OE:=lL.get (aO.get hi);have gB:=lL.get (aO.get hb);cbv;refine .lt (λbA=>?_) λjb=>?_;rotate_left
 ·cbv;exact hq v h3 l fT (by omega) alf (lL.base aO)
 obtain ⟨k,hk⟩:∃k,xs[i.toNat]? =some k:=⟨_,List.getElem?_eq_getElem (by omega)⟩;cbv;refine .of (lL.sl ke.sl) jG rfl (by omega) (eQ hk) λsl off iR=>?_;cbv;refine .gH iR 0 rfl ?_;cbv;refine .of X3 rfl ?_;cbv;refine .item OE rows λkey gone val at_ _=>?_
 cbv;refine ⟨_,_,_,rfl,?_⟩;show CX pf G0 fI [itA ⟨key,gone,val,at_⟩,.ptr lb 0] h3 _ _
 refine aaF lL.wf gB λh4 b aD aQ=>?_;have hc4:=aD.get X3;have X8:=aD.get OE;have jv:=fT.mono aD;have Hy:=lL.al aD aQ;cases b
 ·cbv;refine .add (by omega) (by omega) λj hj=>?_
  cbv;exact ⟨rfl,xs.length - j.toNat,by omega,j,v,l,rfl,by omega,by omega,rfl,jv,by omega,alf,Hy⟩
 ·cbv;refine .of hc4 rfl ?_
  cbv;refine .item X8 rows λkey gone val at_ hx=>?_
  cbv;refine .agg ?_;cbv;refine .of aQ λlr h5 Iu dt aY bH=>?_;cbv;refine .own bH (jv.mono aY) (m:=1) (new:=[.str key,.bool gone,.str val,.int .i64 at_]) (by simp only [de,Iu];rfl) rfl rfl (by unfold bz;omega) (by decide) λv6 h6 pZ Qu bP cy=>?_;have zy:=(Hy.al aY bH).grow Qu bP cy;have jQ:itC l++[V.str key,.bool gone,.str val,.int .i64 at_]=itC (l++[⟨key,gone,val,at_⟩]):=by rw [LK];rfl
  rw [jQ,show l.length+1=(l++[(⟨key,gone,val,at_⟩:Itm)]).length by simp] at pZ;cbv;refine .add (by omega) (by omega) λj hj=>?_;cbv;exact ⟨rfl,xs.length - j.toNat,by omega,j,v6,l++[⟨key,gone,val,at_⟩],rfl,by omega,by omega,rfl,pZ,by simp;omega,λx Df=>by
   rcases List.mem_append.1 Df with Df | Df
   ·exact alf x Df
   ·simp at Df;subst Df;exact hx,zy⟩
theorem aeh {h:H}{ls lg li:Lb}{a b c d:V}{t:TypeId}{items:bF}{ci:Nat}{n:Int}(hw:Wf h)(hc:h.get ls=some (.cells [a,b,.ptr lg 0,.map li,c,d] t 0 .yes))(hi:h.get li=some (.map (cg items) ci))(Yo:fG items ci)(rows:∀e,e∈items->e.1.length<=128/\GJ e.2.1) (PT:items.length<=100000000) {Q:V->H->Prop}
  (hq:∀v h' (l:List Itm),aE h' Cf 4 v l.length (itC l)->l.length<=items.length->(∀x∈l,x.ok)->Loc h h' v->Q v h'):CW pf G0 lQ [.ptr ls 0,.int .i64 n] h Q:=by
 refine wP.enter (by kernel_rfl) ?_;cbv;refine .flat rfl ?_;cbv;refine .of hw λlb h1 cx gG ar aM=>?_;cbv;refine aaG aM (ar.get hc) (ar.get hi) Yo rows PT cx λv h2 l ho hl pX lo=>?_;cbv;exact hq v h2 l ho hl pX (lo.base ar)
end K
namespace K
open Go Go.Dx Go.RowKit
set_option maxRecDepth 100000
theorem _root_.Go.Dx.Km.rest {h:H}{e:TypeId}{size n:Nat}{s:V}{cs:List V}{k:IntKind}{i:Int}{K:V->Prop} (o:aE h e size s n cs) (hi:0<=i) (hn:i.toNat<n)
  (hk:∀v,Sl h size v (n - i.toNat) (cs.drop (i.toNat*size))->K v):Km size s (some (.int k i)) none none K:=by
 obtain ⟨a,rfl⟩:=Int.eq_ofNat_of_zero_le hi;have hn:a<n:=by simpa using hn
 have hk:∀v,Sl h size v (n - a) (cs.drop (a*size))->K v:=by simpa using hk
 have bG:cs.length=n*size->rowFrom cs (0+a*size) ((n - a)*size)=some (cs.drop (a*size)):=λhl=>by
  unfold rowFrom;rw [Nat.zero_add,dq,vJ]
  ·rw [List.take_of_length_le]
   rw [List.length_drop,hl,Nat.sub_mul];omega
  ·rw [List.length_drop,hl,Nat.sub_mul];omega
 cases o with
 | nil=>omega
 | @exact l _ _ hg hl=>
   refine ⟨sliceEnd l 0 size a n n,by simp only [ez,bD,dm (Nat.le_of_lt hn),ob],hk _ ?_⟩;have:sliceEnd l 0 size a n n = .slice l (0+a*size) (n - a) (.exact (n - a)):=by
    unfold sliceEnd;rw [show Nat.beq n a=false from by rw [<-Bool.not_eq_true];exact λe=>by have:=Nat.eq_of_beq_eq_true e;omega]
   rw [this];exact .row hg (bG hl)
 | @ends l _ _ hg hl=>
   refine ⟨.slice l (0+a*size) (n - a) (.toEnd size),?_,hk _ (.row hg (bG hl))⟩;simp only [ez,bD,dm (Nat.le_of_lt hn),ob,Nat.beq_refl,bN];rw [show (Nat.blt a n||Nat.beq a 0)=true from by rw [Bool.or_eq_true];left;simpa using hn]
theorem LL:∀(i:Nat) (vs:List V),bd vs=true->bd (vs.drop i)=true
 | 0,vs,h=>by simpa using h
 | i+1,[],_=>by simp [bd]
 | i+1,v::vs,h=>by
   simp only [bd,Bool.and_eq_true] at h;simpa using LL i vs h.2
theorem yK.drop {h:H}:∀{l:List (List Nat)} {r:List V} (i:Nat),yK h l r->yK h (l.drop i) (r.drop i)
 | l,r,0,c=>by simpa using c
 | [],[],i+1,_=>by simpa using yK.nil
 | b::l,v::r,i+1,c=>by
   cases c with
   | cons _ t=>simpa using yK.drop i t
theorem LN:∀l:List (Int×Int),bd (sJ l)=true
 | []=>rfl
 | (f,s)::r=>by simp [sJ,bd,bU,LN r]
theorem gS.less {g:Lg}{d d':dR}{f0 z0:Int}{r:List (Int×Int)}{s1:Int×Int}{k:Int}(ok:gS g d)(hg:g.cm=(f0,z0)::s1::r)(Rl:(cQ (said d.seen)).Nodup)(hs:said d'.seen=(Act.drop (jw f0.toNat)).run (said d.seen))(hk:k=s1.1 - f0)
  {ld:Lb} {sv rv:V} {rc:List V}:gS ⟨ld,sv,rv,s1::r,g.bZ.drop k.toNat,rc,g.next⟩ d'/\0<=k/\k.toNat<g.bZ.length:=by
 have EU:=ok.aai;rw [hg,List.pairwise_cons] at EU;have fC:=ok.below (f0,z0) (by rw [hg];simp);have cx:=ok.below s1 (by rw [hg];simp);have h01:=EU.1 s1 (by simp);have hh:=ok.head (f0,z0) (by rw [hg];rfl);dsimp only at fC h01 hh;have dC:∀j:Int,f0<j->bL (said d'.seen) (jw j.toNat)=bL (said d.seen) (jw j.toNat):=λj hj=>by
  rw [hs,Act.run_get _ Rl];refine tU (λhx=>?_) _;have:=Lm hx;omega
 have yL:=ok.Fh;have air:=ok.agt;rw [hg] at yL;simp at yL;have mem:∀s,s∈s1::r->s∈g.cm:=λs lJ=>by rw [hg];exact List.mem_cons_of_mem _ lJ
 refine ⟨⟨by simp;omega,by rw [List.length_drop];omega,ok.one,ok.top,EU.2,λs lJ=>ok.below s (mem s lJ),λs lJ=>?_,λs lJ=>ok.size s (mem s lJ),λj hj=>?_,λs lJ=>?_,λlJ=>by simp at lJ⟩,by omega,by omega⟩
 ·rw [dC s.1 (EU.1 s lJ)];exact ok.files s (mem s lJ)
 ·have hj:g.next<=j:=hj
  rw [dC j (by omega)];exact ok.free j hj
 ·simp at lJ
  subst lJ;show s1.1+((g.bZ.drop k.toNat).length:Int)=g.next
  rw [List.length_drop];omega
theorem WL:bM pf G0 wA (vu eZ 1 24):=⟨_,Go.Proofs.Tryz.func128,by kernel_rfl⟩
theorem WM:bM pf G0 uV (vu fJ 2 16):=⟨_,Go.Proofs.Tryz.func129,by kernel_rfl⟩
theorem Lk.trimmed {h h1 h3:H}{lg:Lb}{g:Lg}{d d1:dR}{f0 z0:Int}{r:List (Int×Int)}{s1:Int×Int}{k:Int}{sv2 rv2:V}(L:Lk h lg g d)(hg:g.cm=(f0,z0)::s1::r)(hk:k=s1.1 - f0)
  (D1:bJ h1 g.ld d1) (a2:d1.room=d.room) (a3:said d1.seen=(Act.drop (jw f0.toNat)).run (said d.seen)) (a4:d1.last=d.last) (a5:d1.aH=d.aH++[.drop (jw f0.toNat)]) (a6:d1.held=hdo d.held d.ch (jw f0.toNat) (bL (said d1.seen) (jw f0.toNat)))
  (a7:∀l,l∈d1.own g.ld->l∈d.own g.ld\/h.get l=none) (a8:Mod h h1 (d.own g.ld)) (m13:Mod h1 h3 [lg]) (aR:Wf h3)
  (C3:h3.get lg=some (.cells [.ptr g.ld 0,sv2,rv2,.int .i64 g.next] gj 0 .yes)) (S3:aE h3 fJ 2 sv2 (s1::r).length (sJ (s1::r))) (R3:aE h3 eZ 1 rv2 (g.bZ.drop k.toNat).length (g.rc.drop k.toNat)) (fs:Fr h1 sv2) (fr:Fr h1 rv2):
  LS h h3 lg g ⟨g.ld,sv2,rv2,s1::r,g.bZ.drop k.toNat,g.rc.drop k.toNat,g.next⟩ d d1 1:=by
 have hl:∀q,q∈[lg]->q∈g.own lg:=λq hq=>by rw [List.mem_singleton] at hq;subst hq;simp [Lg.own]
 have L1:iQ h1 lg g:=L.log.mono a8 (L.log.iK L.iE);obtain ⟨ok,k0,k1⟩:=L.ok.less (ld:=g.ld) (sv:=sv2) (rv:=rv2) (rc:=g.rc.drop k.toNat) hg (gk L.iE.seen) a3 hk;have dev:OB d [.act (.drop (jw f0.toNat))] d1:=.act a2 a3 a4 a5 a6;refine ⟨⟨⟨C3,S3,R3,(L.log.rcs.mono (a8.trans m13)).drop _⟩,D1.mono m13 λq hq hm=>L1.iK D1 q (hl q hm) hq,ok,dev.cons L.iE.nod L.cons⟩,rfl,by rw [a5];simp,by show (g.bZ.drop k.toNat).length<=_;rw [List.length_drop];omega,by show g.next.toNat<=_;omega,λq hq=>?_,(a8.trans m13).mono λq _ _ hq=>?_,aR⟩
 ·rcases List.mem_append.1 hq with hq | hq
  ·simp only [Lg.own,List.mem_cons,List.mem_append] at hq
   rcases hq with rfl | hq | hq
   ·left;simp [Lg.all,Lg.own]
   ·have:=fs q hq
    rcases yS a8 this with e | e
    ·exact .inr e
    ·exact .inl (List.mem_append_right _ e)
   ·have:=fr q hq
    rcases yS a8 this with e | e
    ·exact .inr e
    ·exact .inl (List.mem_append_right _ e)
  ·exact (a7 q hq).imp_left λx=>List.mem_append_right _ x
 ·rcases List.mem_append.1 hq with hq | hq
  ·exact List.mem_append_right _ hq
  ·exact List.mem_append_left _ (hl q hq)
theorem LS.Yq {h h1 h2:H}{lg:Lb}{g g1:Lg}{d d1 d2:dR}{k:Nat}(T:LS h h1 lg g g1 d d1 k)(hr:g1.bZ.length<=g.bZ.length)(hx:g1.next=g.next)
  (b1:bJ h2 g1.ld d2) (b2:d2.room=d1.room) (b3:(said d2.seen).Perm (said d2.last)) (b4:said d2.last=runs d1.aH (said d1.last)) (b5:d2.aH=[]) (b6:vG d2.held (said d2.last))
  (b7:∀l,l∈d2.own g1.ld->l∈d1.own g1.ld\/h1.get l=none) (b8:Mod h1 h2 (d1.own g1.ld)) (b9:Wf h2):LS h h2 lg g g1 d d2 0:=by
 have dev:OB d1 [.flush] d2:=.flush b2 b3 b4 b5 b6;have C2:=dev.cons T.lk.iE.nod T.lk.cons;have same:∀k,bL (said d2.seen) k=bL (said d1.seen) k:=(Cons.flush T.lk.iE b1 T.lk.cons b3 b4 b5).2;have ok:=T.lk.ok;have U:LS h1 h2 lg g1 g1 d1 d2 0:=⟨⟨T.lk.log.mono b8 (T.lk.log.iK T.lk.iE),b1,⟨ok.Fh,ok.agt,ok.one,ok.top,ok.aai,ok.below,λs hs=>by rw [same];exact ok.files s hs,ok.size,λj hj=>by rw [same];exact ok.free j hj,ok.head,ok.none⟩,C2⟩,rfl,by rw [b5];simp,by omega,by omega,λq hq=>by
  rcases List.mem_append.1 hq with hq | hq
  ·exact .inl (List.mem_append_left _ hq)
  ·exact (b7 q hq).imp_left λx=>List.mem_append_right _ x,b8.mono λl _ _ hl=>List.mem_append_right _ hl,b9⟩
 have V:=T.trans U (Nat.le_refl _);exact ⟨V.lk,V.ld,by rw [b5];simp,by omega,by rw [hx];omega,V.own,V.mod,V.wf⟩
theorem Uc {h:H}{lg:Lb}{g:Lg}{d:dR}{tt:Int}(hw:Wf h)(L:Lk h lg g d)(hn:d.aH.length+g.cm.length<=1000000000){Q:V->H->Prop}
  (hq:∀h' g' d' (e:Int),LS h h' lg g g' d d' 0->Q (.int .i64 e) h'):CW pf G0 rS [.ptr lg 0,.int .i64 tt] h Q:=by
 obtain ⟨ld,sv,rv,cm,bZ,rc,nx⟩:=g;have C:=L.log.cell;have S:=L.log.cm;dsimp only at C S hn;refine EA.enter (by kernel_rfl) ?_;cbv;refine sa C ?_;cbv;refine .of C rfl ?_;cbv;refine .of S.sl λn eT Fj=>?_;cbv;refine .lt (λbA=>?_) λjb=>?_
 ·cbv;exact hq h _ d 0 (LS.refl L hw 0)
 obtain ⟨s0,s1,r,nQ⟩:∃s0 s1 r,cm=s0::s1::r:=by
  rcases cm with _ | ⟨a,_ | ⟨b,c⟩⟩
  ·simp at Fj;omega
  ·simp at Fj;omega
  ·exact ⟨a,b,c,rfl⟩
 have OS:=tV cm 1 s1 (by rw [nQ];rfl);have I5:1<cm.length:=by rw [nQ];simp
 clear nQ;obtain ⟨f1,z1⟩:=s1;dsimp only at OS;cbv;refine .of C rfl ?_;cbv;refine .of S.sl (by decide) rfl I5 OS λl off iR=>?_;cbv;refine .gH iR 0 rfl ?_;cbv;refine .gt (λIq=>?_) λhle=>?_
 ·cbv;exact hq h _ d 0 (LS.refl L hw 0)
 cbv;refine .inv [p0,p1] (λm' aC h'=>∃g' d',aC=[.ptr lg 0,.int .i64 tt]/\m'=g'.cm.length/\d'.aH.length+g'.cm.length<=d.aH.length+cm.length/\g'.bZ.length<=bZ.length/\g'.next=nx/\LS h h' lg ⟨ld,sv,rv,cm,bZ,rc,nx⟩ g' d d' (d.aH.length+cm.length)) [_,_] rfl _ ⟨_,d,rfl,rfl,Nat.le_refl _,Nat.le_refl _,rfl,LS.refl L hw _⟩ ?_;rintro m' _ h1 ⟨g1,d1,rfl,dY,hac,hrc,Mc,T⟩;obtain ⟨ld1,sv1,rv1,sb,Ud,rc1,nx1⟩:=g1;have C1:=T.lk.log.cell;have S1:=T.lk.log.cm;have R1:=T.lk.log.bZ;have D1:=T.lk.iE;have AK:=T.ld;dsimp only at C1 S1 R1 D1 dY hac hrc Mc AK;subst AK Mc;have aM:=T.wf;cbv;refine .of C1 rfl ?_;cbv;refine .of S1.sl λn1 amX apZ=>?_;cbv;refine .gt (λIq=>?_) λhle=>?_;rotate_left
 ·cbv;refine .of C1 rfl ?_
  cbv;refine Lj aM D1 (by omega) λh2 d2 b1 b2 b3 b4 b5 b6 b7 b8 b9=>?_;cbv;exact hq h2 _ d2 0 (T.Yq hrc rfl b1 b2 b3 b4 b5 b6 b7 b8 b9)
 obtain ⟨s0,s1,r,nQ⟩:∃s0 s1 r,sb=s0::s1::r:=by
  rcases sb with _ | ⟨a,_ | ⟨b,c⟩⟩
  ·simp at apZ;omega
  ·simp at apZ;omega
  ·exact ⟨a,b,c,rfl⟩
 have aei:=tV sb 0 s0 (by rw [nQ];rfl);have OS:=tV sb 1 s1 (by rw [nQ];rfl);have ais:0<sb.length:=by rw [nQ];simp
 have I5:1<sb.length:=by rw [nQ];simp
 obtain ⟨f0,z0⟩:=s0;obtain ⟨f1,z1⟩:=s1;dsimp only at aei OS;have fC:=T.lk.ok.below (f0,z0) (by show _∈sb;rw [nQ];simp);have cx:=T.lk.ok.below (f1,z1) (by show _∈sb;rw [nQ];simp);have QH:=T.lk.ok.top;have air:=T.lk.ok.agt;have yL:=T.lk.ok.Fh;obtain ⟨fb,gG,_⟩:=T.lk.ok.files (f0,z0) (by show _∈sb;rw [nQ];simp);dsimp only at fC cx QH gG air yL;cbv;refine .of C1 rfl ?_;cbv;refine .of S1.sl (by decide) rfl I5 OS λl off iR=>?_;cbv;refine .gH iR 0 rfl ?_;cbv;refine .le (λhle=>?_) λawE=>?_;rotate_left
 ·cbv;refine .of C1 rfl ?_
  cbv;refine Lj aM D1 (by omega) λh2 d2 b1 b2 b3 b4 b5 b6 b7 b8 b9=>?_;cbv;exact hq h2 _ d2 0 (T.Yq hrc rfl b1 b2 b3 b4 b5 b6 b7 b8 b9)
 clear iR;cbv;refine .of follows 5 ?_;cbv;refine .of C1 rfl ?_;cbv;refine .of C1 rfl ?_;cbv;refine .of S1.sl (by decide) rfl ais aei λl off iR=>?_;cbv;refine .gH iR 0 rfl ?_;cbv;refine j0 (by omega) (by omega) λnm si=>?_;cbv;refine .load C1 rfl (.nil ?_);cbv;refine aac aM D1 (by rw [si];exact zC (by omega)) (by omega) (λbq=>?_) λh2 d2 a1 a2 a3 a4 a5 a6 a7 a8 a9 a10=>?_
 ·rw [si,gG] at bq;cases bq
 clear iR;rw [si] at a3 a5 a6;refine .nil ?_;cbv;refine .eC rfl ?_;have L2:=T.lk.log.mono a8 (T.lk.log.iK T.lk.iE);have C2:=L2.cell;have S2:=L2.cm;have R2:=L2.bZ;dsimp only at C2 S2 R2;obtain ⟨_,k0,k1⟩:=T.lk.ok.less (ld:=ld1) (sv:=sv1) (rv:=rv1) (rc:=rc1) nQ (gk D1.seen) a3 rfl;dsimp only at k0 k1;cbv;refine .of follows 5 ?_;cbv;refine .of C2 rfl ?_;cbv;refine .of C2 rfl ?_;cbv;refine .of S2.sl (by decide) rfl I5 OS λl off iR=>?_;cbv;refine .gH iR 0 rfl ?_;cbv;refine .of C2 rfl ?_;cbv;refine .of S2.sl (by decide) rfl ais aei λl2 Fk Wo=>?_;cbv;refine .gH Wo 0 rfl ?_;cbv;refine .sub (by omega) (by omega) λk hk=>?_;rw [<-hk] at k0 k1;cbv;refine .rest R2 k0 k1 λv hv=>?_;rw [Nat.mul_one] at hv;have awF:bd (rc1.drop k.toNat)=true:=LL _ _ T.lk.log.rcs.bd;have Wj:Ud.length - k.toNat=(Ud.drop k.toNat).length:=by rw [List.length_drop]
 rw [Wj] at hv;have agr:(Ud.drop k.toNat).length<=1000000000:=by rw [List.length_drop];omega
 cbv;refine mH WL a9 hv awF (by omega) (by decide) λrv2 h3 fT lL=>?_;refine .nil ?_;have C3:=lL.mod.get C2 (by simp);have nlg:∀v,Fr h2 v->lg∉af v:=λv hv hm=>by have:=hv lg hm;rw [C2] at this;cases this
 cbv;refine .one lL.wf C3 fT.sl.flat rfl rfl rfl λh4 vy aD aQ=>?_;refine .nil ?_;have jv:=fT.mono aD (fk (nlg _ lL.fr));have S4:aE h4 fJ 2 sv1 sb.length (sJ sb):=(S2.mono lL.mod (by simp)).mono aD λq AP hm=>by
  rw [List.mem_singleton] at hm;rw [hm] at AP;obtain ⟨r',B8⟩:=S2.row AP;rw [C2] at B8;cases B8
 cbv;refine .of vy rfl ?_;cbv;refine .rest S4 (by decide) I5 λv2 hv2=>?_;have yZ:(sJ sb).drop (Int.toNat 1*2)=sJ ((f1,z1)::r):=by rw [nQ];rfl
 have hs3:sb.length - Int.toNat 1=((f1,z1)::r).length:=by rw [nQ];rfl
 rw [yZ,hs3] at hv2;have qN:((f1,z1)::r).length<=1000000000:=by rw [nQ] at yL;simp at yL ⊢;omega
 cbv;refine mH WM aQ hv2 (LN _) (by omega) (by decide) λsv2 h5 kh Ux=>?_;have C5:=Ux.mod.get vy (by simp);have m25:Mod h2 h5 [lg]:=((lL.mod.trans aD).trans Ux.mod).mono λq _ _ hq=>by simpa using hq
 have fs5:Fr h2 sv2:=λq hq=>by
  have:=Ux.fr q hq;rcases yS (lL.mod.trans aD) this with e | e
  ·exact e
  ·simp at e;subst e;rw [vy] at this;cases this
 cbv;refine .one Ux.wf C5 kh.sl.flat rfl rfl rfl λh6 Gu bP cy=>?_;have m26:Mod h2 h6 [lg]:=(m25.trans bP).mono λq _ _ hq=>by simpa using hq
 have pZ:=kh.mono bP (fk (nlg _ fs5));have vP:=(jv.mono Ux.mod (by simp)).mono bP (fk (nlg _ lL.fr));have U:=T.lk.trimmed (h3:=h6) (sv2:=sv2) (rv2:=rv2) nQ hk a1 a2 a3 a4 a5 a6 a7 a8 m26 cy Gu pZ vP fs5 lL.fr;have UA:=U.aH;have TA:=T.aH;have vS:d2.aH.length=d1.aH.length+1:=by rw [a5];simp
 have mD:sb.length=((f1,z1)::r).length+1:=by rw [nQ];rfl
 have V:LS h h6 lg ⟨ld1,sv,rv,cm,bZ,rc,nx1⟩ ⟨ld1,sv2,rv2,(f1,z1)::r,Ud.drop k.toNat,rc1.drop k.toNat,nx1⟩ d d2 (d.aH.length+cm.length):=by
  have W:=T.trans U (Nat.le_refl _);refine ⟨W.lk,rfl,by omega,by show (Ud.drop k.toNat).length<=bZ.length+_;omega,by show nx1.toNat<=nx1.toNat+_;omega,W.own,W.mod,W.wf⟩
 cbv;exact ⟨rfl,((f1,z1)::r).length,by omega,_,d2,rfl,rfl,by dsimp only;omega,by dsimp only;rw [List.length_drop];omega,rfl,V⟩
end K
namespace K
open Go Go.Dx Go.RowKit Go.Proofs
set_option maxRecDepth 100000
structure KS (h h':H)(ls:Lb)(s:xl)(g g':Lg)(d d':dR)(k:Nat):Prop where
 lk:Lk h' s.lg g' d'
 items:h'.get s.li=some (.map (cg s.items) s.ci)
 nls:ls∉g'.all s.lg d'
 nli:s.li∉g'.all s.lg d'
 ld:g'.ld=g.ld
 aH:d'.aH.length<=d.aH.length+k
 bZ:g'.bZ.length<=g.bZ.length+k
 next:g'.next.toNat<=g.next.toNat+k
 own:∀q,q∈g'.all s.lg d'->q∈g.all s.lg d\/h.get q=none
 mod:Mod h h' (ls::g.all s.lg d)
 wf:Wf h'
theorem eR.ks {h:H}{ls:Lb}{s:xl}{g:Lg}{d:dR}(S:eR h ls s g d)(C:Cons d)(hw:Wf h):KS h h ls s g g d d 0:=
 ⟨⟨S.log,S.iE,S.ok,C⟩,S.items,λhm=>by
  rcases List.mem_append.1 hm with hm | hm
  ·exact S.log.off S.cell (by decide) hm
  ·exact S.iE.off S.cell (by decide) hm,λhm=>by
  rcases List.mem_append.1 hm with hm | hm
  ·exact S.log.Gt S.items hm
  ·exact S.apart hm,rfl,by omega,by omega,by omega,λq hq=>.inl hq,Mod.refl _ _,hw⟩
theorem KS.cell {h h1 h2:H}{ls:Lb}{s:xl}{g g1:Lg}{d d1:dR}{k:Nat}(K:KS h h1 ls s g g1 d d1 k)(m:Mod h1 h2 [ls])(hw:Wf h2)(Pz:∃vs e,h1.get ls=some (.cells vs e 0 .yes)):KS h h2 ls s g g1 d d1 k:=by
 have ne:s.li≠ls:=λe=>by obtain ⟨vs,t,hl⟩:=Pz;have:=K.items;rw [e,hl] at this;cases this
 exact ⟨K.lk.mono m λl hl hm=>by rw [List.mem_singleton] at hm;rw [hm] at hl;exact K.nls hl,m.get K.items (by simpa using ne),K.nls,K.nli,K.ld,K.aH,K.bZ,K.next,K.own,(K.mod.trans m).mono λq _ _ hq=>by
  simp at hq ⊢;rcases hq with h | h | h<;>simp [h],hw⟩
theorem KS.new {h h1 h2:H}{ls:Lb}{s:xl}{g g1:Lg}{d d1:dR}{k:Nat}(K:KS h h1 ls s g g1 d d1 k)(m:Mod h1 h2 [])(hw:Wf h2):KS h h2 ls s g g1 d d1 k:=
 ⟨K.lk.mono m,m.get K.items,K.nls,K.nli,K.ld,K.aH,K.bZ,K.next,K.own,(K.mod.trans m).mono λq _ _ hq=>by simpa using hq,hw⟩
theorem KS.log {h h1 h2:H}{ls:Lb}{s:xl}{g g1 g2:Lg}{d d1 d2:dR}{k k1 k2:Nat}(K:KS h h1 ls s g g1 d d1 k)(T:LS h1 h2 s.lg g1 g2 d1 d2 k1)(hl:h1.get ls≠none)(hk:k+k1<=k2):KS h h2 ls s g g2 d d2 k2:=by
 have a1:=K.aH;have a2:=T.aH;have b1:=K.bZ;have b2:=T.bZ;have c1:=K.next;have c2:=T.next;refine ⟨T.lk,T.mod.get K.items K.nli,λhm=>?_,λhm=>?_,T.ld.trans K.ld,by omega,by omega,by omega,λq hq=>?_,K.mod.fr T.mod λl hl=>?_,T.wf⟩
 ·rcases T.own _ hm with e | e
  ·exact K.nls e
  ·exact hl e
 ·rcases T.own _ hm with e | e
  ·exact K.nli e
  ·rw [K.items] at e;cases e
 ·rcases T.own q hq with e | e
  ·exact K.own q e
  ·rcases yS K.mod e with e2 | e2
   ·exact .inr e2
   ·rcases List.mem_cons.1 e2 with e3 | e3
    ·subst e3;exact absurd e hl
    ·exact .inl e3
 ·rcases K.own l hl with e | e
  ·exact .inr (List.mem_cons_of_mem _ e)
  ·exact .inl e
theorem KS.store {h h':H}{ls:Lb}{s:xl}{g g':Lg}{d d':dR}{k:Nat}{syn:Int}(K:KS h h' ls s g g' d d' k)(iok:fG s.items s.ci)(rows:∀e,e∈s.items->e.1.length<=128/\GJ e.2.1)
  (hl:h'.get ls=some (.cells [.int .i32 0,.int .u32 0,.ptr s.lg 0,.map s.li,.int .i64 s.version,.int .i64 syn] gA 0 .yes)):
  eR h' ls {s with synced:=syn} g' d'/\(∀q,q∈xl.own {s with synced:=syn} ls g' d'->q∈s.own ls g d\/h.get q=none)/\Mod h h' (s.own ls g d):=by
 refine ⟨⟨hl,K.items,iok,rows,K.lk.log,K.lk.iE,K.lk.ok,λhm=>K.nli (List.mem_append_right _ hm)⟩,λq hq=>?_,K.mod.mono λq _ _ hq=>?_⟩
 ·rcases List.mem_cons.1 hq with e | hq
  ·subst e;exact .inl (by simp [xl.own])
  ·rcases List.mem_cons.1 hq with e | hq
   ·exact .inl (by rw [e];simp [xl.own])
   ·exact (K.own q hq).imp_left λx=>List.mem_cons_of_mem _ (List.mem_cons_of_mem _ x)
 ·rcases List.mem_cons.1 hq with e | hq
  ·subst e;simp [xl.own]
  ·exact List.mem_cons_of_mem _ (List.mem_cons_of_mem _ hq)
theorem WN {h:H}{ls:Lb}{s:xl}{g:Lg}{d:dR}{k:Nat}(hw:Wf h)(S:eR h ls s g d)(C:Cons d)(hk:k=s.items.length+2)(Fc:k<=100000000)(hn:d.aH.length<=100000000)(hr:g.bZ.length<=100000000)(hx:g.next.toNat<=100000000)(hv0:0<=s.version)(hv:s.version<=1099511627776){Q:V->H->Prop}
  (hq:∀h' syn g' d' (e:Int),g'.ld=g.ld->eR h' ls {s with synced:=syn} g' d'->Cons d'->d'.aH.length<=d.aH.length+k->g'.bZ.length<=g.bZ.length+k->g'.next.toNat<=g.next.toNat+k->
   (∀q,q∈xl.own {s with synced:=syn} ls g' d'->q∈s.own ls g d\/h.get q=none)->Mod h h' (s.own ls g d)->Wf h'->Q (.int .i64 e) h'):CW pf G0 fH [.ptr ls 0] h Q:=by
 have C0:=S.cell;have K0:=S.ks C hw;have iok:=S.iok;have rows:=S.rows;obtain ⟨lg,li,items,ci,WI,syn⟩:=s;dsimp only at C0 hk hv0 hv iok rows;have fin:∀{h3 h4:H} {g':Lg} {d':dR} {sy e:Int},KS h h3 ls ⟨lg,li,items,ci,WI,syn⟩ g g' d d' k->(∃vs e,h3.get ls=some (.cells vs e 0 .yes))->Mod h3 h4 [ls]->Wf h4->h4.get ls=some (.cells [.int .i32 0,.int .u32 0,.ptr lg 0,.map li,.int .i64 WI,.int .i64 sy] gA 0 .yes)->Q (.int .i64 e) h4:=λ{h3 h4 g' d' sy e} K hl m aQ vy=>by
  have K4:=K.cell m aQ hl;obtain ⟨a,b,c⟩:=K4.store (syn:=sy) iok rows vy;exact hq h4 sy g' d' e K4.ld a K4.lk.cons K4.aH K4.bZ K4.next b c aQ
 refine tL.enter (by kernel_rfl) ?_;cbv;refine IQ C0 ?_;cbv;refine Cz hw C0 λh1 xv ar aM=>?_;have K1:=K0.cell ar aM ⟨_,_,C0⟩;cbv;refine .of xv rfl ?_;cbv;refine Ua K1.lk.log ?_;generalize g.next=nx;cbv;refine .of xv rfl ?_;cbv;refine .of aM λlb h2 cR gG aq aN=>?_;have K2:=K1.new aq aN;have jc:=aq.get xv;cbv;refine mN aN K2.lk (by omega) (Nat.le_trans hx (by decide)) (by omega) (vb:=.slice lb 0 1 (.exact 1)) (bs:=[4]) (.row cR rfl) (λl hl hm=>?_) (by decide) (by simp) λh3 g3 d3 n e T=>?_
 ·simp [af] at hl;subst hl
  exact K1.lk.live hm gG
 have K3:=K2.log T (by rw [jc];simp) (show 0+1<=1 by omega);have iY:=T.mod.get jc K2.nls;have wk:∀{h':H} {g':Lg} {d':dR} {k':Nat},KS h h' ls ⟨lg,li,items,ci,WI,syn⟩ g g' d d' k'->k'<=k->KS h h' ls ⟨lg,li,items,ci,WI,syn⟩ g g' d d' k:=λK G6=>{K with aH:=by have:=K.aH;omega,bZ:=by have:=K.bZ;omega,next:=by have:=K.next;omega};cbv;refine .ne (λe0=>?_) λe1=>?_;rotate_left
 ·cbv;refine cq K3.wf iY λh4 vy aD aQ=>?_
  cbv;exact fin (h3:=h3) (h4:=h4) (wk K3 (by omega)) ⟨_,_,iY⟩ aD aQ vy
 have OE:h3.get li=some (.map (cg items) ci):=K3.items;cbv;refine aeh K3.wf iY OE iok rows (by omega) λv h4 l jv hll awH Hy=>?_;have vy:=Hy.get iY;have K4:=K3.new Hy.mod Hy.wf;have nv:∀q,q∈af v->q∉g3.all lg d3:=λq hq hm=>K3.lk.live hm (Hy.fr q hq);have nvl:ls∉af v:=λhm=>by have:=Hy.fr ls hm;rw [iY] at this;cases this
 cbv;refine .of jv.sl λm hm0 hmn=>?_;cbv;refine .inv [p0,p3,p42,p43,p44] (λm' aC h'=>∃(i:Int) (g':Lg) (d':dR),aC=[.ptr ls 0,.int .i64 nx,v,.int .i64 m,.int .i64 i]/\0<=i/\i.toNat<=l.length/\m'=l.length - i.toNat/\KS h h' ls ⟨lg,li,items,ci,WI,syn⟩ g g' d d' (i.toNat+1)/\h'.get ls=some (.cells [.int .i32 1,.int .u32 0,.ptr lg 0,.map li,.int .i64 WI,.int .i64 syn] gA 0 .yes)/\Sl h' 4 v l.length (itC l)/\(∀q,q∈af v->q∉g'.all lg d')) [_,_,_,_,_] rfl _
  ⟨0,g3,d3,rfl,by omega,by simp,rfl,K4,vy,jv.sl,nv⟩ ?_
 rintro m' _ h5 ⟨i,g5,d5,rfl,jG,Nv,dY,K5,Bg,hs5,nv5⟩;have bH:=K5.wf;have a5:=K5.aH;have r5:=K5.bZ;have x5:=K5.next;cbv;refine .lt (λbA=>?_) λjb=>?_
 ·obtain ⟨x,hx⟩:∃x,l[i.toNat]? =some x:=⟨_,List.getElem?_eq_getElem (by omega)⟩
  obtain ⟨q1,q2,q3,q4⟩:=awH x (List.mem_of_getElem? hx);have bG:=Yp _ _ _ hx;obtain ⟨key,gone,val,at_⟩:=x;dsimp only at q1 q2 q3 q4 bG;cbv;refine .of hs5 jG rfl (by omega) bG λsl off iR=>?_;cbv;refine .ka iR rfl ?_;cbv;refine .of bH λlx h6 Fi I9 bP cy=>?_;cbv;refine .of (cs:=[.str key,.bool gone,.str val,.int .i64 at_]) cy Fi rfl rfl rfl rfl rfl rfl λh7 hx7 cH eu=>?_;have CC:Mod h5 h7 []:=bP.fr cH λq aU=>.inl (by rw [List.mem_singleton] at aU;rw [aU];exact I9);cbv;refine .of follows 8 ?_;cbv;refine .of eu λlr h8 hr8 dt cO ew=>?_;have Is:=cO.get hx7;cbv;refine .freshS hr8 rfl ?_;cbv;refine .of Is rfl ?_;cbv;refine .of Is rfl ?_;cbv;refine .of Is rfl ?_;cbv;refine .of Is rfl ?_;have sd:aE h8 5 1 (.slice lr 0 1 (.exact 1)) 1 (ae [2]):=.exact hr8 rfl;cbv;refine jY ew sd.sl rfl (by omega) (by omega) (by omega) λb9 h9 Jl lo9=>?_;have hx9:=lo9.get Is;have e9:=(cF (x:=at_.toNat) (by omega)).2;refine .load hx9 rfl (.load hx9 rfl (.load hx9 rfl (.nil ?_)));cbv;refine CX.bytes λcx _=>Gn lo9.wf Jl.sl (eN rfl (az _)) (by omega) (by omega) λb10 vM yI xh=>?_;have hkb:∀y∈key,y<256:=cx key (by simp);have Rz:=xh.get hx9;have e10:=(cF (x:=key.length) (by omega)).2;refine .load Rz rfl (.load Rz rfl (.nil ?_));have L10:Loc h8 vM b10:=xh.base lo9.mod;cbv;refine CX.bytes λcR _=>Yh L10 yI (eN (eN rfl (az _)) (az _)) (by rw [List.length_append];omega) (by omega) λb11 UN Bq agY=>?_;have KZ:∀y∈val,y<256:=cR val (by simp);refine .nil ?_;have Yr:Mod h5 UN []:=((CC.trans cO).trans agY.mod).mono λq _ _ aU=>by simp at aU
  have K11:=K5.new Yr agY.wf;have K8:=K5.new ((CC.trans cO).mono λq _ _ aU=>by simp at aU) ew;have QA:=Yr.get Bg;obtain ⟨bs,Mv⟩:∃bs,bs=[2]++cV at_.toNat++(cV key.length++key)++mc gone val:=⟨_,rfl⟩;have hbc:ae [2]++ae (cV at_.toNat)++ae (cV key.length++key)++ae (mc gone val)=ae bs:=by rw [Mv];simp only [aK]
  have e11:(mc gone val).length<=4110:=by
   have:=(cF (x:=val.length) (by omega)).2;unfold mc;split
   ·simp
   ·simp;omega
  have SN:1+(cV at_.toNat).length+(cV key.length++key).length+(mc gone val).length=bs.length:=by rw [Mv];simp;omega
  rw [hbc,SN] at Bq;have awI:bs.length<=9000:=by rw [<-SN];simp;omega
  have aej:∀y∈bs,y<256:=λy hy=>by
   rw [Mv] at hy;simp only [List.mem_append] at hy;rcases hy with ((hy | hy) | (hy | hy)) | hy
   ·simp at hy;omega
   ·exact jx (by omega) y hy
   ·exact jx (by omega) y hy
   ·exact hkb y hy
   ·unfold mc at hy
    split at hy
    ·simp at hy;omega
    ·rcases List.mem_cons.1 hy with rfl | hy
     ·omega
     ·rcases List.mem_append.1 hy with hy | hy
      ·exact jx (by omega) y hy
      ·exact KZ y hy
  clear hbc SN Mv;cbv;refine .of QA rfl ?_;cbv;refine mN agY.wf K11.lk (by omega) (by omega) (by omega) Bq.sl (λq aU hm=>K8.lk.live hm (agY.fr q aU)) (by omega) aej λIp g12 d12 n12 e12 T12=>?_;have K12:=K11.log T12 (by rw [QA];simp) (show i.toNat+1+1<=i.toNat+2 by omega);have xw:=T12.mod.get QA K11.nls;cbv;refine .ne (λe0=>?_) λe1=>?_;rotate_left
  ·cbv;refine cq K12.wf xw λh13 aj3 fU abB=>?_
   cbv;exact fin (h3:=Ip) (h4:=h13) (wk K12 (by omega)) ⟨_,_,xw⟩ fU abB aj3
  cbv;refine .add (by omega) (by omega) λj hj=>?_;have Ny:i.toNat+2=j.toNat+1:=by omega
  rw [Ny] at K12;have awJ:=(hs5.mono Yr).mono T12.mod nv5;have awK:∀q,q∈af v->q∉g12.all lg d12:=λq aU hm=>(T12.own q hm).elim (nv5 q aU) λe=>(hs5.mono Yr).live aU e;cbv;exact ⟨rfl,l.length - j.toNat,by omega,j,g12,d12,rfl,by omega,by omega,rfl,K12,xw,awJ,awK⟩
 ·cbv;refine .of follows 6 ?_
  cbv;refine .of bH λlr h6 vP dt bP cy=>?_;have Gu:=bP.get Bg;have K6:=K5.new bP cy;cbv;refine .of Gu rfl ?_;cbv;refine .freshS vP rfl ?_;cbv;refine .of Gu rfl ?_;have pZ:aE h6 5 1 (.slice lr 0 1 (.exact 1)) 1 (ae [3]):=.exact vP rfl;cbv;refine jY cy pZ.sl rfl (by omega) (by omega) (by omega) λb7 h7 Ma lo7=>?_;have xj:=lo7.get Gu;have K7:=K6.new lo7.mod lo7.wf;have e7:=(cF (x:=WI.toNat) (by omega)).2;obtain ⟨bs,Mv⟩:∃bs,bs=[3]++cV WI.toNat:=⟨_,rfl⟩;have hbc:ae [3]++ae (cV WI.toNat)=ae bs:=by rw [Mv];simp only [aK]
  have SN:1+(cV WI.toNat).length=bs.length:=by rw [Mv];simp;omega
  rw [hbc,SN] at Ma;have awI:bs.length<=9000:=by rw [<-SN];omega
  have aej:∀y∈bs,y<256:=λy hy=>by
   rw [Mv] at hy;simp only [List.mem_append] at hy;rcases hy with hy | hy
   ·simp at hy;omega
   ·exact jx (by omega) y hy
  clear hbc SN Mv;refine .load xj rfl (.nil ?_);cbv;refine mN lo7.wf K7.lk (by omega) (by omega) (by omega) Ma.sl (λq aU hm=>K6.lk.live hm (lo7.fr q aU)) (by omega) aej λh8 g8 d8 n8 e8 T8=>?_;have K8:=K7.log T8 (by rw [xj];simp) (show i.toNat+1+1<=k by omega);have sQ:=T8.mod.get xj K7.nls;refine .nil ?_;cbv;refine .ne (λe0=>?_) λe1=>?_;rotate_left
  ·cbv;refine cq K8.wf sQ λh9 Lf eU pd=>?_
   cbv;exact fin (h3:=h8) (h4:=h9) K8 ⟨_,_,sQ⟩ eU pd Lf
  have a8:=K8.aH;have x8:=K8.next;cbv;refine .of sQ rfl ?_;cbv;refine LG K8.wf K8.lk (by omega) λh9 d9 e9 T9=>?_;have K9:=K8.log T9 (by rw [sQ];simp) (show k+0<=k by omega);have Lf:=T9.mod.get sQ K8.nls;cbv;refine .ne (λe0=>?_) λe1=>?_;rotate_left
  ·cbv;refine cq K9.wf Lf λvM AH gZ sU=>?_
   cbv;exact fin (h3:=h9) (h4:=vM) K9 ⟨_,_,Lf⟩ gZ sU AH
  cbv;refine .of Lf rfl ?_;cbv;refine .one (vs':=[.int .i32 1,.int .u32 0,.ptr lg 0,.map li,.int .i64 WI,.int .i64 WI]) K9.wf Lf rfl rfl rfl rfl λvM AH gZ sU=>?_;have K10:=K9.cell gZ sU ⟨_,_,Lf⟩;have a10:=K10.aH;have x10:=K10.next;have sg:=K10.lk.ok.WJ;cbv;refine .of AH rfl ?_;cbv;refine Uc sU K10.lk (by omega) λUN g11 d11 e11 T11=>?_;have K11:=K10.log T11 (by rw [AH];simp) (show k+0<=k by omega);have QA:=T11.mod.get AH K10.nls;cbv;refine cq K11.wf QA λIp xw kd O1=>?_;cbv;exact fin (h3:=UN) (h4:=Ip) K11 ⟨_,_,QA⟩ kd O1 xw
end K
namespace K
open Go Go.Dx Go.RowKit Go.Proofs
set_option maxRecDepth 100000
theorem aek {h:H}{lp ls:Lb}{z:Zs}{n m:Nat}(NA:z.r.ls=ls)(hw:Wf h)(Z:E6 h lp z n m)(hn:n<=100000000){Q:V->H->Prop} (hq:∀h' z',ZS h h' lp z z' n m->z'.r=z.r->z'.g=z.g->nU z.g z.d z'.d->Q (.int .i64 0) h'):CW pf G0 iA [.ptr ls 0] h Q:=by
 subst NA;have ha:=Z.aH;refine agU hw Z.sto (by omega) λh' d' S' so hle sY hm cG=>?_;obtain ⟨ops,dev⟩:=so.dev;have EY:∀q,q∈xl.own {z.s with synced:=z.s.version} z.r.ls z.g d'->q∈z.s.own z.r.ls z.g z.d\/h.get q=none:=λq hq=>by
  simp only [xl.own,List.mem_cons,List.mem_append] at hq ⊢;rcases hq with e | e | e | e
  ·exact .inl (.inl e)
  ·exact .inl (.inr (.inl e))
  ·exact .inl (.inr (.inr (.inl e)))
  ·exact (sY q e).imp_left λx=>.inr (.inr (.inr x))
 refine hq h' ⟨z.r,{z.s with synced:=z.s.version},z.g,d'⟩ ⟨⟨Z.ub.mono hm λq hq hm=>Z.apart q hq hm,S',λq hq hm=>?_,dev.cons Z.sto.iE.nod Z.cons,by dsimp only;omega,Z.bZ,Z.next,Z.v0,Z.v1,Z.items⟩,λq hq=>?_,hm.mono λq _ _ hq=>List.mem_append_right _ hq,cG,rfl⟩ rfl rfl so
 ·rcases EY q hm with e | e
  ·exact Z.apart q hq e
  ·exact Z.ub.live hq e
 ·rcases List.mem_append.1 hq with hq | hq
  ·exact .inl (List.mem_append_left _ hq)
  ·exact (EY q hq).imp_left λx=>List.mem_append_right _ x
theorem aaH {h:H}{lp ls:Lb}{z:Zs}{n m:Nat}(NA:z.r.ls=ls)(hw:Wf h)(Z:E6 h lp z n m)(hn:n<=10000000)(eU:m<=1000){Q:V->H->Prop} (hq:∀h' z' (e:Int),ZS h h' lp z z' (n+256*m+2) m->z'.r=z.r->Q (.int .i64 e) h'):CW pf G0 fH [.ptr ls 0] h Q:=by
 subst NA;have ha:=Z.aH;have hr:=Z.bZ;have hx:=Z.next;have hv0:=Z.v0;have MG:=Z.v1;have hi:=Z.items;refine WN hw Z.sto Z.cons rfl (by omega) (by omega) (by omega) (by omega) hv0 (by omega) λh' syn g' d' e eld S' C' b1 b2 b3 EY hm cG=>?_;refine hq h' ⟨z.r,{z.s with synced:=syn},g',d'⟩ e ⟨⟨Z.ub.mono hm λq hq hm=>Z.apart q hq hm,S',λq hq hm=>?_,C',by dsimp only;omega,by dsimp only;omega,by dsimp only;omega,Z.v0,Z.v1,Z.items⟩,λq hq=>?_,hm.mono λq _ _ hq=>List.mem_append_right _ hq,cG,eld⟩ rfl
 ·rcases EY q hm with e | e
  ·exact Z.apart q hq e
  ·exact Z.ub.live hq e
 ·rcases List.mem_append.1 hq with hq | hq
  ·exact .inl (List.mem_append_left _ hq)
  ·exact (EY q hq).imp_left λx=>List.mem_append_right _ x
theorem Ue {h:H}{lp:Lb}{z:Zs}{n m:Nat}(hw:Wf h)(Z:E6 h lp z n m)(hn:n<=10000000)(eU:m<=1000){Q:V->H->Prop} (hq:∀h' z' (e:Int),ZS h h' lp z z' (n+256*m+2) m->z'.r=z.r->Q (.int .i64 e) h'):CW pf G0 iz [.ptr lp 0] h Q:=by
 have C:=Z.ub.cell;have hc:=λls (e:z.r.ls=ls)=>aaH (Q:=Q) e hw Z hn eU hq;generalize z.r.ls=ls at*;generalize z.r.lv=lv at*;generalize z.r.sv=sv at*;generalize z.r.lm=lm at*;refine qJ.enter (by kernel_rfl) ?_;cbv;refine qT C ?_;cbv;refine .of C rfl ?_;cbv;refine (hc ls rfl).mono λv h' q=>?_;cbv;exact q
end K
