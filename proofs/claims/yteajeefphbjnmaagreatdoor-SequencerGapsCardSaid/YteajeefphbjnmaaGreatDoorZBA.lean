/-
  The sequencer's laws. Part ZBA of the proof: slices.Grow and slices.Concat at texts.
-/
import Derived.KernelRfl
import Derived.Sort.MapsRangeIn
import Derived.WalkKit
import Derived.OwnWalkIn
import Derived.TacticsInMore
import Derived.RegionIn
import Derived.LoopNIn
import Derived.LoopIn
import Derived.RangeFuncGives
import Derived.Shelf.SlIter.Collect
import Derived.Test.YteajeefphbjnmaaGreatDoorZAZ
import Derived.Test.YteajeefphbjnmaaGreatDoorZAL
namespace K
open Go Go.Dx Go.RowKit Go.Proofs
set_option maxRecDepth 100000
inductive SpS (h:H)(n:Nat):V->List (List Nat)->Prop
 | nil (hn:n=0):SpS h n (.nilSlice 0) []
 | row {l:Lb} {cs:List V} {ks:List (List Nat)} (hg:h.get l=some (.cells cs 9 0 .yes)) (hn:cs.length=n) (hl:ks.length<=n) (ht:cs.take ks.length=strs ks):SpS h n (.slice l 0 ks.length (.toEnd 1)) ks
theorem SpS.own {h:H}{n:Nat}{v:V}{ks:List (List Nat)}(s:SpS h n v ks)(hk:ks.length=n):aE h 9 1 v ks.length (strs ks):=by
 cases s with
 | nil hn=>exact .nil
 | @row l cs ks hg hn hl ht=>
   rw [List.take_of_length_le (by omega)] at ht;subst ht;exact .ends hg (by rw [ep,Nat.mul_one])
theorem _root_.Go.Dx.VB.room {h:H}{n:Nat}{v x:V}{ks xs:List (List Nat)}{K:V->H->Prop} (hw:Wf h) (s:SpS h n v ks) (hx:de h 1 x=some (xs.length,strs xs)) (hn:ks.length+xs.length<=n) (hb:n<=10000000000) (hk:∀v' h',SpS h' n v' (ks++xs)->af v'=af v->Mod h h' (af v)->Wf h'->K v' h'):VB h 9 1 16 v x K:=by
 cases s with
 | nil eT=>
   have lN:xs=[]:=by cases xs with | nil=>rfl | cons a b=>simp at hn;omega
   subst lN;exact ⟨_,.nilSlice 0,h,hx,by simp [eH,bN],hk _ _ (.nil eT) rfl (Mod.refl _ _) hw⟩
 | @row l cs ks hg jQ hl ht=>
   have hp:=rO (vs:=cs) (cs:=strs xs) (i:=ks.length) (by rw [ep];omega);obtain ⟨b1,b2,b3⟩:=H.eM hw hg rfl (.cells (cs.take ks.length++strs xs++cs.drop (ks.length+(strs xs).length)) 9 0 .yes);refine ⟨_,.slice l 0 (ks.length+xs.length) (.toEnd 1),_,hx,?_,hk _ _ ?_ rfl (by simpa [af] using b2) b3⟩
   ·have e1:Nat.ble (4*(ks.length+xs.length)*16) jd=true:=Nat.ble_eq_true_of_le (by unfold jd;omega)
    have e2:Nat.ble (0+(ks.length+xs.length)*1) cs.length=true:=Nat.ble_eq_true_of_le (by omega);simp only [eH,e1,bN,hg,e2,eb,Own.may,CA];rw [show 0+ks.length*1=ks.length by omega,hp]
    rfl
   ·rw [show ks.length+xs.length=(ks++xs).length by simp]
    refine .row b1 ?_ (by simp;omega) ?_
    ·simp [ep];omega
    ·rw [List.append_assoc,ht,List.length_append,<-List.append_assoc,<-jZ,List.take_append_of_le_length (by rw [ep];simp)]
     exact List.take_of_length_le (by rw [ep];simp)
theorem Lv (z:V):∀n,(aG [z] n).length=n
 | 0=>rfl
 | n+1=>by simp [aG,Lv z n]
theorem _root_.Go.Dx.PdN.cap {pf:Unit->Program} {x:X} {tp:T V} {v r:V} {K:V->Prop} (hx:x.Vz tp=some v) (hr:Xx v=some r) (hk:K r):PdN pf (.cap x) tp K:=
 ⟨λtm s=>⟨r,by simp only [PD.eval,sr s hx,hr],hk⟩⟩
theorem agI {h:H}{n:Int}(hw:Wf h)(h0:0<=n)(hn:n.toNat<=1000000){Q:V->H->Prop} (hq:∀v h',SpS h' n.toNat v []->Fr h v->Mod h h' []->Wf h'->Q v h'):CW pf G0 nJ [.nilSlice 0,.int .i64 n] h Q:=by
 refine yP.enter (by kernel_rfl) ?_;cbv;refine .FP (by omega) ?_;have nl:Sl h 1 (.nilSlice 0) 0 []:=(aE.nil (h:=h) (e:=9) (size:=1)).sl;cbv;refine .cap (r:=.int .i64 0) rfl rfl ?_;cbv;refine .of nl λu hu0 hu=>?_;cbv;refine .sub (by omega) (by omega) λz hz=>?_;have hz0:z=0:=by omega
 subst hz0;cbv;refine .sub (by omega) (by omega) λk hk=>?_;have hkn:k=n:=by omega
 subst hkn;cbv;refine .gt (λPw=>?_) λhle=>?_
 ·cbv;refine .cap (r:=.int .i64 0) rfl rfl ?_
  cbv;refine ⟨⟨.nilSlice 0,rfl,?_⟩⟩;obtain ⟨a,rfl⟩:=Int.eq_ofNat_of_zero_le h0;have ha:a<=1000000:=by simpa using hn
  have ha0:0<a:=by omega
  obtain ⟨a1,a2,a3,a4⟩:=H.add_mod hw (.cells (aG [.str []] a) 9 0 .yes);have haz:azV h 9 1 16 [.str []] (.nilSlice 0) (.int .i64 (.ofNat a))=some (.slice h.next 0 a (.toEnd 1),h.add (.cells (aG [.str []] a) 9 0 .yes)):=by
   have e1:Nat.ble a 1048576=true:=Nat.ble_eq_true_of_le (by omega);have e2:Nat.ble (a*16) bz=true:=Nat.ble_eq_true_of_le (by unfold bz;omega);have e3:Nat.ble a 0=false:=by
    cases hb:Nat.ble a 0 with
    | false=>rfl
    | true=>have:=Nat.le_of_ble_eq_true hb;omega
   have e4:Nat.ble (4*a*16) jd=true:=Nat.ble_eq_true_of_le (by unfold jd;omega);simp only [azV,e1,e2,Bool.and_self,bN,eH,e3,e4]
  cbv;refine ⟨⟨_,_,haz,?_⟩⟩;generalize hl:h.next=l at*;have S1:SpS (h.add (.cells (aG [.str []] a) 9 0 .yes)) a (.slice l 0 0 (.toEnd 1)) []:=.row (ks:=[]) a1 (by rw [Lv]) (by simp) (by simp [strs]);generalize h.add (.cells (aG [.str []] a) 9 0 .yes)=h1 at*;cbv;refine .of nl λu2 aDA hu2=>?_;have hu3:u2=0:=by omega
  subst hu3;cbv;refine ⟨⟨.slice l 0 0 (.toEnd 1),by simp [ez,bD,bound,ob,bN,show Nat.ble 0 a=true from by cases a<;>rfl],?_⟩⟩;cbv;exact hq (.slice l 0 0 (.toEnd 1)) h1 (by simpa using S1) (λx hx=>by simp [af] at hx;subst hx;exact a2) a3 a4
 ·cbv;exact hq (.nilSlice 0) h (.nil (by omega)) (Fr.EO _ _) (Mod.refl _ _) hw
abbrev SL:=List (V×List (List Nat))
def slV (l:SL):List V:=l.map (·.1)
def OL (l:SL):List (List Nat):=(l.map (·.2)).flatten
theorem aat {h:H}{v:V}{l:SL}(hw:Wf h)(hs:Sl h 1 v l.length (slV l))(_hf:bd (slV l)=true)(he:∀p∈l,Sl h 1 p.1 p.2.length (strs p.2)) (hll:l.length<=1000000) (hn:(OL l).length<=1000000) {Q:V->H->Prop} (hq:∀ov h',aE h' 9 1 ov (OL l).length (strs (OL l))->Fr h ov->Mod h h' []->Wf h'->Q ov h'):CW pf G0 kP [v] h Q:=by
 have jF:∀{i:Nat} {p:V×List (List Nat)},l[i]? =some p->(OL (l.take (i+1)))=OL (l.take i)++p.2:=λ{i p} e=>by
  rw [List.take_add_one,e];simp [OL]
 have hle:∀i:Nat,(OL (l.take i)).length<=(OL l).length:=λi=>by
  have:OL l=OL (l.take i)++OL (l.drop i):=by rw [OL,OL,OL,<-List.flatten_append,<-List.map_append,List.take_append_drop]
  rw [this,List.length_append];omega
 have bG:∀{i:Nat} {p:V×List (List Nat)},l[i]? =some p->rowFrom (slV l) (i*1) 1=some [p.1]:=λ{i p} e=>by
  have:∀(l:SL) (i:Nat),l[i]? =some p->rowFrom (slV l) (i*1) 1=some [p.1]:=λl=>by
   induction l with
   | nil=>intro i h;simp at h
   | cons y l ih=>
     intro i h;cases i with
     | zero=>simp at h;subst h;rfl
     | succ i=>
       have:=ih i (by simpa using h);rw [show (i+1)*1=i*1+1 by omega];exact this
  exact this l i e
 refine vq.enter (by kernel_rfl) ?_;cbv;refine .of hs λn eT uJ=>?_;cbv;refine .inv [p0,p3,p9,p10,p11] (λm' aC h'=>h=h'/\∃(x s:Int),aC=[v,.int .i64 s,v,.int .i64 n,.int .i64 x]/\0<=x/\x.toNat<=l.length/\m'=l.length - x.toNat/\0<=s/\s.toNat=(OL (l.take x.toNat)).length) [_,_,_,_,_] rfl _ ⟨rfl,0,0,rfl,by omega,by simp,rfl,by omega,by simp [OL]⟩ ?_;rintro m' _ h' ⟨rfl,x,s,rfl,lN,hx,dY,hs0,mD⟩;have:=hle x.toNat;cbv;refine .lt (λbA=>?_) λjb=>?_
 ·obtain ⟨p,hp⟩:∃p,l[x.toNat]? =some p:=⟨_,List.getElem?_eq_getElem (by omega)⟩
  have hps:=he p (List.mem_of_getElem? hp);have hsp:=jF hp;have jc:=hle (x.toNat+1);rw [hsp,List.length_append] at jc;cbv;refine .of hs lN rfl (by omega) (bG hp) λq off heq=>?_;cbv;refine .gH heq 0 rfl ?_;cbv;refine .of hps λk Ir hk=>?_;cbv;refine .add (by omega) (by omega) λs2 yZ=>?_;cbv;refine .FP (by omega) ?_;cbv;refine .add (by omega) (by omega) λx2 lH=>?_;cbv;exact ⟨rfl,l.length - x2.toNat,by omega,rfl,x2,s2,rfl,by omega,by omega,rfl,by omega,by rw [show x2.toNat=x.toNat+1 by omega,hsp,List.length_append];omega⟩
 ·rw [List.take_of_length_le (by omega)] at mD
  cbv;refine agI hw hs0 (by omega) λv1 h1 S1 hf1 ar aM=>?_;rw [mD] at S1;cbv;refine .of (hs.mono ar) λn2 IW aDC=>?_;cbv;refine .inv [p6,p25,p26,p27] (λm' aC h'=>∃(x:Int) (ov:V),aC=[ov,v,.int .i64 n2,.int .i64 x]/\0<=x/\x.toNat<=l.length/\m'=l.length - x.toNat/\SpS h' (OL l).length ov (OL (l.take x.toNat))/\Fr h ov/\Mod h h' []/\Wf h') [_,_,_,_] rfl _ ⟨0,v1,rfl,by omega,by simp,rfl,S1,hf1,ar,aM⟩ ?_;rintro m2 _ h2 ⟨x2,ov,rfl,akO,lH,YO,S2,Bo,aq,aN⟩;cbv;refine .lt (λbA=>?_) λUT=>?_
  ·obtain ⟨p,hp⟩:∃p,l[x2.toNat]? =some p:=⟨_,List.getElem?_eq_getElem (by omega)⟩
   have hps:=he p (List.mem_of_getElem? hp);have hsp:=jF hp;have jc:=hle (x2.toNat+1);rw [hsp,List.length_append] at jc;cbv;refine .of (hs.mono aq) akO rfl (by omega) (bG hp) λq off heq=>?_;cbv;refine .gH heq 0 rfl ?_;cbv;refine .room aN S2 (hps.mono aq).elems jc (by omega) λv3 h3 S3 Qt aF aR=>?_;cbv;refine .add (by omega) (by omega) λx3 Uv=>?_;cbv;exact ⟨rfl,l.length - x3.toNat,by omega,x3,v3,rfl,by omega,by omega,rfl,by rw [show x3.toNat=x2.toNat+1 by omega,hsp];exact S3,λz hz=>Bo z (Qt▸hz),aq.fr aF λz hz=>.inl (Bo z hz),aR⟩
  ·rw [List.take_of_length_le (by omega)] at S2
   cbv;exact hq ov h2 (S2.own rfl) Bo aq aN
end K
namespace K
open Go Go.Dx Go.RowKit Go.Proofs
set_option maxRecDepth 100000
def lE (ks:List (List Nat)):List zE:=ks.map λk=>⟨k,true,[]⟩
theorem CO:∀a b,AI (a++b)=AI a++AI b
 | [],_=>rfl
 | _::r,b=>by simp [AI,CO r b]
theorem aau {h:H}{lm:Lb}{m:bF}{c:Nat}{id:List Nat}(hw:Wf h)(S:qS h lm m c)(PT:m.length<=400000)(hid:id.length<=1000){Q:V->H->Prop} (hq:∀ov (ks:List (List Nat)) h',aE h' ej 3 ov ks.length (AI (lE ks))->ks.length<=2*m.length+1->(∀k∈ks,k.length<=1000000)->Mod h h' []->Fr h ov->Wf h'->Q ov h'):CW pf G0 kN [.map lm,.str id] h Q:=by
 refine vn.enter (by kernel_rfl) ?_;cbv;refine jy (by omega) (by simp) λk1 Xq=>?_;cbv;refine tX hw S (by omega) λo1 x1 h1 uf cx MA hf1 ar aM=>?_;cbv;refine j8 (by omega) λk2 Fc=>?_;have avJ:k2.length<=1000000:=by rw [Fc];simp;omega
 clear Fc;cbv;refine .flat rfl ?_;cbv;refine .of aM λl2 h2 jc Bo aq aN=>?_;cbv;refine yO (by omega) (by simp) λk3 hk3=>?_;have aO:Mod h h2 []:=(ar.trans aq).mono λl o _ hl=>by simp at hl
 cbv;refine tX aN (S.mono aO) (by omega) λo3 x3 h3 Uv gB fT Mg aF aR=>?_;have aJ:Mod h h3 []:=(aO.trans aF).mono λl o _ hl=>by simp at hl
 cbv;refine .flat MA.sl.flat ?_;cbv;refine .flat rfl ?_;cbv;refine .flat fT.sl.flat ?_;cbv;refine .of aR λl4 h4 vy X2 aD aQ=>?_;have ay:Mod h h4 []:=(aJ.trans aD).mono λl o _ hl=>by simp at hl
 have ke:aE h2 9 1 (.slice l2 0 1 (.exact 1)) 1 (strs [k2]):=.exact jc rfl;have sl:Sl h4 1 (.slice l4 0 3 (.exact 3)) 3 (slV [(o1,x1),(.slice l2 0 1 (.exact 1),[k2]),(o3,x3)]):=(aE.exact (e:=129) vy rfl).sl;have hT:OL [(o1,x1),(.slice l2 0 1 (.exact 1),[k2]),(o3,x3)]=x1++([k2]++x3):=by simp [OL]
 cbv;refine aat (l:=[(o1,x1),(.slice l2 0 1 (.exact 1),[k2]),(o3,x3)]) aQ sl (by show (bU o1&&(true&&(bU o3&&true)))=true;rw [MA.sl.flat,fT.sl.flat];rfl) (λp hp=>?_) (by simp) (by rw [hT];simp;omega) λov h5 kh IL aY bH=>?_
 ·simp at hp
  rcases hp with rfl | rfl | rfl
  ·exact ((MA.sl.mono aq).mono aF).mono aD
  ·exact (ke.sl.mono aF).mono aD
  ·exact fT.sl.mono aD
 rw [hT] at kh;obtain ⟨ks,hks⟩:∃ks,ks=x1++([k2]++x3):=⟨_,rfl⟩;rw [<-hks] at kh;have hkb:∀k∈ks,k.length<=1000000:=λk hk=>by
  rw [hks] at hk;simp at hk;rcases hk with hk | rfl | hk
  ·exact cx k hk
  ·exact avJ
  ·exact gB k hk
 have vO:ks.length<=2*m.length+1:=by rw [hks];simp;omega
 have aL:Mod h h5 []:=(ay.trans aY).mono λl o _ hl=>by simp at hl
 clear hT sl vy X2 hks;cbv;refine .of kh.sl λn eT hn=>?_;cbv;refine .inv [p6,p22,p23,p24] (λm' aC h'=>∃(x:Int) (wv:V),aC=[wv,ov,.int .i64 n,.int .i64 x]/\0<=x/\x.toNat<=ks.length/\m'=ks.length - x.toNat/\aE h' ej 3 wv (ks.take x.toNat).length (AI (lE (ks.take x.toNat)))/\Fr h5 wv/\Mod h5 h' []/\Wf h') [_,_,_,_] rfl _ ⟨0,.nilSlice 0,rfl,by omega,by simp,rfl,.nil,Fr.EO _ _,Mod.refl _ _,bH⟩ ?_;rintro m' _ h6 ⟨x,wv,rfl,lN,hx,dY,pZ,hf6,bP,cy⟩;cbv;refine .lt (λbA=>?_) λjb=>?_
 ·obtain ⟨k,hk⟩:∃k,ks[x.toNat]? =some k:=⟨_,List.getElem?_eq_getElem (by omega)⟩
  cbv;refine .of (kh.sl.mono bP) lN rfl (by omega) (eQ hk) λq off heq=>?_;cbv;refine .gH heq 0 rfl ?_;cbv;refine .flat rfl ?_;cbv;refine .flat rfl ?_;cbv;refine .agg ?_;cbv;refine .of cy λl7 h7 xj hf7 cH eu=>?_;have Cc:(ks.take x.toNat).length<=1000000:=by rw [List.length_take];omega
  have cM:Mod h5 h7 []:=(bP.trans cH).mono λl o _ hl=>by simp at hl
  cbv;refine .own eu (pZ.mono cH) (m:=1) (new:=[.str k,.bool true,.str []]) (by simp only [de,xj];rfl) rfl rfl (by unfold bz;omega) (by decide) λlv9 h9 Jl hg9 eU pd=>?_;have vS:ks.take (x.toNat+1)=ks.take x.toNat++[k]:=by rw [List.take_add_one,hk];rfl
  rw [show AI (lE (ks.take x.toNat))++[V.str k,.bool true,.str []]=AI (lE (ks.take (x.toNat+1))) from by rw [vS,lE,lE,List.map_append,CO];rfl,show (ks.take x.toNat).length+1=(ks.take (x.toNat+1)).length from by rw [vS];simp] at Jl;cbv;refine .add (by omega) (by omega) λx2 lH=>?_;have ur:x2.toNat=x.toNat+1:=by omega
  cbv;exact ⟨rfl,ks.length - x2.toNat,by omega,x2,lv9,rfl,by omega,by omega,rfl,by rw [ur];exact Jl,hg9.fr cM (by simp) hf6,cM.fr eU λl hl=>.inl (hf6 l hl),pd⟩
 ·rw [List.take_of_length_le (by omega)] at pZ
  cbv;exact hq wv ks h6 pZ vO hkb ((aL.trans bP).mono λl o _ hl=>by simp at hl) (λl hl=>ai aL (by simp) (hf6 l hl)) cy
end K
namespace K
open Go Go.Dx Go.RowKit Go.Proofs
set_option maxRecDepth 100000
theorem TU {h:H}{lm:Lb}{m:bF}{c:Nat}{kind:Int}{aI name text:List Nat}(hw:Wf h)(S:qS h lm m c)(PT:m.length<=400000)(hi:aI.length<=1000)(hn:name.length<=1000){Q:V->H->Prop}
  (bq:∀(a y:Int) h',Mod h h' []->Wf h'->Q (.tuple [.nilSlice 0,Wt a y]) h') (bw:∀ov k g v h',aE h' ej 3 ov 1 (AI [⟨k,g,v⟩])->k.length<=3000->v.length<=65536->Mod h h' []->Fr h ov->Wf h'->Q (.tuple [ov,.nilIface]) h'):
  CW pf G0 lS [.map lm,Mu kind aI name text] h Q:=by
 refine wR.enter (by kernel_rfl) ?_;cbv;refine .agg ?_;cbv;refine .of hw λlb h1 cx gG ar aM=>?_;cbv;refine .of cx rfl ?_;cbv;refine .of cx rfl ?_;cbv;refine yO (s:=aI) (t:=name) (by omega) (by omega) λkk hkk=>?_;have vO:kk.length<=3000:=by omega
 cbv;refine .entry (S.mono ar) λek ev ok=>?_;cbv;refine .of aM λle h2 ur lA aq aN=>?_;have Ff:lb≠le:=λe=>by subst e;rw [cx] at lA;cases lA
 have fe:=ai ar (by simp) lA;cbv;refine .of (cs:=[.str ek,.str ev]) aN ur rfl rfl rfl rfl rfl rfl λh4 vL aD aQ=>?_;have dB:=aD.get (aq.get cx) (by simpa using Ff);have ay:Mod h h4 []:=((ar.trans aq).fr aD λl hl=>by simp at hl;subst hl;exact .inl fe).mono λl o _ hl=>by simp at hl
 have S4:=S.mono ay;cases ok
 ·skip
  cbv;refine .of dB rfl ?_;cbv;refine .eq (λk8=>?_) λk8=>?_
  ·skip
   cbv;refine .of dB rfl ?_;cbv;refine .mY (by omega) ?_;cbv;refine .of dB rfl ?_;cbv;refine yO (s:=aI) (t:=[]) (by omega) (by simp) λk3 hk3=>?_;cbv;refine tX aQ S4 (by omega) λo5 x5 h5 hx5 akQ kh IL aY bH=>?_;have aL:Mod h h5 []:=(ay.trans aY).mono λl o _ hl=>by simp at hl
   have pU:=aY.get dB;cbv;refine .of kh.sl λn eT Fj=>?_;cbv;refine .ge (λg=>?_) λg=>?_
   ·skip
    cbv;refine dM ?_;cbv;exact bq 1 7 h5 aL bH
   ·skip
    cbv;refine .of pU rfl ?_;cbv;refine .cP (by omega) ?_;cbv;refine .of pU rfl ?_;cbv;refine .cP (by omega) ?_;cbv;refine qR bH λov h6 pZ zy=>?_;have bT:Mod h h6 []:=(aL.trans zy.mod).mono λl o _ hl=>by simp at hl
    cbv;exact bw ov kk false _ h6 pZ vO (by simp) bT (λl hl=>ai aL (by simp) (zy.fr l hl)) zy.wf
  ·skip
   cbv;refine .of dB rfl ?_;cbv;refine .cP (by omega) ?_;cbv;refine .of dB rfl ?_;cbv;refine .eq (λk9=>?_) λk9=>?_
   ·skip
    cbv;refine dM ?_;cbv;exact bq 2 111 h4 ay aQ
   ·skip
    cbv;refine .of dB rfl ?_;cbv;refine .cP (by omega) ?_;cbv;refine qR aQ λov h6 pZ zy=>?_;have bT:Mod h h6 []:=(ay.trans zy.mod).mono λl o _ hl=>by simp at hl
    cbv;exact bw ov kk false _ h6 pZ vO (by simp) bT (λl hl=>ai ay (by simp) (zy.fr l hl)) zy.wf
 ·skip
  cbv;refine .of dB rfl ?_;cbv;refine .eq (λk8=>?_) λk8=>?_
  ·skip
   cbv;refine dM ?_;cbv;exact bq 2 112 h4 ay aQ
  ·skip
   cbv;refine .of dB rfl ?_;cbv;refine .cP (by omega) ?_;cbv;refine .of dB rfl ?_;cbv;refine .eq (λk9=>?_) λk9=>?_
   ·skip
    cbv;refine .of dB rfl ?_;cbv;refine .mY (by omega) ?_;cbv;refine .flat rfl ?_;cbv;refine .flat rfl ?_;cbv;refine .agg ?_;cbv;refine .of aQ λl7 h7 xj hf7 cH eu=>?_;have Ma:aE h7 ej 3 (.slice l7 0 1 (.exact 1)) 1 (AI [⟨kk,true,[]⟩]):=.exact xj rfl;have cM:Mod h h7 []:=(ay.trans cH).mono λl o _ hl=>by simp at hl
    cbv;exact bw (.slice l7 0 1 (.exact 1)) kk true [] h7 Ma vO (by simp) cM (λl hl=>by simp [af] at hl;subst hl;exact ai ay (by simp) hf7) eu
   ·skip
    cbv;refine .of dB rfl ?_;cbv;refine .cP (by omega) ?_;cbv;refine qR aQ λov h6 pZ zy=>?_;have bT:Mod h h6 []:=(ay.trans zy.mod).mono λl o _ hl=>by simp at hl
    cbv;exact bw ov kk false _ h6 pZ vO (by simp) bT (λl hl=>ai ay (by simp) (zy.fr l hl)) zy.wf
end K
namespace K
open Go Go.Dx Go.RowKit Go.Proofs
set_option maxRecDepth 100000
theorem Wu {h:H}{lm:Lb}{m:bF}{c:Nat}{kind:Int}{OM aI name text:List Nat}(hw:Wf h)(he:HE h)(S:qS h lm m c)(PT:m.length<=400000)(akR:OM.length<=1000)(hi:aI.length<=1000)(hn:name.length<=1000)(ht:text.length<=512){Q:V->H->Prop}
  (bq:∀(a y:Int) h',Mod h h' []->Wf h'->Q (.tuple [.nilSlice 0,Wt a y]) h') (bw:∀ov k g v h',aE h' ej 3 ov 1 (AI [⟨k,g,v⟩])->k.length<=3000->v.length<=65536->Mod h h' []->Fr h ov->Wf h'->Q (.tuple [ov,.nilIface]) h'):
  CW pf G0 jW [.map lm,.str OM,Mu kind aI name text] h Q:=by
 refine CX.bytes λfC hb=>?_;have btt:bt text:=⟨by omega,hb [.int .i64 kind,.str aI,.str name,.str text] text (by simp) (by simp)⟩;have btw:bt OM:=⟨by omega,fC OM (by simp)⟩;clear hb fC;refine tM.enter (by kernel_rfl) ?_;cbv;refine .agg ?_;cbv;refine .of hw λlb h1 cx gG ar aM=>?_;cbv;refine .of cx rfl ?_;cbv;refine .of cx rfl ?_;cbv;refine jy (s:=aI) (t:=name) (by omega) (by omega) λkk hkk=>?_;have vO:kk.length<=3000:=by omega
 cbv;refine .entry (S.mono ar) λek ev ok=>?_;cbv;refine .of aM λle h2 ur lA aq aN=>?_;have Ff:lb≠le:=λe=>by subst e;rw [cx] at lA;cases lA
 have fe:=ai ar (by simp) lA;cbv;refine .of (cs:=[.str ek,.str ev]) aN ur rfl rfl rfl rfl rfl rfl λh3 CS aF aR=>?_;have gB:=aF.get (aq.get cx) (by simpa using Ff);have aJ:Mod h h3 []:=((ar.trans aq).fr aF λl hl=>by simp at hl;subst hl;exact .inl fe).mono λl o _ hl=>by simp at hl
 cbv;refine .of CS rfl ?_;cbv;refine Lt aR (he.mono aJ) λby_ tx okc h4 _ _ aD aQ=>?_;have dB:=aD.get gB;have ay:Mod h h4 []:=(aJ.trans aD).mono λl o _ hl=>by simp at hl
 have S4:=S.mono ay;obtain ⟨o,ho⟩:∃o,o=(ok&&okc):=⟨_,rfl⟩;cases ok<;>cases okc
 ·skip
  cbv;refine .of dB rfl ?_;cbv;refine .eq (λk5=>?_) λk5=>?_
  ·skip
   cbv;refine .of dB rfl ?_;cbv;refine .mY (by omega) ?_;cbv;refine .of dB rfl ?_;cbv;refine jy (s:=aI) (t:=[]) (by omega) (by simp) λk3 hk3=>?_;cbv;refine tX aQ S4 (by omega) λo5 x5 h5 hx5 akQ kh IL aY bH=>?_;have aL:Mod h h5 []:=(ay.trans aY).mono λl o _ hl=>by simp at hl
   have pU:=aY.get dB;cbv;refine .of kh.sl λn eT Fj=>?_;cbv;refine .ge (λg=>?_) λg=>?_
   ·skip
    cbv;refine dM ?_;cbv;exact bq 1 7 h5 aL bH
   ·skip
    cbv;refine .of pU rfl ?_;cbv;refine .eC (by omega) ?_;cbv;refine .of pU rfl ?_;cbv;refine .eC (by omega) ?_;cbv;refine .of pU rfl ?_;cbv;refine .cP (by omega) ?_;cbv;refine .of bH λln h6 RM Wv bP cy=>?_;cbv;refine .of (bP.get pU) rfl ?_;cbv;refine .flat rfl ?_;cbv;refine .flat rfl ?_;cbv;refine .of cy λlv h7 Qy Lw cH eu=>?_;have on:aE h7 9 1 (.slice ln 0 2 (.exact 2)) 2 (strs jz):=.exact (cH.get RM) rfl;have ov:aE h7 9 1 (.slice lv 0 2 (.exact 2)) 2 (strs [OM,text]):=.exact Qy rfl;obtain ⟨h8,l8,rn8,cO,ew⟩:=on.freeze eu;have hnv:lv≠ln:=λe=>by subst e;rw [RM] at Lw;cases Lw
    have ov8:=ov.mono cO (by simp [af];exact hnv);have cM:Mod h h7 []:=((aL.trans bP).trans cH).mono λl o _ hl=>by simp at hl
    have fn:=ai aL (by simp) Wv;have dL:Mod h h8 []:=cM.fr cO λl hl=>by simp [af] at hl;subst hl;exact .inl fn
    cbv;refine CW.less l8 (tW (ns:=jz) (vs:=[OM,text]) ew rn8 ov8.sl rfl (by decide) (by decide) (by simp;exact ⟨btw,btt⟩) λr h9 hr eU pd=>?_);have pJ:Mod h h9 []:=(dL.trans eU).mono λx o _ hx=>by simp at hx
    cbv;refine qR pd λov vM yI xh=>?_;have l5:Mod h vM []:=(pJ.trans xh.mod).mono λl o _ hl=>by simp at hl
    cbv;exact bw ov kk false r vM yI vO hr l5 (λl hl=>ai pJ (by simp) (xh.fr l hl)) xh.wf
  ·skip
   cbv;refine .of dB rfl ?_;cbv;refine .cP (by omega) ?_;cbv;refine .of dB rfl ?_;cbv;refine .uk (by omega) ?_;cbv;refine dM ?_;cbv;exact bq 2 111 h4 ay aQ
 ·skip
  cbv;refine .of dB rfl ?_;cbv;refine .eq (λk5=>?_) λk5=>?_
  ·skip
   cbv;refine .of dB rfl ?_;cbv;refine .mY (by omega) ?_;cbv;refine .of dB rfl ?_;cbv;refine jy (s:=aI) (t:=[]) (by omega) (by simp) λk3 hk3=>?_;cbv;refine tX aQ S4 (by omega) λo5 x5 h5 hx5 akQ kh IL aY bH=>?_;have aL:Mod h h5 []:=(ay.trans aY).mono λl o _ hl=>by simp at hl
   have pU:=aY.get dB;cbv;refine .of kh.sl λn eT Fj=>?_;cbv;refine .ge (λg=>?_) λg=>?_
   ·skip
    cbv;refine dM ?_;cbv;exact bq 1 7 h5 aL bH
   ·skip
    cbv;refine .of pU rfl ?_;cbv;refine .eC (by omega) ?_;cbv;refine .of pU rfl ?_;cbv;refine .eC (by omega) ?_;cbv;refine .of pU rfl ?_;cbv;refine .cP (by omega) ?_;cbv;refine .of bH λln h6 RM Wv bP cy=>?_;cbv;refine .of (bP.get pU) rfl ?_;cbv;refine .flat rfl ?_;cbv;refine .flat rfl ?_;cbv;refine .of cy λlv h7 Qy Lw cH eu=>?_;have on:aE h7 9 1 (.slice ln 0 2 (.exact 2)) 2 (strs jz):=.exact (cH.get RM) rfl;have ov:aE h7 9 1 (.slice lv 0 2 (.exact 2)) 2 (strs [OM,text]):=.exact Qy rfl;obtain ⟨h8,l8,rn8,cO,ew⟩:=on.freeze eu;have hnv:lv≠ln:=λe=>by subst e;rw [RM] at Lw;cases Lw
    have ov8:=ov.mono cO (by simp [af];exact hnv);have cM:Mod h h7 []:=((aL.trans bP).trans cH).mono λl o _ hl=>by simp at hl
    have fn:=ai aL (by simp) Wv;have dL:Mod h h8 []:=cM.fr cO λl hl=>by simp [af] at hl;subst hl;exact .inl fn
    cbv;refine CW.less l8 (tW (ns:=jz) (vs:=[OM,text]) ew rn8 ov8.sl rfl (by decide) (by decide) (by simp;exact ⟨btw,btt⟩) λr h9 hr eU pd=>?_);have pJ:Mod h h9 []:=(dL.trans eU).mono λx o _ hx=>by simp at hx
    cbv;refine qR pd λov vM yI xh=>?_;have l5:Mod h vM []:=(pJ.trans xh.mod).mono λl o _ hl=>by simp at hl
    cbv;exact bw ov kk false r vM yI vO hr l5 (λl hl=>ai pJ (by simp) (xh.fr l hl)) xh.wf
  ·skip
   cbv;refine .of dB rfl ?_;cbv;refine .cP (by omega) ?_;cbv;refine .of dB rfl ?_;cbv;refine .uk (by omega) ?_;cbv;refine dM ?_;cbv;exact bq 2 111 h4 ay aQ
 ·skip
  cbv;refine .of dB rfl ?_;cbv;refine .eq (λk5=>?_) λk5=>?_
  ·skip
   cbv;refine .of dB rfl ?_;cbv;refine .mY (by omega) ?_;cbv;refine .of dB rfl ?_;cbv;refine jy (s:=aI) (t:=[]) (by omega) (by simp) λk3 hk3=>?_;cbv;refine tX aQ S4 (by omega) λo5 x5 h5 hx5 akQ kh IL aY bH=>?_;have aL:Mod h h5 []:=(ay.trans aY).mono λl o _ hl=>by simp at hl
   have pU:=aY.get dB;cbv;refine .of kh.sl λn eT Fj=>?_;cbv;refine .ge (λg=>?_) λg=>?_
   ·skip
    cbv;refine dM ?_;cbv;exact bq 1 7 h5 aL bH
   ·skip
    cbv;refine .of pU rfl ?_;cbv;refine .eC (by omega) ?_;cbv;refine .of pU rfl ?_;cbv;refine .eC (by omega) ?_;cbv;refine .of pU rfl ?_;cbv;refine .cP (by omega) ?_;cbv;refine .of bH λln h6 RM Wv bP cy=>?_;cbv;refine .of (bP.get pU) rfl ?_;cbv;refine .flat rfl ?_;cbv;refine .flat rfl ?_;cbv;refine .of cy λlv h7 Qy Lw cH eu=>?_;have on:aE h7 9 1 (.slice ln 0 2 (.exact 2)) 2 (strs jz):=.exact (cH.get RM) rfl;have ov:aE h7 9 1 (.slice lv 0 2 (.exact 2)) 2 (strs [OM,text]):=.exact Qy rfl;obtain ⟨h8,l8,rn8,cO,ew⟩:=on.freeze eu;have hnv:lv≠ln:=λe=>by subst e;rw [RM] at Lw;cases Lw
    have ov8:=ov.mono cO (by simp [af];exact hnv);have cM:Mod h h7 []:=((aL.trans bP).trans cH).mono λl o _ hl=>by simp at hl
    have fn:=ai aL (by simp) Wv;have dL:Mod h h8 []:=cM.fr cO λl hl=>by simp [af] at hl;subst hl;exact .inl fn
    cbv;refine CW.less l8 (tW (ns:=jz) (vs:=[OM,text]) ew rn8 ov8.sl rfl (by decide) (by decide) (by simp;exact ⟨btw,btt⟩) λr h9 hr eU pd=>?_);have pJ:Mod h h9 []:=(dL.trans eU).mono λx o _ hx=>by simp at hx
    cbv;refine qR pd λov vM yI xh=>?_;have l5:Mod h vM []:=(pJ.trans xh.mod).mono λl o _ hl=>by simp at hl
    cbv;exact bw ov kk false r vM yI vO hr l5 (λl hl=>ai pJ (by simp) (xh.fr l hl)) xh.wf
  ·skip
   cbv;refine .of dB rfl ?_;cbv;refine .cP (by omega) ?_;cbv;refine .of dB rfl ?_;cbv;refine .uk (by omega) ?_;cbv;refine dM ?_;cbv;exact bq 2 111 h4 ay aQ
 ·skip
  cbv;refine .of dB rfl ?_;cbv;refine .eq (λk5=>?_) λk5=>?_
  ·skip
   cbv;refine dM ?_;cbv;exact bq 2 112 h4 ay aQ
  ·skip
   cbv;refine .of dB rfl ?_;cbv;refine .cP (by omega) ?_;cbv;refine .of dB rfl ?_;cbv;refine .uk (by omega) ?_;cbv;refine .of dB rfl ?_;cbv;refine .uk (by omega) ?_;cbv;refine .UB (λq=>?_) λq=>?_
   ·skip
    cbv;refine .of dB rfl ?_;cbv;refine .eq (λk7=>?_) λk7=>?_
    ·skip
     cbv;refine .flat rfl ?_;cbv;refine .flat rfl ?_;cbv;refine .agg ?_;cbv;refine .of aQ λl7 h7 xj hf7 cH eu=>?_;have Ma:aE h7 ej 3 (.slice l7 0 1 (.exact 1)) 1 (AI [⟨kk,true,[]⟩]):=.exact xj rfl;have cM:Mod h h7 []:=(ay.trans cH).mono λl o _ hl=>by simp at hl
     cbv;exact bw (.slice l7 0 1 (.exact 1)) kk true [] h7 Ma vO (by simp) cM (λl hl=>by simp [af] at hl;subst hl;exact ai ay (by simp) hf7) eu
    ·skip
     cbv;refine .of aQ λln h6 RM Wv bP cy=>?_;cbv;refine .of (bP.get dB) rfl ?_;cbv;refine .flat rfl ?_;cbv;refine .flat rfl ?_;cbv;refine .of cy λlv h7 Qy Lw cH eu=>?_;have on:aE h7 9 1 (.slice ln 0 2 (.exact 2)) 2 (strs jz):=.exact (cH.get RM) rfl;have ov:aE h7 9 1 (.slice lv 0 2 (.exact 2)) 2 (strs [OM,text]):=.exact Qy rfl;obtain ⟨h8,l8,rn8,cO,ew⟩:=on.freeze eu;have hnv:lv≠ln:=λe=>by subst e;rw [RM] at Lw;cases Lw
     have ov8:=ov.mono cO (by simp [af];exact hnv);have cM:Mod h h7 []:=((ay.trans bP).trans cH).mono λl o _ hl=>by simp at hl
     have fn:=ai ay (by simp) Wv;have dL:Mod h h8 []:=cM.fr cO λl hl=>by simp [af] at hl;subst hl;exact .inl fn
     cbv;refine CW.less l8 (tW (ns:=jz) (vs:=[OM,text]) ew rn8 ov8.sl rfl (by decide) (by decide) (by simp;exact ⟨btw,btt⟩) λr h9 hr eU pd=>?_);have pJ:Mod h h9 []:=(dL.trans eU).mono λx o _ hx=>by simp at hx
     cbv;refine qR pd λov vM yI xh=>?_;have l5:Mod h vM []:=(pJ.trans xh.mod).mono λl o _ hl=>by simp at hl
     cbv;exact bw ov kk false r vM yI vO hr l5 (λl hl=>ai pJ (by simp) (xh.fr l hl)) xh.wf
   ·skip
    cbv;refine dM ?_;cbv;exact bq 2 113 h4 ay aQ
end K
namespace K
open Go Go.Dx Go.RowKit Go.Proofs
set_option maxRecDepth 100000
structure Ww (es:EL):Prop where
 iZ:es.length<=400000
 keys:∀e∈es,e.1.length<=1000000
structure akU (n:Nat)(ops:List zE):Prop where
 iZ:ops.length<=2*n+1
 each:∀o∈ops,o.key.length<=1000000/\o.val.length<=65536
 avL:(ops.filter λo=>!o.gone).length<=1
theorem akU.one {n:Nat}{k v:List Nat}{g:Bool}(hk:k.length<=3000)(hv:v.length<=65536):akU n [⟨k,g,v⟩]:=⟨by simp,by simp;omega,by cases g<;>simp⟩
theorem Lx {h:H}{ev:V}{es:EL}{kind:Int}{OM aI name text:List Nat}(hw:Wf h)(he:HE h)(hs:Sl h 2 ev es.length (dJ es))(lP:Ww es)(akR:OM.length<=1000000)(hi:aI.length<=1000000)(hn:name.length<=1000000){Q:V->H->Prop}
  (bq:∀(a y:Int) h',Mod h h' []->Wf h'->Q (.tuple [.nilSlice 0,Wt a y]) h') (bw:∀ov ops h',aE h' ej 3 ov ops.length (AI ops)->akU es.length ops->isName OM->Mod h h' []->Fr h ov->Wf h'->Q (.tuple [ov,.nilIface]) h'):
  CW pf G0 rQ [ev,.str OM,Mu kind aI name text] h Q:=by
 refine Ey.enter (by kernel_rfl) ?_;cbv;refine .agg ?_;cbv;refine .of hw λlb h1 cx gG ar aM=>?_;cbv;refine cz aM (by omega) (λh2 hwn aq aN=>?_) λh2 hwn aq aN=>?_
 all_goals
  have aO:Mod h h2 []:=(ar.trans aq).mono λl o _ hl=>by simp at hl
 rotate_left
 ·cbv;refine dM ?_
  cbv;exact bq 0 6 h2 aO aN
 have cR:=aq.get cx;cbv;refine .of cR rfl ?_;cbv;refine akx aN (by omega) (by omega) (λr h3 hr aF aR=>?_) λh3 uu aF aR=>?_
 all_goals
  have aJ:Mod h h3 []:=(aO.trans aF).mono λl o _ hl=>by simp at hl
 ·cbv;refine .um (by omega) ?_
  cbv;refine dM ?_;cbv;exact bq r 110 h3 aJ aR
 have gB:=aF.get cR;have Nv:aI.length<=1000:=by have:=uu.aI.2.2;omega
 have uJ:name.length<=1000:=by
  rcases uu.name with e | e
  ·rw [e];simp
  ·have:=e.2.2;omega
 have Cc:=uu.text;have hwl:OM.length<=1000:=by have:=hwn.2.2;omega
 cbv;refine .qp (by omega) ?_;cbv;refine aih aR (hs.mono aJ) (by have:=lP.iZ;omega) lP.keys λlm m c h4 S4 PT CR aD aQ=>?_;have ay:Mod h h4 []:=(aJ.trans aD).mono λl o _ hl=>by simp at hl
 have dB:=aD.get gB;have agJ:m.length<=400000:=by have:=lP.iZ;omega
 have Wx:∀{h0:H},Mod h h0 []->∀ov k g v h',aE h' ej 3 ov 1 (AI [⟨k,g,v⟩])->k.length<=3000->v.length<=65536->Mod h0 h' []->Fr h0 ov->Wf h'->Q (.tuple [ov,.nilIface]) h':=λm0 ov k g v h' ho hk hv hm hf cG=>
  bw ov [⟨k,g,v⟩] h' ho (.one hk hv) hwn ((m0.trans hm).mono λl o _ hl=>by simp at hl) (λl hl=>ai m0 (by simp) (hf l hl)) cG
 have no1:∀{h0:H},Mod h h0 []->∀(a y:Int) h',Mod h0 h' []->Wf h'->Q (.tuple [.nilSlice 0,Wt a y]) h':=λm0 a y h' hm cG=>bq a y h' ((m0.trans hm).mono λl o _ hl=>by simp at hl) cG;cbv;refine .of dB rfl ?_;cbv;refine .eq (λk1=>?_) λk1=>?_
 ·cbv;refine .of dB rfl ?_
  cbv;refine aar aQ (he.mono ay) S4 Nv Cc (λa y h5 aY bH=>?_) λov k v h5 kh hk hv aY IL bH=>?_
  ·cbv;exact no1 ay a y h5 aY bH
  ·cbv;exact Wx ay ov k false v h5 kh hk hv aY IL bH
 cbv;refine .of dB rfl ?_;cbv;refine TT aQ (he.mono ay) S4 (by omega) λa b c' ok h5 ba bb bc aY bH=>?_;have aL:Mod h h5 []:=(ay.trans aY).mono λl o _ hl=>by simp at hl
 have pU:=aY.get dB;cbv;refine .of bH λli h6 hi6 E9 bP cy=>?_;have hbi:lb≠li:=λe=>by subst e;rw [pU] at E9;cases E9
 have fi:=ai aL (by simp) E9;cbv;refine .of (cs:=[.str a,.str b,.str c']) cy hi6 rfl rfl rfl rfl rfl rfl λh7 hi7 cH eu=>?_;have Ij:=cH.get (bP.get pU) (by simpa using hbi);have cM:Mod h h7 []:=((aL.trans bP).fr cH λl hl=>by simp at hl;subst hl;exact .inl fi).mono λl o _ hl=>by simp at hl
 have avM:lm≠li:=λe=>by subst e;rw [aY.get S4.get] at E9;cases E9
 have S7:=((S4.mono aY).mono bP).mono cH (by simpa using avM);cases ok
 ·cbv;refine dM ?_
  cbv;exact bq 1 111 h7 cM eu
 cbv;refine .of Ij rfl ?_;cbv;refine .eq (λk2=>?_) λk2=>?_
 ·skip
  cbv;refine .of hi7 rfl ?_;cbv;refine .of Ij rfl ?_;cbv;refine GF eu ba bb bc Nv uJ Cc λov k v h8 sd hk hv cO Nh ew=>?_;cbv;exact Wx cM ov k false v h8 sd hk hv cO Nh ew
 cbv;refine .eq (λk3=>?_) λk3=>?_
 ·skip
  cbv;refine .of hi7 rfl ?_;cbv;refine .of Ij rfl ?_;cbv;refine GF eu ba bb bc Nv uJ Cc λov k v h8 sd hk hv cO Nh ew=>?_;cbv;exact Wx cM ov k false v h8 sd hk hv cO Nh ew
 cbv;refine .eq (λk4=>?_) λk4=>?_
 ·skip
  cbv;refine .of hi7 rfl ?_;cbv;refine .of Ij rfl ?_;cbv;refine GF eu ba bb bc Nv uJ Cc λov k v h8 sd hk hv cO Nh ew=>?_;cbv;exact Wx cM ov k false v h8 sd hk hv cO Nh ew
 cbv;refine .eq (λk10=>?_) λk10=>?_
 ·cbv;refine .of Ij rfl ?_
  cbv;refine aau eu S7 agJ Nv λov ks h8 sd vO hkb cO Nh ew=>?_;cbv;exact bw ov (lE ks) h8 (by rw [show (lE ks).length=ks.length from by simp [lE]];exact sd) ⟨by simp [lE];omega,λo ho=>by
   obtain ⟨k,hk,rfl⟩:=List.mem_map.1 ho;exact ⟨hkb k hk,by simp⟩,by
  have:(lE ks).filter (λo=>!o.gone)=[]:=List.filter_eq_nil_iff.2 λo ho=>by
   obtain ⟨k,hk,rfl⟩:=List.mem_map.1 ho;simp
  rw [this];simp⟩ hwn ((cM.trans cO).mono λl o _ hl=>by simp at hl) (λl hl=>ai cM (by simp) (Nh l hl)) ew
 cbv;refine .of hi7 rfl ?_;cbv;refine .seq (λqs=>?_) λqs=>?_
 ·cbv;refine dM ?_
  cbv;exact bq 1 114 h7 cM eu
 cbv;refine .of Ij rfl ?_;cbv;refine .eq (λk8=>?_) λk8=>?_
 ·skip
  cbv;refine .of Ij rfl ?_;cbv;refine TU eu S7 agJ Nv uJ (λa y h8 cO ew=>?_) λov k g v h8 sd hk hv cO Nh ew=>?_
  ·cbv;exact no1 cM a y h8 cO ew
  ·cbv;exact Wx cM ov k g v h8 sd hk hv cO Nh ew
 cbv;refine .of Ij rfl ?_;cbv;refine .eq (λk9=>?_) λk9=>?_
 ·skip
  cbv;refine .of Ij rfl ?_;cbv;refine TU eu S7 agJ Nv uJ (λa y h8 cO ew=>?_) λov k g v h8 sd hk hv cO Nh ew=>?_
  ·cbv;exact no1 cM a y h8 cO ew
  ·cbv;exact Wx cM ov k g v h8 sd hk hv cO Nh ew
 ·cbv;refine .of Ij rfl ?_
  cbv;refine Wu eu (he.mono cM) S7 agJ hwl Nv uJ Cc (λa y h8 cO ew=>?_) λov k g v h8 sd hk hv cO Nh ew=>?_
  ·cbv;exact no1 cM a y h8 cO ew
  ·cbv;exact Wx cM ov k g v h8 sd hk hv cO Nh ew
end K
namespace Go.Proofs
open Go Go.RowKit Go.Dx Go.Maps Go.Sort
theorem Tz.ad1 (w:World):(zeroValue 55).run Tryz.prog w = .ok (.agg #[.string ⟨#[]⟩,.string ⟨#[]⟩]) w:=by kernel_rfl
theorem Tz.akW:∃i z,Tryz.prog.info? 55=some i/\i.zero=some z/\i.size=2/\z.cells.size=2/\i.bytes=32:=by
 have h:((Tryz.prog.info? 55).bind λi=>i.zero.map λz=>(i.size,z.cells.size,i.bytes))=some (2,2,32):=by kernel_rfl
 cases hi:Tryz.prog.info? 55 with
 | none=>rw [hi] at h;cases h
 | some i=>
   cases hz:i.zero with
   | none=>simp [hi,hz] at h
   | some z=>
     simp [hi,hz] at h;exact ⟨i,z,rfl,hz,h.1,h.2.1,h.2.2⟩
theorem Tz.ad2 (w:World):(sizeOf 55).run Tryz.prog w = .ok 2 w:=by kernel_rfl
abbrev ON:=ByteArray×ByteArray
def oJ (x:ON):Value:=.agg #[.string x.1,.string x.2]
def ca (l:List ON):List Value:=l.flatMap λx=>[.string x.1,.string x.2]
theorem Nr (l:List ON)(x:ON):ca (l++[x])=ca l++[.string x.1,.string x.2]:=by simp [ca]
structure ApE (w0:World)(L:Loop)(Bs l D:Nat)(ss:List ON)(W:World):Prop where
 box:∃v,W.heap[Bs]? =some (.cells #[v] 51 (0,0))/\W.ownsRow w0.heap.size 55 2 v ss.length (ca ss)/\(v = .slice none 0 0<->ss=[])
 L:W.heap[l]? =some (.loop L)
 K:W.heap[D]? =some (.deferred (some []))
 below:Below w0.heap.size w0 W
theorem ApE.akY (w0:World)(L:Loop)(Bs l D B:Nat)(hB:w0.heap.size<=B):AbidesFrom B (ApE w0 L Bs l D):=λs W W' row h hg bG=>by
 have Yj:∀r,row=some r->∃o:Go.Obj,W.heap[r]? =some o/\o.isWalk=true:=λr e=>(bG r e).2;obtain ⟨v,hv,hr,hn⟩:=h.box;exact ⟨⟨v,(grownBy_keeps hg Yj hv rfl).trans hv,ownsRow_abides_a hr hg Yj,hn⟩,(grownBy_keeps hg Yj h.L rfl).trans h.L,(grownBy_keeps hg Yj h.K rfl).trans h.K,
  h.below.grown hg h.below.size (λk e=>Nat.le_trans hB (bG k e).1)⟩
set_option maxRecDepth 100000 in
set_option maxHeartbeats 2000000 in
theorem Tz.akZ (g:Nat)(lb:Array Value)(eg:∀args w,(callFunc g args).run Tryz.prog w = .ok (.enter g args) w) (w:World) (S:List ON->Prop) (N:Nat) (hN:N<=1000000000)
  (hg:SeqGives Fence.wide 0 Tryz.prog g lb oJ S N w):
  Calls Tryz.prog 289 #[.slice none 0 0,.func (.func g) #[] lb] w λe w'=>∃v ss,e = .returned v/\S ss/\w'.ownsRow w.heap.size 55 2 v ss.length (ca ss)/\(v = .slice none 0 0<->ss=[])/\Below w.heap.size w w':=by
 refine (callsIn_wide (n:=0)).1 ?_;refine callsIn_of_wp_marks Tryz.func289 rfl trivial ?_ rfl;simp only [Tryz.ntmps289,List.size_toArray,List.length_cons,List.length_nil,Nat.reduceAdd,Nat.reduceSub,Array.replicate_succ,Array.replicate_zero,List.push_toArray,List.append_toArray,List.nil_append,List.cons_append]
 gi_wp2
 refine iW rfl eg λfn L hL=>?_;have fC:Below w.heap.size w (w.alloc (.cells #[.slice none 0 0] 51)):=(Below.refl _ w).alloc (Nat.le_refl _) _;have cx:=(fC.alloc fC.size (.deferred (some [])));have cR:=cx.alloc cx.size (.loop L);obtain ⟨W3,QN⟩:∃W3,W3=(((w.alloc (.cells #[.slice none 0 0] 51)).alloc (.deferred (some []))).alloc (.loop L)):=⟨_,rfl⟩;have q0:W3.heap[w.heap.size]? =some (.cells #[.slice none 0 0] 51 (0,0)):=by
  rw [QN,Go.Dx.heap_alloc_old _ (by simp<;>omega),Go.Dx.heap_alloc_old _ (by simp<;>omega)];exact Go.Dx.heap_alloc_new _
 have q1:W3.heap[w.heap.size+1]? =some (.deferred (some [])):=by
  rw [QN,Go.Dx.heap_alloc_old _ (by simp<;>omega)];have:=Go.Dx.heap_alloc_new (w:=w.alloc (.cells #[.slice none 0 0] 51)) (.deferred (some []))
  rwa [World.size_alloc] at this
 have q2:W3.heap[w.heap.size+2]? =some (.loop L):=by
  rw [QN];have:=Go.Dx.heap_alloc_new (w:=(w.alloc (.cells #[.slice none 0 0] 51)).alloc (.deferred (some []))) (.loop L)
  rwa [World.size_alloc,World.size_alloc] at this
 have s3:W3.heap.size=w.heap.size+3:=by rw [QN];simp
 rw [<-QN] at cR ⊢;clear QN cx fC;rw [World.size_alloc];have hM:ApE w L w.heap.size (w.heap.size+2) (w.heap.size+1) [] W3:=⟨⟨_,q0,World.ownsRow_nil _ _ _ _,by simp⟩,q2,q1,cR⟩;have Ly:∀pre x W1,ApE w L w.heap.size (w.heap.size+2) (w.heap.size+1) pre W1->pre.length<N->YieldAt Fence.wide (0 - 1) Tryz.prog (w.heap.size+2) #[oJ x] W1 λe W'=>e = .returned (.bool true)/\ApE w L w.heap.size (w.heap.size+2) (w.heap.size+1) (pre++[x]) W'/\KeepsWalks W1 W':=by
  intro pre x W1 hJ hlen;obtain ⟨⟨v,p0,bG,hvn⟩,p2,p1,Bw⟩:=hJ;clear q0 q1 q2 cR hg hM;have xv:w.heap.size+2<W1.heap.size:=(Array.getElem?_eq_some_iff.1 p2).1;have hy:=run_yield (P:=Tryz.prog) (args:=#[oJ x]) p2 (by rw [hL.params];rfl);rw [hL.fn,hL.assign,hL.params,hL.tmps,hL.body] at hy;simp [oJ] at hy;refine ⟨_,_,_,_,hy,roundIn_of_wpIn trivial ?_⟩;have hz:=Tz.ad1;have ft:=Tz.ad2;obtain ⟨W5,hW5⟩:∃W5,W5=W1.alloc (.cells #[.string x.1,.string x.2] 55):=⟨_,rfl⟩;have f3:W5.heap[W1.heap.size]? =some (.cells #[.string x.1,.string x.2] 55 (0,0)):=by rw [hW5];exact Go.Dx.heap_alloc_new _
  have f4:W1.grownBy W5 none:=by rw [hW5];exact ⟨rfl,rfl,rfl,by simp,λk hk _=>Below.heap_alloc W1 _ k hk⟩
  have f5:KeepsWalks W1 W5:=by rw [hW5];exact KeepsWalks.alloc _ _
  have f6:W5.heap.size=W1.heap.size+1:=by rw [hW5];simp
  have r0:W5.heap[w.heap.size]? =some (.cells #[v] 51 (0,0)):=(f4.block _ (by omega) (by simp)).trans p0;have r1:W5.heap[w.heap.size+1]? =some (.deferred (some [])):=(f4.block _ (by omega) (by simp)).trans p1;have r2:W5.heap[w.heap.size+2]? =some (.loop L):=(f4.block _ (by omega) (by simp)).trans p2;have Bw5:Below w.heap.size w W5:=Bw.grown f4 Bw.size (λk e=>by cases e);have apr:=bG.kept f4 (Classical.em _);clear hy
  gi_wp2_with (rw [Oper.semAt_eq _ _ _ (λc h=>by cases h)];go_simp;try go_bits)
  rw [<-hW5];clear hW5;have hbr:=run_beginRound (P:=Tryz.prog) r2 hL.state;obtain ⟨W6,UF⟩:∃W6,W6=W5.putObj (w.heap.size+2) (.loop {L with state:=.busy}):=⟨_,rfl⟩;rw [<-UF] at hbr;have g6:W5.grownBy W6 (some (w.heap.size+2)):=by rw [UF];exact grownBy_putObj_a _ _ _
  have t0:W6.heap[w.heap.size]? =some (.cells #[v] 51 (0,0)):=(g6.block _ (by omega) (by simp)).trans r0;have t1:W6.heap[w.heap.size+1]? =some (.deferred (some [])):=(g6.block _ (by omega) (by simp)).trans r1;have t2:W6.heap[w.heap.size+2]? =some (.loop {L with state:=.busy}):=by rw [UF];exact World.putObj_heap_same (by omega)
  have t3:W6.heap[W1.heap.size]? =some (.cells #[.string x.1,.string x.2] 55 (0,0)):=(g6.block _ (by omega) (by simp;omega)).trans f3;have Bw6:Below w.heap.size w W6:=Bw5.grown g6 Bw5.size (λk e=>by cases e;omega);have agK:=apr.kept g6 (ownsRow_ne_a apr r2 (λcur e=>by cases e));have z6:W6.heap.size=W1.heap.size+1:=by rw [UF];simp [f6]
  have k6:KeepsWalks W1 W6:=by rw [UF];exact f5.trans (KeepsWalks.putObj _ r2 rfl)
  clear UF f3;obtain ⟨c6,d6⟩:=Go.Dx.iw t0;have c61:W6.cell? ⟨W1.heap.size,0,none⟩=some (.string x.1):=by unfold World.cell?;simp only [t3];rfl
  have c62:W6.cell? ⟨W1.heap.size,1,none⟩=some (.string x.2):=by unfold World.cell?;simp only [t3];rfl
  obtain ⟨i55,zz,hi,avN,avO,NV,avP⟩:=Tz.akW;have hcc:∀j u,([.string x.1,.string x.2]:List Value)[j]? =some u->(W6.alloc (.cells #[.string x.1,.string x.2] 55)).cell? ((⟨W1.heap.size+1,0,none⟩:Addr).add j)=some u:=λj u hv=>by
   rw [<-z6];have hn:=Go.Dx.heap_alloc_new (w:=W6) (.cells #[.string x.1,.string x.2] 55);rw [c8];show (W6.alloc (.cells #[.string x.1,.string x.2] 55)).cell? ⟨W6.heap.size,0+j,none⟩=some u
   unfold World.cell?;simp only [hn];rw [Nat.zero_add];simpa using hv
  have ad3:∀{j:Nat} {o:Go.Obj},W6.heap[j]? =some o->(∀cur,o≠.cells cur 55 (0,0))->some j≠v.ownBlock:=λhj bq=>by
   rcases ownsRow_ne_a agK hj bq with e | e
   ·rw [e];simp
   ·exact λe'=>e e'.symm
  have Mw:maxLen=9223372036854775807:=rfl;refine ⟨W6,hbr,?_⟩
  gi_wp2_with (first
   | (gi_at_builtin;refine wpListIn_append_own _ rfl _ _ 51 rfl w.heap.size 55 i55 zz 2 32 Tryz.underlying51 hi avN avO avP NV (by decide) _ _ _ rfl (agK.alloc _) ⟨W1.heap.size+1,0,none⟩ 1 1 [.string x.1,.string x.2] rfl rfl hcc (by simp [Value.oneCell']) (by omega) (by omega) (by have:=Bw6.size;simp;omega) ?_;intro v' w3 TV Og ayW
      have Qx:w3.heap[w.heap.size]? =some (.cells #[v] 51 (0,0)):=(Og.block _ (by simp;omega) (ad3 t0 (λcur e=>by cases e))).trans ((Below.heap_alloc _ _ _ (by omega)).trans t0);obtain ⟨X3,Mg⟩:=Go.Dx.iw Qx;obtain ⟨g',MH,agL,rfl,avQ,aDG,TE,qN,ug,xe⟩:∃g' MH agL,v' = .slice (some ⟨g',0,none⟩) (pre.length+1) MH/\w.heap.size<=g'/\w3.heap[g']? =some (.cells agL 55 (0,0))/\pre.length+1<=MH/\MH<=maxLen/\agL.size=MH*2/\agL.toList.take ((pre.length+1)*2)=ca pre++[.string x.1,.string x.2]:=by
       rcases TV.2 with ⟨_,h0⟩ | h'
       ·exact absurd h0 (by omega)
       ·exact h'
      go_frame)
   | (rw [Oper.semAt_eq _ _ _ (λc h=>by cases h)];go_simp;try go_bits))
  have Gu:w.heap.size+2<W6.heap.size:=by omega
  have t2':w3.heap[w.heap.size+2]? =some (.loop {L with state:=.busy}):=(Og.block _ (by simp;omega) (ad3 t2 (λcur e=>by cases e))).trans ((Below.heap_alloc _ _ _ (by omega)).trans t2);have t1':w3.heap[w.heap.size+1]? =some (.deferred (some [])):=(Og.block _ (by simp;omega) (ad3 t1 (λcur e=>by cases e))).trans ((Below.heap_alloc _ _ _ (by omega)).trans t1);have aps:(W6.alloc (.cells #[.string x.1,.string x.2] 55)).grownBy w3 v.ownBlock:=Og;obtain ⟨W8,Wy⟩:∃W8,W8=w3.setCell ⟨w.heap.size,0,none⟩ (.slice (some ⟨g',0,none⟩) (pre.length+1) MH):=⟨_,rfl⟩;rw [<-Wy];have O0:w3.grownBy W8 (some w.heap.size):=by rw [Wy];exact grownBy_setCell0_a _ _ _
  have v0:W8.heap[w.heap.size]? =some (.cells #[.slice (some ⟨g',0,none⟩) (pre.length+1) MH] 51 (0,0)):=by rw [Wy];exact heap_setCell_box_a _ Qx
  have v1:W8.heap[w.heap.size+1]? =some (.deferred (some [])):=(O0.block _ (Array.getElem?_eq_some_iff.1 t1').1 (by simp)).trans t1';have v2:W8.heap[w.heap.size+2]? =some (.loop {L with state:=.busy}):=(O0.block _ (Array.getElem?_eq_some_iff.1 t2').1 (by simp)).trans t2';have apt:=TV.kept O0 (ownsRow_ne_a TV Qx (λcur e=>by cases e));have Bw3:Below w.heap.size w w3:=(Bw6.alloc Bw6.size _).grown aps (by have:=Bw6.size;simp;omega) (λk e=>(agK.lt k e).1);have Bw8:Below w.heap.size w W8:=Bw3.grown O0 Bw3.size (λk e=>by cases e;exact Nat.le_refl _);have k8:KeepsWalks W1 W8:=((k6.trans (KeepsWalks.alloc _ _)).trans (KeepsWalks.of_grownBy aps (ownsRow_not_walk_a (agK.alloc _)))).trans (by rw [Wy];exact KeepsWalks.setCell _ _ _);clear Wy;have ad4:=run_endRound (P:=Tryz.prog) none v2;have hLL:({({L with state:=.busy}:Loop) with state:=if (none:Option Code).isNone then .ready else .done,pending:=none}:Loop)=L:=by
   have e1:=hL.state;have e2:=hL.pending;cases L;simp only at e1 e2;subst e1;subst e2;rfl
  rw [hLL] at ad4;have sQ:w.heap.size+2<W8.heap.size:=(Array.getElem?_eq_some_iff.1 v2).1;refine ⟨_,_,ad4,rfl,⟨⟨_,(World.putObj_heap_other (by omega)).trans v0,?_,by simp⟩,World.putObj_heap_same sQ,(World.putObj_heap_other (by omega)).trans v1,Bw8.grown (grownBy_putObj_a _ _ _) Bw8.size (λk e=>by cases e;omega)⟩,k8.trans (KeepsWalks.putObj _ v2 rfl)⟩;have:=apt.kept (grownBy_putObj_a W8 (w.heap.size+2) (.loop L)) (ownsRow_ne_a apt v2 (λcur e=>by cases e));rw [Nr];simpa using this
 refine (hg _ (ApE w L w.heap.size (w.heap.size+2) (w.heap.size+1)) W3 cR (ApE.akY _ _ _ _ _ _ cR.size) Ly hM).mono ?_;rintro e W9 ⟨⟨v9,rfl⟩,ss,hS,⟨⟨v,q0',bG,hvn⟩,q2',q1',Bw9⟩⟩;refine ⟨⟨_,rfl⟩,q2',?_⟩;obtain ⟨W4,UG⟩:∃W4,W4=W9.putObj (w.heap.size+2) (.loop {L with state:=.exhausted}):=⟨_,rfl⟩;rw [<-UG];have g4:W9.grownBy W4 (some (w.heap.size+2)):=by rw [UG];exact grownBy_putObj_a _ _ _
 have r0:W4.heap[w.heap.size]? =some (.cells #[v] 51 (0,0)):=(g4.block _ (Array.getElem?_eq_some_iff.1 q0').1 (by simp)).trans q0';have r1:W4.heap[w.heap.size+1]? =some (.deferred (some [])):=(g4.block _ (Array.getElem?_eq_some_iff.1 q1').1 (by simp)).trans q1';have apw:=bG.kept g4 (ownsRow_ne_a bG q2' (λcur e=>by cases e));have dB:Below w.heap.size w W4:=Bw9.grown g4 Bw9.size (λk e=>by cases e;omega);obtain ⟨X3,Mg⟩:=Go.Dx.iw r0;clear UG q0 q1 q2 hL cR hg eg Ly q0' q1' q2' bG
 gi_wp2
 refine ⟨by simp,.inl ⟨_,_,rfl,run_takeDeferred r1,?_⟩⟩;exact ⟨_,results_tmp rfl _ _ _,v,ss,rfl,hS,apw.kept (grownBy_putObj_a _ _ _) (ownsRow_ne_a apw r1 (λcur e=>by cases e)),hvn,dB.grown (grownBy_putObj_a _ _ _) dB.size (λk e=>by cases e;omega)⟩
end Go.Proofs
namespace Go.Proofs
open Go Go.RowKit Go.Dx Go.Maps Go.Sort
def RE:Value->Option (DataW Unit×List MemPlace)
 | .agg ⟨[.string a,.string _]⟩=>if a.size<=1000000 then some (.lit (.bool true),[]) else none
 | _=>none
theorem ak1 {v:Value}{y:DataW Unit×List MemPlace}(h:RE v=some y):∃x:ON,v=oJ x:=by
 unfold RE at h;split at h
 ·exact ⟨(_,_),rfl⟩
 ·cases h
theorem agM {a b:ByteArray}{y:DataW Unit×List MemPlace}(h:RE (oJ (a,b))=some y):a.size<=1000000:=by
 simp only [RE,oJ] at h;split at h
 ·assumption
 ·cases h
set_option maxRecDepth 100000 in
set_option maxHeartbeats 1000000 in
theorem Tz.aav (l Bm b nn:Nat)(D0:DataW Unit)(J:List ON->World->Prop)
  (hY:∀pre x W,J pre W->pre.length<nn->YieldAt Fence.wide (0 - 1) Tryz.prog l #[oJ x] W λe W'=>e = .returned (.bool true)/\J (pre++[x]) W'/\KeepsWalks W W')
  (W:World) (hJ:AbidesFrom W.heap.size J) (hm:W.cell? ⟨Bm,0,none⟩=some (.map (some b))) (sY:W.ownsMap Tryz.prog 9 RE b nn D0) (h0:J [] W):
  CallsIn Fence.wide 0 Tryz.prog 267 #[.func (.yield l) #[] #[],.pointer (some ⟨Bm,0,none⟩)] W λe W'=>(∃v,e = .returned v)/\∃ss:List ON,ss.length<=nn/\(∀x∈ss,x.1.size<=1000000)/\J ss W':=by
 refine callsIn_of_wp Tryz.func267 rfl trivial ?_ rfl;simp only [Tryz.ntmps267,List.size_toArray,List.length_cons,List.length_nil,Nat.reduceAdd,Nat.reduceSub,Array.replicate_succ,Array.replicate_zero,List.push_toArray,List.append_toArray,List.nil_append,List.cons_append]
 gi_wp2_with (first
  | (gi_at_range;refine wpListIn_range_own _ rfl _ 160 rfl 9 55 (string_keyed Tryz.underlying9) Tryz.underlying160 _ b nn _ rfl sY ?_;intro w0 apx hg0 hs0)
  | gi_in)
 go_frame
 gi_loopw [4] (λ_ wr=>∃(left:Lit->Bool) (cnt:Nat) (ss:List ON),wr.ranges Tryz.prog 9 RE b W.heap.size nn D0 left cnt/\ss.length+cnt<=nn/\(∀x∈ss,x.1.size<=1000000)/\J ss wr)
  (λ_ wr=>wr.rangeLeft b W.heap.size)
 case atStart=>
  refine ⟨_,_,[],apx,?_,by simp,hJ [] W w0 none h0 hg0 (λr e=>by cases e)⟩;obtain ⟨es,clock,since,seen,c0,hb,F,hs,hD,hr,hold,HU,rest⟩:=apx;rw [<-HU];have:(leftOf es seen).size<=es.size:=by unfold leftOf;exact Array.size_filter_le
  simp;omega
 case round=>
  obtain ⟨left,cnt,ss,hrg,jQ,hss,hJs⟩:=hrel
  gi_wp2_with (first
   | (gi_at_next;refine wpListIn_next_ranges _ rfl _ rfl 9 (string_keyed Tryz.underlying9) RE encStr oJ (λkey kl hk=>by obtain ⟨x,hx,_⟩:=Maps.keyOf_str Tryz.underlying9 hk;exact ⟨x,hx⟩) (λv _ hv=>ak1 hv) b W.heap.size nn _ _ _ rfl hrg ?_ ?_)
   | gi_in)
  ·intro hc0 Xp
   gi_wp2
   go_end0
   exact ⟨⟨_,rfl⟩,ss,by omega,hss,hJs⟩
  ·intro x c1 c2 kl yd yp w2 avV agN O8 hv hat avW bA PX yZ hen
   have hJ2:J ss w2:=hJ ss wr w2 (some W.heap.size) hJs PX (λr e=>by cases e;exact ⟨Nat.le_refl _,hrg.iter_walk⟩);have hz:=Tz.ad1;have ft:=Tz.ad2;have avX:=agM hv;clear yZ;unfold oJ at hen ⊢;have g4:w2.grownBy (w2.alloc (.cells #[.string c1,.string c2] 55)) none:=⟨rfl,rfl,rfl,by simp,λk hk _=>Below.heap_alloc w2 _ k hk⟩;have k4:KeepsWalks w2 (w2.alloc (.cells #[.string c1,.string c2] 55)):=KeepsWalks.alloc _ _;have hJ4:=hJ ss w2 _ none hJ2 g4 (λr e=>by cases e);obtain ⟨fn,tmps,assign,body,hy,hR⟩:=hY ss (c1,c2) _ hJ4 (by omega);simp only [oJ] at hy
   gi_wp2
   refine ⟨rfl,hR.mono ?_⟩;rintro e W3 ⟨rfl,hJ3,hk3⟩
   gi_wp2
   have apy:=avW.of_walks (k4.trans hk3)
   go_roundw
   case rel=>exact ⟨_,avV,ss++[(c1,c2)],apy,by simp;omega,(λx hx=>(List.mem_append.1 hx).elim (hss x) λe=>by simp at e;subst e;exact avX),hJ3⟩
   case measure=>rw [apy.left_eq,hrg.left_eq];exact bA
end Go.Proofs
