/-
  The sequencer's laws. Part ZBB of the proof: slices.AppendSeq(nil, maps.Values(m)) over entries, as a contract.
-/
import Derived.Shelf.SlSortCmp.WholeK
import Derived.Shelf.SlSortCmp.NoneTotal
import Derived.Shelf.Small.Strs
import Derived.Ground.SlsfProg
import Derived.Ground.NamesProg
import Derived.Test.YteajeefphbjnmaaGreatDoorZBA
import Derived.Test.YteajeefphbjnmaaGreatDoorZAA
import Derived.Test.YteajeefphbjnmaaGreatDoorZAW
import Derived.Test.YteajeefphbjnmaaGreatDoorZAR
namespace K
open Go Go.Dx Go.RowKit Go.Proofs Go.Maps
open Go.WideElems (rg rd Fit)
set_option maxRecDepth 100000
theorem yQ (t:ByteArray):(ax t).length=t.size:=by
 unfold ax;rw [List.length_map];exact Array.length_toList
theorem vI {ρ:bE}{s:List Nat}{x:Value}(r:RV ρ (.str s) x):∃t,x = .string t/\ax t=s:=by
 generalize hv:V.str s=v at r;cases r with
 | str t=>cases hv;exact ⟨t,rfl,rfl⟩
 | _=>cases hv
theorem enters {P:Program}{f:FuncId}{func:Func}{c:Code}(hf:P.funcs[f]? =some func)(hb:func.body=some c)(hn:(func.name == "runtime.NumGoroutine")=false)(args:Array Value)(w:World):(callFunc f args).run P w = .ok (.enter f args) w:=by
 have hn:¬func.name = "runtime.NumGoroutine":=λe=>by rw [e] at hn;simp at hn
 unfold callFunc;simp [hf,hn,hb]
def HG:Value->List Nat
 | .string t=>ax t
 | _=>[]
theorem Bi {ρ:bE}:∀{m:bF} {ms:List MapEntry},pj ρ (cg m) ms->(∀e∈m,e.1.length<=1000000/\∃v,e.2.1 = .agg [.str e.1,.str v])->
  ms.length=m.length/\ms.map (·.born)=m.map (λe=>e.2.2)/\(ms.map λx=>HG x.key)=cB m/\∀x∈ms,∃t a b,x.key = .string t/\x.val = .agg ⟨[.string a,.string b]⟩/\t.size<=1000000/\a.size<=1000000
 | [],_,r,_=>by
   generalize hm:cg []=l at r;cases r with
   | nil=>exact ⟨rfl,rfl,rfl,by simp⟩
   | cons=>cases hm
 | (k,v,b)::m,_,r,hg=>by
   generalize hm:cg ((k,v,b)::m)=l at r;cases r with
   | nil=>cases hm
   | cons hk hv hn hs=>
     simp only [cg,List.cons.injEq,Prod.mk.injEq] at hm;obtain ⟨⟨rfl,rfl,rfl⟩,rfl⟩:=hm;obtain ⟨i1,i2,i3,i4⟩:=Bi (m:=m) hs λe he=>hg e (by simp [he]);obtain ⟨vO,v',hve⟩:=hg (k,v,b) (by simp);simp only at hve vO;subst hve;obtain ⟨t,ht,hkt⟩:=vI hk;have eA:∀{y:Value},RV ρ (.agg [.str k,.str v']) y->∃a b,y = .agg ⟨[.string a,.string b]⟩/\ax a=k:=λ{y} r=>by
      cases r with
      | agg q=>
        obtain ⟨y1,y2,rfl,r1,r2⟩:=q.two;obtain ⟨a,rfl,ha⟩:=vI r1;obtain ⟨b',rfl,_⟩:=vI r2;exact ⟨a,b',rfl,ha⟩
     obtain ⟨a,b',he,ha⟩:=eA hv;have ft:∀{u:ByteArray},ax u=k->u.size<=1000000:=λ{u} e=>by
      rw [<-yQ,e];exact vO
     refine ⟨by simp [i1],by simp [i2,hn],?_,λx hx=>?_⟩
     ·have e0:HG (Value.string t)=k:=hkt
      simp only [List.map_cons,cB,ht,e0];simp only [cB] at i3;rw [i3]
     ·rcases List.mem_cons.1 hx with rfl | hx
      ·exact ⟨t,a,b',ht,he,ft hkt,ft ha⟩
      ·exact i4 x hx
theorem agO (ss:List ON):∃es:EL,es.length=ss.length/\(∀e∈es,∃x∈ss,e.1.length=x.1.size)/\∀(ρ:bE) (i:Nat) v,(dJ es)[i]? =some v->∃x,(ca ss)[i]? =some x/\RV ρ v x:=by
 induction ss with
 | nil=>exact ⟨[],rfl,by simp,λρ i v h=>by simp [dJ] at h⟩
 | cons x ss ih=>
   obtain ⟨es,h1,h2,h3⟩:=ih;refine ⟨(ax x.1,ax x.2)::es,by simp [h1],λe he=>?_,λρ i v h=>?_⟩
   ·rcases List.mem_cons.1 he with rfl | he
    ·exact ⟨x,by simp,yQ _⟩
    ·obtain ⟨y,hy,e2⟩:=h2 e he
     exact ⟨y,by simp [hy],e2⟩
   ·match i with
    | 0=>simp [dJ] at h;subst h;exact ⟨_,by simp [ca],.str _⟩
    | 1=>simp [dJ] at h;subst h;exact ⟨_,by simp [ca],.str _⟩
    | i+2=>
      obtain ⟨y,hy,r⟩:=h3 ρ i v (by simpa [dJ] using h);exact ⟨y,by simpa [ca] using hy,r⟩
theorem GG {h:H}{lm lb:Lb}{m:bF}{c:Nat}{e:TypeId}{fz:Nat}{own:Own}(hw:Wf h)(S:qS h lm m c)(PT:m.length<=1000000000)(hb:h.get lb=some (.cells [.map lm] e fz own)){Q:V->H->Prop} (hq:∀ov (es:EL) h',aE h' 55 2 ov es.length (dJ es)->es.length<=m.length->(∀e∈es,e.1.length<=1000000)->Fr h ov->Mod h h' []->Wf h'->Q ov h'):
  CW pf G0 js [.nilSlice 0,.func 267 [] [.ptr lb 0]] h Q:=by
 refine .mk λ{B w0 ρ w xs} R hG hx=>?_;obtain ⟨x1,x2,rfl,r1,r2⟩:=hx.two;cases r1;obtain ⟨a',b',rfl,ra,rb⟩:=qm r2;cases ra;obtain ⟨y,rfl,ry⟩:=rb.one;obtain ⟨bb,Y9,rfl⟩:=dP ry;have c0:dO ρ bb [.map lm] e fz own w:=R.obj _ _ _ Y9 hb;obtain ⟨q,q1,q2⟩:=c0.cell 0 _ rfl;obtain ⟨bm,hbm,rfl⟩:=kE q2;obtain ⟨ms,NT,lP⟩:∃ms:Array MapEntry,w.heap[bm.block]? =some (.map ms c)/\pj ρ (cg m) ms.toList:=R.obj _ _ _ hbm S.get;obtain ⟨f1,f2,f3,f4⟩:=Bi lP S.dJ;have G8:=(R.base _ _ Y9).1;unfold cZ at q1;rw [G8] at q1;have sY:w.ownsMap Tryz.prog 9 RE bm.block m.length (.map ((ms.toList.map (rg Tryz.prog 9 RE)).foldr DataW.insert [])):=by
  refine ⟨ms,c,NT,⟨?_,⟨λx hx=>?_,?_,?_⟩,λx hx=>?_⟩,?_,rfl⟩
  ·have Mw:maxLen=9223372036854775807:=rfl
   rw [<-Array.length_toList,f1];omega
  ·have G3:x.born∈ms.toList.map (·.born):=List.mem_map_of_mem hx
   rw [f2] at G3;obtain ⟨e',It,e2⟩:=List.mem_map.1 G3;rw [<-e2];exact S.ok.old e' It
  ·rw [f2];exact S.ok.DV
  ·have hk:=S.ok.keys
   rw [<-f3] at hk;have Fc:((ms.toList.map (·.key)).map HG).Nodup:=by rw [List.map_map];exact hk
   exact List.Pairwise.of_map HG (λ_ _ h e=>h (by rw [e])) Fc
  ·obtain ⟨t,a,b,hk,hv,ht,ha⟩:=f4 x hx
   have Mw:maxLen=9223372036854775807:=rfl;have agN:Go.keyOf Tryz.prog 9 x.key=some (.string t.data.toList):=by
    rw [hk];simp [Go.keyOf,Tryz.underlying9,mapKey];omega
   exact ⟨_,by unfold rd;rw [agN,hv];simp only [Option.bind_some,RE,if_pos ha];rfl⟩
  ·rw [<-Array.length_toList,f1];exact Nat.le_refl _
 have Wz:bb.block<w.heap.size:=(R.obj _ _ _ Y9 hb:sf ρ bb w _).lt;have avY:bm.block<w.heap.size:=(R.obj _ _ _ hbm S.get:sf ρ bm w _).lt;have ak2:SeqGives Fence.wide 0 Tryz.prog 267 #[.pointer (some ⟨bb.block,0,none⟩)] oJ (λss=>ss.length<=m.length/\∀x∈ss,x.1.size<=1000000) m.length w:=λl J W hW hJ hY h0=>by
  have TV:W.ownsMap Tryz.prog 9 RE bm.block m.length (.map ((ms.toList.map (rg Tryz.prog 9 RE)).foldr DataW.insert [])):=by
   obtain ⟨es,clock,hb,Ft,hs,hD⟩:=sY;exact ⟨es,clock,(hW.block _ avY).trans hb,Ft,hs,hD⟩
  exact (Tz.aav l bb.block bm.block m.length _ J hY W hJ ((hW.cell (p:=⟨bb.block,0,none⟩) Wz).trans q1) TV h0).mono λe W' ⟨h1,ss,h2,h3,h4⟩=>⟨h1,ss,⟨h2,h3⟩,h4⟩
 have gw:=Tz.akZ 267 #[.pointer (some ⟨bb.block,0,none⟩)] (enters Tryz.func267 rfl (by kernel_rfl)) w _ m.length (by omega) ak2;have WA:Calls (pf ()) js ⟨[.slice none 0 0,.func (.func 267) #[] #[.pointer (some ⟨bb.block,bb.base+0,none⟩)]]⟩ w λe w'=>∃v ss,e = .returned v/\(ss.length<=m.length/\∀x∈ss,x.1.size<=1000000)/\w'.ownsRow w.heap.size 55 2 v ss.length (ca ss)/\(v = .slice none 0 0<->ss=[])/\RowKit.Below w.heap.size w w':=by rw [G8];exact gw
 refine Good.iq Tryz.func289 rfl rfl (WA.mono λe' w' ⟨v,ss,he,⟨AN,yZ⟩,bG,Vp,Lq⟩=>⟨_,he,?_⟩);obtain ⟨es,e1,e2,e3⟩:=agO ss;have apA:∀e∈es,e.1.length<=1000000:=λe he=>by
  obtain ⟨x,hx,hl⟩:=e2 e he;rw [hl];exact yZ x hx
 rcases bG.2 with ⟨rfl,eT⟩ | ⟨g',cap,cur,rfl,jb,yR,hle,wm,ft,fh⟩
 ·have:es=[]:=by cases es with | nil=>rfl | cons a b=>simp at e1;omega
  subst this;exact ⟨.nilSlice 0,h,ρ,hq _ [] h .nil (by simp) (by simp) (Fr.EO _ _) (Mod.refl _ _) hw,Step.refl _ _,.nilSlice 0,R.DR Lq⟩
 ·obtain ⟨a1,a2,a3,a4⟩:=H.add_mod hw (.cells (dJ es) 55 0 .yes)
  have E:=eI (b:=dZ.mk g' 0 (cap*2) .nilFunc) R.fresh;have iR:(dJ es).length=ss.length*2:=by rw [jA,e1]
  refine ⟨.slice h.next 0 es.length (.toEnd 2),_,uc ρ h.next (dZ.mk g' 0 (cap*2) .nilFunc),hq _ es _ (.ends a1 (jA es)) (by omega) apA (λl hl=>by simp [af] at hl;subst hl;exact a2) a3 a4,Step.add _ _ _ _,?_,R.named Lq jb ⟨rfl,rfl⟩ ?_⟩
  ·have:=RV.sliceEnd (ρ:=uc ρ h.next (dZ.mk g' 0 (cap*2) .nilFunc)) (l:=h.next) 0 es.length 2 cap (aS _ _ _) (by omega) (by simp)
   rw [e1] at this ⊢;simpa using this
  ·refine ⟨?_,?_,λi v hv=>?_,λ_ i hi hl=>?_,λ_=>⟨cur,0,0,yR,Nat.zero_le _,Nat.le_refl _⟩⟩
   ·simp [World.shape?,yR,ft]
   ·show 0+(dJ es).length<=cap*2;omega
   ·obtain ⟨x,uf,lH⟩:=e3 (uc ρ h.next (dZ.mk g' 0 (cap*2) .nilFunc)) i v hv
    refine ⟨x,?_,lH⟩;have hi:=(List.getElem?_eq_some_iff.1 hv).1;unfold cZ World.cell?;simp only [yR,Nat.zero_add];have:cur.toList[i]? =some x:=by
     rw [<-fh,List.getElem?_take,if_pos (by omega)] at uf;exact uf
    simpa using this
   ·simp [World.frozen?,yR]
end K
namespace Go.Proofs
open Go.Shelf Go.RowKit Go.Lib Go.Sort
def tY (x:ON):List Value:=[.string x.1,.string x.2]
def WB (x y:ON):Int:=Lib.compareBytes x.1.data.toList y.1.data.toList
set_option maxHeartbeats 1000000 in
theorem Tryz.WC (x y:ON)(W:World):Calls Tryz.prog 241 #[.agg #[.string x.1,.string x.2],.agg #[.string y.1,.string y.2]] W λe w'=>e = .returned (.int .i64 (WB x y))/\∃q os',w'=grow (W.drewN q) os':=by
 have ak3:=λW'=>Any.strings_Compare Tryz.afn x.1 y.1 W'
 change ∀W',Calls Tryz.prog 242 _ _ _ at ak3
 unfold WB;generalize Lib.compareBytes x.1.data.toList y.1.data.toList=r at ak3 ⊢
 go_enter Tryz.func241,Tryz.ntmps241
 go_wp2_with (go_at_call 242;refine (ak3 _).mono ?_;rintro e w' ⟨rfl,rfl⟩)
 go_ret
 exact ⟨rfl,0,_,by rw [alloc_eq_grow,alloc_eq_grow,grow_grow];rfl⟩
theorem Tryz.WD (blk off size:Nat)(w:World):CmpLays Tryz.prog 241 #[] tY 2 WB blk off size w:=
 λ_ _ _ _ x y=>Tryz.WC x y _
theorem QO (x y:UInt8)(a b:List UInt8):(compareBytes (x::a) (y::b)<0<->x.toNat<y.toNat\/x.toNat=y.toNat/\compareBytes a b<0):=by
 simp only [compareBytes,UInt8.lt_iff_toNat_lt]
 by_cases h1:x.toNat<y.toNat
 ·simp [h1]
 ·by_cases h2:y.toNat<x.toNat
  ·simp [h1,h2];omega
  ·have:x.toNat=y.toNat:=by omega
   simp [this]
theorem OO:∀a:List UInt8,¬compareBytes a a<0
 | []=>by simp [compareBytes]
 | x::a=>by rw [QO];have:=OO a;omega
theorem TW:∀a b c:List UInt8,compareBytes a b<0->compareBytes b c<0->compareBytes a c<0
 | [],[],c,h1,_=>by simp [compareBytes] at h1
 | [],y::b,[],_,h2=>by simp [compareBytes] at h2
 | [],y::b,z::c,_,_=>by simp [compareBytes]
 | x::a,[],c,h1,_=>by simp [compareBytes] at h1
 | x::a,y::b,[],_,h2=>by simp [compareBytes] at h2
 | x::a,y::b,z::c,h1,h2=>by
   rw [QO] at h1 h2 ⊢;have ih:=TW a b c
   by_cases h3:compareBytes a c<0
   ·omega
   ·by_cases h4:compareBytes a b<0
    ·by_cases h5:compareBytes b c<0
     ·exact absurd (ih h4 h5) h3
     ·omega
    ·omega
theorem OP:∀a b c:List UInt8,¬compareBytes a b<0->¬compareBytes b c<0->¬compareBytes a c<0
 | [],[],c,_,h2=>h2
 | [],y::b,c,h1,_=>by simp [compareBytes] at h1
 | x::a,[],[],h1,_=>h1
 | x::a,[],z::c,_,h2=>by simp [compareBytes] at h2
 | x::a,y::b,[],_,_=>by simp [compareBytes]
 | x::a,y::b,z::c,h1,h2=>by
   rw [QO] at h1 h2 ⊢;have ih:=OP a b c
   by_cases h3:compareBytes a c<0
   ·by_cases h4:compareBytes a b<0
    ·omega
    ·by_cases h5:compareBytes b c<0
     ·omega
     ·exact absurd h3 (ih h4 h5)
   ·omega
theorem avZ:SWO (ltOf WB):={
 irrefl:=λx=>decide_eq_false (OO x.1.data.toList)
 trans:=λx y z h1 h2=>decide_eq_true (TW x.1.data.toList y.1.data.toList z.1.data.toList (of_decide_eq_true h1) (of_decide_eq_true h2))
 ntrans:=λx y z h1 h2=>decide_eq_false (OP x.1.data.toList y.1.data.toList z.1.data.toList (of_decide_eq_false h1) (of_decide_eq_false h2))}
theorem Tryz.aaw (blk off cap:Nat)(d:Array ON)(w:World)(hH:HoldsK tY 2 w blk off d)(hblk:blk<w.heap.size)(ft:d.size<4611686018427387904):
  Calls Tryz.prog 266 #[.slice (some ⟨blk,off,none⟩) d.size cap,.func (.func 241) #[] #[]] w λe w'=>e = .returned (.tuple #[])/\∃d' n os,PermIn 0 d.size d d'/\SortedIn (ltOf WB) 0 d.size d'/\w'=sortWorldK tY 2 w blk off n d' os:=
 AnyQ.slices_SortFunc Tryz.ahu 2 Tryz.isAgg55 Tryz.sizeOf55 tY (λ_=>rfl) (λx v hv=>by simp [tY] at hv;rcases hv with rfl | rfl<;>rfl) WB avZ 241 #[] blk off cap d w (K.enters Tryz.func241 rfl (by kernel_rfl)) (Tryz.WD blk off d.size w) hH hblk ft
theorem Tryz.Lz (cap:Nat)(w:World):Calls Tryz.prog 266 #[.slice none 0 cap,.func (.func 241) #[] #[]] w λe w'=>e = .returned (.tuple #[])/\w'=w:=
 AnyF.slices_SortFunc_none Tryz.ahu none cap _ w
end Go.Proofs
namespace K
open Go Go.Dx Go.RowKit Go.Proofs Go.Sort
set_option maxRecDepth 100000
def WE (x:ON):List Nat×List Nat:=(ax x.1,ax x.2)
theorem LA {ρ:bE}{w:World}{blk:Nat}:∀{es:EL} {o:Nat},(∀i v,(dJ es)[i]? =some v->∃x,w.cell? ⟨blk,o+i,none⟩=some x/\RV ρ v x)->∃ss:List ON,ss.map WE=es/\∀(j:Nat) v,(ca ss)[j]? =some v->w.cell? ⟨blk,o+j,none⟩=some v
 | [],o,h=>⟨[],rfl,λj v hv=>by simp [ca] at hv⟩
 | e::es,o,h=>by
   obtain ⟨x1,a1,r1⟩:=h 0 (.str e.1) rfl;obtain ⟨x2,a2,r2⟩:=h 1 (.str e.2) rfl;obtain ⟨t1,rfl,e1⟩:=vI r1;obtain ⟨t2,rfl,e2⟩:=vI r2;obtain ⟨ss,AN,yZ⟩:=LA (es:=es) (o:=o+2) (w:=w) (ρ:=ρ) (blk:=blk) λi v hv=>by
    have:=h (i+2) v (by simpa [dJ] using hv)
    rwa [show o+(i+2)=o+2+i by omega] at this
   refine ⟨(t1,t2)::ss,by simp [AN,WE,e1,e2],λj v hv=>?_⟩
   match j with
   | 0=>simp [ca] at hv;subst hv;exact a1
   | 1=>simp [ca] at hv;subst hv;exact a2
   | j+2=>
     have:=yZ j v (by simpa [ca] using hv)
     rwa [show o+(j+2)=o+2+j by omega]
theorem TX (ρ:bE):∀(ss:List ON) (i:Nat) v,(dJ (ss.map WE))[i]? =some v->∃x,(ca ss)[i]? =some x/\RV ρ v x
 | [],i,v,h=>by simp [dJ] at h
 | x::ss,0,v,h=>by simp [dJ] at h;subst h;exact ⟨_,by simp [ca],.str _⟩
 | x::ss,1,v,h=>by simp [dJ] at h;subst h;exact ⟨_,by simp [ca],.str _⟩
 | x::ss,i+2,v,h=>by
   obtain ⟨y,hy,r⟩:=TX ρ ss i v (by simpa [dJ] using h);exact ⟨y,by simpa [ca] using hy,r⟩
theorem TY:∀(ss:List ON) (j:Nat),j<ss.length*2->(ca ss)[j]? =some ((tY (ss[j / 2]!))[j % 2]!)
 | [],j,h=>by simp at h
 | x::ss,0,h=>by simp [ca,tY]
 | x::ss,1,h=>by simp [ca,tY]
 | x::ss,j+2,h=>by
   have:=TY ss j (by simp at h;omega);rw [show (j+2) / 2=j / 2+1 by omega,show (j+2) % 2=j % 2 by omega];simpa [ca] using this
theorem OQ (ss:List ON)(j:Nat)(h:j<ss.length*2):(ca ss)[j]? =some ((flatK tY 2 ss.toArray)[j]!):=by
 rw [get_flatK _ _ _ _ (by simpa using h),TY ss j h];simp
theorem aax {h:H}{v:V}{es:EL}(hw:Wf h)(ho:aE h 55 2 v es.length (dJ es))(hl:es.length<=1000000000000){Q:V->H->Prop} (hq:∀(se:EL) h',se.length=es.length->(∀e∈se,e∈es)->aE h' 55 2 v se.length (dJ se)->Mod h h' (af v)->Wf h'->Q (.tuple []) h'):CW pf G0 dH [v,.func 241 [] []] h Q:=by
 refine .mk λ{B w0 ρ w us} R hG hx=>?_;have key:∀(l:Lb) (b:dZ) (cap:Nat),h.get l=some (.cells (dJ es) 55 0 .yes)->ρ l=some b->af v=[l]->(∀h' (ys:EL),ys.length=es.length->h'.get l=some (.cells (dJ ys) 55 0 .yes)->aE h' 55 2 v ys.length (dJ ys))->Good (pf ()) dH [.slice (some ⟨b.block,b.base,none⟩) es.length cap,.func (.func 241) #[] #[]] w λx w'=>∃v h' ρ',Q v h'/\Step ρ ρ' h h'/\RV ρ' v x/\aA B w0 ρ' h' w':=λl b cap hg hb Qt sY=>by
  have c:dO ρ b (dJ es) 55 0 .yes w:=R.obj l b _ hb hg;obtain ⟨ss,AN,yZ⟩:=LA (o:=b.base) λi v hv=>c.cell i v hv;have mD:ss.length=es.length:=by rw [<-AN,List.length_map]
  have fC:=(R.base l b hb).1;have uH:=c.fits;rw [jA] at uH;have hH:HoldsK tY 2 w b.block b.base ss.toArray:=λj hj=>by
   have hj':j<ss.length*2:=by simpa using hj
   exact ⟨yZ j _ (OQ ss j hj'),c.free rfl _ (by omega) (by omega)⟩
  have gw:Calls (pf ()) dH ⟨[.slice (some ⟨b.block,b.base,none⟩) es.length cap,.func (.func 241) #[] #[]]⟩ w λe w'=>e = .returned (.tuple #[])/\∃d' n os,PermIn 0 ss.toArray.size ss.toArray d'/\SortedIn (ltOf WB) 0 ss.toArray.size d'/\w'=sortWorldK tY 2 w b.block b.base n d' os:=by
   have:=Tryz.aaw b.block b.base cap ss.toArray w hH (R.obj l b _ hb hg:sf ρ b w _).lt (by simp;omega);rw [show ss.toArray.size=es.length by simp [mD]] at this ⊢;exact this
  refine Good.iq Tryz.func266 rfl rfl (gw.mono λe w' ⟨he,d',n,os,hp,_,cG⟩=>⟨_,he,?_⟩);obtain ⟨AE,_,zA⟩:=hp;obtain ⟨ts,AQ⟩:∃ts,ts=d'.toList:=⟨_,rfl⟩;have htd:d'=ts.toArray:=by rw [AQ]
  subst htd;have Cc:ts.length=es.length:=by simpa [mD] using AE
  have apB:ts.Perm ss:=by
   rw [show ss.toArray.size=ts.toArray.size from AE.symm] at zA;simp [Cc] at zA
   rwa [List.take_of_length_le (by omega),List.take_of_length_le (by omega)] at zA
  have iR:(ts.map WE).length=es.length:=by rw [List.length_map,Cc]
  obtain ⟨g1,g2,g3⟩:=H.eM hw hg rfl (.cells (dJ (ts.map WE)) 55 0 .yes);have R':aA B w0 ρ (h.set l (.cells (dJ (ts.map WE)) 55 0 .yes)) (putRow id (Sort.ahead w n) b.block 0 (flatK tY 2 ts.toArray)):=(CM R n).rewrite hb hg id (flatK tY 2 ts.toArray) (by simp [jA,Cc]) (by rw [jA,jA,iR]) λi v hv=>by
   have hi:=(List.getElem?_eq_some_iff.1 hv).1;rw [jA,List.length_map] at hi;obtain ⟨x,uf,lH⟩:=TX ρ ts i v hv;rw [OQ ts i hi] at uf;cases uf;exact lH
  refine ⟨.tuple [],_,ρ,hq (ts.map WE) _ iR (λy hy=>?_) (sY _ _ iR g1) (Qt▸g2) g3,⟨λ_ _=>rfl,g2.next⟩,.tuple .nil,?_⟩
  ·obtain ⟨t,ht,rfl⟩:=List.mem_map.1 hy
   rw [<-AN];exact List.mem_map_of_mem (apB.mem_iff.1 ht)
  ·rw [cG,fC]
   have:=CN os.toList R';simpa [sortWorldK,putRowK] using this
 generalize vB:es.length=n at ho key;generalize jQ:dJ es=cs at ho key;obtain ⟨x1,x2,rfl,r1,r2⟩:=hx.two;obtain ⟨a',b',rfl,ra,rb⟩:=qm r2;cases ra;cases rb;cases ho with
 | nil=>
   cases r1 with
   | nilSlice c=>
     have gw:Calls (pf ()) dH ⟨[.slice none 0 0,.func (.func 241) #[] #[]]⟩ w λe w'=>e = .returned (.tuple #[])/\w'=w:=Tryz.Lz 0 w;refine Good.iq Tryz.func266 rfl rfl (gw.mono λe w' ⟨he,cG⟩=>⟨_,he,?_⟩);have lN:es=[]:=by cases es with | nil=>rfl | cons a b=>cases vB
     subst lN;exact ⟨.tuple [],h,ρ,hq [] h rfl (by simp) .nil (Mod.refl _ _) hw,Step.refl _ _,.tuple .nil,cG▸R⟩
 | ends hg hlen=>
   cases r1 with
   | @sliceEnd _ b _ _ size c hb jc E5=>
     exact key _ b c hg hb rfl λh' ys hy hg'=>by rw [hy];exact .ends hg' (by rw [jA,hy])
 | exact hg hlen=>
   cases r1 with
   | @slice _ b _ _ c hb=>
     exact key _ b _ hg hb rfl λh' ys hy hg'=>by rw [hy];exact .exact hg' (by rw [jA,hy])
theorem agP {h:H}{lm:Lb}{m:bF}{c:Nat}(hw:Wf h)(S:qS h lm m c)(PT:m.length<=1000000000){Q:V->H->Prop} (hq:∀ov (es:EL) h',aE h' 55 2 ov es.length (dJ es)->es.length<=m.length->(∀e∈es,e.1.length<=1000000)->Fr h ov->Mod h h' []->Wf h'->Q ov h'):CW pf G0 nI [.map lm] h Q:=by
 refine yC.enter (by kernel_rfl) ?_;cbv;refine AA.enter (by kernel_rfl) ?_;cbv;refine .flat rfl ?_;cbv;refine .of hw λlb h1 cx gG ar aM=>?_;cbv;refine rh.enter (by kernel_rfl) ?_;cbv;refine vt.enter (by kernel_rfl) ?_;cbv;refine GG aM (S.mono ar) PT cx λov es h2 ke jc Fc Bo aq aN=>?_;have aO:Mod h h2 []:=(ar.trans aq).mono λl o _ hl=>by simp at hl
 have hf:Fr h ov:=λl hl=>ai ar (by simp) (Bo l hl);cbv;refine aax aN ke (by omega) λse h3 iY gi fT aF aR=>?_;cbv;exact hq ov se h3 fT (by omega) (λe he=>Fc e (gi e he)) hf (aO.fr aF λl hl=>.inl (hf l hl)) aR
end K
namespace K
open Go Go.Dx Go.RowKit Go.Proofs
set_option maxRecDepth 100000
theorem Ns (m:bF)(k:List Nat)(v:V)(c:Nat):(fA (dh m k v c) k).length<=m.length:=by
 induction m with
 | nil=>simp [dh,fA]
 | cons e r ih=>
   obtain ⟨x,w,b⟩:=e;simp only [dh];split
   ·rename_i e
    subst e;simp [fA]
   ·rename_i e
    simp only [fA,if_neg e,List.length_cons];omega
theorem T0 {h:H}{ev ov:V}{es:EL}{ops:List zE}(hw:Wf h)(hs:Sl h 2 ev es.length (dJ es))(lP:Ww es)(ho:Sl h 3 ov ops.length (AI ops))(hol:ops.length<=1000000)(pX:∀o∈ops,o.key.length<=1000000) {Q:V->H->Prop} (hq:∀rv (se:EL) h',aE h' 55 2 rv se.length (dJ se)->se.length<=es.length+(ops.filter λo=>!o.gone).length->(∀e∈se,e.1.length<=1000000)->Fr h rv->Mod h h' []->Wf h'->Q rv h'):CW pf G0 v8 [ev,ov] h Q:=by
 have ar:=lP.iZ;refine H8.enter (by kernel_rfl) ?_;cbv;refine aih hw hs (by omega) lP.keys λlm m0 c0 h1 S1 PT CR ar aM=>?_;cbv;refine .of (ho.mono ar) λn eT hn=>?_;cbv;refine .inv [p5,p10,p11,p12] (λm' aC h'=>∃(x:Int) (m:bF) (c:Nat),aC=[.map lm,ov,.int .i64 n,.int .i64 x]/\0<=x/\x.toNat<=ops.length/\m'=ops.length - x.toNat/\m.length<=es.length+((ops.take x.toNat).filter λo=>!o.gone).length/\qS h' lm m c/\Mod h h' []/\Wf h') [_,_,_,_] rfl _
  ⟨0,m0,c0,rfl,by omega,by simp,rfl,by simpa using PT,S1,ar,aM⟩ ?_
 rintro m' _ h2 ⟨x,m,c,rfl,lN,hx,dY,av0,S2,aq,aN⟩;cbv;refine .lt (λbA=>?_) λjb=>?_
 ·obtain ⟨o,hoe⟩:∃o,ops[x.toNat]? =some o:=⟨_,List.getElem?_eq_getElem (by omega)⟩
  have vO:=pX o (List.mem_of_getElem? hoe);have htk:((ops.take (x.toNat+1)).filter λo=>!o.gone).length=((ops.take x.toNat).filter λo=>!o.gone).length+(if o.gone then 0 else 1):=by
   rw [List.take_add_one,hoe,List.filter_append,List.length_append];obtain ⟨k,g,v⟩:=o;cases g<;>simp
  obtain ⟨k,g,v⟩:=o;cbv;refine .of (ho.mono aq) lN rfl (by omega) (zF ops _ _ hoe) λq off heq=>?_;cbv;refine .ka heq rfl ?_;cbv;refine .of aN λle h3 CS lA aF aR=>?_;cbv;refine .of (cs:=[.str k,.bool g,.str v]) aR CS rfl rfl rfl rfl rfl rfl λh4 vL aD aQ=>?_;have fe:=ai aq (by simp) lA;have uJ:lm≠le:=λe=>by subst e;rw [S2.get] at lA;cases lA
  have S4:=(S2.mono aF).mono aD (by simpa using uJ);have ay:Mod h h4 []:=((aq.trans aF).fr aD λl hl=>by simp at hl;subst hl;exact .inl fe).mono λl o _ hl=>by simp at hl
  cbv;refine .of vL rfl ?_;cbv;refine .of vL rfl ?_;cbv;refine .of vL rfl ?_;cbv;refine .flat rfl ?_;cbv;refine .flat rfl ?_;cbv;refine .of aQ S4.get λh5 we aY bH=>?_;have aL:Mod h h5 []:=ay.fr aY λl hl=>by simp at hl;subst hl;exact .inl CR
  have S5:=S4.set vO we;have Jj:=aY.get vL (by simpa using Ne.symm uJ);cbv;refine .of Jj rfl ?_;cases g
  ·have:=Lu m k (.agg [.str k,.str v]) c
   simp only [Bool.false_eq_true,if_false] at htk;cbv;refine .add (by omega) (by omega) λx2 lH=>?_;have ur:x2.toNat=x.toNat+1:=by omega
   have Vo:(dh m k (.agg [.str k,.str v]) c).length<=es.length+((ops.take x2.toNat).filter λo=>!o.gone).length:=by rw [ur,htk];omega
   cbv;exact ⟨rfl,ops.length - x2.toNat,by omega,x2,_,_,rfl,by omega,by omega,rfl,Vo,S5,aL,bH⟩
  ·cbv;refine .of Jj rfl ?_
   cbv;refine .of bH S5.get λh6 Qu bP cy=>?_;have bT:Mod h h6 []:=aL.fr bP λl hl=>by simp at hl;subst hl;exact .inl CR
   have:=Ns m k (.agg [.str k,.str v]) c;simp only [if_true] at htk;cbv;refine .add (by omega) (by omega) λx2 lH=>?_;have ur:x2.toNat=x.toNat+1:=by omega
   have Vo:(fA (dh m k (.agg [.str k,.str v]) c) k).length<=es.length+((ops.take x2.toNat).filter λo=>!o.gone).length:=by rw [ur,htk];omega
   cbv;exact ⟨rfl,ops.length - x2.toNat,by omega,x2,_,_,rfl,by omega,by omega,rfl,Vo,S5.del Qu,bT,cy⟩
 ·rw [List.take_of_length_le (by omega)] at av0
  have gC:(ops.filter λo=>!o.gone).length<=ops.length:=List.length_filter_le _ _;cbv;refine agP aN S2 (by omega) λrv se h3 fT iY hk3 Mg aF aR=>?_;cbv;exact hq rv se h3 fT (by omega) hk3 (λl hl=>ai aq (by simp) (Mg l hl)) ((aq.trans aF).mono λl o _ hl=>by simp at hl) aR
theorem apC {h:H}{ev:V}{es:EL}{kind:Int}{OM aI name text:List Nat}(hw:Wf h)(he:HE h)(hs:Sl h 2 ev es.length (dJ es))(lP:Ww es)(akR:OM.length<=1000000)(hi:aI.length<=1000000)(hn:name.length<=1000000){Q:V->H->Prop}
  (hq:∀rv (se:EL) err h',(err = .nilIface\/∃a y,err=Wt a y)->aE h' 55 2 rv se.length (dJ se)->se.length<=es.length+1->(∀e∈se,e.1.length<=1000000)->Fr h rv->Mod h h' []->Wf h'->Q (.tuple [rv,err]) h'):
  CW pf G0 Ea [ev,.str OM,Mu kind aI name text] h Q:=by
 refine Qj.enter (by kernel_rfl) ?_;cbv;refine .agg ?_;cbv;refine .of hw λlb h1 cx gG ar aM=>?_;cbv;refine .of cx rfl ?_;have iR:=lP.iZ;cbv;refine Lx aM (he.mono ar) (hs.mono ar) lP akR hi hn (λa y h2 aq aN=>?_) λov ops h2 ke T _ aq Bo aN=>?_
 all_goals
  have aO:Mod h h2 []:=(ar.trans aq).mono λl o _ hl=>by simp at hl
 ·cbv;refine T0 (ops:=[]) aN (hs.mono aO) lP (aE.nil (e:=0)).sl (by simp) (by simp) λrv se h3 fT iY hk3 Mg aF aR=>?_
  cbv;exact hq rv se (Wt a y) h3 (.inr ⟨a,y,rfl⟩) fT (by simp at iY;omega) hk3 (λl hl=>ai aO (by simp) (Mg l hl)) ((aO.trans aF).mono λl o _ hl=>by simp at hl) aR
 ·have h1:=T.iZ
  have h2':=T.avL;cbv;refine T0 aN (hs.mono aO) lP ke.sl (by omega) (λo ho=>(T.each o ho).1) λrv se h3 fT iY hk3 Mg aF aR=>?_;cbv;exact hq rv se .nilIface h3 (.inl rfl) fT (by omega) hk3 (λl hl=>ai aO (by simp) (Mg l hl)) ((aO.trans aF).mono λl o _ hl=>by simp at hl) aR
end K
namespace K
open Go Go.Dx Go.RowKit Go.Proofs
set_option maxRecDepth 100000
def iB (c:Int):Int×Int×Int:=
 if c<128 then (1,128,191) else if 194<=c/\c<=223 then (2,128,191) else if c=224 then (3,160,191) else if c=237 then (3,128,159) else if 225<=c/\c<=239 then (3,128,191)
 else if c=240 then (4,144,191) else if c=244 then (4,128,143) else if 241<=c/\c<=243 then (4,128,191) else (0,0,0)
theorem T1 {h:H}{c:Int}{Q:V->H->Prop} (hq:∀n lo hi:Int,(n,lo,hi)=iB c->0<=n->n<=4->Q (.tuple [.int .i64 n,.int .u8 lo,.int .u8 hi]) h):CW pf G0 yc [.int .u8 c] h Q:=by
 refine Hu.enter (by kernel_rfl) ?_;cbv;refine .lt (λe=>?_) λe=>?_
 ·have hx:((1:Int),(128:Int),(191:Int))=iB c:=by unfold iB;rw [if_pos e]
  cbv;exact hq _ _ _ hx (by omega) (by omega)
 cbv;refine .ge (λe1=>?_) λe1=>?_
 ·cbv;refine .le (λe2=>?_) λe2=>?_
  ·have hx:((2:Int),(128:Int),(191:Int))=iB c:=by unfold iB;rw [if_neg (by omega),if_pos (by omega)]
   cbv;exact hq _ _ _ hx (by omega) (by omega)
  have n2:¬(194<=c/\c<=223):=by omega
  cbv;refine .eq (λe3=>?_) λe3=>?_
  ·have hx:((3:Int),(160:Int),(191:Int))=iB c:=by unfold iB;rw [if_neg (by omega),if_neg n2,if_pos e3]
   cbv;exact hq _ _ _ hx (by omega) (by omega)
  cbv;refine .eq (λe4=>?_) λe4=>?_
  ·have hx:((3:Int),(128:Int),(159:Int))=iB c:=by unfold iB;rw [if_neg (by omega),if_neg n2,if_neg e3,if_pos e4]
   cbv;exact hq _ _ _ hx (by omega) (by omega)
  cbv;refine .ge (λe5=>?_) λe5=>?_
  ·cbv;refine .le (λe6=>?_) λe6=>?_
   ·have hx:((3:Int),(128:Int),(191:Int))=iB c:=by unfold iB;rw [if_neg (by omega),if_neg n2,if_neg e3,if_neg e4,if_pos (by omega)]
    cbv;exact hq _ _ _ hx (by omega) (by omega)
   have n5:¬(225<=c/\c<=239):=by omega
   cbv;refine .eq (λe7=>?_) λe7=>?_
   ·have hx:((4:Int),(144:Int),(191:Int))=iB c:=by unfold iB;rw [if_neg (by omega),if_neg n2,if_neg e3,if_neg e4,if_neg n5,if_pos e7]
    cbv;exact hq _ _ _ hx (by omega) (by omega)
   cbv;refine .eq (λe8=>?_) λe8=>?_
   ·have hx:((4:Int),(128:Int),(143:Int))=iB c:=by unfold iB;rw [if_neg (by omega),if_neg n2,if_neg e3,if_neg e4,if_neg n5,if_neg e7,if_pos e8]
    cbv;exact hq _ _ _ hx (by omega) (by omega)
   cbv;refine .um (by omega) ?_;cbv;refine .le (λe9=>?_) λe9=>?_
   ·have hx:((4:Int),(128:Int),(191:Int))=iB c:=by unfold iB;rw [if_neg (by omega),if_neg n2,if_neg e3,if_neg e4,if_neg n5,if_neg e7,if_neg e8,if_pos (by omega)]
    cbv;exact hq _ _ _ hx (by omega) (by omega)
   ·have hx:((0:Int),(0:Int),(0:Int))=iB c:=by unfold iB;rw [if_neg (by omega),if_neg n2,if_neg e3,if_neg e4,if_neg n5,if_neg e7,if_neg e8,if_neg (by omega)]
    cbv;exact hq _ _ _ hx (by omega) (by omega)
  ·omega
 ·have hx:((0:Int),(0:Int),(0:Int))=iB c:=by unfold iB;rw [if_neg (by omega),if_neg (by omega),if_neg (by omega),if_neg (by omega),if_neg (by omega),if_neg (by omega),if_neg (by omega),if_neg (by omega)]
  cbv;refine .cP (by omega) ?_;cbv;refine .cP (by omega) ?_;cbv;refine .qp (by omega) ?_;cbv;refine .cP (by omega) ?_;cbv;refine .cP (by omega) ?_;cbv;refine .qp (by omega) ?_;cbv;exact hq _ _ _ hx (by omega) (by omega)
def QP (t:List Nat)(i:Nat)(lo hi:Int)(j:Nat):Prop:=∃c:Nat,t[i+j]? =some c/\if j=1 then lo<=(c:Int)/\(c:Int)<=hi else 128<=c/\c<=191
inductive iC (t:List Nat):Nat->Prop
 | done {i:Nat} (h:t.length<=i):iC t i
 | step {i c:Nat} {w lo hi:Int} (hc:t[i]? =some c) (hl:(w,lo,hi)=iB (c:Int)) (hw:w≠0) (hn:w.toNat<=t.length - i) (ht:∀j,1<=j->j<w.toNat->QP t i lo hi j) (hr:iC t (i+w.toNat)):iC t i
theorem iC.inv {t:List Nat}{i c:Nat}{w lo hi:Int}(g:iC t i)(hc:t[i]? =some c)(hl:(w,lo,hi)=iB (c:Int)):w≠0/\w.toNat<=t.length - i/\(∀j,1<=j->j<w.toNat->QP t i lo hi j)/\iC t (i+w.toNat):=by
 cases g with
 | done h=>rw [List.getElem?_eq_none h] at hc;cases hc
 | step Hb pn hw hn ht hr=>
   rw [hc] at Hb;cases Hb;rw [<-hl] at pn;cases pn;exact ⟨hw,hn,ht,hr⟩
theorem QQ {h:H}{v:V}{n:Nat}{t:List Nat}(hs:Sl h 1 v n (ae t))(hn:n<=10000000){Q:V->H->Prop} (bw:iC t 0->Q (.int .i64 (-1)) h) (bq:¬iC t 0->∀r:Int,0<=r->Q (.int .i64 r) h):CW pf G0 uW [v] h Q:=by
 have hlen:=hs.len;rw [bp,Nat.mul_one] at hlen;refine EH.enter (by kernel_rfl) ?_;cbv;refine .inv [p0,p3] (λm' aC h'=>h=h'/\∃i,aC=[v,.int .i64 i]/\0<=i/\i.toNat<=n/\m'=n - i.toNat/\(iC t 0<->iC t i.toNat)) [_,_] rfl _ ⟨rfl,0,rfl,by omega,by simp,rfl,by simp⟩ ?_;rintro m' _ h' ⟨rfl,i,rfl,jG,hi,dY,hG⟩;cbv;refine .of hs λk Ir hk=>?_;cbv;refine .lt (λbA=>?_) λjb=>?_
 ·obtain ⟨c,hc⟩:∃c,t[i.toNat]? =some c:=⟨_,List.getElem?_eq_getElem (by omega)⟩
  cbv;refine .byte hs jG hc λq off he=>?_;cbv;refine .byte he λy CU hy=>?_;have hyc:y=(c:Int):=by omega
  cbv;refine T1 λw lo ja hl hw0 aQ=>?_;rw [hyc] at hl;have inv:=λg:iC t 0=>(hG.1 g).inv hc hl;cbv;refine .eq (λe=>?_) λe=>?_
  ·cbv;exact bq (λg=>(inv g).1 e) i jG
  cbv;refine .of hs λk2 af9 Fc=>?_;cbv;refine .sub (by omega) (by omega) λd hd=>?_;cbv;refine .gt (λe2=>?_) λe2=>?_
  ·cbv;exact bq (λg=>by have:=(inv g).2.1;omega) i jG
  cbv;refine .inv [p0,p3,p4,p5,p6,p7] (λm' aC h2=>h=h2/\∃j Dg DI,aC=[v,.int .i64 i,.int .i64 w,.int .u8 Dg,.int .u8 DI,.int .i64 j]/\1<=j/\j<=w/\m'=w.toNat - j.toNat/\(j=1->Dg=lo/\DI=ja)/\(j≠1->Dg=128/\DI=191)/\∀x:Nat,1<=x->x<j.toNat->QP t i.toNat lo ja x) [_,_,_,_,_,_] rfl _ ⟨rfl,1,lo,ja,rfl,by omega,by omega,rfl,λ_=>⟨rfl,rfl⟩,λe=>absurd rfl e,λx h1 h2=>by simp at h2;omega⟩ ?_;rintro m2 _ h2 ⟨rfl,j,Dg,DI,rfl,Uy,hj,aq,cx,cR,hx⟩;cbv;refine .lt (λzM=>?_) λUT=>?_
  ·cbv;refine .add (by omega) (by omega) λa ha=>?_
   obtain ⟨c2,E5⟩:∃c,t[a.toNat]? =some c:=⟨_,List.getElem?_eq_getElem (by omega)⟩;have af5:t[i.toNat+j.toNat]? =some c2:=by rw [<-E5];congr 1;omega
   cbv;refine .byte hs (by omega) E5 λq2 Fk ur=>?_;cbv;refine .byte ur λy2 ajL Rq=>?_;have aDN:y2=(c2:Int):=by omega
   have bad:(y2<Dg\/DI<y2)->¬iC t 0:=λae8 g=>by
    obtain ⟨c3,h3,h4⟩:=(inv g).2.2.1 j.toNat (by omega) (by omega);rw [af5] at h3;cases h3
    by_cases e1:j.toNat=1
    ·rw [if_pos e1] at h4
     obtain ⟨q1,q2⟩:=cx (by omega);omega
    ·rw [if_neg e1] at h4
     obtain ⟨q1,q2⟩:=cR (by omega);omega
   cbv;refine .lt (λe3=>?_) λe3=>?_
   ·cbv;exact bq (bad (.inl e3)) i jG
   cbv;refine .gt (λe4=>?_) λe4=>?_
   ·cbv;exact bq (bad (.inr e4)) i jG
   have RN:QP t i.toNat lo ja j.toNat:=⟨c2,af5,by
    by_cases e1:j.toNat=1
    ·rw [if_pos e1]
     obtain ⟨q1,q2⟩:=cx (by omega);omega
    ·rw [if_neg e1]
     obtain ⟨q1,q2⟩:=cR (by omega);omega⟩
   cbv;refine .add (by omega) (by omega) λb hb=>?_;cbv;exact ⟨rfl,w.toNat - b.toNat,by omega,rfl,b,128,191,rfl,by omega,by omega,rfl,λe=>absurd e (by omega),λ_=>⟨rfl,rfl⟩,λx h1 h2=>by
    by_cases e1:x=j.toNat
    ·rw [e1];exact RN
    ·exact hx x h1 (by omega)⟩
  ·have apD:iC t i.toNat<->iC t (i.toNat+w.toNat):=⟨λg=>(g.inv hc hl).2.2.2,λg=>.step hc hl e (by omega) (λx h1 h2=>hx x h1 (by omega)) g⟩
   cbv;refine .add (by omega) (by omega) λb hb=>?_;have hbt:b.toNat=i.toNat+w.toNat:=by omega
   have hG2:iC t 0<->iC t b.toNat:=by rw [hbt];exact hG.trans apD
   cbv;exact ⟨rfl,n - b.toNat,by omega,rfl,b,rfl,by omega,by omega,rfl,hG2⟩
 ·cbv;exact bw (hG.2 (.done (by omega)))
end K
namespace K
open Go Go.Dx Go.RowKit Go.Proofs
set_option maxRecDepth 100000
structure QR (s:List Nat):Prop where
 some:s≠[]
 iZ:s.length<=512
 good:iC s 0
theorem aay {h:H}{s:List Nat}(hw:Wf h){Q:V->H->Prop} (bq:∀h',¬QR s->Mod h h' []->Wf h'->Q (.bool false) h') (bw:∀h',QR s->Mod h h' []->Wf h'->Q (.bool true) h'):CW pf G0 qy [.str s] h Q:=by
 refine yw.enter (by kernel_rfl) ?_;cbv;refine .UB (λe=>?_) λe=>?_
 ·cbv;exact bq h (λt=>t.some e) (Mod.refl _ _) hw
 ·cbv;refine .of λn eT hn=>?_
  cbv;refine .le (λe1=>?_) λe1=>?_
  ·cbv;refine .of hw (by omega) λbv h1 AN ar aM=>?_
   cbv;refine QQ AN (by omega) (λg=>?_) λg r hr=>?_
   ·cbv;refine .PZ (by omega) ?_
    cbv;exact bw h1 ⟨e,by omega,g⟩ ar aM
   ·cbv;refine .FP (by omega) ?_
    cbv;exact bq h1 (λt=>g t.good) ar aM
  ·cbv;exact bq h (λt=>by have:=t.iZ;omega) (Mod.refl _ _) hw
def aik:List Nat:=[111,112,101,110]
def Yk:List Nat:=[99,108,111,115,101,100]
def sK (kind:Int)(nb:Bool)(name:List Nat):Prop:=if kind=4 then name=[]\/isName name else if nb=true then isName name else name=[]
def iM (kind:Int)(wb:Bool)(text:List Nat):Prop:=if kind=3 then text=aik\/text=Yk else if wb=true then QR text else text=[]
def Nt (kind:Int):Bool:=decide (kind=5\/kind=6\/kind=7\/kind=8\/kind=9)
def Nu (kind:Int):Bool:=decide (kind=1\/kind=2\/kind=5\/kind=6)
structure ak4 (kind:Int)(aI name text:List Nat):Prop where
 known:1<=kind/\kind<=10
 aI:isName aI
 name:sK kind (Nt kind) name
 text:iM kind (Nu kind) text
theorem ak5 {h:H}{lb:Lb}{kind:Int}{aI name text:List Nat}{wb:Bool}(hw:Wf h)(hb:h.get lb=some (.cells [.int .i64 kind,.str aI,.str name,.str text] 35 0 .yes)){Q:V->H->Prop} (bq:∀(r:Int) h',¬iM kind wb text->0<=r->Mod h h' []->Wf h'->Q (.int .i64 r) h') (bw:∀h',iM kind wb text->Mod h h' []->Wf h'->Q (.int .i64 (-1)) h'):
  Fm pf G0 86 agz {tmps:=fV [p1,p4] [.ptr lb 0,.bool wb],defers:=[]} h (pW pf G0 [.tmp p2] Q) λ_ _ _=>False:=by
 refine .of ?_;cbv;refine .of hb rfl ?_;cbv;refine .eq (λk3=>?_) λk3=>?_
 ·have hW:iM kind wb text<->(text=aik\/text=Yk):=by unfold iM;rw [if_pos k3]
  cbv;refine .of hb rfl ?_;cbv;refine .UB (λq1=>?_) λq1=>?_
  ·cbv;exact bw h (hW.2 (.inl q1)) (Mod.refl _ _) hw
  cbv;refine .of hb rfl ?_;cbv;refine .UB (λq2=>?_) λq2=>?_
  ·cbv;exact bw h (hW.2 (.inr q2)) (Mod.refl _ _) hw
  ·cbv;exact bq 3 h (λw=>(hW.1 w).elim q1 q2) (by omega) (Mod.refl _ _) hw
 ·cases wb
  ·have hW:iM kind false text<->text=[]:=by unfold iM;rw [if_neg k3];simp
   cbv;refine .of hb rfl ?_;cbv;refine .UB (λq1=>?_) λq1=>?_
   ·cbv;exact bw h (hW.2 q1) (Mod.refl _ _) hw
   ·cbv;exact bq 3 h (λw=>q1 (hW.1 w)) (by omega) (Mod.refl _ _) hw
  ·have hW:iM kind true text<->QR text:=by unfold iM;rw [if_neg k3];simp
   cbv;refine .of hb rfl ?_;cbv;refine aay hw (λh9 g9 eU pd=>?_) λh9 g9 eU pd=>?_
   ·cbv;exact bq 3 h9 (λw=>g9 (hW.1 w)) (by omega) eU pd
   ·cbv;exact bw h9 (hW.2 g9) eU pd
theorem ak6 {h:H}{lb:Lb}{kind:Int}{aI name text:List Nat}{nb wb:Bool}(hw:Wf h)(hn:name.length<=9223372036854775807)(hb:h.get lb=some (.cells [.int .i64 kind,.str aI,.str name,.str text] 35 0 .yes)){Q:V->H->Prop} (bq:∀(r:Int) h',¬(sK kind nb name/\iM kind wb text)->0<=r->Mod h h' []->Wf h'->Q (.int .i64 r) h') (bw:∀h',sK kind nb name->iM kind wb text->Mod h h' []->Wf h'->Q (.int .i64 (-1)) h'):
  Fm pf G0 86 adW {tmps:=fV [p1,p3,p4] [.ptr lb 0,.bool nb,.bool wb],defers:=[]} h (pW pf G0 [.tmp p2] Q) λ_ _ _=>False:=by
 refine .seq (.of ?_);have go:∀{h1:H} (a:A),Mod h h1 []->Wf h1->sK kind nb name->([p1,p4].map λp=>a.tmps.get p)=[V.ptr lb 0,.bool wb].map some->a.defers=[]->Fm pf G0 86 agz a h1 (pW pf G0 [.tmp p2] Q) λ_ _ _=>False:=λa ar aM si hv hd=>by
  obtain ⟨tm,df⟩:=a;cases hd;exact .weak [p1,p4] hv (ak5 aM (ar.get hb) (λr h' g hr dY cG=>bq r h' (λq=>g q.2) hr ((ar.trans dY).mono λx o _ hx=>by simp at hx) cG) λh' ht dY cG=>bw h' si ht ((ar.trans dY).mono λx o _ hx=>by simp at hx) cG)
 have ak7:¬isName []:=λq=>q.2.1 rfl;cbv;refine .of hb rfl ?_;cbv;refine .eq (λk4=>?_) λk4=>?_
 ·have hN:sK kind nb name<->(name=[]\/isName name):=by unfold sK;rw [if_pos k4]
  cbv;refine .of hb rfl ?_;cbv;refine .UB (λq1=>?_) λq1=>?_
  ·cbv;exact go _ (Mod.refl _ _) hw (hN.2 (.inl q1)) rfl rfl
  ·cbv;refine .of hb rfl ?_
   cbv;refine cz hw (by omega) (λh3 vB aF aR=>?_) λh3 vB aF aR=>?_
   ·cbv;exact go _ aF aR (hN.2 (.inr vB)) rfl rfl
   ·cbv;exact bq 2 h3 (λq=>(hN.1 q.1).elim q1 vB) (by omega) aF aR
 ·have hN:sK kind nb name<->if nb=true then isName name else name=[]:=by unfold sK;rw [if_neg k4]
  cbv;refine .of hb rfl ?_;cbv;refine cz hw (by omega) (λh3 vB aF aR=>?_) λh3 vB aF aR=>?_
  ·cases nb
   ·cbv;exact bq 2 h3 (λq=>by have:=hN.1 q.1;simp at this;rw [this] at vB;exact ak7 vB) (by omega) aF aR
   ·cbv;exact go _ aF aR (hN.2 (by simpa using vB)) rfl rfl
  ·cases nb
   ·cbv;refine .of (aF.get hb) rfl ?_
    cbv;refine .UB (λq0=>?_) λq0=>?_
    ·cbv;exact go _ aF aR (hN.2 (by simpa using q0)) rfl rfl
    ·cbv;exact bq 2 h3 (λq=>by have:=hN.1 q.1;simp at this;exact q0 this) (by omega) aF aR
   ·cbv;exact bq 2 h3 (λq=>by have:=hN.1 q.1;simp at this;exact vB this) (by omega) aF aR
theorem ad5 {h:H}{kind:Int}{aI name text:List Nat}(hw:Wf h)(hi:aI.length<=9223372036854775807)(hn:name.length<=9223372036854775807){Q:V->H->Prop} (bq:∀(r:Int) h',¬ak4 kind aI name text->0<=r->Mod h h' []->Wf h'->Q (.int .i64 r) h') (bw:∀h',ak4 kind aI name text->Mod h h' []->Wf h'->Q (.int .i64 (-1)) h'):
  CW pf G0 su [.agg [.int .i64 kind,.str aI,.str name,.str text]] h Q:=by
 refine Bd.mj (by kernel_rfl) ?_;refine .seq (.of ?_);cbv;refine .agg ?_;cbv;refine .of hw λlb h1 cx gG ar aM=>?_;cbv;refine .seq (.of ?_);cbv;refine .of cx rfl ?_;cbv;refine .lt (λe1=>?_) λe1=>?_
 ·cbv;exact bq _ h1 (λm=>by have:=m.known;omega) (by omega) ar aM
 cbv;refine .of cx rfl ?_;cbv;refine .gt (λe2=>?_) λe2=>?_
 ·cbv;exact bq _ h1 (λm=>by have:=m.known;omega) (by omega) ar aM
 cbv;refine .seq (.of ?_);cbv;refine .of cx rfl ?_;cbv;refine cz aM (by omega) (λh2 AP aq aN=>?_) λh2 AP aq aN=>?_
 ·have aO:Mod h h2 []:=(ar.trans aq).mono λx o _ hx=>by simp at hx
  have cR:=aq.get cx;have go:∀(a:A) (nb wb:Bool),nb=Nt kind->wb=Nu kind->([p1,p3,p4].map λp=>a.tmps.get p)=[V.ptr lb 0,.bool nb,.bool wb].map some->a.defers=[]->Fm pf G0 86 adW a h2 (pW pf G0 [.tmp p2] Q) λ_ _ _=>False:=λa nb wb e1 e2 hv hd=>by
   obtain ⟨tm,df⟩:=a;cases hd;subst e1 e2;exact .weak [p1,p3,p4] hv (ak6 aN hn cR (λr h' g hr dY cG=>bq r h' (λm=>g ⟨m.name,m.text⟩) hr ((aO.trans dY).mono λx o _ hx=>by simp at hx) cG) λh' si ht dY cG=>bw h' ⟨by omega,AP,si,ht⟩ ((aO.trans dY).mono λx o _ hx=>by simp at hx) cG)
  cbv;refine .seq (.of ?_);cbv;refine .seq (.of ?_);cbv;refine .of cR rfl ?_;cbv;refine .eq (λk5=>?_) λk5=>?_
  ·cbv;exact go _ _ _ (by simp [Nt,k5]) (by simp [Nu,k5]) rfl rfl
  cbv;refine .eq (λk6=>?_) λk6=>?_
  ·cbv;exact go _ _ _ (by simp [Nt,k6]) (by simp [Nu,k6]) rfl rfl
  cbv;refine .eq (λk7=>?_) λk7=>?_
  ·cbv;exact go _ _ _ (by simp [Nt,k7]) (by simp [Nu,k7]) rfl rfl
  cbv;refine .eq (λk8=>?_) λk8=>?_
  ·cbv;exact go _ _ _ (by simp [Nt,k8]) (by simp [Nu,k8]) rfl rfl
  cbv;refine .eq (λk9=>?_) λk9=>?_
  ·cbv;exact go _ _ _ (by simp [Nt,k9]) (by simp [Nu,k9]) rfl rfl
  cbv;refine .eq (λk1=>?_) λk1=>?_
  ·cbv;exact go _ _ _ (by simp [Nt,k1]) (by simp [Nu,k1]) rfl rfl
  cbv;refine .eq (λk2=>?_) λk2=>?_
  ·cbv;exact go _ _ _ (by simp [Nt,k2]) (by simp [Nu,k2]) rfl rfl
  ·cbv;exact go _ _ _ (by simp [Nt,k5,k6,k7,k8,k9]) (by simp [Nu,k1,k2,k5,k6]) rfl rfl
 ·have aO:Mod h h2 []:=(ar.trans aq).mono λx o _ hx=>by simp at hx
  cbv;exact bq _ h2 (λm=>AP m.aI) (by omega) aO aN
end K
namespace K
open Go Go.Dx Go.RowKit
set_option maxRecDepth 100000
def ak8 (u:Nat):List Nat:=[109,47]++(List.replicate (13 - (vH u).length) 48++vH u)
theorem WG {h:H}{n:Int}(h0:0<=n)(h1:n<=9223372036854775807){Q:V->H->Prop} (hq:∀r,r=ak8 n.toNat->Q (.str r) h):CW pf G0 qu [.int .i64 n] h Q:=by
 refine Cq.enter (by kernel_rfl) ?_;cbv;refine QD (by omega) h1 ?_;have hl:(vH n.toNat).length<=19:=tT 18 _ (by omega);have hd:=ET h0;generalize hs:dec n=s;have mD:s.length<=19:=by rw [<-hs,hd];exact hl
 cbv;refine .of λk Ir Xq=>?_;cbv;refine .sub (by omega) (by omega) λm hm=>?_;cbv;refine .of λm2 aq=>?_;cbv;refine Ot (by omega) (by omega) (by simp) λr hr=>?_;have Wj:r=List.replicate (13 - s.length) 48:=by
  rw [hr,show m2.toNat=13 - s.length by omega];generalize 13 - s.length=q;induction q with
  | zero=>rfl
  | succ q ih=>rw [List.replicate_succ,List.flatten_cons,ih,List.replicate_succ];rfl
 have agr:r.length<=13:=by rw [Wj];simp
 cbv;refine .cat (by simp only [List.length_cons,List.length_nil];omega) λr2 qN=>?_;have:r2.length<=15:=by rw [qN];simp;omega
 cbv;refine .cat (by omega) λr3 ug=>?_;cbv;refine hq r3 ?_;rw [ug,qN,Wj,<-hs,hd];simp [ak8]
structure jB where
 client:List Nat
 id:Int
 kind:Int
 aI:List Nat
 name:List Nat
 text:List Nat
def cW:List jB->List V
 | []=>[]
 | x::r=>.str x.client :: .int .i64 x.id :: .int .i64 x.kind :: .str x.aI :: .str x.name :: .str x.text::cW r
theorem rB:∀(a b:List jB),cW (a++b)=cW a++cW b
 | [],b=>rfl
 | x::r,b=>by simp only [List.cons_append,cW,rB r b]
theorem ea:∀(l:List jB) (i:Nat) (x:jB),l[i]? =some x->rowFrom (cW l) (i*6) 6=some [.str x.client,.int .i64 x.id,.int .i64 x.kind,.str x.aI,.str x.name,.str x.text]
 | [],i,x,h=>by simp at h
 | y::r,0,x,h=>by simp at h;subst h;rfl
 | y::r,i+1,x,h=>by
   have:=ea r i x (by simpa using h);rw [show (i+1)*6=i*6+1+1+1+1+1+1 by omega];exact this
theorem uv:∀l:List jB,bd (cW l)=true
 | []=>rfl
 | x::r=>by simp [cW,bd,bU,uv r]
theorem qT {h:H}{lv ls:Lb}{a b c:V}{t:TypeId}(hc:h.get lv=some (.cells [.ptr ls 0,a,b,c] t 0 .yes)){Q:V->H->Prop} (hq:Q (.bool true) h):CW pf G0 jU [.ptr lv 0] h Q:=by
 refine tJ.enter (by kernel_rfl) ?_;cbv;refine .of hc rfl ?_;cbv;exact hq
theorem rA {h:H}{lv ls:Lb}{a b c:V}{t:TypeId}{n:Nat}{cs:List V}(hc:h.get lv=some (.cells [.ptr ls 0,a,b,c] t 0 .yes))(hs:Sl h 6 a n cs){Q:V->H->Prop} (hq:∀m:Int,0<=m->m.toNat=n->Q (.int .i64 m) h):CW pf G0 kI [.ptr lv 0] h Q:=by
 refine vi.enter (by kernel_rfl) ?_;cbv;refine qT hc ?_;cbv;refine .of hc rfl ?_;cbv;refine .of hs λm hm0 ar=>?_;cbv;exact hq m hm0 ar
theorem Nx {h:H}{lv ls:Lb}{a b c:V}{t:TypeId}{n:Nat}{cs:List V}(hw:Wf h)(hc:h.get lv=some (.cells [.ptr ls 0,a,b,c] t 0 .yes))(hs:Sl h 2 b n cs)(hf:bd cs=true)(hn:n<=1000000){Q:V->H->Prop} (hq:∀v h' e,aE h' e 2 v n cs->Loc h h' v->Q v h'):CW pf G0 jq [.ptr lv 0] h Q:=by
 refine sD.enter (by kernel_rfl) ?_;cbv;refine qT hc ?_;cbv;refine .of hc rfl ?_;cbv;refine .copy hw hs hf (by omega) (by decide) λv h' o lo=>?_;cbv;exact hq v h' _ o lo
end K
namespace K
open Go Go.Dx Go.RowKit
set_option maxRecDepth 100000
theorem dq:∀(i:Nat) (vs:List V),bB i vs=vs.drop i
 | 0,vs=>by simp [bB]
 | i+1,[]=>by simp [bB]
 | i+1,v::vs=>by simp only [bB,List.drop_succ_cons];exact dq i vs
theorem vJ:∀(k:Nat) (vs:List V),k<=vs.length->takeN k vs=some (vs.take k)
 | 0,vs,_=>by simp [takeN]
 | k+1,[],h=>by simp at h
 | k+1,v::vs,h=>by simp only [takeN,vJ k vs (by simpa using h),ob,List.take_succ_cons]
theorem _root_.Go.Dx.Km.mid {h:H}{e:TypeId}{size n:Nat}{s:V}{cs:List V}{k k':IntKind}{i j:Int}{K:V->Prop} (o:aE h e size s n cs) (hi:0<=i) (zO:i<j) (hn:j.toNat<=n)
  (hk:∀v,Sl h size v (j.toNat - i.toNat) ((cs.drop (i.toNat*size)).take ((j.toNat - i.toNat)*size))->K v):Km size s (some (.int k i)) (some (.int k' j)) none K:=by
 obtain ⟨a,rfl⟩:=Int.eq_ofNat_of_zero_le hi;obtain ⟨b,rfl⟩:=Int.eq_ofNat_of_zero_le (show 0<=j by omega);have hn:b<=n:=by simpa using hn
 have Pp:a<b:=by omega
 have hk:∀v,Sl h size v (b - a) ((cs.drop (a*size)).take ((b - a)*size))->K v:=by simpa using hk
 have bG:cs.length=n*size->rowFrom cs (0+a*size) ((b - a)*size)=some ((cs.drop (a*size)).take ((b - a)*size)):=λhl=>by
  unfold rowFrom;rw [Nat.zero_add,dq,vJ];rw [List.length_drop,hl,<-Nat.sub_mul];exact Nat.mul_le_mul_right _ (by omega)
 cases o with
 | nil=>omega
 | @exact l _ _ hg hl=>
   refine ⟨sliceEnd l 0 size a b n,by simp only [ez,bD,dm hn,dm (show a<=b by omega),ob],hk _ ?_⟩;have:sliceEnd l 0 size a b n = .slice l (0+a*size) (b - a) (.exact (n - a)):=by
    unfold sliceEnd;rw [show Nat.beq n a=false from by rw [<-Bool.not_eq_true];exact λe=>by have:=Nat.eq_of_beq_eq_true e;omega]
   rw [this];exact .row hg (bG hl)
 | @ends l _ _ hg hl=>
   refine ⟨.slice l (0+a*size) (b - a) (.toEnd size),?_,hk _ (.row hg (bG hl))⟩;simp only [ez,bD,dm hn,dm (show a<=b by omega),ob,Nat.beq_refl,bN];rw [show (Nat.blt a n||Nat.beq a 0)=true from by rw [Bool.or_eq_true];left;simpa using (show a<n by omega)]
theorem OR:∀(l:List jB) (i:Nat),(cW l).drop (i*6)=cW (l.drop i)
 | l,0=>by simp
 | [],i+1=>by simp [cW]
 | x::r,i+1=>by rw [show (i+1)*6=i*6+1+1+1+1+1+1 by omega];simp only [cW,List.drop_succ_cons];exact OR r i
theorem GH:∀(l:List jB) (i:Nat),(cW l).take (i*6)=cW (l.take i)
 | l,0=>by simp [cW]
 | [],i+1=>by simp [cW]
 | x::r,i+1=>by rw [show (i+1)*6=i*6+1+1+1+1+1+1 by omega];simp only [cW,List.take_succ_cons];rw [GH r i]
theorem O7 {h:H}{lv ls:Lb}{a b c:V}{t:TypeId}{l:List jB}{from_ iZ:Int}(hw:Wf h)(hc:h.get lv=some (.cells [.ptr ls 0,a,b,c] t 0 .yes))(hs:aE h cX 6 a l.length (cW l))(hl:l.length<=1000000000)(aq:iZ<=1000000000000){Q:V->H->Prop}
  (bq:(from_<0\/(l.length:Int)<=from_\/iZ<1)->Q (.nilSlice 0) h)
  (hq:∀v h' p,0<=from_->from_.toNat<l.length->1<=iZ->p=(l.drop from_.toNat).take iZ.toNat->aE h' cX 6 v p.length (cW p)->Loc h h' v->Q v h'):CW pf G0 kH [.ptr lv 0,.int .i64 from_,.int .i64 iZ] h Q:=by
 refine vh.enter (by kernel_rfl) ?_;cbv;refine qT hc ?_;cbv;refine .lt (λh0=>?_) λh0=>?_
 ·cbv;exact bq (.inl h0)
 cbv;refine .of hc rfl ?_;cbv;refine .of hs.sl λn eT Fj=>?_;have uJ:(l.length:Int)=n:=by omega
 cbv;refine .ge (λh1=>?_) λh1=>?_
 ·cbv;exact bq (.inr (.inl (uJ▸h1)))
 clear uJ;cbv;refine .lt (λh2=>?_) λh2=>?_
 ·cbv;exact bq (.inr (.inr h2))
 cbv;refine .of follows 3 ?_;cbv;refine .of hc rfl ?_;cbv;refine .of hc rfl ?_;cbv;refine .of hs.sl λn2 IW akl=>?_;cbv;refine .sub (by omega) (by omega) λx hx=>?_;cbv;refine .of λy hy=>?_;cbv;refine .add (by omega) (by omega) λz hz=>?_;cbv;refine .mid hs (by omega) (by omega) (by omega) λv hv=>?_;rw [OR,GH] at hv;have hp:(l.drop from_.toNat).take (z.toNat - from_.toNat)=(l.drop from_.toNat).take iZ.toNat:=by
  by_cases hle:iZ.toNat<=l.length - from_.toNat
  ·rw [show z.toNat - from_.toNat=iZ.toNat by omega]
  ·rw [List.take_of_length_le (by rw [List.length_drop];omega),List.take_of_length_le (by rw [List.length_drop];omega)]
 have hpl:z.toNat - from_.toNat=((l.drop from_.toNat).take iZ.toNat).length:=by
  rw [<-hp,List.length_take,List.length_drop];omega
 rw [hp,hpl] at hv;generalize hpp:(l.drop from_.toNat).take iZ.toNat=p at hv;have aDP:p.length<=1000000000:=by rw [<-hpp,List.length_take,List.length_drop];omega
 cbv;refine .copy hw hv (uv _) (by omega) (by decide) λv2 h' o lo=>?_;cbv;refine .nil ?_;cbv;exact hq v2 h' p (by omega) (by omega) (by omega) hpp.symm o lo
end K
namespace K
open Go Go.Dx Go.RowKit
set_option maxRecDepth 100000
theorem qU {h:H}{n:Int}{Q:V->H->Prop} (bw:0<=n->n<=1099511627776->Q (.bool true) h) (bq:(n<0\/1099511627776<n)->Q (.bool false) h):CW pf G0 DW [.int .i64 n] h Q:=by
 refine Qh.enter (by kernel_rfl) ?_;cbv;refine .ge (λh0=>?_) λh0=>?_
 ·cbv;refine .le (λh1=>?_) λh1=>?_
  ·cbv;exact bw h0 h1
  ·cbv;exact bq (.inr h1)
 ·cbv;exact bq (.inl h0)
theorem ad6 {h:H}{kind a b c d:Int}{client:List Nat}{lv:V}{n:Nat}{cs:List V}(hw:Wf h)(hs:Sl h 6 lv n cs){Q:V->H->Prop}
  (bw:∀h',client=[]->a=0->b=0->c=0->d=0->n=0->Mod h h' []->Wf h'->Q (.bool true) h') (bq:∀h',¬(client=[]/\a=0/\b=0/\c=0/\d=0/\n=0)->Mod h h' []->Wf h'->Q (.bool false) h'):CW pf G0 KE [.agg [.int .i64 kind,.str client,.int .i64 a,.int .i64 b,.int .i64 c,.int .i64 d,lv]] h Q:=by
 refine VT.enter (by kernel_rfl) ?_;cbv;refine .agg ?_;cbv;refine .of hw λl h1 hl hf hm aM=>?_;cbv;refine .of hl rfl ?_;cbv;refine .seq (λe1=>?_) λe1=>?_
 ·cbv;refine .of hl rfl ?_
  cbv;refine .eq (λe2=>?_) λe2=>?_
  ·cbv;refine .of hl rfl ?_
   cbv;refine .eq (λe3=>?_) λe3=>?_
   ·cbv;refine .of hl rfl ?_
    cbv;refine .eq (λe4=>?_) λe4=>?_
    ·cbv;refine .of hl rfl ?_
     cbv;refine .eq (λe5=>?_) λe5=>?_
     ·cbv;refine .of hl rfl ?_
      cbv;refine .of (hs.mono hm (by simp)) λk Ir hk=>?_;cbv;refine .eq (λe6=>?_) λe6=>?_
      ·cbv;exact bw h1 e1 e2 e3 e4 e5 (by omega) hm aM
      ·cbv;exact bq h1 (λq=>e6 (by omega)) hm aM
     ·cbv;exact bq h1 (λq=>e5 q.2.2.2.2.1) hm aM
    ·cbv;exact bq h1 (λq=>e4 q.2.2.2.1) hm aM
   ·cbv;exact bq h1 (λq=>e3 q.2.2.1) hm aM
  ·cbv;exact bq h1 (λq=>e2 q.2.1) hm aM
 ·cbv;exact bq h1 (λq=>e1 q.1) hm aM
end K
