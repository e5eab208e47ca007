/-
  The client's laws. Part ZBB of the proof: blotter/tracker: comment.
-/
import Derived.KernelRfl
import Derived.Sort.MapsRangeIn
import Derived.WalkKit
import Derived.OwnWalkIn
import Derived.TacticsInMore
import Derived.RegionIn
import Derived.LoopNIn
import Derived.LoopIn
import Derived.RangeFuncGives
import Derived.Shelf.SlIter.Collect
import Derived.Shelf.SlSortCmp.WholeK
import Derived.Shelf.SlSortCmp.NoneTotal
import Derived.Shelf.Small.Strs
import Derived.Ground.SlsfProg
import Derived.Ground.NamesProg
import Derived.Test.YtdjlhmmfplhhdaaGreatDoorZBA
import Derived.Test.YtdjlhmmfplhhdaaGreatDoorZAY
import Derived.Test.YtdjlhmmfplhhdaaGreatDoorZAZ
import Derived.Test.YtdjlhmmfplhhdaaGreatDoorZAA
namespace K
open Go Go.Dx Go.RowKit Go.Proofs
set_option maxRecDepth 100000
theorem XS {h:H}{lm:Lb}{m:bH}{c:Nat}{kind:Int}{PF aE name text:List Nat}(hw:Wf h)(he:HE h)(S:rF h lm m c)(Io:m.length<=400000)(al6:PF.length<=1000)(hi:aE.length<=1000)(hn:name.length<=1000)(ht:text.length<=512){Q:V->H->Prop}
  (U:∀(a y:Int) h',0<=a->y≠0->Mod h h' []->Wf h'->Q (.tuple [.nilSlice 0,FP a y]) h') (bN:∀f k g v h',aG h' dS 3 f 1 (xF [⟨k,g,v⟩])->k.length<=3000->v.length<=65536->Mod h h' []->Fr h f->Wf h'->Q (.tuple [f,.nilIface]) h'):
  CW pf G0 ku [.map lm,.str PF,Mu kind aE name text] h Q:=by
 refine CX.bytes λfC hb=>?_;have N:bt text:=⟨by omega,hb [.int .i64 kind,.str aE,.str name,.str text] text (by simp) (by simp)⟩;have O:bt PF:=⟨by omega,fC PF (by simp)⟩;clear hb fC;refine uj.enter (by kernel_rfl) ?_;cbv;refine .agg ?_;cbv;refine .of hw λlb h1 cw gi ar aK=>?_;cbv;refine .of cw rfl ?_;cbv;refine .of cw rfl ?_;cbv;refine jS (s:=aE) (t:=name) (by omega) (by omega) λW hkk=>?_;have xE:W.length<=3000:=by omega
 cbv;refine .entry (S.mono ar) λek ev ok=>?_;cbv;refine .of aK λle h2 uE mS av aO=>?_;have FH:lb≠le:=λe=>by subst e;rw [cw] at mS;cases mS
 have fe:=aj ar (by simp) mS;cbv;refine .of (cs:=[.str ek,.str ev]) aO uE rfl rfl rfl rfl rfl rfl λh3 xJ aI aS=>?_;have gZ:=aI.get (av.get cw) (by simpa using FH);have aN:Mod h h3 []:=((ar.trans av).fr aI λl b=>by simp at b;subst b;exact .inl fe).mono λl o _ b=>by simp at b
 cbv;refine .of xJ rfl ?_;cbv;refine Ml aS (he.mono aN) λby_ tx okc h4 _ _ aL K=>?_;have d:=aL.get gZ;have B:Mod h h4 []:=(aN.trans aL).mono λl o _ b=>by simp at b
 have S4:=S.mono B;obtain ⟨o,ho⟩:∃o,o=(ok&&okc):=⟨_,rfl⟩;cases ok<;>cases okc
 ·skip
  cbv;refine .of d rfl ?_;cbv;refine .eq (λk5=>?_) λk5=>?_
  ·skip
   cbv;refine .of d rfl ?_;cbv;refine .nH (by omega) ?_;cbv;refine .of d rfl ?_;cbv;refine jS (s:=aE) (t:=[]) (by omega) (by simp) λk3 V9=>?_;cbv;refine uz K S4 (by omega) λo5 x5 P VM al5 np FF bf R=>?_;have aT:Mod h P []:=(B.trans bf).mono λl o _ b=>by simp at b
   have z:=bf.get d;cbv;refine .of np.sl λn fg Dr=>?_;cbv;refine .ge (λg=>?_) λg=>?_
   ·skip
    cbv;refine dU ?_;cbv;exact U 1 7 P (by decide) (by decide) aT R
   ·skip
    cbv;refine .of z rfl ?_;cbv;refine .iz (by omega) ?_;cbv;refine .of z rfl ?_;cbv;refine .iz (by omega) ?_;cbv;refine .of z rfl ?_;cbv;refine .cK (by omega) ?_;cbv;refine .of R λC h6 SC XT G cz=>?_;cbv;refine .of (G.get z) rfl ?_;cbv;refine .flat rfl ?_;cbv;refine .flat rfl ?_;cbv;refine .of cz λJ i Ru Mq db L=>?_;have on:aG i 9 1 (.slice C 0 2 (.exact 2)) 2 (strs jT):=.exact (db.get SC) rfl;have f:aG i 9 1 (.slice J 0 2 (.exact 2)) 2 (strs [PF,text]):=.exact Ru rfl;obtain ⟨h8,l8,j,I,Y⟩:=on.freeze L;have w:J≠C:=λe=>by subst e;rw [SC] at Mq;cases Mq
    have ov8:=f.mono I (by simp [ag];exact w);have M:Mod h i []:=((aT.trans G).trans db).mono λl o _ b=>by simp at b
    have fn:=aj aT (by simp) XT;have dT:Mod h h8 []:=M.fr I λl b=>by simp [ag] at b;subst b;exact .inl fn
    cbv;refine CW.less l8 (uy (ns:=jT) (vs:=[PF,text]) Y j ov8.sl rfl (by decide) (by decide) (by simp;exact ⟨O,N⟩) λr h9 hr gE th=>?_);have F:Mod h h9 []:=(dT.trans gE).mono λx o _ hx=>by simp at hx
    cbv;refine rE th λf E Z u=>?_;have mR:Mod h E []:=(F.trans u.mod).mono λl o _ b=>by simp at b
    cbv;exact bN f W false r E Z xE hr mR (λl b=>aj F (by simp) (u.fr l b)) u.wf
  ·skip
   cbv;refine .of d rfl ?_;cbv;refine .cK (by omega) ?_;cbv;refine .of d rfl ?_;cbv;refine .yr (by omega) ?_;cbv;refine dU ?_;cbv;exact U 2 111 h4 (by decide) (by decide) B K
 ·skip
  cbv;refine .of d rfl ?_;cbv;refine .eq (λk5=>?_) λk5=>?_
  ·skip
   cbv;refine .of d rfl ?_;cbv;refine .nH (by omega) ?_;cbv;refine .of d rfl ?_;cbv;refine jS (s:=aE) (t:=[]) (by omega) (by simp) λk3 V9=>?_;cbv;refine uz K S4 (by omega) λo5 x5 P VM al5 np FF bf R=>?_;have aT:Mod h P []:=(B.trans bf).mono λl o _ b=>by simp at b
   have z:=bf.get d;cbv;refine .of np.sl λn fg Dr=>?_;cbv;refine .ge (λg=>?_) λg=>?_
   ·skip
    cbv;refine dU ?_;cbv;exact U 1 7 P (by decide) (by decide) aT R
   ·skip
    cbv;refine .of z rfl ?_;cbv;refine .iz (by omega) ?_;cbv;refine .of z rfl ?_;cbv;refine .iz (by omega) ?_;cbv;refine .of z rfl ?_;cbv;refine .cK (by omega) ?_;cbv;refine .of R λC h6 SC XT G cz=>?_;cbv;refine .of (G.get z) rfl ?_;cbv;refine .flat rfl ?_;cbv;refine .flat rfl ?_;cbv;refine .of cz λJ i Ru Mq db L=>?_;have on:aG i 9 1 (.slice C 0 2 (.exact 2)) 2 (strs jT):=.exact (db.get SC) rfl;have f:aG i 9 1 (.slice J 0 2 (.exact 2)) 2 (strs [PF,text]):=.exact Ru rfl;obtain ⟨h8,l8,j,I,Y⟩:=on.freeze L;have w:J≠C:=λe=>by subst e;rw [SC] at Mq;cases Mq
    have ov8:=f.mono I (by simp [ag];exact w);have M:Mod h i []:=((aT.trans G).trans db).mono λl o _ b=>by simp at b
    have fn:=aj aT (by simp) XT;have dT:Mod h h8 []:=M.fr I λl b=>by simp [ag] at b;subst b;exact .inl fn
    cbv;refine CW.less l8 (uy (ns:=jT) (vs:=[PF,text]) Y j ov8.sl rfl (by decide) (by decide) (by simp;exact ⟨O,N⟩) λr h9 hr gE th=>?_);have F:Mod h h9 []:=(dT.trans gE).mono λx o _ hx=>by simp at hx
    cbv;refine rE th λf E Z u=>?_;have mR:Mod h E []:=(F.trans u.mod).mono λl o _ b=>by simp at b
    cbv;exact bN f W false r E Z xE hr mR (λl b=>aj F (by simp) (u.fr l b)) u.wf
  ·skip
   cbv;refine .of d rfl ?_;cbv;refine .cK (by omega) ?_;cbv;refine .of d rfl ?_;cbv;refine .yr (by omega) ?_;cbv;refine dU ?_;cbv;exact U 2 111 h4 (by decide) (by decide) B K
 ·skip
  cbv;refine .of d rfl ?_;cbv;refine .eq (λk5=>?_) λk5=>?_
  ·skip
   cbv;refine .of d rfl ?_;cbv;refine .nH (by omega) ?_;cbv;refine .of d rfl ?_;cbv;refine jS (s:=aE) (t:=[]) (by omega) (by simp) λk3 V9=>?_;cbv;refine uz K S4 (by omega) λo5 x5 P VM al5 np FF bf R=>?_;have aT:Mod h P []:=(B.trans bf).mono λl o _ b=>by simp at b
   have z:=bf.get d;cbv;refine .of np.sl λn fg Dr=>?_;cbv;refine .ge (λg=>?_) λg=>?_
   ·skip
    cbv;refine dU ?_;cbv;exact U 1 7 P (by decide) (by decide) aT R
   ·skip
    cbv;refine .of z rfl ?_;cbv;refine .iz (by omega) ?_;cbv;refine .of z rfl ?_;cbv;refine .iz (by omega) ?_;cbv;refine .of z rfl ?_;cbv;refine .cK (by omega) ?_;cbv;refine .of R λC h6 SC XT G cz=>?_;cbv;refine .of (G.get z) rfl ?_;cbv;refine .flat rfl ?_;cbv;refine .flat rfl ?_;cbv;refine .of cz λJ i Ru Mq db L=>?_;have on:aG i 9 1 (.slice C 0 2 (.exact 2)) 2 (strs jT):=.exact (db.get SC) rfl;have f:aG i 9 1 (.slice J 0 2 (.exact 2)) 2 (strs [PF,text]):=.exact Ru rfl;obtain ⟨h8,l8,j,I,Y⟩:=on.freeze L;have w:J≠C:=λe=>by subst e;rw [SC] at Mq;cases Mq
    have ov8:=f.mono I (by simp [ag];exact w);have M:Mod h i []:=((aT.trans G).trans db).mono λl o _ b=>by simp at b
    have fn:=aj aT (by simp) XT;have dT:Mod h h8 []:=M.fr I λl b=>by simp [ag] at b;subst b;exact .inl fn
    cbv;refine CW.less l8 (uy (ns:=jT) (vs:=[PF,text]) Y j ov8.sl rfl (by decide) (by decide) (by simp;exact ⟨O,N⟩) λr h9 hr gE th=>?_);have F:Mod h h9 []:=(dT.trans gE).mono λx o _ hx=>by simp at hx
    cbv;refine rE th λf E Z u=>?_;have mR:Mod h E []:=(F.trans u.mod).mono λl o _ b=>by simp at b
    cbv;exact bN f W false r E Z xE hr mR (λl b=>aj F (by simp) (u.fr l b)) u.wf
  ·skip
   cbv;refine .of d rfl ?_;cbv;refine .cK (by omega) ?_;cbv;refine .of d rfl ?_;cbv;refine .yr (by omega) ?_;cbv;refine dU ?_;cbv;exact U 2 111 h4 (by decide) (by decide) B K
 ·skip
  cbv;refine .of d rfl ?_;cbv;refine .eq (λk5=>?_) λk5=>?_
  ·skip
   cbv;refine dU ?_;cbv;exact U 2 112 h4 (by decide) (by decide) B K
  ·skip
   cbv;refine .of d rfl ?_;cbv;refine .cK (by omega) ?_;cbv;refine .of d rfl ?_;cbv;refine .yr (by omega) ?_;cbv;refine .of d rfl ?_;cbv;refine .yr (by omega) ?_;cbv;refine .sne (λq=>?_) λq=>?_
   ·skip
    cbv;refine .of d rfl ?_;cbv;refine .eq (λk7=>?_) λk7=>?_
    ·skip
     cbv;refine .flat rfl ?_;cbv;refine .flat rfl ?_;cbv;refine .agg ?_;cbv;refine .of K λl7 i tf hf7 db L=>?_;have O8:aG i dS 3 (.slice l7 0 1 (.exact 1)) 1 (xF [⟨W,true,[]⟩]):=.exact tf rfl;have M:Mod h i []:=(B.trans db).mono λl o _ b=>by simp at b
     cbv;exact bN (.slice l7 0 1 (.exact 1)) W true [] i O8 xE (by simp) M (λl b=>by simp [ag] at b;subst b;exact aj B (by simp) hf7) L
    ·skip
     cbv;refine .of K λC h6 SC XT G cz=>?_;cbv;refine .of (G.get d) rfl ?_;cbv;refine .flat rfl ?_;cbv;refine .flat rfl ?_;cbv;refine .of cz λJ i Ru Mq db L=>?_;have on:aG i 9 1 (.slice C 0 2 (.exact 2)) 2 (strs jT):=.exact (db.get SC) rfl;have f:aG i 9 1 (.slice J 0 2 (.exact 2)) 2 (strs [PF,text]):=.exact Ru rfl;obtain ⟨h8,l8,j,I,Y⟩:=on.freeze L;have w:J≠C:=λe=>by subst e;rw [SC] at Mq;cases Mq
     have ov8:=f.mono I (by simp [ag];exact w);have M:Mod h i []:=((B.trans G).trans db).mono λl o _ b=>by simp at b
     have fn:=aj B (by simp) XT;have dT:Mod h h8 []:=M.fr I λl b=>by simp [ag] at b;subst b;exact .inl fn
     cbv;refine CW.less l8 (uy (ns:=jT) (vs:=[PF,text]) Y j ov8.sl rfl (by decide) (by decide) (by simp;exact ⟨O,N⟩) λr h9 hr gE th=>?_);have F:Mod h h9 []:=(dT.trans gE).mono λx o _ hx=>by simp at hx
     cbv;refine rE th λf E Z u=>?_;have mR:Mod h E []:=(F.trans u.mod).mono λl o _ b=>by simp at b
     cbv;exact bN f W false r E Z xE hr mR (λl b=>aj F (by simp) (u.fr l b)) u.wf
   ·skip
    cbv;refine dU ?_;cbv;exact U 2 113 h4 (by decide) (by decide) B K
end K
namespace K
open Go Go.Dx Go.RowKit Go.Proofs
set_option maxRecDepth 100000
structure XU (es:EL):Prop where
 tr:es.length<=400000
 keys:∀e∈es,e.1.length<=1000000
structure al8 (n:Nat)(ops:List FI):Prop where
 tr:ops.length<=2*n+1
 each:∀o∈ops,o.key.length<=1000000/\o.val.length<=65536
 aw8:(ops.filter λo=>!o.gone).length<=1
theorem al8.one {n:Nat}{k v:List Nat}{g:Bool}(a:k.length<=3000)(b:v.length<=65536):al8 n [⟨k,g,v⟩]:=⟨by simp,by simp;omega,by cases g<;>simp⟩
theorem Mr {h:H}{ev:V}{es:EL}{kind:Int}{PF K name text:List Nat}(hw:Wf h)(he:HE h)(hs:Sl h 2 ev es.length (dD es))(Z:XU es)(al6:PF.length<=1000000)(hi:K.length<=1000000)(hn:name.length<=1000000){Q:V->H->Prop}
  (J:∀(a y:Int) h',0<=a->y≠0->Mod h h' []->Wf h'->Q (.tuple [.nilSlice 0,FP a y]) h') (bN:∀d ops h',aG h' dS 3 d ops.length (xF ops)->al8 es.length ops->isName PF->abw kind K name text->Mod h h' []->Fr h d->Wf h'->Q (.tuple [d,.nilIface]) h'):
  CW pf G0 sk [ev,.str PF,Mu kind K name text] h Q:=by
 refine EW.enter (by kernel_rfl) ?_;cbv;refine .agg ?_;cbv;refine .of hw λlb h1 cw gi ar aK=>?_;cbv;refine dW aK (by omega) (λh2 w av aO=>?_) λh2 w av aO=>?_
 all_goals
  have aQ:Mod h h2 []:=(ar.trans av).mono λl o _ f=>by simp at f
 rotate_left
 ·cbv;refine dU ?_
  cbv;exact J 0 6 h2 (by decide) (by decide) aQ aO
 have dh:=av.get cw;cbv;refine .of dh rfl ?_;cbv;refine U6 aO (by omega) (by omega) (λr h3 _ hr aI T=>?_) λh3 kJ aI T=>?_
 all_goals
  have Y:Mod h h3 []:=(aQ.trans aI).mono λl o _ f=>by simp at f
 ·cbv;refine .AB (by omega) ?_
  cbv;refine dU ?_;cbv;exact J r 110 h3 (by omega) (by decide) Y T
 have gZ:=aI.get dh;obtain ⟨aE3,aE4,Ct⟩:=kJ.Bt;have I0:K.length<=1000:=by omega
 have D:name.length<=1000:=by omega
 have hwl:PF.length<=1000:=by have:=w.2.2;omega
 cbv;refine .qQ (by omega) ?_;cbv;refine ajq T (hs.mono Y) (by have:=Z.tr;omega) Z.keys λlm m c h4 S4 Io FC aL aW=>?_;have F:Mod h h4 []:=(Y.trans aL).mono λl o _ f=>by simp at f
 have M:=aL.get gZ;have A:m.length<=400000:=by have:=Z.tr;omega
 have XV:∀{h0:H},Mod h h0 []->∀d k g v h',aG h' dS 3 d 1 (xF [⟨k,g,v⟩])->k.length<=3000->v.length<=65536->Mod h0 h' []->Fr h0 d->Wf h'->Q (.tuple [d,.nilIface]) h':=λL d k g v h' G p q R hf O=>
  bN d [⟨k,g,v⟩] h' G (.one p q) w kJ ((L.trans R).mono λl o _ f=>by simp at f) (λl f=>aj L (by simp) (hf l f)) O
 have B:∀{h0:H},Mod h h0 []->∀(a y:Int) h',0<=a->y≠0->Mod h0 h' []->Wf h'->Q (.tuple [.nilSlice 0,FP a y]) h':=λL a y h' u hy R O=>J a y h' u hy ((L.trans R).mono λl o _ f=>by simp at f) O;cbv;refine .of M rfl ?_;cbv;refine .eq (λk1=>?_) λk1=>?_
 ·cbv;refine .of M rfl ?_
  cbv;refine abA aW (he.mono F) S4 I0 Ct (λa y E u hy C I=>?_) λd k v E np p q C FF I=>?_
  ·cbv;exact B F a y E u hy C I
  ·cbv;exact XV F d k false v E np p q C FF I
 cbv;refine .of M rfl ?_;cbv;refine U8 aW (he.mono F) S4 (by omega) λa b c' ok E ba X bc C I=>?_;have aT:Mod h E []:=(F.trans C).mono λl o _ f=>by simp at f
 have qi:=C.get M;cbv;refine .of I λli h6 P FD W cz=>?_;have hbi:lb≠li:=λe=>by subst e;rw [qi] at FD;cases FD
 have fi:=aj aT (by simp) FD;cbv;refine .of (cs:=[.str a,.str b,.str c']) cz P rfl rfl rfl rfl rfl rfl λS x db z=>?_;have FG:=db.get (W.get qi) (by simpa using hbi);have s:Mod h S []:=((aT.trans W).fr db λl f=>by simp at f;subst f;exact .inl fi).mono λl o _ f=>by simp at f
 have U:lm≠li:=λe=>by subst e;rw [C.get S4.get] at FD;cases FD
 have S7:=((S4.mono C).mono W).mono db (by simpa using U);cases ok
 ·cbv;refine dU ?_
  cbv;exact J 1 111 S (by decide) (by decide) s z
 cbv;refine .of FG rfl ?_;cbv;refine .eq (λk2=>?_) λk2=>?_
 ·skip
  cbv;refine .of x rfl ?_;cbv;refine .of FG rfl ?_;cbv;refine Hc z ba X bc I0 D Ct λd k v j t p q n N2 i=>?_;cbv;exact XV s d k false v j t p q n N2 i
 cbv;refine .eq (λk3=>?_) λk3=>?_
 ·skip
  cbv;refine .of x rfl ?_;cbv;refine .of FG rfl ?_;cbv;refine Hc z ba X bc I0 D Ct λd k v j t p q n N2 i=>?_;cbv;exact XV s d k false v j t p q n N2 i
 cbv;refine .eq (λk4=>?_) λk4=>?_
 ·skip
  cbv;refine .of x rfl ?_;cbv;refine .of FG rfl ?_;cbv;refine Hc z ba X bc I0 D Ct λd k v j t p q n N2 i=>?_;cbv;exact XV s d k false v j t p q n N2 i
 cbv;refine .eq (λN=>?_) λN=>?_
 ·cbv;refine .of FG rfl ?_
  cbv;refine abD z S7 A I0 λd ks j t xE hkb n N2 i=>?_;cbv;exact bN d (mc ks) j (by rw [show (mc ks).length=ks.length from by simp [mc]];exact t) ⟨by simp [mc];omega,λo G=>by
   obtain ⟨k,p,rfl⟩:=List.mem_map.1 G;exact ⟨hkb k p,by simp⟩,by
  have:(mc ks).filter (λo=>!o.gone)=[]:=List.filter_eq_nil_iff.2 λo G=>by
   obtain ⟨k,p,rfl⟩:=List.mem_map.1 G;simp
  rw [this];simp⟩ w kJ ((s.trans n).mono λl o _ f=>by simp at f) (λl f=>aj s (by simp) (N2 l f)) i
 cbv;refine .of x rfl ?_;cbv;refine .seq (λqs=>?_) λqs=>?_
 ·cbv;refine dU ?_
  cbv;exact J 1 114 S (by decide) (by decide) s z
 cbv;refine .of FG rfl ?_;cbv;refine .eq (λk8=>?_) λk8=>?_
 ·skip
  cbv;refine .of FG rfl ?_;cbv;refine U9 z S7 A I0 D (λa y j u hy n i=>?_) λd k g v j t p q n N2 i=>?_
  ·cbv;exact B s a y j u hy n i
  ·cbv;exact XV s d k g v j t p q n N2 i
 cbv;refine .of FG rfl ?_;cbv;refine .eq (λk9=>?_) λk9=>?_
 ·skip
  cbv;refine .of FG rfl ?_;cbv;refine U9 z S7 A I0 D (λa y j u hy n i=>?_) λd k g v j t p q n N2 i=>?_
  ·cbv;exact B s a y j u hy n i
  ·cbv;exact XV s d k g v j t p q n N2 i
 ·cbv;refine .of FG rfl ?_
  cbv;refine XS z (he.mono s) S7 A hwl I0 D Ct (λa y j u hy n i=>?_) λd k g v j t p q n N2 i=>?_
  ·cbv;exact B s a y j u hy n i
  ·cbv;exact XV s d k g v j t p q n N2 i
end K
namespace Go.Proofs
open Go Go.RowKit Go.Dx Go.Maps Go.Sort
theorem Tz.ae6 (w:World):(zeroValue 55).run Tryz.prog w = .ok (.agg #[.string ⟨#[]⟩,.string ⟨#[]⟩]) w:=by kernel_rfl
theorem Tz.al':∃i z,Tryz.prog.info? 55=some i/\i.zero=some z/\i.size=2/\z.cells.size=2/\i.bytes=32:=by
 have h:((Tryz.prog.info? 55).bind λi=>i.zero.map λz=>(i.size,z.cells.size,i.bytes))=some (2,2,32):=by kernel_rfl
 cases hi:Tryz.prog.info? 55 with
 | none=>rw [hi] at h;cases h
 | some i=>
   cases hz:i.zero with
   | none=>simp [hi,hz] at h
   | some z=>
     simp [hi,hz] at h;exact ⟨i,z,rfl,hz,h.1,h.2.1,h.2.2⟩
theorem Tz.ae7 (w:World):(sizeOf 55).run Tryz.prog w = .ok 2 w:=by kernel_rfl
abbrev PG:=ByteArray×ByteArray
def po (x:PG):Value:=.agg #[.string x.1,.string x.2]
def cb (l:List PG):List Value:=l.flatMap λx=>[.string x.1,.string x.2]
theorem Od (l:List PG)(x:PG):cb (l++[x])=cb l++[.string x.1,.string x.2]:=by simp [cb]
structure ApE (w0:World)(L:Loop)(Bs l D:Nat)(ss:List PG)(W:World):Prop where
 box:∃v,W.heap[Bs]? =some (.cells #[v] 42 (0,0))/\W.ownsRow w0.heap.size 55 2 v ss.length (cb ss)/\(v = .slice none 0 0<->ss=[])
 L:W.heap[l]? =some (.loop L)
 K:W.heap[D]? =some (.deferred (some []))
 below:Below w0.heap.size w0 W
theorem ApE.amb (w0:World)(L:Loop)(Bs l D B:Nat)(i:w0.heap.size<=B):AbidesFrom B (ApE w0 L Bs l D):=λs W W' b h a c=>by
 have Zq:∀r,b=some r->∃o:Go.Obj,W.heap[r]? =some o/\o.isWalk=true:=λr e=>(c r e).2;obtain ⟨v,d,g,f⟩:=h.box;exact ⟨⟨v,(grownBy_keeps a Zq d rfl).trans d,ownsRow_abides_a g a Zq,f⟩,(grownBy_keeps a Zq h.L rfl).trans h.L,(grownBy_keeps a Zq h.K rfl).trans h.K,
  h.below.grown a h.below.size (λk e=>Nat.le_trans i (c k e).1)⟩
set_option maxRecDepth 100000 in
set_option maxHeartbeats 2000000 in
theorem Tz.amc (g:Nat)(lb:Array Value)(eg:∀args w,(callFunc g args).run Tryz.prog w = .ok (.enter g args) w) (w:World) (S:List PG->Prop) (N:Nat) (hN:N<=1000000000)
  (hg:SeqGives Fence.wide 0 Tryz.prog g lb po S N w):
  Calls Tryz.prog 311 #[.slice none 0 0,.func (.func g) #[] lb] w λe w'=>∃v ss,e = .returned v/\S ss/\w'.ownsRow w.heap.size 55 2 v ss.length (cb ss)/\(v = .slice none 0 0<->ss=[])/\Below w.heap.size w w':=by
 refine (callsIn_wide (n:=0)).1 ?_;refine callsIn_of_wp_marks Tryz.func311 rfl trivial ?_ rfl;simp only [Tryz.ntmps311,List.size_toArray,List.length_cons,List.length_nil,Nat.reduceAdd,Nat.reduceSub,Array.replicate_succ,Array.replicate_zero,List.push_toArray,List.append_toArray,List.nil_append,List.cons_append]
 gi_wp2
 refine jz rfl eg λfn L hL=>?_;have fC:Below w.heap.size w (w.alloc (.cells #[.slice none 0 0] 42)):=(Below.refl _ w).alloc (Nat.le_refl _) _;have cw:=(fC.alloc fC.size (.deferred (some [])));have dh:=cw.alloc cw.size (.loop L);obtain ⟨W3,RR⟩:∃W3,W3=(((w.alloc (.cells #[.slice none 0 0] 42)).alloc (.deferred (some []))).alloc (.loop L)):=⟨_,rfl⟩;have q0:W3.heap[w.heap.size]? =some (.cells #[.slice none 0 0] 42 (0,0)):=by
  rw [RR,Go.Dx.heap_alloc_old _ (by simp<;>omega),Go.Dx.heap_alloc_old _ (by simp<;>omega)];exact Go.Dx.heap_alloc_new _
 have q1:W3.heap[w.heap.size+1]? =some (.deferred (some [])):=by
  rw [RR,Go.Dx.heap_alloc_old _ (by simp<;>omega)];have:=Go.Dx.heap_alloc_new (w:=w.alloc (.cells #[.slice none 0 0] 42)) (.deferred (some []))
  rwa [World.size_alloc] at this
 have q2:W3.heap[w.heap.size+2]? =some (.loop L):=by
  rw [RR];have:=Go.Dx.heap_alloc_new (w:=(w.alloc (.cells #[.slice none 0 0] 42)).alloc (.deferred (some []))) (.loop L)
  rwa [World.size_alloc,World.size_alloc] at this
 have s3:W3.heap.size=w.heap.size+3:=by rw [RR];simp
 rw [<-RR] at dh ⊢;clear RR cw fC;rw [World.size_alloc];have hM:ApE w L w.heap.size (w.heap.size+2) (w.heap.size+1) [] W3:=⟨⟨_,q0,World.ownsRow_nil _ _ _ _,by simp⟩,q2,q1,dh⟩;have Ms:∀pre x W1,ApE w L w.heap.size (w.heap.size+2) (w.heap.size+1) pre W1->pre.length<N->YieldAt Fence.wide (0 - 1) Tryz.prog (w.heap.size+2) #[po x] W1 λe W'=>e = .returned (.bool true)/\ApE w L w.heap.size (w.heap.size+2) (w.heap.size+1) (pre++[x]) W'/\KeepsWalks W1 W':=by
  intro pre x W1 hJ hlen;obtain ⟨⟨v,p0,bC,hvn⟩,p2,p1,Bw⟩:=hJ;clear q0 q1 q2 dh hg hM;have kK:w.heap.size+2<W1.heap.size:=(Array.getElem?_eq_some_iff.1 p2).1;have hy:=run_yield (P:=Tryz.prog) (args:=#[po x]) p2 (by rw [hL.params];rfl);rw [hL.fn,hL.assign,hL.params,hL.tmps,hL.body] at hy;simp [po] at hy;refine ⟨_,_,_,_,hy,roundIn_of_wpIn trivial ?_⟩;have hz:=Tz.ae6;have fL:=Tz.ae7;obtain ⟨W5,hW5⟩:∃W5,W5=W1.alloc (.cells #[.string x.1,.string x.2] 55):=⟨_,rfl⟩;have f3:W5.heap[W1.heap.size]? =some (.cells #[.string x.1,.string x.2] 55 (0,0)):=by rw [hW5];exact Go.Dx.heap_alloc_new _
  have f4:W1.grownBy W5 none:=by rw [hW5];exact ⟨rfl,rfl,rfl,by simp,λk hk _=>Below.heap_alloc W1 _ k hk⟩
  have f5:KeepsWalks W1 W5:=by rw [hW5];exact KeepsWalks.alloc _ _
  have f6:W5.heap.size=W1.heap.size+1:=by rw [hW5];simp
  have r0:W5.heap[w.heap.size]? =some (.cells #[v] 42 (0,0)):=(f4.block _ (by omega) (by simp)).trans p0;have r1:W5.heap[w.heap.size+1]? =some (.deferred (some [])):=(f4.block _ (by omega) (by simp)).trans p1;have r2:W5.heap[w.heap.size+2]? =some (.loop L):=(f4.block _ (by omega) (by simp)).trans p2;have Bw5:Below w.heap.size w W5:=Bw.grown f4 Bw.size (λk e=>by cases e);have aqK:=bC.kept f4 (Classical.em _);clear hy
  gi_wp2_with (rw [Oper.semAt_eq _ _ _ (λc h=>by cases h)];go_simp;try go_bits)
  rw [<-hW5];clear hW5;have hbr:=run_beginRound (P:=Tryz.prog) r2 hL.state;obtain ⟨W6,VY⟩:∃W6,W6=W5.putObj (w.heap.size+2) (.loop {L with state:=.busy}):=⟨_,rfl⟩;rw [<-VY] at hbr;have g6:W5.grownBy W6 (some (w.heap.size+2)):=by rw [VY];exact grownBy_putObj_a _ _ _
  have t0:W6.heap[w.heap.size]? =some (.cells #[v] 42 (0,0)):=(g6.block _ (by omega) (by simp)).trans r0;have t1:W6.heap[w.heap.size+1]? =some (.deferred (some [])):=(g6.block _ (by omega) (by simp)).trans r1;have t2:W6.heap[w.heap.size+2]? =some (.loop {L with state:=.busy}):=by rw [VY];exact World.putObj_heap_same (by omega)
  have t3:W6.heap[W1.heap.size]? =some (.cells #[.string x.1,.string x.2] 55 (0,0)):=(g6.block _ (by omega) (by simp;omega)).trans f3;have Bw6:Below w.heap.size w W6:=Bw5.grown g6 Bw5.size (λk e=>by cases e;omega);have ahL:=aqK.kept g6 (ownsRow_ne_a aqK r2 (λcur e=>by cases e));have z6:W6.heap.size=W1.heap.size+1:=by rw [VY];simp [f6]
  have k6:KeepsWalks W1 W6:=by rw [VY];exact f5.trans (KeepsWalks.putObj _ r2 rfl)
  clear VY f3;obtain ⟨c6,d6⟩:=Go.Dx.iW t0;have c61:W6.cell? ⟨W1.heap.size,0,none⟩=some (.string x.1):=by unfold World.cell?;simp only [t3];rfl
  have c62:W6.cell? ⟨W1.heap.size,1,none⟩=some (.string x.2):=by unfold World.cell?;simp only [t3];rfl
  obtain ⟨i55,zz,hi,aw',axa,OM,axb⟩:=Tz.al';have hcc:∀j u,([.string x.1,.string x.2]:List Value)[j]? =some u->(W6.alloc (.cells #[.string x.1,.string x.2] 55)).cell? ((⟨W1.heap.size+1,0,none⟩:Addr).add j)=some u:=λj u hv=>by
   rw [<-z6];have hn:=Go.Dx.heap_alloc_new (w:=W6) (.cells #[.string x.1,.string x.2] 55);rw [dk];show (W6.alloc (.cells #[.string x.1,.string x.2] 55)).cell? ⟨W6.heap.size,0+j,none⟩=some u
   unfold World.cell?;simp only [hn];rw [Nat.zero_add];simpa using hv
  have ae8:∀{j:Nat} {o:Go.Obj},W6.heap[j]? =some o->(∀cur,o≠.cells cur 55 (0,0))->some j≠v.ownBlock:=λhj bJ=>by
   rcases ownsRow_ne_a ahL hj bJ with e | e
   ·rw [e];simp
   ·exact λe'=>e e'.symm
  have KI:maxLen=9223372036854775807:=rfl;refine ⟨W6,hbr,?_⟩
  gi_wp2_with (first
   | (gi_at_builtin;refine wpListIn_append_own _ rfl _ _ 42 rfl w.heap.size 55 i55 zz 2 32 Tryz.underlying42 hi aw' axa axb OM (by decide) _ _ _ rfl (ahL.alloc _) ⟨W1.heap.size+1,0,none⟩ 1 1 [.string x.1,.string x.2] rfl rfl hcc (by simp [Value.oneCell']) (by omega) (by omega) (by have:=Bw6.size;simp;omega) ?_;intro v' w3 U' O9 aAx
      have Rs:w3.heap[w.heap.size]? =some (.cells #[v] 42 (0,0)):=(O9.block _ (by simp;omega) (ae8 t0 (λcur e=>by cases e))).trans ((Below.heap_alloc _ _ _ (by omega)).trans t0);obtain ⟨hc3,J9⟩:=Go.Dx.iW Rs;obtain ⟨g',Nt,ahM,rfl,axc,aE8,Rr,rL,uI,xu⟩:∃g' Nt ahM,v' = .slice (some ⟨g',0,none⟩) (pre.length+1) Nt/\w.heap.size<=g'/\w3.heap[g']? =some (.cells ahM 55 (0,0))/\pre.length+1<=Nt/\Nt<=maxLen/\ahM.size=Nt*2/\ahM.toList.take ((pre.length+1)*2)=cb pre++[.string x.1,.string x.2]:=by
       rcases U'.2 with ⟨_,h0⟩ | h'
       ·exact absurd h0 (by omega)
       ·exact h'
      go_frame)
   | (rw [Oper.semAt_eq _ _ _ (λc h=>by cases h)];go_simp;try go_bits))
  have Dn:w.heap.size+2<W6.heap.size:=by omega
  have t2':w3.heap[w.heap.size+2]? =some (.loop {L with state:=.busy}):=(O9.block _ (by simp;omega) (ae8 t2 (λcur e=>by cases e))).trans ((Below.heap_alloc _ _ _ (by omega)).trans t2);have t1':w3.heap[w.heap.size+1]? =some (.deferred (some [])):=(O9.block _ (by simp;omega) (ae8 t1 (λcur e=>by cases e))).trans ((Below.heap_alloc _ _ _ (by omega)).trans t1);have aqL:(W6.alloc (.cells #[.string x.1,.string x.2] 55)).grownBy w3 v.ownBlock:=O9;obtain ⟨W8,XW⟩:∃W8,W8=w3.setCell ⟨w.heap.size,0,none⟩ (.slice (some ⟨g',0,none⟩) (pre.length+1) Nt):=⟨_,rfl⟩;rw [<-XW];have SI:w3.grownBy W8 (some w.heap.size):=by rw [XW];exact grownBy_setCell0_a _ _ _
  have v0:W8.heap[w.heap.size]? =some (.cells #[.slice (some ⟨g',0,none⟩) (pre.length+1) Nt] 42 (0,0)):=by rw [XW];exact heap_setCell_box_a _ Rs
  have v1:W8.heap[w.heap.size+1]? =some (.deferred (some [])):=(SI.block _ (Array.getElem?_eq_some_iff.1 t1').1 (by simp)).trans t1';have v2:W8.heap[w.heap.size+2]? =some (.loop {L with state:=.busy}):=(SI.block _ (Array.getElem?_eq_some_iff.1 t2').1 (by simp)).trans t2';have aqM:=U'.kept SI (ownsRow_ne_a U' Rs (λcur e=>by cases e));have Bw3:Below w.heap.size w w3:=(Bw6.alloc Bw6.size _).grown aqL (by have:=Bw6.size;simp;omega) (λk e=>(ahL.lt k e).1);have Bw8:Below w.heap.size w W8:=Bw3.grown SI Bw3.size (λk e=>by cases e;exact Nat.le_refl _);have k8:KeepsWalks W1 W8:=((k6.trans (KeepsWalks.alloc _ _)).trans (KeepsWalks.of_grownBy aqL (ownsRow_not_walk_a (ahL.alloc _)))).trans (by rw [XW];exact KeepsWalks.setCell _ _ _);clear XW;have ae9:=run_endRound (P:=Tryz.prog) none v2;have hLL:({({L with state:=.busy}:Loop) with state:=if (none:Option Code).isNone then .ready else .done,pending:=none}:Loop)=L:=by
   have e1:=hL.state;have e2:=hL.pending;cases L;simp only at e1 e2;subst e1;subst e2;rfl
  rw [hLL] at ae9;have tk:w.heap.size+2<W8.heap.size:=(Array.getElem?_eq_some_iff.1 v2).1;refine ⟨_,_,ae9,rfl,⟨⟨_,(World.putObj_heap_other (by omega)).trans v0,?_,by simp⟩,World.putObj_heap_same tk,(World.putObj_heap_other (by omega)).trans v1,Bw8.grown (grownBy_putObj_a _ _ _) Bw8.size (λk e=>by cases e;omega)⟩,k8.trans (KeepsWalks.putObj _ v2 rfl)⟩;have:=aqM.kept (grownBy_putObj_a W8 (w.heap.size+2) (.loop L)) (ownsRow_ne_a aqM v2 (λcur e=>by cases e));rw [Od];simpa using this
 refine (hg _ (ApE w L w.heap.size (w.heap.size+2) (w.heap.size+1)) W3 dh (ApE.amb _ _ _ _ _ _ dh.size) Ms hM).mono ?_;rintro e W9 ⟨⟨v9,rfl⟩,ss,hS,⟨⟨v,q0',bC,hvn⟩,q2',q1',Bw9⟩⟩;refine ⟨⟨_,rfl⟩,q2',?_⟩;obtain ⟨W4,VZ⟩:∃W4,W4=W9.putObj (w.heap.size+2) (.loop {L with state:=.exhausted}):=⟨_,rfl⟩;rw [<-VZ];have g4:W9.grownBy W4 (some (w.heap.size+2)):=by rw [VZ];exact grownBy_putObj_a _ _ _
 have r0:W4.heap[w.heap.size]? =some (.cells #[v] 42 (0,0)):=(g4.block _ (Array.getElem?_eq_some_iff.1 q0').1 (by simp)).trans q0';have r1:W4.heap[w.heap.size+1]? =some (.deferred (some [])):=(g4.block _ (Array.getElem?_eq_some_iff.1 q1').1 (by simp)).trans q1';have aqP:=bC.kept g4 (ownsRow_ne_a bC q2' (λcur e=>by cases e));have dH:Below w.heap.size w W4:=Bw9.grown g4 Bw9.size (λk e=>by cases e;omega);obtain ⟨hc3,J9⟩:=Go.Dx.iW r0;clear VZ q0 q1 q2 hL dh hg eg Ms q0' q1' q2' bC
 gi_wp2
 refine ⟨by simp,.inl ⟨_,_,rfl,run_takeDeferred r1,?_⟩⟩;exact ⟨_,results_tmp rfl _ _ _,v,ss,rfl,hS,aqP.kept (grownBy_putObj_a _ _ _) (ownsRow_ne_a aqP r1 (λcur e=>by cases e)),hvn,dH.grown (grownBy_putObj_a _ _ _) dH.size (λk e=>by cases e;omega)⟩
end Go.Proofs
namespace Go.Proofs
open Go Go.RowKit Go.Dx Go.Maps Go.Sort
variable{y:DataW Unit×List MemPlace}
def RE:Value->Option (DataW Unit×List MemPlace)
 | .agg ⟨[.string a,.string _]⟩=>if a.size<=1000000 then some (.lit (.bool true),[]) else none
 | _=>none
theorem ame {v:Value}(h:RE v=some y):∃x:PG,v=po x:=by
 unfold RE at h;split at h
 ·exact ⟨(_,_),rfl⟩
 ·cases h
theorem ahN {a b:ByteArray}(h:RE (po (a,b))=some y):a.size<=1000000:=by
 simp only [RE,po] at h;split at h
 ·assumption
 ·cases h
set_option maxRecDepth 100000 in
set_option maxHeartbeats 1000000 in
theorem Tz.abE (l Bm b nn:Nat)(D0:DataW Unit)(J:List PG->World->Prop)
  (hY:∀pre x W,J pre W->pre.length<nn->YieldAt Fence.wide (0 - 1) Tryz.prog l #[po x] W λe W'=>e = .returned (.bool true)/\J (pre++[x]) W'/\KeepsWalks W W')
  (W:World) (hJ:AbidesFrom W.heap.size J) (hm:W.cell? ⟨Bm,0,none⟩=some (.map (some b))) (gI:W.ownsMap Tryz.prog 9 RE b nn D0) (h0:J [] W):
  CallsIn Fence.wide 0 Tryz.prog 281 #[.func (.yield l) #[] #[],.pointer (some ⟨Bm,0,none⟩)] W λe W'=>(∃v,e = .returned v)/\∃ss:List PG,ss.length<=nn/\(∀x∈ss,x.1.size<=1000000)/\J ss W':=by
 refine callsIn_of_wp Tryz.func281 rfl trivial ?_ rfl;simp only [Tryz.ntmps281,List.size_toArray,List.length_cons,List.length_nil,Nat.reduceAdd,Nat.reduceSub,Array.replicate_succ,Array.replicate_zero,List.push_toArray,List.append_toArray,List.nil_append,List.cons_append]
 gi_wp2_with (first
  | (gi_at_range;refine wpListIn_range_own _ rfl _ 116 rfl 9 55 (string_keyed Tryz.underlying9) Tryz.underlying116 _ b nn _ rfl gI ?_;intro w0 aqQ hg0 hs0)
  | gi_in)
 go_frame
 gi_loopw [4] (λ_ wr=>∃(left:Lit->Bool) (cnt:Nat) (ss:List PG),wr.ranges Tryz.prog 9 RE b W.heap.size nn D0 left cnt/\ss.length+cnt<=nn/\(∀x∈ss,x.1.size<=1000000)/\J ss wr)
  (λ_ wr=>wr.rangeLeft b W.heap.size)
 case atStart=>
  refine ⟨_,_,[],aqQ,?_,by simp,hJ [] W w0 none h0 hg0 (λr e=>by cases e)⟩;obtain ⟨es,clock,since,seen,c0,hb,F,hs,hD,hr,hold,Ix,rest⟩:=aqQ;rw [<-Ix];have:(leftOf es seen).size<=es.size:=by unfold leftOf;exact Array.size_filter_le
  simp;omega
 case round=>
  obtain ⟨left,cnt,ss,hrg,kM,hss,hJs⟩:=hrel
  gi_wp2_with (first
   | (gi_at_next;refine wpListIn_next_ranges _ rfl _ rfl 9 (string_keyed Tryz.underlying9) RE encStr po (λkey kl hk=>by obtain ⟨x,hx,_⟩:=Maps.keyOf_str Tryz.underlying9 hk;exact ⟨x,hx⟩) (λv _ hv=>ame hv) b W.heap.size nn _ _ _ rfl hrg ?_ ?_)
   | gi_in)
  ·intro hc0 VJ
   gi_wp2
   go_end0
   exact ⟨⟨_,rfl⟩,ss,by omega,hss,hJs⟩
  ·intro x c1 c2 kl yd yp w2 axh ahO hlk hv hat axi bA Iy B9 hen
   have hJ2:J ss w2:=hJ ss wr w2 (some W.heap.size) hJs Iy (λr e=>by cases e;exact ⟨Nat.le_refl _,hrg.iter_walk⟩);have hz:=Tz.ae6;have fL:=Tz.ae7;have axj:=ahN hv;clear B9;unfold po at hen ⊢;have g4:w2.grownBy (w2.alloc (.cells #[.string c1,.string c2] 55)) none:=⟨rfl,rfl,rfl,by simp,λk hk _=>Below.heap_alloc w2 _ k hk⟩;have k4:KeepsWalks w2 (w2.alloc (.cells #[.string c1,.string c2] 55)):=KeepsWalks.alloc _ _;have hJ4:=hJ ss w2 _ none hJ2 g4 (λr e=>by cases e);obtain ⟨fn,tmps,assign,body,hy,hR⟩:=hY ss (c1,c2) _ hJ4 (by omega);simp only [po] at hy
   gi_wp2
   refine ⟨rfl,hR.mono ?_⟩;rintro e W3 ⟨rfl,hJ3,V9⟩
   gi_wp2
   have aqR:=axi.of_walks (k4.trans V9)
   go_roundw
   case rel=>exact ⟨_,axh,ss++[(c1,c2)],aqR,by simp;omega,(λx hx=>(List.mem_append.1 hx).elim (hss x) λe=>by simp at e;subst e;exact axj),hJ3⟩
   case measure=>rw [aqR.left_eq,hrg.left_eq];exact bA
end Go.Proofs
namespace K
open Go Go.Dx Go.RowKit Go.Proofs Go.Maps
open Go.WideElems (rg rd Fit)
set_option maxRecDepth 100000
theorem zJ (t:ByteArray):(au t).length=t.size:=by
 unfold au;rw [List.length_map];exact Array.length_toList
theorem vR {ρ:bD}{s:List Nat}{x:Value}(r:RV ρ (.str s) x):∃t,x = .string t/\au t=s:=by
 generalize a:V.str s=v at r;cases r with
 | str t=>cases a;exact ⟨t,rfl,rfl⟩
 | _=>cases a
theorem enters {P:Program}{f:FuncId}{func:Func}{c:Code}(d:P.funcs[f]? =some func)(b:func.body=some c)(a:(func.name == "runtime.NumGoroutine")=false)(args:Array Value)(w:World):(callFunc f args).run P w = .ok (.enter f args) w:=by
 have a:¬func.name = "runtime.NumGoroutine":=λe=>by rw [e] at a;simp at a
 unfold callFunc;simp [d,a,b]
def Ic:Value->List Nat
 | .string t=>au t
 | _=>[]
theorem BZ {ρ:bD}:∀{m:bH} {ms:List MapEntry},pO ρ (cd m) ms->(∀e∈m,e.1.length<=1000000/\∃v,e.2.1 = .agg [.str e.1,.str v])->
  ms.length=m.length/\ms.map (·.born)=m.map (λe=>e.2.2)/\(ms.map λx=>Ic x.key)=cF m/\∀x∈ms,∃t a b,x.key = .string t/\x.val = .agg ⟨[.string a,.string b]⟩/\t.size<=1000000/\a.size<=1000000
 | [],_,r,_=>by
   generalize f:cd []=l at r;cases r with
   | nil=>exact ⟨rfl,rfl,rfl,by simp⟩
   | cons=>cases f
 | (k,v,b)::m,_,r,hg=>by
   generalize f:cd ((k,v,b)::m)=l at r;cases r with
   | nil=>cases f
   | cons hk hv hn hs=>
     simp only [cd,List.cons.injEq,Prod.mk.injEq] at f;obtain ⟨⟨rfl,rfl,rfl⟩,rfl⟩:=f;obtain ⟨B,D,n,E⟩:=BZ (m:=m) hs λe g=>hg e (by simp [g]);obtain ⟨o,F,c⟩:=hg (k,v,b) (by simp);simp only at c o;subst c;obtain ⟨t,s,d⟩:=vR hk;have w:∀{y:Value},RV ρ (.agg [.str k,.str F]) y->∃a b,y = .agg ⟨[.string a,.string b]⟩/\au a=k:=λ{y} r=>by
      cases r with
      | agg q=>
        obtain ⟨H,G,rfl,A,C⟩:=q.two;obtain ⟨a,rfl,h⟩:=vR A;obtain ⟨j,rfl,_⟩:=vR C;exact ⟨a,j,rfl,h⟩
     obtain ⟨a,j,g,h⟩:=w hv;have p:∀{u:ByteArray},au u=k->u.size<=1000000:=λ{u} e=>by
      rw [<-zJ,e];exact o
     refine ⟨by simp [B],by simp [D,hn],?_,λx i=>?_⟩
     ·have z:Ic (Value.string t)=k:=d
      simp only [List.map_cons,cF,s,z];simp only [cF] at n;rw [n]
     ·rcases List.mem_cons.1 i with rfl | i
      ·exact ⟨t,a,j,s,g,p d,p h⟩
      ·exact E x i
theorem ahP (a:List PG):∃es:EL,es.length=a.length/\(∀e∈es,∃x∈a,e.1.length=x.1.size)/\∀(ρ:bD) (i:Nat) v,(dD es)[i]? =some v->∃x,(cb a)[i]? =some x/\RV ρ v x:=by
 induction a with
 | nil=>exact ⟨[],rfl,by simp,λρ i v h=>by simp [dD] at h⟩
 | cons x a ih=>
   obtain ⟨es,c,f,h3⟩:=ih;refine ⟨(au x.1,au x.2)::es,by simp [c],λe b=>?_,λρ i v h=>?_⟩
   ·rcases List.mem_cons.1 b with rfl | b
    ·exact ⟨x,by simp,zJ _⟩
    ·obtain ⟨y,hy,d⟩:=f e b
     exact ⟨y,by simp [hy],d⟩
   ·match i with
    | 0=>simp [dD] at h;subst h;exact ⟨_,by simp [cb],.str _⟩
    | 1=>simp [dD] at h;subst h;exact ⟨_,by simp [cb],.str _⟩
    | i+2=>
      obtain ⟨y,hy,r⟩:=h3 ρ i v (by simpa [dD] using h);exact ⟨y,by simpa [cb] using hy,r⟩
theorem Hd {h:H}{G lb:Lb}{m:bH}{c:Nat}{e:TypeId}{fz:Nat}{o:Own}(hw:Wf h)(S:rF h G m c)(Io:m.length<=1000000000)(C:h.get lb=some (.cells [.map G] e fz o)){Q:V->H->Prop} (hq:∀ov (es:EL) h',aG h' 55 2 ov es.length (dD es)->es.length<=m.length->(∀e∈es,e.1.length<=1000000)->Fr h ov->Mod h h' []->Wf h'->Q ov h'):
  CW pf G0 jN [.nilSlice 0,.func 281 [] [.ptr lb 0]] h Q:=by
 refine .mk λ{B w0 ρ w xs} R hG hx=>?_;obtain ⟨x1,x2,rfl,r1,r2⟩:=hx.two;cases r1;obtain ⟨a',b',rfl,ra,rb⟩:=qO r2;cases ra;obtain ⟨y,rfl,ry⟩:=rb.one;obtain ⟨f,k,rfl⟩:=dy ry;have c0:dE ρ f [.map G] e fz o w:=R.obj _ _ _ k C;obtain ⟨q,I,q2⟩:=c0.cell 0 _ rfl;obtain ⟨n,u,rfl⟩:=lz q2;obtain ⟨ms,OJ,mz⟩:∃ms:Array MapEntry,w.heap[n.block]? =some (.map ms c)/\pO ρ (cd m) ms.toList:=R.obj _ _ _ u S.get;obtain ⟨f1,X,f3,f4⟩:=BZ mz S.dD;have qx:=(R.base _ _ k).1;unfold cQ at I;rw [qx] at I;have gI:w.ownsMap Tryz.prog 9 RE n.block m.length (.map ((ms.toList.map (rg Tryz.prog 9 RE)).foldr DataW.insert [])):=by
  refine ⟨ms,c,OJ,⟨?_,⟨λx hx=>?_,?_,?_⟩,λx hx=>?_⟩,?_,rfl⟩
  ·have KI:maxLen=9223372036854775807:=rfl
   rw [<-Array.length_toList,f1];omega
  ·have DB:x.born∈ms.toList.map (·.born):=List.mem_map_of_mem hx
   rw [X] at DB;obtain ⟨Z,Ji,M⟩:=List.mem_map.1 DB;rw [<-M];exact S.ok.old Z Ji
  ·rw [X];exact S.ok.Eu
  ·have F:=S.ok.keys
   rw [<-f3] at F;have uF:((ms.toList.map (·.key)).map Ic).Nodup:=by rw [List.map_map];exact F
   exact List.Pairwise.of_map Ic (λ_ _ h e=>h (by rw [e])) uF
  ·obtain ⟨t,a,b,F,A,ht,ha⟩:=f4 x hx
   have KI:maxLen=9223372036854775807:=rfl;have T:Go.keyOf Tryz.prog 9 x.key=some (.string t.data.toList):=by
    rw [F];simp [Go.keyOf,Tryz.underlying9,mapKey];omega
   exact ⟨_,by unfold rd;rw [T,A];simp only [Option.bind_some,RE,if_pos ha];rfl⟩
  ·rw [<-Array.length_toList,f1];exact Nat.le_refl _
 have XX:f.block<w.heap.size:=(R.obj _ _ _ k C:sS ρ f w _).lt;have P:n.block<w.heap.size:=(R.obj _ _ _ u S.get:sS ρ n w _).lt;have L:SeqGives Fence.wide 0 Tryz.prog 281 #[.pointer (some ⟨f.block,0,none⟩)] po (λd=>d.length<=m.length/\∀x∈d,x.1.size<=1000000) m.length w:=λl J W Y hJ hY h0=>by
  have U':W.ownsMap Tryz.prog 9 RE n.block m.length (.map ((ms.toList.map (rg Tryz.prog 9 RE)).foldr DataW.insert [])):=by
   obtain ⟨es,j,C,Ft,hs,hD⟩:=gI;exact ⟨es,j,(Y.block _ P).trans C,Ft,hs,hD⟩
  exact (Tz.abE l f.block n.block m.length _ J hY W hJ ((Y.cell (p:=⟨f.block,0,none⟩) XX).trans I) U' h0).mono λe W' ⟨h1,d,h2,h3,h4⟩=>⟨h1,d,⟨h2,h3⟩,h4⟩
 have gN:=Tz.amc 281 #[.pointer (some ⟨f.block,0,none⟩)] (enters Tryz.func281 rfl (by kernel_rfl)) w _ m.length (by omega) L;have XY:Calls (pf ()) jN ⟨[.slice none 0 0,.func (.func 281) #[] #[.pointer (some ⟨f.block,f.base+0,none⟩)]]⟩ w λe w'=>∃v d,e = .returned v/\(d.length<=m.length/\∀x∈d,x.1.size<=1000000)/\w'.ownsRow w.heap.size 55 2 v d.length (cb d)/\(v = .slice none 0 0<->d=[])/\RowKit.Below w.heap.size w w':=by rw [qx];exact gN
 refine Good.fQ Tryz.func311 rfl rfl (XY.mono λZ w' ⟨v,d,K,⟨xM,B9⟩,bC,WK,Mg⟩=>⟨_,K,?_⟩);obtain ⟨es,O,M,e3⟩:=ahP d;have N:∀e∈es,e.1.length<=1000000:=λe K=>by
  obtain ⟨x,hx,r⟩:=M e K;rw [r];exact B9 x hx
 rcases bC.2 with ⟨rfl,fg⟩ | ⟨D,cap,s,rfl,jl,z,hle,wB,fL,fE⟩
 ·have:es=[]:=by cases es with | nil=>rfl | cons a b=>simp at O;omega
  subst this;exact ⟨.nilSlice 0,h,ρ,hq _ [] h .nil (by simp) (by simp) (Fr.Ff _ _) (Mod.refl _ _) hw,Step.refl _ _,.nilSlice 0,R.Fq Mg⟩
 ·obtain ⟨a1,a2,a3,a4⟩:=H.add_mod hw (.cells (dD es) 55 0 .yes)
  have E:=eS (b:=ej.mk D 0 (cap*2) .nilFunc) R.fresh;have jA:(dD es).length=d.length*2:=by rw [jU,O]
  refine ⟨.slice h.next 0 es.length (.toEnd 2),_,uG ρ h.next (ej.mk D 0 (cap*2) .nilFunc),hq _ es _ (.ends a1 (jU es)) (by omega) N (λl r=>by simp [ag] at r;subst r;exact a2) a3 a4,Step.add _ _ _ _,?_,R.named Mg jl ⟨rfl,rfl⟩ ?_⟩
  ·have:=RV.sliceEnd (ρ:=uG ρ h.next (ej.mk D 0 (cap*2) .nilFunc)) (l:=h.next) 0 es.length 2 cap (aU _ _ _) (by omega) (by simp)
   rw [O] at this ⊢;simpa using this
  ·refine ⟨?_,?_,λi v A=>?_,λ_ i hi r=>?_,λ_=>⟨s,0,0,z,Nat.zero_le _,Nat.le_refl _⟩⟩
   ·simp [World.shape?,z,fL]
   ·show 0+(dD es).length<=cap*2;omega
   ·obtain ⟨x,U,ke⟩:=e3 (uG ρ h.next (ej.mk D 0 (cap*2) .nilFunc)) i v A
    refine ⟨x,?_,ke⟩;have hi:=(List.getElem?_eq_some_iff.1 A).1;unfold cQ World.cell?;simp only [z,Nat.zero_add];have:s.toList[i]? =some x:=by
     rw [<-fE,List.getElem?_take,if_pos (by omega)] at U;exact U
    simpa using this
   ·simp [World.frozen?,z]
end K
namespace Go.Proofs
open Go.Shelf Go.RowKit Go.Lib Go.Sort
def uA (x:PG):List Value:=[.string x.1,.string x.2]
def XZ (x y:PG):Int:=Lib.compareBytes x.1.data.toList y.1.data.toList
set_option maxHeartbeats 1000000 in
theorem Tryz.X0 (x y:PG)(W:World):Calls Tryz.prog 243 #[.agg #[.string x.1,.string x.2],.agg #[.string y.1,.string y.2]] W λe w'=>e = .returned (.int .i64 (XZ x y))/\∃q os',w'=grow (W.drewN q) os':=by
 have amg:=λW'=>Any.strings_Compare Tryz.agv x.1 y.1 W'
 change ∀W',Calls Tryz.prog 223 _ _ _ at amg
 unfold XZ;generalize Lib.compareBytes x.1.data.toList y.1.data.toList=r at amg ⊢
 go_enter Tryz.func243,Tryz.ntmps243
 go_wp2_with (go_at_call 223;refine (amg _).mono ?_;rintro e w' ⟨rfl,rfl⟩)
 go_ret
 exact ⟨rfl,0,_,by rw [alloc_eq_grow,alloc_eq_grow,grow_grow];rfl⟩
theorem Tryz.X1 (blk off size:Nat)(w:World):CmpLays Tryz.prog 243 #[] uA 2 XZ blk off size w:=
 λ_ _ _ _ x y=>Tryz.X0 x y _
theorem RS (x y:UInt8)(a b:List UInt8):(compareBytes (x::a) (y::b)<0<->x.toNat<y.toNat\/x.toNat=y.toNat/\compareBytes a b<0):=by
 simp only [compareBytes,UInt8.lt_iff_toNat_lt]
 by_cases h1:x.toNat<y.toNat
 ·simp [h1]
 ·by_cases h2:y.toNat<x.toNat
  ·simp [h1,h2];omega
  ·have:x.toNat=y.toNat:=by omega
   simp [this]
theorem PH:∀a:List UInt8,¬compareBytes a a<0
 | []=>by simp [compareBytes]
 | x::a=>by rw [RS];have:=PH a;omega
theorem Va:∀a b c:List UInt8,compareBytes a b<0->compareBytes b c<0->compareBytes a c<0
 | [],[],c,h1,_=>by simp [compareBytes] at h1
 | [],y::b,[],_,h2=>by simp [compareBytes] at h2
 | [],y::b,z::c,_,_=>by simp [compareBytes]
 | x::a,[],c,h1,_=>by simp [compareBytes] at h1
 | x::a,y::b,[],_,h2=>by simp [compareBytes] at h2
 | x::a,y::b,z::c,h1,h2=>by
   rw [RS] at h1 h2 ⊢;have d:=Va a b c
   by_cases h3:compareBytes a c<0
   ·omega
   ·by_cases h4:compareBytes a b<0
    ·by_cases h5:compareBytes b c<0
     ·exact absurd (d h4 h5) h3
     ·omega
    ·omega
theorem PI:∀a b c:List UInt8,¬compareBytes a b<0->¬compareBytes b c<0->¬compareBytes a c<0
 | [],[],c,_,h2=>h2
 | [],y::b,c,h1,_=>by simp [compareBytes] at h1
 | x::a,[],[],h1,_=>h1
 | x::a,[],z::c,_,h2=>by simp [compareBytes] at h2
 | x::a,y::b,[],_,_=>by simp [compareBytes]
 | x::a,y::b,z::c,h1,h2=>by
   rw [RS] at h1 h2 ⊢;have d:=PI a b c
   by_cases h3:compareBytes a c<0
   ·by_cases h4:compareBytes a b<0
    ·omega
    ·by_cases h5:compareBytes b c<0
     ·omega
     ·exact absurd h3 (d h4 h5)
   ·omega
theorem axl:SWO (ltOf XZ):={
 irrefl:=λx=>decide_eq_false (PH x.1.data.toList)
 trans:=λx y z a b=>decide_eq_true (Va x.1.data.toList y.1.data.toList z.1.data.toList (of_decide_eq_true a) (of_decide_eq_true b))
 ntrans:=λx y z a b=>decide_eq_false (PI x.1.data.toList y.1.data.toList z.1.data.toList (of_decide_eq_false a) (of_decide_eq_false b))}
theorem Tryz.abF (blk off cap:Nat)(d:Array PG)(w:World)(f:HoldsK uA 2 w blk off d)(a:blk<w.heap.size)(c:d.size<4611686018427387904):
  Calls Tryz.prog 280 #[.slice (some ⟨blk,off,none⟩) d.size cap,.func (.func 243) #[] #[]] w λe w'=>e = .returned (.tuple #[])/\∃d' n os,PermIn 0 d.size d d'/\SortedIn (ltOf XZ) 0 d.size d'/\w'=sortWorldK uA 2 w blk off n d' os:=
 AnyQ.slices_SortFunc Tryz.ajk 2 Tryz.isAgg55 Tryz.sizeOf55 uA (λ_=>rfl) (λx v b=>by simp [uA] at b;rcases b with rfl | rfl<;>rfl) XZ axl 243 #[] blk off cap d w (K.enters Tryz.func243 rfl (by kernel_rfl)) (Tryz.X1 blk off d.size w) f a c
theorem Tryz.Mt (cap:Nat)(w:World):Calls Tryz.prog 280 #[.slice none 0 cap,.func (.func 243) #[] #[]] w λe w'=>e = .returned (.tuple #[])/\w'=w:=
 AnyF.slices_SortFunc_none Tryz.ajk none cap _ w
end Go.Proofs
