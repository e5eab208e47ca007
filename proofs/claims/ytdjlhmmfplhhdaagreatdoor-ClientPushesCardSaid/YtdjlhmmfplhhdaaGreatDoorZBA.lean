/-
  The client's laws. Part ZBA of the proof: slices.Sort at texts, by the kit's shelf.
-/
import Derived.Shelf.SortM.Plain
import Derived.Shelf.SortM.SortNone
import Derived.Ground.SlgmProg
import Derived.Test.YtdjlhmmfplhhdaaGreatDoorZAZ
import Derived.Test.YtdjlhmmfplhhdaaGreatDoorZAA
import Derived.Test.YtdjlhmmfplhhdaaGreatDoorZAR
import Derived.Test.YtdjlhmmfplhhdaaGreatDoorZAX
import Derived.Test.YtdjlhmmfplhhdaaGreatDoorZAQ
namespace K
open Go Go.Dx Go.RowKit Go.Proofs Go.Sort
set_option maxRecDepth 100000
variable{h:H}
theorem _root_.Go.Dx.aA.rewrite {g:Type} [Inhabited g] {B:Nat}{w0 w:World}{ρ:bD}(R:aA B w0 ρ h w){l:Lb}{b:ej}{vs k:List V}{e:TypeId}(a:ρ l=some b)(j:h.get l=some (.cells vs e 0 .yes))(enc:g->Value) (d:Array g) (z:d.size=vs.length) (C:k.length=vs.length) (s:∀i v,k[i]? =some v->RV ρ v (enc (d[(i:Nat)]!))):
  aA B w0 ρ (h.set l (.cells k e 0 .yes)) (putRow enc w b.block 0 d):=by
 have c:dE ρ b vs e 0 .yes w:=R.obj l b _ a j;obtain ⟨cs,lo,hi,p,r,u⟩:=c.bare rfl;have x:=(R.base l b a).1;have t:b.block<w.heap.size:=(R.obj l b _ a j).lt;have m:putRow enc w b.block 0 d = {w with heap:=w.heap.setIfInBounds b.block (.cells (putCells enc 0 d cs) e (lo,hi))}:=by
  unfold putRow mapBlock
  congr 1
  apply Array.ext_getElem?;intro i;rw [Array.getElem?_modify,Array.getElem?_setIfInBounds]
  by_cases jB:b.block=i
  ·subst jB
   obtain ⟨_,o⟩:=Array.getElem?_eq_some_iff.1 p;simp [t,onCells,o]
  ·simp [jB]
 rw [m];have Hl:=c.shape;unfold World.shape? at Hl;simp only [p] at Hl;have A:=c.fits;have n:(putCells enc 0 d cs).size=cs.size:=by simp [putCells]
 refine R.setObj a j rfl λw' f=>⟨?_,by omega,λi v q=>?_,λ_ i Je Ip=>?_,λ_=>⟨_,lo,hi,f,r,u⟩⟩
 ·unfold World.shape?
  simp only [f,n];exact Hl
 ·have hi:=(List.getElem?_eq_some_iff.1 q).1
  refine ⟨_,?_,s i v q⟩;have y:cs.size=b.total:=by simpa using Hl
  unfold World.cell? cQ;simp only [f,x,Nat.zero_add];unfold putCells;simp;exact ⟨_,Array.getElem?_eq_getElem (by omega),λh=>by omega⟩
 ·unfold World.frozen?
  simp only [f];simp;omega
theorem Df {B:Nat}{w0 w:World}{ρ:bD}{h:H}(R:aA B w0 ρ h w):∀n,aA B w0 ρ h (Sort.ahead w n)
 | 0=>R
 | n+1=>by rw [<-Sort.ahead_drew];exact (Df R n).drew
theorem Dg {B:Nat}{w0:World}{ρ:bD}{h:H}:∀(os:List Go.Obj) {w:World},aA B w0 ρ h w->aA B w0 ρ h (grow w os.toArray)
 | [],w,R=>by rw [show ([]:List Go.Obj).toArray = #[] from rfl,grow_empty];exact R
 | o::r,w,R=>by
   have:=Dg r (R.junk o);rw [alloc_eq_grow,grow_grow] at this;simpa using this
theorem Ha:∀{l:List (List Nat)} {i:Nat} {v:V},(strs l)[i]? =some v->∃s,l[i]? =some s/\v = .str s
 | [],i,v,h=>by simp [strs] at h
 | x::l,0,v,h=>by simp [strs] at h;exact ⟨x,rfl,h.symm⟩
 | x::l,i+1,v,h=>by
   obtain ⟨s,a,b⟩:=Ha (l:=l) (i:=i) (v:=v) (by simpa [strs] using h);exact ⟨s,by simpa using a,b⟩
theorem U7 {v:V}{xs:List (List Nat)}(I:Wf h)(E:aG h 9 1 v xs.length (strs xs))(hl:xs.length<=1000000000000){Q:V->H->Prop} (J:∀ys h',ys.length=xs.length->(∀y∈ys,y∈xs)->aG h' 9 1 v ys.length (strs ys)->Mod h h' (ag v)->Wf h'->Q (.tuple []) h'):CW pf G0 eX [v] h Q:=by
 refine .mk λ{B w0 ρ w us} R hG W=>?_;have key:∀(l:Lb) (b:ej) (cap:Nat),h.get l=some (.cells (strs xs) 9 0 .yes)->ρ l=some b->ag v=[l]->(∀h' ys,ys.length=xs.length->h'.get l=some (.cells (strs ys) 9 0 .yes)->aG h' 9 1 v ys.length (strs ys))->Good (pf ()) eX [.slice (some ⟨b.block,b.base,none⟩) xs.length cap] w λx w'=>∃v h' m,Q v h'/\Step ρ m h h'/\RV m v x/\aA B w0 m h' w':=λl b cap f d Oq P=>by
  have c:dE ρ b (strs xs) 9 0 .yes w:=R.obj l b _ d f;obtain ⟨zs,Is,T⟩:=vL c rfl (by rw [<-eC];exact dG rfl);have D:zs.length=xs.length:=by rw [<-Is,List.length_map]
  have X:=(R.base l b d).1;have tB:=c.fits;rw [eC] at tB;obtain ⟨k,q⟩:∃k,k=zs.map (·.data.toList):=⟨_,rfl⟩;have L:k.length=xs.length:=by rw [q,List.length_map,D]
  have hH:Holds encStr w b.block b.base k.toArray:=λj hj=>by
   have A:j<k.length:=by simpa using hj
   refine ⟨?_,c.free rfl _ (by omega) (by omega)⟩;have:=T j zs[j] (List.getElem?_eq_getElem (by omega));rw [Nat.add_zero] at this;rw [this];subst q;simp at A ⊢;rw [List.getElem?_eq_getElem A];simp
  have G:Calls (pf ()) eX ⟨[.slice (some ⟨b.block,b.base,none⟩) xs.length cap]⟩ w λe w'=>e = .returned (.tuple #[])/\∃n os,w'=grow (putRow encStr (Sort.ahead w n) b.block b.base (k.mergeSort λx y=>decide (x<=y)).toArray) os:=by
   rw [<-L];exact AnyM.slices_Sort_string Tryz.ajl b.block b.base cap k w hH (R.obj l b _ d f:sS ρ b w _).lt (by omega)
  refine Good.fQ Tryz.func165 rfl rfl (G.mono λe w' ⟨F,n,os,C⟩=>⟨_,F,?_⟩);obtain ⟨ts,By⟩:∃ts,ts=k.mergeSort λx y=>decide (x<=y):=⟨_,rfl⟩;rw [<-By] at C;have Ct:ts.length=xs.length:=by rw [By,List.length_mergeSort,L]
  obtain ⟨ys,o⟩:∃ys,ys=ts.map λt=>au ⟨t.toArray⟩:=⟨_,rfl⟩;have MS:ys.length=xs.length:=by rw [o,List.length_map,Ct]
  obtain ⟨U,K,S⟩:=H.eD I f rfl (.cells (strs ys) 9 0 .yes);have R':aA B w0 ρ (h.set l (.cells (strs ys) 9 0 .yes)) (putRow encStr (Sort.ahead w n) b.block 0 ts.toArray):=(Df R n).rewrite d f encStr ts.toArray (by simp [eC,Ct]) (by simp [eC,MS]) λi v O=>by
   obtain ⟨s,u,rfl⟩:=Ha O;rw [o,List.getElem?_map] at u;have hi:i<ts.length:=by
    rcases Nat.lt_or_ge i ts.length with g | g
    ·exact g
    ·rw [List.getElem?_eq_none g] at u;simp at u
   rw [List.getElem?_eq_getElem hi] at u;simp at u;rw [<-u];have:ts.toArray[i]! =ts[i]:=by simp [hi]
   rw [this];exact .str _
  refine ⟨.tuple [],_,ρ,J ys _ MS (λy hy=>?_) (P _ ys MS U) (Oq▸K) S,⟨λ_ _=>rfl,K.next⟩,.tuple .nil,?_⟩
  ·rw [o] at hy
   obtain ⟨t,M,rfl⟩:=List.mem_map.1 hy;rw [By,List.mem_mergeSort,q] at M;obtain ⟨z,Z,rfl⟩:=List.mem_map.1 M;rw [<-Is];exact List.mem_map_of_mem Z
  ·rw [C,X]
   have:=Dg os.toList R';simpa using this
 generalize N:xs.length=n at E key;generalize kM:strs xs=cs at E key;cases W with
 | cons r tl=>
   cases tl;cases E with
   | nil=>
     cases r with
     | nilSlice c=>
       have G:Calls (pf ()) eX ⟨[.slice none 0 0]⟩ w λe w'=>e = .returned (.tuple #[])/\w'=w:=AnyM.slices_Sort_string_none Tryz.ajl none 0 w;refine Good.fQ Tryz.func165 rfl rfl (G.mono λe w' ⟨F,C⟩=>⟨_,F,?_⟩);have Y:xs=[]:=by cases xs with | nil=>rfl | cons a b=>cases N
       subst Y;exact ⟨.tuple [],h,ρ,J [] h rfl (by simp) .nil (Mod.refl _ _) I,Step.refl _ _,.tuple .nil,C▸R⟩
   | ends f hlen=>
     cases r with
     | @sliceEnd _ b _ _ size c d gb HQ=>
       exact key _ b c f d rfl λh' ys hy p=>by rw [hy];exact .ends p (by rw [eC,hy,Nat.mul_one])
   | exact f hlen=>
     cases r with
     | @slice _ b _ _ c d=>
       exact key _ b _ f d rfl λh' ys hy p=>by rw [hy];exact .exact p (by rw [eC,hy,Nat.mul_one])
end K
namespace K
open Go Go.Dx Go.RowKit Go.Proofs
set_option maxRecDepth 100000
variable{s:List Nat}{h:H}
theorem _root_.Go.Dx.adQ.front {k:IntKind}{j:Int}{K:V->Prop} (h0:0<=j) (a:j.toNat<=s.length) (c:∀t,t=s.take j.toNat->K (.str t)):adQ s none (some (.int k j)) K:=by
 obtain ⟨b,rfl⟩:=Int.eq_ofNat_of_zero_le h0;have a:b<=s.length:=by simpa using a
 exact ⟨.str ((s.take b).drop 0),by simp only [mY,bB,dR a,ob],c _ (by simp)⟩
theorem RP {p:List Nat}{Q:V->H->Prop} (a:∀b,Q (.bool b) h):CW pf G0 pB [.str s,.str p] h Q:=by
 refine Ba.enter (by kernel_rfl) ?_;cbv;refine lW.enter (by kernel_rfl) ?_;cbv;refine .of λn d g=>?_;cbv;refine .of λk j c=>?_;cbv;refine .ge (λe=>?_) λe=>?_
 ·cbv;refine .of λl FO f=>?_
  cbv;refine .front (by omega) (by omega) λt i=>?_;cbv;refine .seq (λ_=>?_) λ_=>?_
  ·cbv;exact a _
  ·cbv;exact a _
 ·cbv;exact a _
theorem abz (m:bH)(a:List Nat):(gd m a).length<=m.length:=List.length_filter_le _ _
theorem uz {s:Lb}{m:bH}{c:Nat}{pre:List Nat}(T:Wf h)(S:rF h s m c)(Io:m.length<=1000000000){Q:V->H->Prop} (X:∀d (ks:List (List Nat)) h',ks.length<=m.length->(∀k∈ks,k.length<=1000000)->aG h' 9 1 d ks.length (strs ks)->Fr h d->Mod h h' []->Wf h'->Q d h'):CW pf G0 mJ [.map s,.str pre] h Q:=by
 refine xh.enter (by kernel_rfl) ?_;cbv;refine .rangeMap rfl T S.get λr h1 Jp FD Z U=>?_;cbv;refine .inv [p1,p5,p8] (λK W h'=>∃(a:List Nat) (ks:List (List Nat)) (d:V) (last:Nat),W=[.str pre,d,.ptr r 0]/\K=(gd m a).length/\ks.length+(gd m a).length<=m.length/\(∀k∈ks,k.length<=1000000)/\h'.get r=some (.mapIter (some s) c a last)/\c<=last/\aG h' 9 1 d ks.length (strs ks)/\Fr h d/\r∉ag d/\Mod h h' []/\Wf h') [_,_,_] rfl _
  ⟨[],[],.nilSlice 0,c,rfl,rfl,by simpa using abz m [],by simp,Jp,by omega,.nil,Fr.Ff _ _,by simp [ag],Z,U⟩ ?_
 rintro K _ h' ⟨a,ks,d,last,rfl,N,xE,f,g,rW,ho,j,q,y,L⟩;have Iy:=y.get S.get (by simp);cbv;refine .of L g Iy rW (λe he=>S.ok.old e he) (λbJ=>?_) λk v b B h3 D aI u=>?_
 ·cbv
  refine U7 L ho (by omega) λys h3 MS z w aI u=>?_;cbv;exact X d ys h3 (by omega) (λk hk=>f k (z k hk)) w j (y.fr aI λl t=>.inl (j l t)) u
 ·have A:s≠r:=by rintro rfl;rw [Iy] at g;cases g
  have O9:=aI.get Iy (by simpa using A);have M:(gd m (a++[b])).length<(gd m a).length:=Uo B;have w:=ho.mono aI (dJ q);have G:Mod h h3 []:=y.fr aI λl t=>by simp at t;subst t;exact .inl FD
  cbv;refine .entry D O9 S.ok (qu B) ?_;cbv;refine RP λyes=>?_;cases yes
  ·cbv;exact ⟨rfl,_,(by rw [N];exact M),a++[b],ks,d,c,rfl,rfl,by omega,f,D,by omega,w,j,q,G,u⟩
  ·cbv;refine .flat rfl ?_
   cbv;refine .of u λl8 Y R N2 E eL=>?_;have J:Mod h Y []:=(G.trans E).mono λl o _ g=>by simp at g
   cbv;refine .own eL (w.mono E) (m:=1) (new:=[.str k]) (by simp only [cW,R];rfl) rfl rfl (by unfold bg;omega) (by decide) λC O Rv n F P=>?_;rw [show strs ks++[V.str k]=strs (ks++[k]) from by rw [kB];rfl,show ks.length+1=(ks++[k]).length from by simp] at Rv;have oE:Mod h O []:=J.fr F λl g=>.inl (j l g);have i:=E.get D;cbv;exact ⟨rfl,_,(by rw [N];exact M),a++[b],ks++[k],C,c,rfl,rfl,by simp;omega,(λx hx=>(List.mem_append.1 hx).elim (f x) λe=>by simp at e;subst e;exact (S.dD _ (qu B)).1),F.get i q,by omega,Rv,n.fr J (by simp) j,n.dp i q,oE,P⟩
end K
namespace K
open Go Go.Dx Go.RowKit
set_option maxRecDepth 100000
variable{h:H}
def mU (a:Bool)(v:List Nat):List Nat:=if a then [1] else 0::(c8 v.length++v)
theorem Zo {h0:H}{b:V}{m:Nat}{cs:List V}{a:Bool}{v:List Nat}(lo:Loc h0 h b)(n:aG h 5 1 b m cs)(o:aZ cs=true)(x:m<=9000000)(q:v.length<=1000000){Q:V->H->Prop}
  (j:∀r h',aG h' 5 1 r (m+(mU a v).length) (cs++ae (mU a v))->Loc h0 h' r->Q r h'):CW pf G0 yE [b,.bool a,.str v] h Q:=by
 refine LL.enter (by kernel_rfl) ?_;cases a with
 | true=>
   cbv;refine .of lo.wf λl s i w c f=>?_;cbv;refine .one (lo.al c f) (n.mono c (by simp)) i rfl rfl (by omega) (by decide) λr k y d _=>?_;cbv;exact j r k y d
 | false=>
   cbv;refine .of lo.wf λl s i w c f=>?_;cbv;refine .one (lo.al c f) (n.mono c (by simp)) i rfl rfl (by omega) (by decide) λr k y d _=>?_;cbv;refine GY d.wf y.sl (eW o rfl) (by omega) q λu h3 p B=>?_;cbv;refine j u h3 ?_ (B.base d.mod);have e:cs++ae (mU false v)=cs++[V.int .u8 0]++ae (c8 v.length++v):=by
    simp [mU,ae]
   rw [e,show m+(mU false v).length=m+1+(c8 v.length++v).length by simp [mU];omega];exact p
structure FI where
 key:List Nat
 gone:Bool
 val:List Nat
def xF:List FI->List V
 | []=>[]
 | o::r=>.str o.key :: .bool o.gone :: .str o.val::xF r
theorem Fs:∀(l:List FI) (i:Nat) (o:FI),l[i]? =some o->rowFrom (xF l) (i*3) 3=some [.str o.key,.bool o.gone,.str o.val]
 | [],i,o,h=>by simp at h
 | x::r,0,o,h=>by simp at h;subst h;rfl
 | x::r,i+1,o,h=>by
   have:=Fs r i o (by simpa using h);rw [show (i+1)*3=i*3+1+1+1 by omega];exact this
structure ajs (l:List FI):Prop where
 some:1<=l.length
 tr:l.length<=256
 each:∀o,o∈l->1<=o.key.length/\o.key.length<=128/\(o.gone=true->o.val=[])/\o.val.length<=4096
 keys:(l.map (·.key)).Nodup
theorem ae4 {vo:V}{l:List FI}(I:Wf h)(hs:Sl h 3 vo l.length (xF l))(hk:∀o,o∈l->o.key.length<=100000000/\o.val.length<=100000000) (P:l.length<=1000000) {Q:V->H->Prop}
  (s:∀h' (e:Int),e≠0->Mod h h' []->Wf h'->Q (.int .i64 e) h') (hq:∀h',ajs l->Mod h h' []->Wf h'->Q (.int .i64 0) h'):CW pf G0 wi [vo] h Q:=by
 refine IJ.enter (by kernel_rfl) ?_;cbv;refine .of hs λn fg Dr=>?_;cbv;refine .eq (λh0=>?_) λcV=>?_
 ·cbv;exact s h 1 (by decide) (Mod.refl _ _) I
 cbv;refine .of hs λn2 SP aj'=>?_;cbv;refine .gt (λYV=>?_) λhle=>?_
 ·cbv;exact s h 1 (by decide) (Mod.refl _ _) I
 cbv;refine .of I λJ h1 DE FC ar aK=>?_;have xM:=hs.mono ar (by simp);cbv;refine .of xM λn3 agk aw0=>?_;cbv;refine .inv [p3,p15,p16,p17] (λm' aB h'=>∃i es c,aB=[.map J,vo,.int .i64 n3,.int .i64 i]/\0<=i/\i.toNat<=l.length/\m'=l.length - i.toNat/\h'.get J=some (.map (cd es) c)/\(∀e,e∈es->∃x:Int,e.2.1 = .int .i64 x)/\(∀k,dI es k=if k∈(l.take i.toNat).map (·.key) then 1 else 0)/\
   (∀o,o∈l.take i.toNat->1<=o.key.length/\o.key.length<=128/\(o.gone=true->o.val=[])/\o.val.length<=4096)/\((l.take i.toNat).map (·.key)).Nodup/\Mod h h' []/\Wf h') [_,_,_,_] rfl _
  ⟨0,[],0,rfl,by omega,by simp,rfl,DE,by simp,by simp [dI,cO],by simp,by simp,ar,aK⟩ ?_
 rintro m' _ h' ⟨i,es,c,rfl,iB,hi,eF,D,d,PA,Zp,Tc,E,dO⟩;cbv;refine .lt (λbA=>?_) λjl=>?_
 ·obtain ⟨o,ho⟩:∃o,l[i.toNat]? =some o:=⟨_,List.getElem?_eq_getElem (by omega)⟩
  have bC:=Fs _ _ _ ho;have w:=eM ho;obtain ⟨M,uF⟩:=hk o (List.mem_of_getElem? ho);obtain ⟨key,A,val⟩:=o;dsimp only at bC M uF;cbv;refine .of (hs.mono E (by simp)) iB rfl (by omega) bC λsl off jA=>?_;cbv;refine .jC jA rfl ?_;cbv;refine .of dO λla h2 kd FT av aO=>?_;cbv;refine .of aO kd rfl rfl rfl rfl rfl rfl λh3 g aI p=>?_;have PB:h3.get J=some (.map (cd es) c):=aI.get (av.get D (by simp)) (by rw [List.mem_singleton];rintro rfl;rw [D] at FT;cases FT);have m:Mod h h3 []:=(E.fr av (by simp)).fr aI λl P=>.inl (by
   rw [List.mem_singleton] at P;subst P;cases hy:h.get l with
   | none=>rfl
   | some o=>have:=E.get hy (by simp);rw [FT] at this;cases this)
  cases A with
  | true=>
    cbv;refine .of g rfl ?_;cbv;refine .seq (λe=>?_) λt=>?_
    ·cbv;exact s h3 6 (by decide) m p
    cbv;refine .of g rfl ?_;cbv;refine .of λkl T F=>?_;cbv;refine .gt (λJB=>?_) λal0=>?_
    ·cbv;exact s h3 6 (by decide) m p
    have u:1<=key.length:=by rcases key with _ | ⟨a,b⟩;exact absurd rfl t;simp
    cbv;refine .of g rfl ?_;cbv;refine .of g rfl ?_;cbv;refine .sne (λe=>?_) λe=>?_
    ·have v:true=true->val=[]:=λ_=>e
     cbv;refine .of g rfl ?_;cbv;refine .of λvl X S=>?_;cbv;refine .gt (λaqG=>?_) λal1=>?_
     ·cbv;exact s h3 4 (by decide) m p
     cbv;refine .of g rfl ?_;cbv;refine .held PB d λx hx=>?_;cbv;refine .gt (λG=>?_) λO=>?_
     ·cbv;exact s h3 61 (by decide) m p
     have y:key∉(l.take i.toNat).map (·.key):=λAA=>by
      rw [PA,if_pos AA] at hx;omega
     cbv;refine .of g rfl ?_;cbv;refine .held PB d λU ke=>?_;have al3:U=0:=by rw [ke,PA,if_neg y]
     cbv;refine .add (by omega) (by omega) λR Fz=>?_;cbv;refine .of p PB λh4 Z N L=>?_;cbv;refine .add (by omega) (by omega) λj hj=>?_;cbv;refine ⟨rfl,l.length - j.toNat,by omega,j,_,_,rfl,by omega,by omega,rfl,Z,λe r=>?_,λk=>?_,λo f=>?_,?_,m.fr N (λq B=>.inl (by rw [List.mem_singleton] at B;subst B;exact FC)),L⟩
     ·rcases lD r with r | ⟨_,r,_⟩
      ·exact d e r
      ·exact ⟨_,r⟩
     ·rw [show j.toNat=i.toNat+1 by omega,w,List.map_append]
      have z:=PA k;unfold dI at z ⊢;rw [eh]
      by_cases e:k=key
      ·subst e
       rw [if_pos rfl,if_pos (List.mem_append_right _ (by simp))];show R=1
       omega
      ·rw [if_neg e,z]
       have:(k∈(l.take i.toNat).map (·.key)++[key])<->k∈(l.take i.toNat).map (·.key):=by simp [e]
       simp only [List.map_cons,List.map_nil,this]
     ·rw [show j.toNat=i.toNat+1 by omega,w] at f
      rcases List.mem_append.1 f with f | f
      ·exact Zp o f
      ·rw [List.mem_singleton] at f;subst f
       have W:key.length<=128:=by omega
       have Y:val.length<=4096:=by omega
       exact ⟨u,W,v,Y⟩
     ·rw [show j.toNat=i.toNat+1 by omega,w,List.map_append]
      refine List.nodup_append.2 ⟨Tc,by simp,λa K b C e=>?_⟩;simp only [List.map_cons,List.map_nil,List.mem_singleton] at C;subst C;subst e;exact y K
    ·cbv;exact s h3 1 (by decide) m p
  | false=>
    cbv;refine .of g rfl ?_;cbv;refine .seq (λe=>?_) λt=>?_
    ·cbv;exact s h3 6 (by decide) m p
    cbv;refine .of g rfl ?_;cbv;refine .of λkl T F=>?_;cbv;refine .gt (λJB=>?_) λal0=>?_
    ·cbv;exact s h3 6 (by decide) m p
    have u:1<=key.length:=by rcases key with _ | ⟨a,b⟩;exact absurd rfl t;simp
    cbv;refine .of g rfl ?_;have v:false=true->val=[]:=λe=>by cases e
    cbv;refine .of g rfl ?_;cbv;refine .of λvl X S=>?_;cbv;refine .gt (λaqG=>?_) λal1=>?_
    ·cbv;exact s h3 4 (by decide) m p
    cbv;refine .of g rfl ?_;cbv;refine .held PB d λx hx=>?_;cbv;refine .gt (λG=>?_) λO=>?_
    ·cbv;exact s h3 61 (by decide) m p
    have y:key∉(l.take i.toNat).map (·.key):=λAA=>by
     rw [PA,if_pos AA] at hx;omega
    cbv;refine .of g rfl ?_;cbv;refine .held PB d λU ke=>?_;have al3:U=0:=by rw [ke,PA,if_neg y]
    cbv;refine .add (by omega) (by omega) λR Fz=>?_;cbv;refine .of p PB λh4 Z N L=>?_;cbv;refine .add (by omega) (by omega) λj hj=>?_;cbv;refine ⟨rfl,l.length - j.toNat,by omega,j,_,_,rfl,by omega,by omega,rfl,Z,λe r=>?_,λk=>?_,λo f=>?_,?_,m.fr N (λq B=>.inl (by rw [List.mem_singleton] at B;subst B;exact FC)),L⟩
    ·rcases lD r with r | ⟨_,r,_⟩
     ·exact d e r
     ·exact ⟨_,r⟩
    ·rw [show j.toNat=i.toNat+1 by omega,w,List.map_append]
     have z:=PA k;unfold dI at z ⊢;rw [eh]
     by_cases e:k=key
     ·subst e
      rw [if_pos rfl,if_pos (List.mem_append_right _ (by simp))];show R=1
      omega
     ·rw [if_neg e,z]
      have:(k∈(l.take i.toNat).map (·.key)++[key])<->k∈(l.take i.toNat).map (·.key):=by simp [e]
      simp only [List.map_cons,List.map_nil,this]
    ·rw [show j.toNat=i.toNat+1 by omega,w] at f
     rcases List.mem_append.1 f with f | f
     ·exact Zp o f
     ·rw [List.mem_singleton] at f;subst f
      have W:key.length<=128:=by omega
      have Y:val.length<=4096:=by omega
      exact ⟨u,W,v,Y⟩
    ·rw [show j.toNat=i.toNat+1 by omega,w,List.map_append]
     refine List.nodup_append.2 ⟨Tc,by simp,λa K b C e=>?_⟩;simp only [List.map_cons,List.map_nil,List.mem_singleton] at C;subst C;subst e;exact y K
 ·cbv
  have e:l.take i.toNat=l:=List.take_of_length_le (by omega);rw [e] at Zp Tc;exact hq h' ⟨by omega,by omega,Zp,Tc⟩ E dO
end K
namespace K
open Go Go.Dx Go.RowKit Go.Proofs
set_option maxRecDepth 100000
variable{k aE name:List Nat}{m:bH}{h:H}
theorem zI:∀{m:bH} {k:List Nat} {v:V},cO m k=some v->∃b,(k,v,b)∈m
 | [],k,v,h=>by simp [cO] at h
 | (x,w,b)::r,k,v,h=>by
   simp only [cO] at h;split at h
   ·rename_i e
    simp at h;subst h e;exact ⟨b,by simp⟩
   ·obtain ⟨a,c⟩:=zI h
    exact ⟨a,by simp [c]⟩
theorem rF.hit {i:Lb}{c:Nat}(S:rF h i m c){v:V}(d:cO m k=some v):∃a b,v = .agg [.str a,.str b]:=by
 obtain ⟨b,g⟩:=zI d;obtain ⟨f,e⟩:=(S.dD _ g).2;exact ⟨_,f,e⟩
theorem _root_.Go.Dx.VP.entry {e:Lb}{c:Nat}{K:V->Prop} (S:rF h e m c) (d:∀a b f,K (.tuple [.agg [.str a,.str b],.bool f])):VP h .str (.agg [.str [],.str []]) true (.map e) (.str k) K:=by
 cases hv:cO m k with
 | none=>exact .Gs S.get hv (d [] [] false)
 | some v=>
   obtain ⟨a,b,rfl⟩:=S.hit hv;exact .hit S.get hv (d a b true)
theorem U8 {t:Lb}{c:Nat}{id:List Nat}(E:Wf h)(J:HE h)(S:rF h t m c)(C:id.length<=1000000){Q:V->H->Prop} (v:∀a b g f h',bt a->bt b->bt g->Mod h h' []->Wf h'->Q (.tuple [.agg [.str a,.str b,.str g],.bool f]) h'):CW pf G0 mF [.map t,.str id] h Q:=by
 refine xe.enter (by kernel_rfl) ?_;cbv;refine .of E λu X z N n G=>?_;have y:∀l,l∈[u]->h.get l=none:=λl d=>by simp at d;subst d;exact N
 cbv;refine kD (by omega) λr _=>?_;cbv;refine .entry (S.mono n) λP U f=>?_;cbv;refine .of G λle Y L k s M=>?_;have FH:u≠le:=λe=>by subst e;rw [z] at k;cases k
 have W:=aj n (by simp) k;cbv;refine .of (cs:=[.str P,.str U]) M L rfl rfl rfl rfl rfl rfl λh3 A w x=>?_;have q:=w.get (s.get z) (by simpa using FH);have j:Mod h h3 []:=((n.trans s).fr w λl d=>by simp at d;subst d;exact .inl W).mono λl o _ d=>by simp at d
 cases f
 ·cbv;refine .of (cs:=[.str [],.str [],.str []]) x q rfl rfl rfl rfl rfl rfl λh4 K Z p=>?_
  cbv;refine .of K rfl ?_;cbv;exact v [] [] [] false h4 hZ hZ hZ (j.fr Z λl d=>.inl (y l d)) p
 ·cbv;refine .of A rfl ?_
  cbv;refine RO x (J.mono j) λa b g f h4 ba B F Z p=>?_;have aC:Mod h h4 []:=(j.trans Z).mono λl o _ d=>by simp at d
  cbv;refine .of (cs:=[.str a,.str b,.str g]) p (Z.get q) rfl rfl rfl rfl rfl rfl λD R O I=>?_;cbv;refine .of R rfl ?_;cbv;exact v a b g f D ba B F (aC.fr O λl d=>.inl (y l d)) I
theorem Hb {ρ:bD}:∀{l:List V} {xs:List Value},cZ ρ l xs->∀s,V.str s∈l->∀b∈s,b<256
 | _,_,.nil,s,hs=>by simp at hs
 | v::l,_,.cons r t,s,hs=>by
   rcases List.mem_cons.1 hs with e | hs
   ·intro b c
    subst e;generalize a:V.str s=v at r;cases r with
    | str t=>
      cases a;unfold au at c;obtain ⟨u,_,rfl⟩:=List.mem_map.1 c;exact u.toNat_lt
    | _=>cases a
   ·exact Hb t s hs
theorem RQ {ρ:bD}:∀{l:List V} {xs:List Value},cZ ρ l xs->∀v,v∈l->∃x,RV ρ v x
 | _,_,.nil,s,hs=>by simp at hs
 | v::l,_,.cons r t,s,hs=>by
   rcases List.mem_cons.1 hs with e | hs
   ·subst e;exact ⟨_,r⟩
   ·exact RQ t s hs
theorem _root_.Go.Dx.CX.bytes {pf:Unit->Program} {G:Nat} {f:FuncId} {args:List V}  {Q Pn:V->H->Prop} (k:(∀s,V.str s∈args->∀b∈s,b<256)->(∀cs s,V.agg cs∈args->V.str s∈cs->∀b∈s,b<256)->CX pf G f args h Q Pn):CX pf G f args h Q Pn:=by
 refine ⟨λ{B w0 ρ w xs} R c a=>?_⟩;refine (k (Hb a) λcs s d hs=>?_).out R c a;obtain ⟨x,r⟩:=RQ a _ d;cases r with
 | agg h=>exact Hb h s hs
abbrev Mu (kind:Int)(aE name text:List Nat):V:=.agg [.int .i64 kind,.str aE,.str name,.str text]
abbrev FP (a y:Int):V:=.iface bW (.agg [.int .i64 a,.int .i64 y])
theorem abA {w:Lb}{c:Nat}{kind:Int}{text:List Nat}(N:Wf h)(U:HE h)(S:rF h w m c)(hi:aE.length<=1000)(ht:text.length<=512){Q:V->H->Prop}
  (bJ:∀(a y:Int) h',0<=a->y≠0->Mod h h' []->Wf h'->Q (.tuple [.nilSlice 0,FP a y]) h') (bN:∀f k v h',aG h' dS 3 f 1 (xF [⟨k,false,v⟩])->k.length<=3000->v.length<=65536->Mod h h' []->Fr h f->Wf h'->Q (.tuple [f,.nilIface]) h'):
  CW pf G0 lE [.map w,Mu kind aE name text] h Q:=by
 refine CX.bytes λ_ K=>?_;have q:bt text:=⟨by omega,K _ text (.tail _ (.head _)) (by simp)⟩;have t:bt [111,112,101,110]:=⟨by decide,by decide⟩;refine vz.enter (by kernel_rfl) ?_;cbv;refine .agg ?_;cbv;refine .of N λP h1 G gi j O=>?_;cbv;refine .of G rfl ?_;cbv;refine U8 O (U.mono j) (S.mono j) (by omega) λa b Z W h2 _ _ _ u Y=>?_;cbv;refine .of Y λJ h3 Pw FD C aS=>?_;cbv;refine .of (cs:=[.str a,.str b,.str Z]) aS Pw rfl rfl rfl rfl rfl rfl λh4 Ze aL E=>?_;have I:=u.get G;have p:P≠J:=λe=>by subst e;rw [I] at FD;cases FD
 have n:=aL.get (C.get I) (by simpa using p);have B:Mod h h2 []:=(j.trans u).mono λl o _ d=>by simp at d
 have L:=aj B (by simp) FD;have F:Mod h h4 []:=((B.trans C).fr aL λl d=>by simp at d;subst d;exact .inl L).mono λl o _ d=>by simp at d
 cases W
 ·cbv;refine .of follows 6 ?_
  cbv;refine .of n rfl ?_;cbv;refine .of n rfl ?_;cbv;refine .flat rfl ?_;cbv;refine .flat rfl ?_;cbv;refine .flat rfl ?_;cbv;refine kD (s:=aE) (by omega) λkk g=>?_;have T:kk.length<=3000:=by rw [g];simp;omega
  clear g;cbv;refine .load n rfl ?_;cbv;refine .nil ?_;cbv;refine nC E hZ t q λr M X bf R=>?_;have aT:Mod h M []:=(F.trans bf).mono λl o _ d=>by simp at d
  cbv;refine .nil ?_;cbv;refine rE R λf D oC vU=>?_;have bQ:Mod h D []:=(aT.trans vU.mod).mono λl o _ d=>by simp at d
  cbv;refine .nil ?_;cbv;exact bN f kk r D oC T X bQ (λl d=>aj aT (by simp) (vU.fr l d)) vU.wf
 ·cbv;refine dU ?_
  cbv;exact bJ _ _ h4 (by decide) (by decide) F E
theorem Hc {a b F:List Nat}{kind:Int}{text:List Nat}(S:Wf h)(ba:bt a)(L:bt b)(O:bt F)(hi:aE.length<=1000)(hn:name.length<=1000)(ht:text.length<=512){Q:V->H->Prop}
  (K:∀g k v h',aG h' dS 3 g 1 (xF [⟨k,false,v⟩])->k.length<=3000->v.length<=65536->Mod h h' []->Fr h g->Wf h'->Q g h'):
  CW pf G0 tK [.agg [.str a,.str b,.str F],Mu kind aE name text] h Q:=by
 refine CX.bytes λ_ M=>?_;have C:bt text:=⟨by omega,M _ text (.tail _ (.head _)) (by simp)⟩;have G:bt name:=⟨by omega,M _ name (.tail _ (.head _)) (by simp)⟩;refine GI.enter (by kernel_rfl) ?_;cbv;refine .agg ?_;cbv;refine .of S λR h1 Je FD W T=>?_;cbv;refine .agg ?_;cbv;refine .of T λU X q P N J=>?_;have Ip:=N.get Je;have p:U≠R:=λe=>by subst e;rw [Je] at P;cases P
 have aQ:Mod h X []:=(W.trans N).mono λl o _ c=>by simp at c
 cbv;refine .of q rfl ?_;cbv;refine .eq (λZ=>?_) λZ=>?_
 ·skip
  cbv;refine .of q rfl ?_;cbv;refine .one (vs':=[.str a,.str b,.str text]) J Ip rfl rfl rfl rfl λh3 Pw m B=>?_;have t:=m.get q (by simpa using p);have u:Mod h h3 []:=(aQ.fr m λl c=>by simp at c;subst c;exact .inl FD).mono λl o _ c=>by simp at c
  cbv;refine .of follows 6 ?_;cbv;refine .of t rfl ?_;cbv;refine .of Pw rfl ?_;cbv;refine kD (s:=aE) (by omega) λkk d=>?_;have y:kk.length<=3000:=by rw [d];simp;omega
  clear d;cbv;refine .load Pw rfl ?_;cbv;refine .nil ?_;cbv;refine nC B ba L C λr w z A x=>?_;have j:Mod h w []:=(u.trans A).mono λl o _ c=>by simp at c
  cbv;refine .nil ?_;cbv;refine rE x λg n D f=>?_;have E:Mod h n []:=(j.trans f.mod).mono λl o _ c=>by simp at c
  cbv;refine .nil ?_;cbv;exact K g kk r n D y z E (λl c=>aj j (by simp) (f.fr l c)) f.wf
 ·cbv;refine .eq (λY=>?_) λY=>?_
  ·skip
   cbv;refine .of q rfl ?_;cbv;refine .one (vs':=[.str a,.str text,.str F]) J Ip rfl rfl rfl rfl λh3 Pw m B=>?_;have t:=m.get q (by simpa using p);have u:Mod h h3 []:=(aQ.fr m λl c=>by simp at c;subst c;exact .inl FD).mono λl o _ c=>by simp at c
   cbv;refine .of follows 6 ?_;cbv;refine .of t rfl ?_;cbv;refine .of Pw rfl ?_;cbv;refine kD (s:=aE) (by omega) λkk d=>?_;have y:kk.length<=3000:=by rw [d];simp;omega
   clear d;cbv;refine .load Pw rfl ?_;cbv;refine .nil ?_;cbv;refine nC B ba C O λr w z A x=>?_;have j:Mod h w []:=(u.trans A).mono λl o _ c=>by simp at c
   cbv;refine .nil ?_;cbv;refine rE x λg n D f=>?_;have E:Mod h n []:=(j.trans f.mod).mono λl o _ c=>by simp at c
   cbv;refine .nil ?_;cbv;exact K g kk r n D y z E (λl c=>aj j (by simp) (f.fr l c)) f.wf
  ·skip
   cbv;refine .of q rfl ?_;cbv;refine .one (vs':=[.str name,.str b,.str F]) J Ip rfl rfl rfl rfl λh3 Pw m B=>?_;have t:=m.get q (by simpa using p);have u:Mod h h3 []:=(aQ.fr m λl c=>by simp at c;subst c;exact .inl FD).mono λl o _ c=>by simp at c
   cbv;refine .of follows 6 ?_;cbv;refine .of t rfl ?_;cbv;refine .of Pw rfl ?_;cbv;refine kD (s:=aE) (by omega) λkk d=>?_;have y:kk.length<=3000:=by rw [d];simp;omega
   clear d;cbv;refine .load Pw rfl ?_;cbv;refine .nil ?_;cbv;refine nC B G L O λr w z A x=>?_;have j:Mod h w []:=(u.trans A).mono λl o _ c=>by simp at c
   cbv;refine .nil ?_;cbv;refine rE x λg n D f=>?_;have E:Mod h n []:=(j.trans f.mod).mono λl o _ c=>by simp at c
   cbv;refine .nil ?_;cbv;exact K g kk r n D y z E (λl c=>aj j (by simp) (f.fr l c)) f.wf
end K
namespace K
open Go Go.Dx Go.RowKit Go.Proofs
set_option maxRecDepth 100000
variable{v:V}{n:Nat}{h:H}
inductive SpS (h:H)(n:Nat):V->List (List Nat)->Prop
 | nil (hn:n=0):SpS h n (.nilSlice 0) []
 | row {l:Lb} {cs:List V} {ks:List (List Nat)} (hg:h.get l=some (.cells cs 9 0 .yes)) (hn:cs.length=n) (hl:ks.length<=n) (ht:cs.take ks.length=strs ks):SpS h n (.slice l 0 ks.length (.toEnd 1)) ks
theorem SpS.own {ks:List (List Nat)}(s:SpS h n v ks)(a:ks.length=n):aG h 9 1 v ks.length (strs ks):=by
 cases s with
 | nil hn=>exact .nil
 | @row l cs ks hg hn hl ht=>
   rw [List.take_of_length_le (by omega)] at ht;subst ht;exact .ends hg (by rw [eC,Nat.mul_one])
theorem _root_.Go.Dx.WX.room {x:V}{ks xs:List (List Nat)}{K:V->H->Prop} (f:Wf h) (s:SpS h n v ks) (e:cW h 1 x=some (xs.length,strs xs)) (k:ks.length+xs.length<=n) (t:n<=10000000000) (d:∀c h',SpS h' n c (ks++xs)->ag c=ag v->Mod h h' (ag v)->Wf h'->K c h'):WX h 9 1 16 v x K:=by
 cases s with
 | nil fg=>
   have g:xs=[]:=by cases xs with | nil=>rfl | cons a b=>simp at k;omega
   subst g;exact ⟨_,.nilSlice 0,h,e,by simp [eR,bO],d _ _ (.nil fg) rfl (Mod.refl _ _) f⟩
 | @row l cs ks hg kM hl ht=>
   have r:=sj (vs:=cs) (cs:=strs xs) (i:=ks.length) (by rw [eC];omega);obtain ⟨m,p,o⟩:=H.eD f hg rfl (.cells (cs.take ks.length++strs xs++cs.drop (ks.length+(strs xs).length)) 9 0 .yes);refine ⟨_,.slice l 0 (ks.length+xs.length) (.toEnd 1),_,e,?_,d _ _ ?_ rfl (by simpa [ag] using p) o⟩
   ·have j:Nat.ble (4*(ks.length+xs.length)*16) jE=true:=Nat.ble_eq_true_of_le (by unfold jE;omega)
    have q:Nat.ble (0+(ks.length+xs.length)*1) cs.length=true:=Nat.ble_eq_true_of_le (by omega);simp only [eR,j,bO,hg,q,eu,Own.may,CV];rw [show 0+ks.length*1=ks.length by omega,r]
    rfl
   ·rw [show ks.length+xs.length=(ks++xs).length by simp]
    refine .row m ?_ (by simp;omega) ?_
    ·simp [eC];omega
    ·rw [List.append_assoc,ht,List.length_append,<-List.append_assoc,<-kB,List.take_append_of_le_length (by rw [eC];simp)]
     exact List.take_of_length_le (by rw [eC];simp)
theorem Mp (z:V):∀n,(aH [z] n).length=n
 | 0=>rfl
 | n+1=>by simp [aH,Mp z n]
theorem _root_.Go.Dx.PdN.cap {pf:Unit->Program} {x:X} {a:T V} {r:V} {K:V->Prop} (d:x.VI a=some v) (c:YG v=some r) (b:K r):PdN pf (.cap x) a K:=
 ⟨λtm s=>⟨r,by simp only [PD.eval,qz s d,c],b⟩⟩
theorem ahI {n:Int}(g:Wf h)(h0:0<=n)(o:n.toNat<=1000000){Q:V->H->Prop} (i:∀v h',SpS h' n.toNat v []->Fr h v->Mod h h' []->Wf h'->Q v h'):CW pf G0 oq [.nilSlice 0,.int .i64 n] h Q:=by
 refine zm.enter (by kernel_rfl) ?_;cbv;refine .DF (by omega) ?_;have nl:Sl h 1 (.nilSlice 0) 0 []:=(aG.nil (h:=h) (e:=9) (size:=1)).sl;cbv;refine .cap (r:=.int .i64 0) rfl rfl ?_;cbv;refine .of nl λu m L=>?_;cbv;refine .sub (by omega) (by omega) λz K=>?_;have c:z=0:=by omega
 subst c;cbv;refine .sub (by omega) (by omega) λk I=>?_;have d:k=n:=by omega
 subst d;cbv;refine .gt (λQr=>?_) λq=>?_
 ·cbv;refine .cap (r:=.int .i64 0) rfl rfl ?_
  cbv;refine ⟨⟨.nilSlice 0,rfl,?_⟩⟩;obtain ⟨a,rfl⟩:=Int.eq_ofNat_of_zero_le h0;have J:a<=1000000:=by simpa using o
  have p:0<a:=by omega
  obtain ⟨a1,a2,w,y⟩:=H.add_mod g (.cells (aH [.str []] a) 9 0 .yes);have f:azV h 9 1 16 [.str []] (.nilSlice 0) (.int .i64 (.ofNat a))=some (.slice h.next 0 a (.toEnd 1),h.add (.cells (aH [.str []] a) 9 0 .yes)):=by
   have D:Nat.ble a 1048576=true:=Nat.ble_eq_true_of_le (by omega);have C:Nat.ble (a*16) bg=true:=Nat.ble_eq_true_of_le (by unfold bg;omega);have B:Nat.ble a 0=false:=by
    cases hb:Nat.ble a 0 with
    | false=>rfl
    | true=>have:=Nat.le_of_ble_eq_true hb;omega
   have E:Nat.ble (4*a*16) jE=true:=Nat.ble_eq_true_of_le (by unfold jE;omega);simp only [azV,D,C,Bool.and_self,bO,eR,B,E]
  cbv;refine ⟨⟨_,_,f,?_⟩⟩;generalize G:h.next=l at*;have S1:SpS (h.add (.cells (aH [.str []] a) 9 0 .yes)) a (.slice l 0 0 (.toEnd 1)) []:=.row (ks:=[]) a1 (by rw [Mp]) (by simp) (by simp [strs]);generalize h.add (.cells (aH [.str []] a) 9 0 .yes)=s at*;cbv;refine .of nl λt F A=>?_;have b:t=0:=by omega
  subst b;cbv;refine ⟨⟨.slice l 0 0 (.toEnd 1),by simp [dV,bB,bound,ob,bO,show Nat.ble 0 a=true from by cases a<;>rfl],?_⟩⟩;cbv;exact i (.slice l 0 0 (.toEnd 1)) s (by simpa using S1) (λx j=>by simp [ag] at j;subst j;exact a2) w y
 ·cbv;exact i (.nilSlice 0) h (.nil (by omega)) (Fr.Ff _ _) (Mod.refl _ _) g
abbrev SL:=List (V×List (List Nat))
def slV (l:SL):List V:=l.map (·.1)
def PE (l:SL):List (List Nat):=(l.map (·.2)).flatten
theorem abC {l:SL}(I:Wf h)(hs:Sl h 1 v l.length (slV l))(_hf:aZ (slV l)=true)(D:∀p∈l,Sl h 1 p.1 p.2.length (strs p.2)) (S:l.length<=1000000) (hn:(PE l).length<=1000000) {Q:V->H->Prop} (L:∀b h',aG h' 9 1 b (PE l).length (strs (PE l))->Fr h b->Mod h h' []->Wf h'->Q b h'):CW pf G0 lJ [v] h Q:=by
 have E:∀{i:Nat} {p:V×List (List Nat)},l[i]? =some p->(PE (l.take (i+1)))=PE (l.take i)++p.2:=λ{i p} e=>by
  rw [List.take_add_one,e];simp [PE]
 have d:∀i:Nat,(PE (l.take i)).length<=(PE l).length:=λi=>by
  have:PE l=PE (l.take i)++PE (l.drop i):=by rw [PE,PE,PE,<-List.flatten_append,<-List.map_append,List.take_append_drop]
  rw [this,List.length_append];omega
 have B:∀{i:Nat} {p:V×List (List Nat)},l[i]? =some p->rowFrom (slV l) (i*1) 1=some [p.1]:=λ{i p} e=>by
  have:∀(l:SL) (i:Nat),l[i]? =some p->rowFrom (slV l) (i*1) 1=some [p.1]:=λl=>by
   induction l with
   | nil=>intro i h;simp at h
   | cons y l ih=>
     intro i h;cases i with
     | zero=>simp at h;subst h;rfl
     | succ i=>
       have:=ih i (by simpa using h);rw [show (i+1)*1=i*1+1 by omega];exact this
  exact this l i e
 refine vC.enter (by kernel_rfl) ?_;cbv;refine .of hs λn fg vX=>?_;cbv;refine .inv [p0,p3,p9,YB,p11] (λo r h'=>h=h'/\∃(x s:Int),r=[v,.int .i64 s,v,.int .i64 n,.int .i64 x]/\0<=x/\x.toNat<=l.length/\o=l.length - x.toNat/\0<=s/\s.toNat=(PE (l.take x.toNat)).length) [_,_,_,_,_] rfl _ ⟨rfl,0,0,rfl,by omega,by simp,rfl,by omega,by simp [PE]⟩ ?_;rintro o _ h' ⟨rfl,x,s,rfl,W,hx,eF,t,G⟩;have:=d x.toNat;cbv;refine .lt (λP=>?_) λjl=>?_
 ·obtain ⟨p,g⟩:∃p,l[x.toNat]? =some p:=⟨_,List.getElem?_eq_getElem (by omega)⟩
  have f:=D p (List.mem_of_getElem? g);have a:=E g;have m:=d (x.toNat+1);rw [a,List.length_append] at m;cbv;refine .of hs W rfl (by omega) (B g) λq off heq=>?_;cbv;refine .fR heq 0 rfl ?_;cbv;refine .of f λk zQ hk=>?_;cbv;refine .add (by omega) (by omega) λK B9=>?_;cbv;refine .DF (by omega) ?_;cbv;refine .add (by omega) (by omega) λx2 O=>?_;cbv;exact ⟨rfl,l.length - x2.toNat,by omega,rfl,x2,K,rfl,by omega,by omega,rfl,by omega,by rw [show x2.toNat=x.toNat+1 by omega,a,List.length_append];omega⟩
 ·rw [List.take_of_length_le (by omega)] at G
  cbv;refine ahI I t (by omega) λM h1 S1 Sz C J=>?_;rw [G] at S1;cbv;refine .of (hs.mono C) λR SP Z=>?_;cbv;refine .inv [p6,p25,p26,p27] (λo r h'=>∃(x:Int) (b:V),r=[b,v,.int .i64 R,.int .i64 x]/\0<=x/\x.toNat<=l.length/\o=l.length - x.toNat/\SpS h' (PE l).length b (PE (l.take x.toNat))/\Fr h b/\Mod h h' []/\Wf h') [_,_,_,_] rfl _ ⟨0,M,rfl,by omega,by simp,rfl,S1,Sz,C,J⟩ ?_;rintro m2 _ U ⟨x2,b,rfl,w,O,X,S2,JE,j,F⟩;cbv;refine .lt (λP=>?_) λZZ=>?_
  ·obtain ⟨p,g⟩:∃p,l[x2.toNat]? =some p:=⟨_,List.getElem?_eq_getElem (by omega)⟩
   have f:=D p (List.mem_of_getElem? g);have a:=E g;have m:=d (x2.toNat+1);rw [a,List.length_append] at m;cbv;refine .of (hs.mono j) w rfl (by omega) (B g) λq off heq=>?_;cbv;refine .fR heq 0 rfl ?_;cbv;refine .room F S2 (f.mono j).elems m (by omega) λY h3 S3 Oq N T=>?_;cbv;refine .add (by omega) (by omega) λu Fz=>?_;cbv;exact ⟨rfl,l.length - u.toNat,by omega,u,Y,rfl,by omega,by omega,rfl,by rw [show u.toNat=x2.toNat+1 by omega,a];exact S3,λz A=>JE z (Oq▸A),j.fr N λz A=>.inl (JE z A),T⟩
  ·rw [List.take_of_length_le (by omega)] at S2
   cbv;exact L b U (S2.own rfl) JE j F
end K
namespace K
open Go Go.Dx Go.RowKit Go.Proofs
set_option maxRecDepth 100000
def mc (ks:List (List Nat)):List FI:=ks.map λk=>⟨k,true,[]⟩
theorem vQ:∀a b,xF (a++b)=xF a++xF b
 | [],_=>rfl
 | _::r,b=>by simp [xF,vQ r b]
theorem abD {h:H}{J:Lb}{m:bH}{c:Nat}{id:List Nat}(hw:Wf h)(S:rF h J m c)(Io:m.length<=400000)(hid:id.length<=1000){Q:V->H->Prop} (hq:∀g (ks:List (List Nat)) h',aG h' dS 3 g ks.length (xF (mc ks))->ks.length<=2*m.length+1->(∀k∈ks,k.length<=1000000)->Mod h h' []->Fr h g->Wf h'->Q g h'):CW pf G0 lF [.map J,.str id] h Q:=by
 refine vA.enter (by kernel_rfl) ?_;cbv;refine jS (by omega) (by simp) λk1 hk1=>?_;cbv;refine uz hw S (by omega) λu j h1 uH cw Iw Sz ar aK=>?_;cbv;refine kD (by omega) λf O=>?_;have I:f.length<=1000000:=by rw [O];simp;omega
 clear O;cbv;refine .flat rfl ?_;cbv;refine .of aK λv Y gb JE W aO=>?_;cbv;refine zG (by omega) (by simp) λk3 V9=>?_;have L:Mod h Y []:=(ar.trans W).mono λl o _ a=>by simp at a
 cbv;refine uz aO (S.mono L) (by omega) λt i h3 Fz gZ G J9 F aS=>?_;have aN:Mod h h3 []:=(L.trans F).mono λl o _ a=>by simp at a
 cbv;refine .flat Iw.sl.flat ?_;cbv;refine .flat rfl ?_;cbv;refine .flat G.sl.flat ?_;cbv;refine .of aS λl4 h4 T YC s aW=>?_;have aC:Mod h h4 []:=(aN.trans s).mono λl o _ a=>by simp at a
 have mh:aG Y 9 1 (.slice v 0 1 (.exact 1)) 1 (strs [f]):=.exact gb rfl;have Z:Sl h4 1 (.slice l4 0 3 (.exact 3)) 3 (slV [(u,j),(.slice v 0 1 (.exact 1),[f]),(t,i)]):=(aG.exact (e:=127) T rfl).sl;have y:PE [(u,j),(.slice v 0 1 (.exact 1),[f]),(t,i)]=j++([f]++i):=by simp [PE]
 cbv;refine abC (l:=[(u,j),(.slice v 0 1 (.exact 1),[f]),(t,i)]) aW Z (by show (cf u&&(true&&(cf t&&true)))=true;rw [Iw.sl.flat,G.sl.flat];rfl) (λp R=>?_) (by simp) (by rw [y];simp;omega) λg r w FF bf bK=>?_
 ·simp at R
  rcases R with rfl | rfl | rfl
  ·exact ((Iw.sl.mono W).mono F).mono s
  ·exact (mh.sl.mono F).mono s
  ·exact G.sl.mono s
 rw [y] at w;obtain ⟨ks,d⟩:∃ks,ks=j++([f]++i):=⟨_,rfl⟩;rw [<-d] at w;have E:∀k∈ks,k.length<=1000000:=λk b=>by
  rw [d] at b;simp at b;rcases b with b | rfl | b
  ·exact cw k b
  ·exact I
  ·exact gZ k b
 have xE:ks.length<=2*m.length+1:=by rw [d];simp;omega
 have K:Mod h r []:=(aC.trans bf).mono λl o _ a=>by simp at a
 clear y Z T YC d;cbv;refine .of w.sl λn fg hn=>?_;cbv;refine .inv [p6,p22,p23,p24] (λX aB h'=>∃(x:Int) (wv:V),aB=[wv,g,.int .i64 n,.int .i64 x]/\0<=x/\x.toNat<=ks.length/\X=ks.length - x.toNat/\aG h' dS 3 wv (ks.take x.toNat).length (xF (mc (ks.take x.toNat)))/\Fr r wv/\Mod r h' []/\Wf h') [_,_,_,_] rfl _ ⟨0,.nilSlice 0,rfl,by omega,by simp,rfl,.nil,Fr.Ff _ _,Mod.refl _ _,bK⟩ ?_;rintro X _ h6 ⟨x,wv,rfl,kG,hx,eF,oC,V6,B,P⟩;cbv;refine .lt (λbA=>?_) λjl=>?_
 ·obtain ⟨k,b⟩:∃k,ks[x.toNat]? =some k:=⟨_,List.getElem?_eq_getElem (by omega)⟩
  cbv;refine .of (w.sl.mono B) kG rfl (by omega) (eZ b) λq off heq=>?_;cbv;refine .fR heq 0 rfl ?_;cbv;refine .flat rfl ?_;cbv;refine .flat rfl ?_;cbv;refine .agg ?_;cbv;refine .of P λl7 h7 tf hf7 N eJ=>?_;have Ct:(ks.take x.toNat).length<=1000000:=by rw [List.length_take];omega
  have U:Mod r h7 []:=(B.trans N).mono λl o _ a=>by simp at a
  cbv;refine .own eJ (oC.mono N) (m:=1) (new:=[.str k,.bool true,.str []]) (by simp only [cW,tf];rfl) rfl rfl (by unfold bg;omega) (by decide) λz h9 Rv hg9 gE th=>?_;have M:ks.take (x.toNat+1)=ks.take x.toNat++[k]:=by rw [List.take_add_one,b];rfl
  rw [show xF (mc (ks.take x.toNat))++[V.str k,.bool true,.str []]=xF (mc (ks.take (x.toNat+1))) from by rw [M,mc,mc,List.map_append,vQ];rfl,show (ks.take x.toNat).length+1=(ks.take (x.toNat+1)).length from by rw [M];simp] at Rv;cbv;refine .add (by omega) (by omega) λC ke=>?_;have uE:C.toNat=x.toNat+1:=by omega
  cbv;exact ⟨rfl,ks.length - C.toNat,by omega,C,z,rfl,by omega,by omega,rfl,by rw [uE];exact Rv,hg9.fr U (by simp) V6,U.fr gE λl a=>.inl (V6 l a),th⟩
 ·rw [List.take_of_length_le (by omega)] at oC
  cbv;exact hq wv ks h6 oC xE E ((K.trans B).mono λl o _ a=>by simp at a) (λl a=>aj K (by simp) (V6 l a)) P
end K
namespace K
open Go Go.Dx Go.RowKit Go.Proofs
set_option maxRecDepth 100000
theorem U9 {h:H}{O:Lb}{m:bH}{c:Nat}{kind:Int}{aE name text:List Nat}(X:Wf h)(S:rF h O m c)(Io:m.length<=400000)(hi:aE.length<=1000)(hn:name.length<=1000){Q:V->H->Prop}
  (C:∀(a y:Int) h',0<=a->y≠0->Mod h h' []->Wf h'->Q (.tuple [.nilSlice 0,FP a y]) h') (A:∀j k g v h',aG h' dS 3 j 1 (xF [⟨k,g,v⟩])->k.length<=3000->v.length<=65536->Mod h h' []->Fr h j->Wf h'->Q (.tuple [j,.nilIface]) h'):
  CW pf G0 mG [.map O,Mu kind aE name text] h Q:=by
 refine xf.enter (by kernel_rfl) ?_;cbv;refine .agg ?_;cbv;refine .of X λlb h1 B gi F Z=>?_;cbv;refine .of B rfl ?_;cbv;refine .of B rfl ?_;cbv;refine zG (s:=aE) (t:=name) (by omega) (by omega) λq hkk=>?_;have x:q.length<=3000:=by omega
 cbv;refine .entry (S.mono F) λek ev ok=>?_;cbv;refine .of Z λle h2 uE D M aO=>?_;have FH:lb≠le:=λe=>by subst e;rw [B] at D;cases D
 have fe:=aj F (by simp) D;cbv;refine .of (cs:=[.str ek,.str ev]) aO uE rfl rfl rfl rfl rfl rfl λh4 Ay P r=>?_;have d:=P.get (M.get B) (by simpa using FH);have aC:Mod h h4 []:=((F.trans M).fr P λl b=>by simp at b;subst b;exact .inl fe).mono λl o _ b=>by simp at b
 have S4:=S.mono aC;cases ok
 ·skip
  cbv;refine .of d rfl ?_;cbv;refine .eq (λK=>?_) λK=>?_
  ·skip
   cbv;refine .of d rfl ?_;cbv;refine .nH (by omega) ?_;cbv;refine .of d rfl ?_;cbv;refine zG (s:=aE) (t:=[]) (by omega) (by simp) λk3 V9=>?_;cbv;refine uz r S4 (by omega) λo5 x5 N VM al5 np FF bf R=>?_;have aT:Mod h N []:=(aC.trans bf).mono λl o _ b=>by simp at b
   have U:=bf.get d;cbv;refine .of np.sl λn fg Dr=>?_;cbv;refine .ge (λg=>?_) λg=>?_
   ·skip
    cbv;refine dU ?_;cbv;exact C 1 7 N (by decide) (by decide) aT R
   ·skip
    cbv;refine .of U rfl ?_;cbv;refine .cK (by omega) ?_;cbv;refine .of U rfl ?_;cbv;refine .cK (by omega) ?_;cbv;refine rE R λj p u f=>?_;have w:Mod h p []:=(aT.trans f.mod).mono λl o _ b=>by simp at b
    cbv;exact A j q false _ p u x (by simp) w (λl b=>aj aT (by simp) (f.fr l b)) f.wf
  ·skip
   cbv;refine .of d rfl ?_;cbv;refine .cK (by omega) ?_;cbv;refine .of d rfl ?_;cbv;refine .eq (λG=>?_) λG=>?_
   ·skip
    cbv;refine dU ?_;cbv;exact C 2 111 h4 (by decide) (by decide) aC r
   ·skip
    cbv;refine .of d rfl ?_;cbv;refine .cK (by omega) ?_;cbv;refine rE r λj p u f=>?_;have w:Mod h p []:=(aC.trans f.mod).mono λl o _ b=>by simp at b
    cbv;exact A j q false _ p u x (by simp) w (λl b=>aj aC (by simp) (f.fr l b)) f.wf
 ·skip
  cbv;refine .of d rfl ?_;cbv;refine .eq (λK=>?_) λK=>?_
  ·skip
   cbv;refine dU ?_;cbv;exact C 2 112 h4 (by decide) (by decide) aC r
  ·skip
   cbv;refine .of d rfl ?_;cbv;refine .cK (by omega) ?_;cbv;refine .of d rfl ?_;cbv;refine .eq (λG=>?_) λG=>?_
   ·skip
    cbv;refine .of d rfl ?_;cbv;refine .nH (by omega) ?_;cbv;refine .flat rfl ?_;cbv;refine .flat rfl ?_;cbv;refine .agg ?_;cbv;refine .of r λL E tf J Y eJ=>?_;have O8:aG E dS 3 (.slice L 0 1 (.exact 1)) 1 (xF [⟨q,true,[]⟩]):=.exact tf rfl;have W:Mod h E []:=(aC.trans Y).mono λl o _ b=>by simp at b
    cbv;exact A (.slice L 0 1 (.exact 1)) q true [] E O8 x (by simp) W (λl b=>by simp [ag] at b;subst b;exact aj aC (by simp) J) eJ
   ·skip
    cbv;refine .of d rfl ?_;cbv;refine .cK (by omega) ?_;cbv;refine rE r λj p u f=>?_;have w:Mod h p []:=(aC.trans f.mod).mono λl o _ b=>by simp at b
    cbv;exact A j q false _ p u x (by simp) w (λl b=>aj aC (by simp) (f.fr l b)) f.wf
end K
