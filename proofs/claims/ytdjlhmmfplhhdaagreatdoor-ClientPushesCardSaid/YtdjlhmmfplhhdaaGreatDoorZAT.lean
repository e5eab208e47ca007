/-
  The client's laws. Part ZAT of the proof: blotter/disk: files.
-/
import Derived.Test.YtdjlhmmfplhhdaaGreatDoorZAR
import Derived.Test.YtdjlhmmfplhhdaaGreatDoorZAS
namespace K
open Go Go.Dx Go.RowKit
set_option maxRecDepth 100000
variable{v vb:V}{h h':H}{k:List Nat}{at_:Int}
theorem Xz (h:cf v=true):v.cells=[v]:=by cases v<;>first | rfl | cases h
theorem _root_.Go.Dx.StN.one {l:Lb}{off:Nat}{x:V}{K:H->Prop} {vs vs':List V} {e:TypeId} {b:Nat} {a:Own} (i:Wf h) (j:h.get l=some (.cells vs e b a)) (c:cf x=true) (g:a.may=true) (f:Nat.ble b off=true)
  (k:aX vs off [x]=some vs') (d:∀h',h'.get l=some (.cells vs' e b a)->Mod h h' [l]->Wf h'->K h'):StN h 1 l off x K:=
 .of i j (Xz c) rfl g f (by simp [aZ,c]) k d
structure Fl where
 name:List Nat
 bw:Lb
 born:Nat
 val:V
 bytes:List Nat
def flE (f:Fl):List Nat×V×Nat:=(f.name,.ptr f.bw 0,f.born)
def fA (fs:List Fl):bH:=fs.map flE
def IV (l:List Nat):Prop:=l.length<=400000/\∀b∈l,b<256
structure XA (h:H)(f:Fl):Prop where
 cell:h.get f.bw=some (.cells [f.val] ea 0 .yes)
 val:Ro h 1 f.val f.bytes.length (ae f.bytes)
 ok:IV f.bytes
structure cN (h:H)(lm:Lb)(fs:List Fl)(c:Nat):Prop where
 map:h.get lm=some (.map (cd (fA fs)) c)
 ok:fS (fA fs) c
 file:∀f,f∈fs->XA h f
 ag:(fs.map (·.bw)).Nodup
def pn:List Fl->List Nat->Option Fl
 | [],_=>none
 | f::r,k=>if f.name=k then some f else pn r k
theorem Aq (fs:List Fl)(k:List Nat):cO (fA fs) k=(pn fs k).map λf=>.ptr f.bw 0:=by
 induction fs with
 | nil=>rfl
 | cons f r ih=>
   simp only [fA,List.map_cons,flE,cO,pn] at ih ⊢;split
   ·rfl
   ·exact ih
theorem rA {fs:List Fl}{f:Fl}(h:pn fs k=some f):f∈fs/\f.name=k:=by
 induction fs with
 | nil=>cases h
 | cons g r ih=>
   simp only [pn] at h;split at h
   ·rename_i e;cases h;exact ⟨List.mem_cons_self ..,e⟩
   ·obtain ⟨a,b⟩:=ih h;exact ⟨List.mem_cons_of_mem _ a,b⟩
abbrev AL:=List (List Nat×List Nat)
def said (fs:List Fl):AL:=fs.map λf=>(f.name,f.bytes)
def bM:AL->List Nat->Option (List Nat)
 | [],_=>none
 | (x,b)::r,k=>if x=k then some b else bM r k
def xw:AL->List Nat->List Nat->AL
 | [],k,v=>[(k,v)]
 | (x,b)::r,k,v=>if x=k then (k,v)::r else (x,b)::xw r k v
def IW:AL->List Nat->AL
 | [],_=>[]
 | (x,b)::r,k=>if x=k then r else (x,b)::IW r k
theorem fY (fs:List Fl)(k:List Nat):bM (said fs) k=(pn fs k).map (·.bytes):=by
 induction fs with
 | nil=>rfl
 | cons f r ih=>
   simp only [said,List.map_cons,bM,pn] at ih ⊢;split
   ·rfl
   ·exact ih
def fB (b:List Nat)(at_:Nat)(x:List Nat):List Nat:=
 let c:=b++List.replicate (at_+x.length - b.length) 0
 c.take at_++x++c.drop (at_+x.length)
theorem aaT (fs:List Fl)(k:List Nat):∃a,gY (fA fs) k=fA a/\said a=IW (said fs) k/\a.Sublist fs:=by
 induction fs with
 | nil=>exact ⟨[],rfl,rfl,.slnil⟩
 | cons f r ih=>
   obtain ⟨d,c,b,h3⟩:=ih;simp only [fA,List.map_cons,flE,gY,said,IW] at c b ⊢
   by_cases hx:f.name=k
   ·exact ⟨r,by rw [if_pos hx];try rfl,by rw [if_pos hx],List.sublist_cons_self _ _⟩
   ·refine ⟨f::d,by rw [if_neg hx,c];rfl,by rw [if_neg hx,List.map_cons,b],h3.cons_cons _⟩
theorem cN.mono {b:Lb}{fs:List Fl}{c:Nat}(F:cN h b fs c){X:List Lb}(m:Mod h h' X)(g:b∉X)(e:∀f,f∈fs->f.bw∉X):cN h' b fs c:=
 ⟨m.get F.map g,F.ok,λf d=>let a:=F.file f d;⟨m.get a.cell (e f d),a.val.mono m,a.ok⟩,F.ag⟩
theorem cN.del {b:Lb}{fs d:List Fl}{c:Nat}(F:cN h b fs c)(e:gY (fA fs) k=fA d)(s:d.Sublist fs)(m:Mod h h' [b])(g:h'.get b=some (.map (cd (gY (fA fs) k)) c)):cN h' b d c:=by
 refine ⟨by rw [<-e];exact g,by rw [<-e];exact F.ok.del k,λf i=>?_,F.ag.sublist (s.map _)⟩;have a:=F.file f (s.subset i);refine ⟨m.get a.cell ?_,a.val.mono m,a.ok⟩;simp only [List.mem_singleton];intro e;have:=a.cell;rw [e,F.map] at this;cases this
theorem _root_.Go.Dx.VP.file {d:Lb}{fs:List Fl}{c:Nat}{a:List Nat}{K:V->Prop} (F:cN h d fs c) (b:∀f,pn fs a=some f->f∈fs->XA h f->K (.ptr f.bw 0)) (Gs:pn fs a=none->K .nilPtr):VP h .str .nilPtr false (.map d) (.str a) K:=by
 cases e:pn fs a with
 | none=>exact .Gs F.map (by rw [Aq,e];rfl) (Gs e)
 | some f=>exact .hit F.map (by rw [Aq,e];rfl) (b f e (rA e).1 (F.file f (rA e).1))
theorem gT:∀(l:List Nat) (k:Nat),ae (l.take k)=(ae l).take k
 | [],k=>by simp [ae]
 | x::l,0=>rfl
 | x::l,k+1=>by simp [ae,gT l k]
theorem s8:∀(l:List Nat) (k:Nat),ae (l.drop k)=(ae l).drop k
 | [],k=>by simp [ae]
 | x::l,0=>rfl
 | x::l,k+1=>by simp [ae,s8 l k]
theorem XB {b:Lb}{fs:List Fl}{c:Nat}{e:List Nat}(r:Wf h)(F:cN h b fs c){Q:V->H->Prop}
  (n:∀h' a,cN h' b a c->said a=IW (said fs) e->(∀f,f∈a->f∈fs)->Mod h h' [b]->Wf h'->Q (.tuple []) h'):CW pf G0 eY [.map b,.agg [.int .i64 2,.str e,.int .i64 at_,vb]] h Q:=by
 refine lX.enter (by kernel_rfl) ?_;cbv;refine .agg ?_;cbv;refine .of r λs t d FT v k=>?_;have F1:=F.mono v (by simp) (by simp);cbv;refine .of d rfl ?_;obtain ⟨a,l,q,j⟩:=aaT fs e;cbv;refine .file F1 (λf _ _ _=>?_) (λ_=>?_)
 all_goals
  cbv;refine .of d rfl ?_;cbv;refine .nH rfl ?_;cbv;refine .of d rfl ?_;cbv;refine .of k F1.map λu p g o=>?_;cbv;exact n _ a (F1.del l j g p) q (λf m=>j.subset m) (v.trans g) o
theorem aaU {l:Lb}{fs:List Fl}{c:Nat}{g:List Nat}(o:Wf h)(F:cN h l fs c)(h0:0<=at_){Q:V->H->Prop}
  (u:∀h',pn fs g=none->Mod h h' []->Wf h'->Q (.tuple []) h')
  (p:∀f h' v,pn fs g=some f->h'.get f.bw=some (.cells [v] ea 0 .yes)->Ro h' 1 v (min at_.toNat f.bytes.length) (ae (f.bytes.take at_.toNat))->Mod h h' [f.bw]->Wf h'->Q (.tuple []) h'):CW pf G0 eY [.map l,.agg [.int .i64 1,.str g,.int .i64 at_,vb]] h Q:=by
 refine lX.enter (by kernel_rfl) ?_;cbv;refine .agg ?_;cbv;refine .of o λz A b FT d m=>?_;have F1:=F.mono d (by simp) (by simp);cbv;refine .of b rfl ?_;cbv;refine .file F1 (λf i B a=>?_) (λi=>?_)
 ·cbv;refine .of b rfl ?_
  cbv;refine .cK (by decide) ?_;cbv;refine .nH rfl ?_;cbv;refine .of follows 4 ?_;cbv;refine .of a.cell rfl ?_;cbv;refine .of b rfl ?_;cbv;refine .of a.cell rfl ?_;cbv;refine .of a.val.sl λn y x=>?_;cbv;refine .of λq w=>?_;cbv;refine .front a.val (by omega) (by omega) λv j=>?_;cbv;refine .one m a.cell j.flat rfl rfl rfl λt r k s=>?_;cbv;refine .nil ?_;cbv;have e:ae (f.bytes.take at_.toNat)=List.take (q.toNat*1) (ae f.bytes):=by
   rw [gT,Nat.mul_one,show q.toNat=min at_.toNat f.bytes.length by omega,<-gT,<-gT,<-List.take_eq_take_min]
  exact p f t v i r (by rw [e,show min at_.toNat f.bytes.length=q.toNat by omega];exact j.mono k) (d.trans k) s
 ·cbv;refine .of b rfl ?_
  cbv;refine .cK (by decide) ?_;cbv;refine .nH rfl ?_;cbv;exact u _ i d m
theorem s9 (b:List Nat)(i:Nat)(x:List Nat):(fB b i x).length=max b.length (i+x.length):=by
 unfold fB;simp only [List.length_append,List.length_take,List.length_drop,List.length_replicate];omega
theorem H5 {b:List Nat}{i:Nat}{x:List Nat}(d:IV b)(f:IV x)(h:i+x.length<=400000):IV (fB b i x):=by
 refine ⟨by rw [s9];have:=d.1;omega,λy hy=>?_⟩;unfold fB at hy;have c:∀z,z∈b++List.replicate (i+x.length - b.length) 0->z<256:=λz a=>by
  rcases List.mem_append.1 a with a | a
  ·exact d.2 z a
  ·have:=(List.mem_replicate.1 a).2;omega
 rcases List.mem_append.1 hy with hy | hy
 ·rcases List.mem_append.1 hy with hy | hy
  ·exact c y (List.mem_of_mem_take hy)
  ·exact f.2 y hy
 ·exact c y (List.mem_of_mem_drop hy)
def sI (fs:List Fl)(k:List Nat)(v:V)(b:List Nat):List Fl:=fs.map λf=>if f.name=k then {f with val:=v,bytes:=b} else f
theorem Fc (fs:List Fl)(k:List Nat)(v:V)(b:List Nat):fA (sI fs k v b)=fA fs:=by
 unfold fA sI;rw [List.map_map];refine List.map_congr_left λf _=>?_;simp only [Function.comp];split<;>rfl
theorem UJ (fs:List Fl)(k:List Nat)(v:V)(b:List Nat):(sI fs k v b).map (·.bw)=fs.map (·.bw):=by
 unfold sI;rw [List.map_map];refine List.map_congr_left λf _=>?_;simp only [Function.comp];split<;>rfl
theorem UK {fs:List Fl}{b:List Nat}{f:Fl}(d:(cF (fA fs)).Nodup)(a:pn fs k=some f):said (sI fs k v b)=xw (said fs) k b:=by
 induction fs with
 | nil=>cases a
 | cons g r c=>
   simp only [cF,fA,List.map_cons,flE,List.nodup_cons] at d;simp only [pn] at a
   by_cases hx:g.name=k
   ·rw [if_pos hx] at a
    simp only [said,sI,List.map_cons,xw,hx]
    congr 1
    rw [List.map_map];refine List.map_congr_left λq h=>?_;have:q.name≠k:=λe=>d.1 (by rw [hx,<-e];simp only [List.map_map];exact List.mem_map.2 ⟨q,h,rfl⟩);simp [Function.comp,this]
   ·rw [if_neg hx] at a
    have c:=c (by simpa [cF,fA] using d.2) a;simp only [said,sI,List.map_cons,if_neg hx,xw] at c ⊢;rw [c]
theorem Rq {fs:List Fl}(d:(cF (fA fs)).Nodup){f:Fl}(a:f∈fs):pn fs f.name=some f:=by
 induction fs with
 | nil=>cases a
 | cons g r ih=>
   simp only [cF,fA,List.map_cons,flE,List.nodup_cons] at d;simp only [pn];rcases List.mem_cons.1 a with rfl | a
   ·rw [if_pos rfl]
   ·rw [if_neg,ih (by simpa [cF,fA] using d.2) a]
    intro e;exact d.1 (by rw [e];simp only [List.map_map];exact List.mem_map.2 ⟨f,a,rfl⟩)
theorem UL {fs:List Fl}(d:(fs.map (·.bw)).Nodup){f g:Fl}(h:f∈fs)(i:g∈fs)(e:f.bw=g.bw):f=g:=by
 induction fs with
 | nil=>cases h
 | cons a r ih=>
   simp only [List.map_cons,List.nodup_cons] at d;rcases List.mem_cons.1 h with b | b<;>rcases List.mem_cons.1 i with c | c
   ·rw [b,c]
   ·exact absurd (List.mem_map.2 ⟨g,c,by rw [<-e,b]⟩) d.1
   ·exact absurd (List.mem_map.2 ⟨f,b,by rw [e,c]⟩) d.1
   ·exact ih d.2 b c
theorem Ar {m:bH}{c:Nat}(h:cO m k=none):dt m k v c=m++[(k,v,c)]:=by
 induction m with
 | nil=>rfl
 | cons p r ih=>
   obtain ⟨x,w,b⟩:=p;simp only [cO] at h;split at h
   ·cases h
   ·rename_i a;simp only [dt,if_neg a,ih h,List.cons_append]
theorem aaV {m:AL}{v:List Nat}(h:bM m k=none):xw m k v=m++[(k,v)]:=by
 induction m with
 | nil=>rfl
 | cons p r ih=>
   obtain ⟨x,w⟩:=p;simp only [bM] at h;split at h
   ·cases h
   ·rename_i a;simp only [xw,if_neg a,ih h,List.cons_append]
theorem UM {L:Lb}{fs:List Fl}{c:Nat}{s:List Nat}{bs:List Nat}(hw:Wf h)(F:cN h L fs c)(h0:0<=at_)(hat:at_.toNat+bs.length<=400000)(LY:Ro h 1 vb bs.length (ae bs))(Nn:IV bs)(cV:0<bs.length){Q:V->H->Prop}
  (hq:∀h' pP c',cN h' L pP c'->said pP=xw (said fs) s (fB ((bM (said fs) s).getD []) at_.toNat bs)->(∀f,f∈pP->(∃g,g∈fs/\g.bw=f.bw)\/h.get f.bw=none)->Mod h h' (L::fs.map (·.bw))->Wf h'->Q (.tuple []) h'):CW pf G0 eY [.map L,.agg [.int .i64 0,.str s,.int .i64 at_,vb]] h Q:=by
 refine .qp ?_;refine lX.enter (by kernel_rfl) ?_;cbv;refine .agg ?_;cbv;refine .of hw λla h1 u FT M aK=>?_;have F1:=F.mono M (by simp) (by simp);have E:=LY.mono M;cbv;refine .of u rfl ?_;cbv;refine .file F1 (λf G gw N=>?_) (λG=>?_)
 ·have J:∀h' v,h'.get f.bw=some (.cells [v] ea 0 .yes)->aG h' Y6 1 v (fB f.bytes at_.toNat bs).length (ae (fB f.bytes at_.toNat bs))->Fr h1 v->Mod h1 h' [f.bw]->Wf h'->∃t,Less h' t/\Q (.tuple []) t:=λh' v R eo W e3 e4=>by
   obtain ⟨t,l1,l2,Z,l4⟩:=eo.freeze e4;have Dt:f.bw∉ag v:=λx=>by have:=W _ x;rw [N.cell] at this;cases this
   have k:Mod h1 t [f.bw]:=e3.fr Z λl p=>.inl (W l p);refine ⟨t,l1,hq t (sI fs s v (fB f.bytes at_.toNat bs)) c ⟨?_,by rw [Fc];exact F.ok,λg i=>?_,by rw [UJ];exact F.ag⟩ ?_ (λg i=>.inl ?_) ((M.trans k).mono ?_) l4⟩
   ·rw [Fc]
    refine k.get F1.map ?_;simp only [List.mem_singleton];intro e;have:=N.cell;rw [<-e,F1.map] at this;cases this
   ·unfold sI at i
    obtain ⟨q,X,rfl⟩:=List.mem_map.1 i;have C:=F1.file q X
    by_cases D:q.name=s
    ·have:q=f:=by
      have:pn fs q.name=some q:=Rq F.ok.keys X;rw [D,G] at this;exact (Option.some.inj this).symm
     subst this;rw [if_pos D];exact ⟨Z.get R Dt,l2,H5 N.ok Nn hat⟩
    ·rw [if_neg D]
     have Cs:q.bw≠f.bw:=λe=>by
      have:q=f:=UL F.ag X gw e;subst this;exact D (rA G).2
     exact ⟨k.get C.cell (by simpa using Cs),C.val.mono k,C.ok⟩
   ·rw [fY,G];exact UK F.ok.keys G
   ·unfold sI at i
    obtain ⟨q,X,rfl⟩:=List.mem_map.1 i;exact ⟨q,X,by split<;>rfl⟩
   ·intro l o _ p
    simp only [List.nil_append,List.mem_singleton] at p;subst p;exact List.mem_cons_of_mem _ (List.mem_map.2 ⟨f,gw,rfl⟩)
  have fK:=N.ok.1;have n:=N.cell;have Y:=N.val;generalize f.bw=m at*;generalize f.val=v0 at*;generalize f.bytes=j at*;cbv;refine .of u rfl ?_;cbv;refine .cK (by decide) ?_;cbv;refine .cK (by decide) ?_;cbv;refine .of follows 4 ?_;cbv;refine .of n rfl ?_;cbv;refine .of u rfl ?_;cbv;refine .of u rfl ?_;cbv;refine .of E.sl λnb fC hb=>?_;have MT:=Nn.1;cbv;refine .add (by omega) (by omega) λs1 R=>?_;cbv;refine .of n rfl ?_;cbv;refine .of Y.sl λnx kG D=>?_;cbv;refine .sub (by omega) (by omega) λs2 e2=>?_;cbv;refine .of λs3 e3=>?_;cbv;refine eP nk aK Y.sl (aD _) (by omega) (by decide) λv2 t mh y=>?_;cbv;refine .load (y.get n) rfl (.load (y.get u) rfl (.load (y.get u) rfl (.nil ?_)));cbv;refine .loc y mh (by omega) (by omega) rfl rfl (by decide) (by omega) (by decide) λU h3 K B _=>?_;rw [yA,<-aM] at K;cbv;refine .nil ?_;cbv;refine .of follows 4 ?_;cbv;refine .of (B.get u) rfl ?_;cbv;refine .back K h0 (by omega) λd hd=>?_;cbv;refine .of (B.get u) rfl ?_;cbv;refine .tail B K hd (E.mono B.mod).sl cV (by omega) (aD _) (by decide) λr h4 ju w _=>?_;cbv;refine .nil ?_;cbv;refine .one w.wf (w.get n) ju.sl.flat rfl rfl rfl λh5 Bn bf bK=>?_;cbv;refine J h5 U Bn ?_ w.fr (w.mod.trans bf) bK;have I:m∉ag U:=λx=>by have:=w.fr _ x;rw [n] at this;cases this
  have np:=ju.mono bf (λl p=>by simp only [List.mem_singleton];rintro rfl;exact I p);have e5:ae (fB j at_.toNat bs)=List.take (at_.toNat*1) (ae (j++List.replicate s3.toNat 0))++ae bs++List.drop (at_.toNat*1+(ae bs).length) (ae (j++List.replicate s3.toNat 0)):=by
   unfold fB;rw [show at_.toNat+bs.length - j.length=s3.toNat by omega,aM,aM,gT,s8,Nat.mul_one,bq]
  rw [e5,s9,show max j.length (at_.toNat+bs.length)=j.length+s3.toNat by omega];exact np
 ·cbv;refine .of u rfl ?_
  cbv;refine .cK (by decide) ?_;cbv;refine .cK (by decide) ?_;cbv;refine .agg ?_;refine .of aK λm t hlf O' av aO=>?_;have F2:=F1.mono av (by simp) (by simp);cbv;refine .of (av.get u (by simp)) rfl ?_;cbv;refine .of aO F2.map λh3 gQ P aS=>?_;have UN:=P.get (av.get u (by simp)) (by simp only [List.mem_singleton];rintro rfl;rw [F.map] at FT;cases FT);have n:=P.get hlf (by simp only [List.mem_singleton];rintro rfl;rw [F1.map] at O';cases O');have ao7:=(E.mono av).mono P;have auB:m≠L:=by rintro rfl;rw [F1.map] at O';cases O'
  obtain ⟨j,z⟩:∃j:List Nat,j=[]:=⟨_,rfl⟩;have Y:Sl h3 1 (.nilSlice 0) j.length (ae j):=by subst z;exact .nil 0
  have fK:j.length<=400000:=by subst z;simp
  have J:∀h' v,h'.get m=some (.cells [v] ea 0 .yes)->aG h' Y6 1 v (fB j at_.toNat bs).length (ae (fB j at_.toNat bs))->Fr h3 v->Mod h3 h' [m]->Wf h'->∃t,Less h' t/\Q (.tuple []) t:=λh' v R eo W e3 e4=>by
   obtain ⟨h4,l1,l2,Z,l4⟩:=eo.freeze e4;have Dt:m∉ag v:=λx=>by have:=W _ x;rw [n] at this;cases this
   have k:Mod h3 h4 [m]:=e3.fr Z λl p=>.inl (W l p);have aeo:cO (fA fs) s=none:=by rw [Aq,G];rfl
   have eE:fA (fs++[⟨s,m,c,v,fB j at_.toNat bs⟩])=dt (fA fs) s (.ptr m 0) c:=by
    rw [Ar aeo];simp [fA,flE]
   have vX:∀g,g∈fs->g.bw≠m:=λg i e=>by
    have:=(F1.file g i).cell;rw [e,O'] at this;cases this
   have F2:=F1.mono av (by simp) (by simp);refine ⟨h4,l1,hq h4 (fs++[⟨s,m,c,v,fB j at_.toNat bs⟩]) (eB (fA fs) s c) ⟨?_,?_,λg i=>?_,?_⟩ ?_ (λg i=>?_) ?_ l4⟩
   ·rw [eE];exact k.get gQ (by simpa using auB.symm)
   ·rw [eE];exact F.ok.set s _
   ·rcases List.mem_append.1 i with i | i
    ·have C:=F2.file g i
     have ak9:g.bw≠L:=λe=>by have:=C.cell;rw [e,F2.map] at this;cases this
     exact ⟨k.get (P.get C.cell (by simpa using ak9)) (by simpa using vX g i),(C.val.mono P).mono k,C.ok⟩
    ·rw [List.mem_singleton] at i
     subst i;exact ⟨Z.get R Dt,l2,H5 (by subst z;exact ⟨by simp,by simp⟩) Nn hat⟩
   ·rw [List.map_append]
    refine List.nodup_append.2 ⟨F.ag,by simp,λa ha b hb e=>?_⟩;simp only [List.map_cons,List.map_nil,List.mem_singleton] at hb;obtain ⟨g,i,rfl⟩:=List.mem_map.1 ha;exact vX g i (e.trans hb)
   ·have:bM (said fs) s=none:=by rw [fY,G];rfl
    rw [this,aaV this];subst z;simp [said]
   ·rcases List.mem_append.1 i with i | i
    ·exact .inl ⟨g,i,rfl⟩
    ·rw [List.mem_singleton] at i
     subst i;refine .inr ?_;cases D:h.get m with
     | none=>rfl
     | some o=>exact absurd (M.get D (by simp)) (by rw [O'];simp)
   ·refine (((M.trans av).trans P).trans k).mono ?_
    intro l o p x;simp only [List.nil_append,List.mem_append,List.mem_singleton] at x;rcases x with rfl | rfl
    ·exact List.mem_cons_self ..
    ·exact absurd (M.get p (by simp)) (by rw [O'];simp)
  cbv;cbv;refine .of follows 4 ?_;cbv;refine .of n rfl ?_;cbv;refine .of UN rfl ?_;cbv;refine .of UN rfl ?_;cbv;refine .of ao7.sl λnb fC hb=>?_;have MT:=Nn.1;cbv;refine .add (by omega) (by omega) λs1 R=>?_;cbv;refine .of n rfl ?_;cbv;refine .of Y λnx kG D=>?_;cbv;refine .sub (by omega) (by omega) λs2 e2=>?_;cbv;refine .of λs3 e3=>?_;cbv;refine eP nk aS Y (aD _) (by omega) (by decide) λv2 t mh y=>?_;cbv;refine .load (y.get n) rfl (.load (y.get UN) rfl (.load (y.get UN) rfl (.nil ?_)));cbv;refine .loc y mh (by omega) (by omega) rfl rfl (by decide) (by omega) (by decide) λU h3 K B _=>?_;rw [yA,<-aM] at K;cbv;refine .nil ?_;cbv;refine .of follows 4 ?_;cbv;refine .of (B.get UN) rfl ?_;cbv;refine .back K h0 (by omega) λd hd=>?_;cbv;refine .of (B.get UN) rfl ?_;cbv;refine .tail B K hd (ao7.mono B.mod).sl cV (by omega) (aD _) (by decide) λr h4 ju w _=>?_;cbv;refine .nil ?_;cbv;refine .one w.wf (w.get n) ju.sl.flat rfl rfl rfl λh5 Bn bf bK=>?_;cbv;refine J h5 U Bn ?_ w.fr (w.mod.trans bf) bK;have I:m∉ag U:=λx=>by have:=w.fr _ x;rw [n] at this;cases this
  have np:=ju.mono bf (λl p=>by simp only [List.mem_singleton];rintro rfl;exact I p);have e5:ae (fB j at_.toNat bs)=List.take (at_.toNat*1) (ae (j++List.replicate s3.toNat 0))++ae bs++List.drop (at_.toNat*1+(ae bs).length) (ae (j++List.replicate s3.toNat 0)):=by
   unfold fB;rw [show at_.toNat+bs.length - j.length=s3.toNat by omega,aM,aM,gT,s8,Nat.mul_one,bq]
  rw [e5,s9,show max j.length (at_.toNat+bs.length)=j.length+s3.toNat by omega];exact np
end K
namespace K
open Go Go.Dx Go.RowKit
set_option maxRecDepth 100000
variable{h:H}{a d:V}{ls:Lb}
structure zw (nm:List Nat):Prop where
 chars:∀c,c∈nm->(97<=c/\c<=122)\/(48<=c/\c<=57)\/c=46
 pos:1<=nm.length
 tr:nm.length<=24
theorem aep {J:List Nat}(l:zw J){Q:V->H->Prop} (p:Q (.bool true) h):CW pf G0 LA [.str J] h Q:=by
 refine Xp.enter (by kernel_rfl) ?_;have z:=l.pos;have C:=l.tr;cbv;refine .of λn v u=>?_;cbv;refine .inv [p0,p6,p7] (λg q h'=>∃i,q=[.str J,.int .i64 n,.int .i64 i]/\0<=i/\i.toNat<=J.length/\g=J.length - i.toNat/\h'=h) [_,_,_] rfl _
  ⟨0,rfl,by omega,by simp,rfl,rfl⟩ ?_
 rintro g _ h' ⟨i,rfl,s,hi,D,rfl⟩;cbv;refine .lt (λB=>?_) (λE=>?_)
 ·obtain ⟨x,m⟩:∃x,J[i.toNat]? =some x:=⟨_,List.getElem?_eq_getElem (by omega)⟩
  have t:=l.chars x (List.mem_of_getElem? m);cbv;refine .of s m λy BV hy=>?_;have a:∀j,j=i+1->∃c,c<g/\0<=j/\j.toNat<=J.length/\c=J.length - j.toNat:=λj d=>⟨J.length - j.toNat,by omega,by omega,by omega,rfl⟩;cbv;refine .lt (λr=>?_) (λr=>?_)
  ·cbv;refine .lt (λo=>?_) (λo=>?_)
   ·cbv;refine .iz (by omega) ?_
    cbv;refine .add (by omega) (by omega) λj d=>?_;obtain ⟨c,a1,a2,e,f⟩:=a j d;cbv;exact ⟨rfl,c,a1,j,rfl,a2,e,f,rfl⟩
   ·cbv;refine .Ij (by omega) ?_
    cbv;refine .add (by omega) (by omega) λj d=>?_;obtain ⟨c,a1,a2,e,f⟩:=a j d;cbv;exact ⟨rfl,c,a1,j,rfl,a2,e,f,rfl⟩
  ·cbv;refine .Ij (by omega) ?_
   cbv;refine .add (by omega) (by omega) λj d=>?_;obtain ⟨c,a1,a2,e,f⟩:=a j d;cbv;exact ⟨rfl,c,a1,j,rfl,a2,e,f,rfl⟩
 ·cbv;refine .of λk F A=>?_
  cbv;refine .AB (by omega) ?_;cbv;refine .of λG FO w=>?_;cbv;refine .Ue (by omega) ?_;cbv;exact p
theorem G2 {ld:Lb}{c e:V}{t:TypeId}(f:h.get ld=some (.cells [a,.map ls,c,d,e] t 0 .yes)){Q:V->H->Prop} (b:Q (.bool true) h):CW pf G0 tT [.ptr ld 0] h Q:=by
 refine GV.enter (by kernel_rfl) ?_;cbv;refine .of f rfl ?_;cbv;exact b
theorem G3 {ld:Lb}{c e:V}{t:TypeId}{b:List Nat}{fs:List Fl}{k:Nat}(j:h.get ld=some (.cells [a,.map ls,c,d,e] t 0 .yes))(l:zw b)(F:cN h ls fs k){Q:V->H->Prop}
  (g:∀f,pn fs b=some f->f∈fs->XA h f->Q (.tuple [.ptr f.bw 0,.int .i64 0]) h) (Gs:pn fs b=none->Q (.tuple [.nilPtr,.int .i64 20]) h):CW pf G0 tQ [.ptr ld 0,.str b] h Q:=by
 refine GQ.enter (by kernel_rfl) ?_;cbv;refine G2 j ?_;cbv;refine aep l ?_;cbv;refine .of j rfl ?_;cbv;refine .file F (λf i m n=>?_) (λi=>?_)
 ·generalize o:f.bw=p
  cbv;rw [<-o];exact g f i m n
 ·cbv;exact Gs i
end K
namespace K
open Go Go.Dx Go.RowKit
set_option maxRecDepth 100000
variable{cs:List V}{h h':H}{f:Fl}{fs:List Fl}
inductive Act where
 | wrote (nm:List Nat) (i:Nat) (b:List Nat)
 | cut (nm:List Nat) (i:Nat)
 | drop (nm:List Nat)
namespace Act
def nm:Act->List Nat
 | wrote n _ _=>n
 | cut n _=>n
 | drop n=>n
def run:Act->AL->AL
 | wrote n i b,m=>xw m n (fB ((bM m n).getD []) i b)
 | cut n i,m=>match bM m n with
   | some b=>xw m n (b.take i)
   | none=>m
 | drop n,m=>IW m n
def ok:Act->Prop
 | wrote _ i b=>i+b.length<=400000/\IV b/\0<b.length
 | cut _ _=>True
 | drop _=>True
end Act
inductive Bo (h:H):Act->List V->Prop
 | wrote {nm:List Nat} {i:Int} {vb:V} {b:List Nat} (h0:0<=i) (hv:Ro h 1 vb b.length (ae b)):Bo h (.wrote nm i.toNat b) [.int .i64 0,.str nm,.int .i64 i,vb]
 | cut {nm:List Nat} {i:Int} (h0:0<=i):Bo h (.cut nm i.toNat) [.int .i64 1,.str nm,.int .i64 i,.nilSlice 0]
 | drop {nm:List Nat}:Bo h (.drop nm) [.int .i64 2,.str nm,.int .i64 0,.nilSlice 0]
theorem Bo.mono {a:Act}{F:List Lb}(c:Bo h a cs)(m:Mod h h' F):Bo h' a cs:=by
 cases c with
 | wrote h0 hv=>exact .wrote h0 (hv.mono m)
 | cut h0=>exact .cut h0
 | drop=>exact .drop
theorem Bo.len {a:Act}(c:Bo h a cs):cs.length=4:=by cases c<;>rfl
inductive Fe (h:H):List Act->List V->Prop
 | nil:Fe h [] []
 | cons {a:Act} {l:List Act} {cs r:List V} (c:Bo h a cs) (t:Fe h l r):Fe h (a::l) (cs++r)
theorem Fe.mono {l:List Act}{F:List Lb}(c:Fe h l cs)(m:Mod h h' F):Fe h' l cs:=by
 induction c with
 | nil=>exact .nil
 | cons c _ ih=>exact .cons (c.mono m) ih
theorem Fe.snoc {l:List Act}{r:List V}{a:Act}(c:Fe h l cs)(t:Bo h a r):Fe h (l++[a]) (cs++r):=by
 induction c with
 | nil=>have:=Fe.cons t .nil;simpa using this
 | cons c _ ih=>rw [List.append_assoc];exact .cons c ih
theorem vI:∀(a b:List V),takeN a.length (a++b)=some a
 | [],b=>by simp [takeN]
 | x::a,b=>by simp only [List.length_cons,List.cons_append,takeN,vI a b,ob]
theorem vJ:∀(a b:List V),bz a.length (a++b)=b
 | [],b=>by simp [bz]
 | x::a,b=>by simp [bz,vJ a b]
theorem Fe.get {l:List Act}(c:Fe h l cs):∀{i:Nat} {a:Act},l[i]? =some a->∃r,rowFrom cs (i*4) 4=some r/\Bo h a r:=by
 induction c with
 | nil=>intro i a h;simp at h
 | @cons b l cs r c _ ih=>
   intro i a hi;cases i with
   | zero=>
     simp at hi;subst hi;refine ⟨cs,?_,c⟩;have:=vI cs r;rw [c.len] at this;simpa [rowFrom,bz] using this
   | succ i=>
     obtain ⟨q,d,e⟩:=ih (i:=i) (by simpa using hi);refine ⟨q,?_,e⟩;unfold rowFrom at d ⊢;rw [show (i+1)*4=4+i*4 by omega,<-sd (i*4) 4 (cs++r)];have:=vJ cs r;rw [c.len] at this;rw [this];exact d
theorem uq {k:List Nat}(a:pn fs k=some f):bM (said fs) k=some f.bytes:=by rw [fY,a];rfl
theorem cN.set {n:Lb}{c:Nat}(F:cN h n fs c){d:List Nat}(j:pn fs d=some f){v:V}{b:List Nat}(m:Mod h h' [f.bw])(o:h'.get f.bw=some (.cells [v] ea 0 .yes))(p:Ro h' 1 v b.length (ae b))(r:IV b):cN h' n (sI fs d v b) c:=by
 obtain ⟨l,t⟩:=rA j;have s:=F.file f l;refine ⟨?_,by rw [Fc];exact F.ok,λg k=>?_,by rw [UJ];exact F.ag⟩
 ·rw [Fc]
  refine m.get F.map ?_;simp only [List.mem_singleton];intro e;have:=s.cell;rw [<-e,F.map] at this;cases this
 ·unfold sI at k
  obtain ⟨q,a,rfl⟩:=List.mem_map.1 k;have u:=F.file q a
  by_cases hx:q.name=d
  ·have:q=f:=by
    have:pn fs q.name=some q:=Rq F.ok.keys a;rw [hx,j] at this;exact (Option.some.inj this).symm
   subst this;rw [if_pos hx];exact ⟨o,p,r⟩
  ·rw [if_neg hx]
   have Cs:q.bw≠f.bw:=λe=>by
    have:q=f:=UL F.ag a l e;subst this;exact hx t
   exact ⟨m.get u.cell (by simpa using Cs),u.val.mono m,u.ok⟩
theorem aaW {b:List Nat}(h:IV b)(i:Nat):IV (b.take i):=⟨by have:=h.1;rw [List.length_take];omega,λx a=>h.2 x (List.mem_of_mem_take a)⟩
theorem LZ {n:Lb}{c:Nat}{a:Act}(t:Wf h)(F:cN h n fs c)(E:a.ok)(y:Bo h a cs){Q:V->H->Prop}
  (j:∀h' e B,cN h' n e B->said e=a.run (said fs)->(∀f,f∈e->(∃g,g∈fs/\g.bw=f.bw)\/h.get f.bw=none)->Mod h h' (n::fs.map (·.bw))->Wf h'->Q (.tuple []) h'):CW pf G0 eY [.map n,.agg cs] h Q:=by
 cases y with
 | wrote h0 p=>exact UM t F h0 E.1 p E.2.1 E.2.2 j
 | drop=>
   exact XB t F λh' e F' s k m w=>j h' e c F' s (λf b=>.inl ⟨f,k f b,rfl⟩) (m.mono λl o _ d=>by simp at d;subst d;exact List.mem_cons_self ..) w
 | @cut nm i h0=>
   refine aaU t F h0 (λh' z m w=>j h' fs c (F.mono m (by simp) (by simp)) ?_ (λf b=>.inl ⟨f,b,rfl⟩) (m.mono λ_ _ _ h=>by cases h) w) λf h' v b C p m w=>?_
   ·have:bM (said fs) nm=none:=by rw [fY,z];rfl
    simp only [Act.run,this]
   ·have A:=aaW (F.file f (rA b).1).ok i.toNat
    have d:(f.bytes.take i.toNat).length=min i.toNat f.bytes.length:=List.length_take;refine j h' (sI fs nm v (f.bytes.take i.toNat)) c (F.set b m C (by rw [d];exact p) A) ?_ (λg u=>.inl ?_) (m.mono λl o _ d=>by simp at d;subst d;exact List.mem_cons_of_mem _ (List.mem_map.2 ⟨f,(rA b).1,rfl⟩)) w
    ·simp only [Act.run,uq b];exact UK F.ok.keys b
    ·unfold sI at u
     obtain ⟨q,x,rfl⟩:=List.mem_map.1 u;exact ⟨q,x,by split<;>rfl⟩
end K
namespace K
open Go Go.Dx Go.RowKit
set_option maxRecDepth 100000
variable{l:Lb}{h h':H}{cs:List V}{a:Act}{fs:List Fl}
structure ei where
 room:Int
 ls:Lb
 ll:Lb
 lh:Lb
 seen:List Fl
 last:List Fl
 cs:Nat
 cl:Nat
 ch:Nat
 pv:V
 aJ:List Act
 ac:List V
 held:bH
def ei.own (d:ei)(ld:Lb):List Lb:=ld::d.ls::d.ll::d.lh::(ag d.pv++(d.seen++d.last).map (·.bw))
structure bF (h:H)(ld:Lb)(d:ei):Prop where
 cell:h.get ld=some (.cells [.int .i64 d.room,.map d.ls,.map d.ll,d.pv,.map d.lh] sH 0 .yes)
 seen:cN h d.ls d.seen d.cs
 last:cN h d.ll d.last d.cl
 Cn:aG h vh 4 d.pv d.aJ.length d.ac
 aJ:Fe h d.aJ d.ac
 oks:∀a,a∈d.aJ->a.ok
 held:h.get d.lh=some (.map (cd d.held) d.ch)
 rJ:fS d.held d.ch
 ints:∀e,e∈d.held->∃x:Int,e.2.1 = .int .i64 x
 ne1:d.ls≠d.ll
 ne2:d.ls≠d.lh
 ne3:d.ll≠d.lh
 ag:((d.seen++d.last).map (·.bw)).Nodup
def dI (m:bH)(k:List Nat):Int:=match cO m k with
 | some (.int _ x)=>x
 | _=>0
def hdo (m:bH)(c:Nat)(k:List Nat):Option (List Nat)->bH
 | some b=>dt m k (.int .i64 (max (dI m k) b.length)) c
 | none=>m
theorem _root_.Go.Dx.VO.all {n:Nat}{K:V->Prop} {vs:List V} {e:TypeId} {c:Nat} {a:Own} (f:h.get l=some (.cells vs e c a)) (d:vs.length=n) (b:K (.agg vs)):VO h (.many n) l 0 K:=
 .of f (by subst d;have:=vI vs [];rw [List.append_nil] at this;simp only [dB,rowFrom,bz,this,ob]) b
theorem Bo.form (c:Bo h a cs):∃k i vb b,cs=[.int .i64 k,.str b,.int .i64 i,vb]/\b=a.nm/\cf vb=true:=by
 cases c with
 | wrote h0 hv=>exact ⟨_,_,_,_,rfl,rfl,hv.flat⟩
 | cut h0=>exact ⟨_,_,_,_,rfl,rfl,rfl⟩
 | drop=>exact ⟨_,_,_,_,rfl,rfl,rfl⟩
theorem cN.off {d:Lb}{c:Nat}(F:cN h d fs c){o:Dx.Obj}(a:h.get l=some o)(g:∀es c,o≠.map es c) (i:∀v,o≠.cells [v] ea 0 .yes):l∉d::fs.map (·.bw):=by
 intro b;rcases List.mem_cons.1 b with rfl | b
 ·rw [F.map] at a;exact g _ _ (Option.some.inj a).symm
 ·obtain ⟨f,e,rfl⟩:=List.mem_map.1 b
  rw [(F.file f e).cell] at a;exact i _ (Option.some.inj a).symm
theorem cN.G4 {b:Lb}{c:Nat}(F:cN h b fs c){es:List (V×V×Nat)}{k:Nat}(d:h.get l=some (.map es k))(g:l≠b):l∉b::fs.map (·.bw):=by
 intro a;rcases List.mem_cons.1 a with rfl | a
 ·exact g rfl
 ·obtain ⟨f,e,rfl⟩:=List.mem_map.1 a
  rw [(F.file f e).cell] at d;cases d
theorem _root_.Go.Dx.aG.row {h:H}{e:TypeId}{size:Nat}{v:V}{n:Nat}{cs:List V}(o:aG h e size v n cs){l:Lb}(a:l∈ag v):∃cs,h.get l=some (.cells cs e 0 .yes):=by
 cases o with
 | nil=>simp [ag] at a
 | ends hg _=>simp only [ag,List.mem_singleton] at a;subst a;exact ⟨_,hg⟩
 | exact hg _=>simp only [ag,List.mem_singleton] at a;subst a;exact ⟨_,hg⟩
theorem cN.ni {b:Lb}{c:Nat}(F:cN h b fs c){X:List Lb}(m:Mod h h' X)(d:∀l,l∈X->l∉b::fs.map (·.bw)):cN h' b fs c:=
 F.mono m (λa=>d _ a (List.mem_cons_self ..)) λf e a=>d _ a (List.mem_cons_of_mem _ (List.mem_map.2 ⟨f,e,rfl⟩))
theorem cN.beside {i a:Lb}{d:List Fl}{c n:Nat}(F:cN h i fs c)(F':cN h a d n)(o:i≠a)(k:∀f,f∈fs->∀g,g∈d->f.bw≠g.bw) (m:Mod h h' (a::d.map (·.bw))):cN h' i fs c:=
 F.mono m (F'.G4 F.map o) λf j b=>by
  rcases List.mem_cons.1 b with e | b
  ·have:=(F.file f j).cell;rw [e,F'.map] at this;cases this
  ·obtain ⟨g,l,e⟩:=List.mem_map.1 b
   exact k f j g l e.symm
theorem _root_.Go.Dx.VP.held {m:bH}{c:Nat}{d:List Nat}{K:V->Prop} (f:h.get l=some (.map (cd m) c)) (hi:∀e,e∈m->∃x:Int,e.2.1 = .int .i64 x) (a:∀x,x=dI m d->K (.int .i64 x)):VP h .str (.int .i64 0) false (.map l) (.str d) K:=by
 cases e:cO m d with
 | none=>exact .Gs f e (a 0 (by simp only [dI,e]))
 | some v=>
   obtain ⟨x,rfl⟩:∃x:Int,v = .int .i64 x:=by
    clear a f;induction m with
    | nil=>cases e
    | cons p r ih=>
      obtain ⟨k,w,b⟩:=p;simp only [cO] at e;split at e
      ·cases e;exact hi _ (List.mem_cons_self ..)
      ·exact ih (λe g=>hi e (List.mem_cons_of_mem _ g)) e
   exact .hit f e (a x (by simp only [dI,e]))
theorem Zb {ld:Lb}{d:ei}(hw:Wf h)(D:bF h ld d)(ha:a.ok)(hc:Bo h a cs)(hn:d.aJ.length<=1000000000){Q:V->H->Prop}
  (hq:∀h' d',bF h' ld d'->d'.room=d.room->said d'.seen=a.run (said d.seen)->d'.last=d.last->d'.aJ=d.aJ++[a]->d'.held=hdo d.held d.ch a.nm (bM (said d'.seen) a.nm)->
   (∀l,l∈d'.own ld->l∈d.own ld\/h.get l=none)->Mod h h' (d.own ld)->Wf h'->Q (.tuple []) h'):CW pf G0 qY [.ptr ld 0,.agg cs] h Q:=by
 obtain ⟨room,ls,ll,B,j,last,kcs,kcl,Zc,O,aJ,ac,k⟩:=d;obtain ⟨D1,D2,D3,D4,D5,D6,D7,D8,D9,D10,D11,D12,XC⟩:=D;dsimp only at D1 D2 D3 D4 D5 D6 D7 D8 D9 D10 D11 D12 XC hn hq;obtain ⟨k0,i0,vb,I,rfl,nu,LY⟩:=hc.form;refine LQ.enter (by kernel_rfl) ?_;cbv;refine .agg ?_;cbv;refine .of hw λZ h1 W FT m aK=>?_;cbv;refine .of follows 4 ?_;cbv;refine .of (m.get D1) rfl ?_;have YN:=hc.mono m;cbv;refine .of W rfl ?_;cbv;refine LZ aK (D2.mono m (by simp) (by simp)) ha YN λh2 F Y F2 Pa oV w aO=>?_;refine .nil ?_;have U:ld∉ls::j.map (·.bw):=D2.off D1 (λ_ _ e=>by cases e) (λ_ e=>by cases e);have X:∀l,l∈ag O->l∉ls::j.map (·.bw):=λl c=>by
  obtain ⟨r,i⟩:=D4.row c;exact D2.off i (λ_ _ e=>by cases e) (λ_ e=>by cases e)
 have ao9:Z∉ls::j.map (·.bw):=(D2.mono m (by simp) (by simp)).off W (λ_ _ e=>by cases e) (λ_ e=>by cases e);have E1:=w.get (m.get D1 (by simp)) U;have E4:=(D4.mono m (by simp)).mono w X;have N:=w.get W ao9;cbv;refine .of follows 4 ?_;cbv;refine .of E1 rfl ?_;cbv;refine .of N rfl ?_;cbv;refine .agg ?_;cbv;refine .of aO λlb h3 Oq gi E aS=>?_;refine .load (E.get E1 (by simp)) rfl ?_;refine .nil ?_;have E1b:=E.get E1 (by simp);have UN:=E.get N (by simp);have nW:Sl h3 4 (.slice lb 0 1 (.exact 1)) 1 [.int .i64 k0,.str I,.int .i64 i0,vb]:=.row Oq rfl;refine .own aS (E4.mono E (by simp)) nW.elems rfl (by simp [Dx.aZ,cf];exact LY) (by show _<=1099511627776;omega) (by decide) λpv2 h4 ju gr4 aL aW=>?_;have apb:ld∉ag O:=λc=>by obtain ⟨r,i⟩:=D4.row c;rw [D1] at i;cases i
 have apc:Z∉ag O:=λc=>by obtain ⟨r,i⟩:=D4.row c;rw [FT] at i;cases i
 have E1c:=aL.get E1b apb;cbv;refine .nil ?_;refine .one aW E1c ju.sl.flat rfl rfl rfl λh5 Bn bf bK=>?_;have Rl:=(E.trans aL).trans bf;have F5:=F2.ni Rl λl c=>by
  simp only [List.nil_append,List.mem_append,List.mem_singleton] at c;rcases c with c | rfl
  ·obtain ⟨r,i⟩:=E4.row c
   exact F2.off i (λ_ _ e=>by cases e) (λ_ e=>by cases e)
  ·exact F2.off E1 (λ_ _ e=>by cases e) (λ_ e=>by cases e)
 have apd:Z≠ld:=by rintro rfl;rw [D1] at FT;cases FT
 have v:=bf.get (aL.get UN apc) (by simpa using apd);have T:B∉ls::j.map (·.bw):=D2.G4 D7 (Ne.symm D11);have S:B∉ag O:=λc=>by obtain ⟨r,i⟩:=D4.row c;rw [D7] at i;cases i
 have G:B≠ld:=by rintro rfl;rw [D1] at D7;cases D7
 have D7c:=Rl.get (w.get (m.get D7 (by simp)) T) (by simpa using ⟨S,G⟩);have aT:=(m.trans w).trans Rl;have L:∀u Pb s,u.get B=some (.map (cd Pb) s)->fS Pb s->(∀e,e∈Pb->∃x:Int,e.2.1 = .int .i64 x)->Mod h5 u [B]->Wf u->Pb=hdo k Zc a.nm (bM (said F) a.nm)->Q (.tuple []) u:=λu Pb s g1 g2 g3 K w6 g4=>by
  have m06:=aT.trans K;have apg:∀l,l∈ag O->l∉ll::last.map (·.bw):=λl c=>by
   obtain ⟨r,i⟩:=D4.row c;exact D3.off i (λ_ _ e=>by cases e) (λ_ e=>by cases e)
  have L2:=(D3.mono m (by simp) (by simp)).beside (D2.mono m (by simp) (by simp)) (Ne.symm D10) (λf p g t e=>by
   rw [List.map_append,List.nodup_append] at XC;exact XC.2.2 _ (List.mem_map.2 ⟨g,t,rfl⟩) _ (List.mem_map.2 ⟨f,p,rfl⟩) e.symm) w
  have L6:=(L2.ni Rl λl c=>by
   simp only [List.nil_append,List.mem_append,List.mem_singleton] at c;rcases c with c | rfl
   ·exact apg l c
   ·exact D3.off D1 (λ_ _ e=>by cases e) (λ_ e=>by cases e)).ni K λl c=>by
    rw [List.mem_singleton] at c;subst c;exact D3.G4 D7 (Ne.symm D12)
  have o5:=ju.mono bf λl c=>by
   obtain ⟨r,i⟩:=ju.row c;rw [List.mem_singleton];rintro rfl;rw [E1c] at i;cases i
  have o6:=o5.mono K λl c=>by
   obtain ⟨r,i⟩:=o5.row c;rw [List.mem_singleton];rintro rfl;rw [D7c] at i;cases i
  refine hq u ⟨room,ls,ll,B,F,last,Y,kcl,s,pv2,aJ++[a],ac++[.int .i64 k0,.str I,.int .i64 i0,vb],Pb⟩
   ⟨K.get Bn (by simpa using Ne.symm G),F5.ni K (λl c=>by rw [List.mem_singleton] at c;subst c;exact F5.G4 D7c (Ne.symm D11)),L6,by simpa using o6,(D5.mono m06).snoc (hc.mono m06),λb C=>?_,g1,g2,g3,D10,D11,D12,?_⟩ rfl Pa rfl rfl g4 (λl c=>?_) (m06.mono λl o _ c=>?_) w6
  ·rcases List.mem_append.1 C with C | C
   ·exact D6 b C
   ·rw [List.mem_singleton] at C;subst C;exact ha
  ·rw [List.map_append,List.nodup_append]
   refine ⟨F2.ag,D3.ag,λx A y hy e=>?_⟩;obtain ⟨f,p,rfl⟩:=List.mem_map.1 A;obtain ⟨g,t,rfl⟩:=List.mem_map.1 hy;rcases oV f p with ⟨q,sU,iC⟩ | R
   ·rw [List.map_append,List.nodup_append] at XC
    exact XC.2.2 _ (List.mem_map.2 ⟨q,sU,rfl⟩) _ (List.mem_map.2 ⟨g,t,rfl⟩) (iC.trans e)
   ·have:=m.get ((D3.file g t).cell) (by simp)
    rw [<-e,R] at this;cases this
  ·simp only [ei.own,List.map_append,List.mem_cons,List.mem_append] at c ⊢
   rcases c with rfl | rfl | rfl | rfl | c | c | c
   ·simp
   ·simp
   ·simp
   ·simp
   ·rcases gr4 l c with t | t
    ·cases A:h.get l with
     | none=>exact .inr rfl
     | some o=>
       left
       by_cases P:l∈ls::j.map (·.bw)
       ·rcases List.mem_cons.1 P with rfl | P
        ·simp
        ·simp [P]
       ·have:=E.get (w.get (m.get A (by simp)) P) (by simp)
        rw [t] at this;cases this
    ·exact .inl (by simp [t])
   ·obtain ⟨f,p,rfl⟩:=List.mem_map.1 c
    rcases oV f p with ⟨q,sU,iC⟩ | R
    ·left
     have:f.bw∈j.map (·.bw):=List.mem_map.2 ⟨q,sU,iC⟩;simp [this]
    ·right
     cases A:h.get f.bw with
     | none=>rfl
     | some o=>have:=m.get A (by simp);rw [R] at this;cases this
   ·exact .inl (by simp [c])
  ·simp only [ei.own,List.map_append,List.mem_cons,List.mem_append,List.nil_append,List.not_mem_nil,or_false] at c ⊢
   rcases c with ((rfl | c) | c | rfl) | rfl
   ·simp
   ·simp [c]
   ·simp [c]
   ·simp
   ·simp
 refine .nil ?_;cbv;refine .of follows 4 ?_;cbv;refine .of Bn rfl ?_;cbv;refine .of v rfl ?_;cbv;refine .file F5 (λf p gw fa=>?_) (λp=>?_)
 ·have gi:=uq p
  have dz:=fa.cell;have fZ:=fa.val;have fK:=fa.ok.1;generalize hlf:f.bw=lf at*;generalize f.val=fv at*;generalize f.bytes=M at*;cbv;refine .of follows 4 ?_;cbv;refine .of Bn rfl ?_;cbv;refine .of v rfl ?_;cbv;refine .of Bn rfl ?_;cbv;refine .of v rfl ?_;cbv;refine .held D7c D9 λx A=>?_;cbv;refine .of dz rfl ?_;cbv;refine .of fZ.sl λn R Dr=>?_;cbv;refine .of λy hy=>?_;cbv;refine .of bK D7c λu Dn bR cz=>?_;cbv;refine .nil ?_;cbv;refine L u _ _ Dn (D8.set I _) (λe J=>?_) bR cz ?_
  ·rcases lD J with J | ⟨_,J,_⟩
   ·exact D9 e J
   ·exact ⟨y,J⟩
  ·rw [<-nu,gi]
   show _=dt k I (.int .i64 (max (dI k I) M.length)) Zc
   rw [hy,A,show n=(M.length:Int) by omega]
 ·cbv
  exact L h5 k Zc D7c D8 D9 (Mod.refl _ _) bK (by rw [<-nu,fY,p];rfl)
end K
namespace K
open Go Go.Dx Go.RowKit Go.Proofs
set_option maxRecDepth 100000
variable{o:Dx.Obj}{v:V}{h:H}
theorem _root_.Go.Dx.Grow.dp {s:V}(g:Grow h s v){x:Lb}(e:h.get x=some o)(n:x∉ag s):x∉ag v:=λb=>(g x b).elim (λa=>by rw [e] at a;cases a) n
theorem _root_.Go.Dx.Fr.VT (f:Fr h v){p:Lb}(e:h.get p=some o):p∉ag v:=λa=>by rw [f p a] at e;cases e
theorem Fr.Ff (h:H)(c:Nat):Fr h (.nilSlice c):=λl a=>by simp [ag] at a
theorem oL.five {t:Js}{cs:List V}(j:oL h t cs):∃a b c d e,cs=[a,b,c,d,e]:=by
 cases j with
 | mk ht Ds NV VR h5 hn hi hr=>exact ⟨_,_,_,_,_,rfl⟩
def VS (n:Nat):Prop:=∀{h:H} {p:Lb} {s:List Nat} {i a:Int},Wf h->mj h p s i->s.length - i.toNat<n->0<=a->a<=16->∀{Q Pn:V->H->Prop},(∀t cs j h',i<=j->mj h' p s j->oL h' t cs->Mod h h' [p]->Wf h'->Q (.agg cs) h')->(∀v h',Y' v->Mod h h' [p]->Wf h'->Pn v h')->
 CX pf G0 ou [.ptr p 0,.int .i64 a] h Q Pn
theorem alc {n:Nat}(ih:VS n){p:Lb}{s:List Nat}{i d:Int}(hw:Wf h)(f:mj h p s i)(hn:s.length - i.toNat<n)(sW:0<=d)(hd:d<=16){Q Pn:V->H->Prop} (hq:∀t cs j h',i<j->mj h' p s j->oL h' t cs->Mod h h' [p]->Wf h'->Q (.agg cs) h') (hx:∀v h',Y' v->Mod h h' [p]->Wf h'->Pn v h'):
  CX pf G0 pF [.ptr p 0,.int .i64 d] h Q Pn:=by
 have HB:=f.lo;have Ir:=f.hi;have rN:=f.small;refine CW.qp ?_;refine Bg.oZ (by kernel_rfl) ?_;cbv;refine .of hw λI h1 Rr dN ar aK=>?_;cbv;refine .flat rfl ?_;cbv;refine .of aK λC h2 hv2 Dt av aO=>?_;cbv;refine .of aO hv2 rfl rfl rfl rfl rfl rfl λh3 Rs aI aS=>?_;have IX:I≠C:=λe=>by subst e;rw [Rr] at Dt;cases Dt
 have r:I≠p:=λe=>by subst e;rw [f.get] at dN;cases dN
 have MY:C≠p:=λe=>by subst e;rw [ar.get f.get] at Dt;cases Dt
 have N1:h.get C=none:=by
  cases e:h.get C with
  | none=>rfl
  | some o=>rw [ar.get e] at Dt;cases Dt
 have Ao:mj h3 p s i:=((f.mono ar).mono av).mono aI (by simpa using Ne.symm MY);have uI:=aI.get (av.get Rr) (by simpa using IX);have aN:Mod h h3 [p]:=((ar.trans av).fr aI (λl a=>by simp at a;subst a;exact .inl N1)).mono λl o _ a=>by simp at a
 cbv;refine .H3 <| oD aS Ao λj4 h4 G1 qh aL aW=>?_;have aC:Mod h h4 [p]:=(aN.trans aL).mono λl o _ a=>by simpa using a
 have xu:=aL.get uI (by simpa using r);have N:=aL.get Rs (by simpa using MY);cbv;refine vG qh (λy c auH hc BV hyc=>?_) λv F=>?_
 ·cbv;refine .eq (λe=>?_) λe=>?_
  ·cbv;refine .of qh.get rfl ?_
   cbv;refine .add (by omega) (by omega) λk hk=>?_;cbv;refine .of aW qh.get rfl rfl rfl rfl rfl rfl λh5 Ap bf bK=>?_;cbv;refine .of (bf.get N (by simpa using MY)) rfl ?_;cbv;refine .of bK (bf.get xu (by simpa using r)) rfl rfl rfl rfl rfl rfl λw H4 bR X=>?_;cbv;refine .of H4 rfl ?_;cbv;refine ⟨w,.refl _,hq _ _ k w (by omega) ?_ (oL.zero w 4 0 bt.nil) ?_ X⟩
   ·exact mj.mono ⟨Ap,by omega,by omega,rN,f.GZ⟩ bR (by simpa using Ne.symm r)
   ·exact ((aC.trans bf).fr bR (λl a=>by simp at a;subst a;exact .inl dN)).mono λl o _ a=>by simpa using a
  ·cbv
   refine .inv [p0,p1,p4,p5] (λm' aB h'=>∃(iv:V) (its:List Js) (b:List V) (j:Int),aB=[.ptr p 0,.int .i64 d,.ptr I 0,.ptr C 0]/\h'.get I=some (.cells [.int .i64 0,.int .i64 0,.str [],.nilSlice 0,.nilSlice 0] bL 0 .yes)/\h'.get C=some (.cells [.int .i64 4,.int .i64 0,.str [],.nilSlice 0,iv] bL 0 .yes)/\
    aG h' bL 5 iv its.length b/\pj h' its b/\Fr h iv/\I∉ag iv/\C∉ag iv/\its.length<=j.toNat/\i<=j/\m'=s.length - j.toNat/\mj h' p s j/\Mod h h' [p]/\Wf h') [_,_,_,_] rfl _ ⟨.nilSlice 0,[],[],j4,rfl,xu,N,.nil,.nil,Fr.Ff _ _,by simp [ag],by simp [ag],by simp,G1,rfl,qh,aC,aW⟩ ?_
   rintro m' _ h5 ⟨iv,its,b,j,rfl,NY,Y,np,hj5,FF,S,L,hlen,zT,eF,Fb,aT,bK⟩;have auI:=Fb.lo;have auJ:=Fb.hi;cbv;refine .of follows 8 ?_;cbv;refine .of Y rfl ?_;cbv;refine ih bK Fb (by omega) sW hd (λt cs j6 w apj fG hj6 bR X=>?_) λv w F bR X=>?_
   ·have U:=bR.get Y (by simpa using MY)
    have zv:=bR.get NY (by simpa using r);have bQ:Mod h w [p]:=(aT.trans bR).mono λl o _ a=>by simpa using a
    have oC:=np.mono bR (FF.ne f.get);have auK:=hj5.mono bR;have aDP:=fG.hi;have auL:=hj6.aZ;obtain ⟨a1,a2,a3,a4,a5,rfl⟩:=hj6.five;cbv;refine .load U rfl (.nil ?_);cbv;refine .agg ?_;cbv;refine .of X λl7 h7 tf hf7 u eJ=>?_;have Ru:=u.get U;have UO:=u.get zv;have W:=fG.mono u;have cH:Mod h h7 [p]:=(bQ.trans u).mono λl o _ a=>by simpa using a
    have O8:=oC.mono u;cbv;refine .load Ru rfl (.nil ?_);cbv;refine .own eJ O8 (m:=1) (new:=_) (by simp only [cW,tf];rfl) rfl auL (by unfold bg;omega) (by decide) λq h8 uJ SI cU eL=>?_;have hv8:=cU.get Ru L;have hr8:=cU.get UO S;have hp8:=W.mono cU (FF.VT f.get);have dT:Mod h h8 [p]:=cH.fr cU (λl a=>.inl (FF l a));have N2:Fr h q:=SI.frp cH W.get FF;have M:=SI.dp UO S;have G:=SI.dp Ru L;have auN:=((auK.mono u).mono cU).snoc ((hj6.mono u).mono cU);cbv;refine .nil ?_;refine .one eL hv8 uJ.sl.flat rfl rfl rfl λh9 hv9 gE th=>?_;have Rv:=uJ.mono gE (λl a K=>G (by simp at K;subst K;exact a));have hr9:=gE.get hr8 (by simpa using IX);have hp9:=hp8.mono gE (by simpa using Ne.symm MY);have auP:=auN.mono gE;have oE:Mod h h9 [p]:=(dT.fr gE (λl a=>by simp at a;subst a;exact .inl N1));have auQ:its.length+1=(its++[t]).length:=by simp
    rw [auQ] at Rv;generalize its++[t]=Z at*;generalize b++_=apm at*;cbv;refine .nil ?_;cbv;refine .H3 <| oD th hp9 λB sQ apn aer P qy=>?_;have auR:=P.get hv9 (by simpa using MY);have ahi:=P.get hr9 (by simpa using r);have mR:Mod h sQ [p]:=(oE.trans P).mono λl o _ a=>by simpa using a
    have zA:=Rv.mono P (N2.ne f.get);have aes:=auP.mono P;cbv;refine zu qy aer (λx c VH apo auS kG hxc _ J R Dz=>?_) λv F=>?_
    ·have E:=R.get auR (by simpa using MY)
     have XD:=R.get ahi (by simpa using r);have Pc:Mod h VH [p]:=(mR.trans R).mono λl o _ a=>by simpa using a
     have L0:=zA.mono R (N2.ne f.get);have ai4:=aes.mono R;have azQ:=aer.hi;cbv;refine .eq (λe=>?_) λe=>?_
     ·cbv;refine .of E rfl ?_
      cbv;refine .of (cs:=[.int .i64 4,.int .i64 0,.str [],.nilSlice 0,q]) Dz XD rfl rfl rfl rfl (by show (true&&(true&&(true&&(true&&(cf q&&true)))))=true;rw [L0.sl.flat];rfl) rfl λSy ald fI FN=>?_;have ale:=L0.mono fI (λl a K=>M (by simp at K;subst K;exact a));have Pd:Mod h Sy [p]:=Pc.fr fI (λl a=>by simp at a;subst a;exact .inl dN);obtain ⟨ZP,l13,auT,z,w13⟩:=ale.freeze FN;have alf:mj ZP p s (B+1):=(J.mono fI (by simpa using Ne.symm r)).mono z (N2.VT f.get);have aet:Mod h ZP [p]:=Pd.fr z (λl a=>.inl (N2 l a));have apq:=(ai4.mono fI).mono z;cbv;refine .of ald rfl ?_;cbv;exact ⟨ZP,l13,hq (.mk 4 0 [] [] Z) _ _ ZP (by omega) alf (.mk bt.nil (by simp) (by simp) (by omega) (λe=>by cases e) .nil auT apq) aet w13⟩
     ·cbv;exact ⟨rfl,s.length - (B+1).toNat,by omega,q,Z,apm,B+1,rfl,XD,E,L0,ai4,N2,M,G,by omega,by omega,rfl,J,Pc,Dz⟩
    ·cbv;exact hx v sQ F mR qy
   ·cbv;exact hx v w F ((aT.trans bR).mono λl o _ a=>by simpa using a) X
 ·cbv;exact hx v h4 F aC aW
end K
