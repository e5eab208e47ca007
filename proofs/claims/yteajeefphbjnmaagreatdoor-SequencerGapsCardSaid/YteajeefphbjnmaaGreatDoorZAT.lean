/-
  The sequencer's laws. Part ZAT of the proof: blotter/disk: files.
-/
import Derived.Test.YteajeefphbjnmaaGreatDoorZAR
import Derived.Test.YteajeefphbjnmaaGreatDoorZAS
namespace K
open Go Go.Dx Go.RowKit
set_option maxRecDepth 100000
theorem V7 {v:V}(h:bU v=true):v.cells=[v]:=by cases v<;>first | rfl | cases h
theorem _root_.Go.Dx.StN.one {h:H}{l:Lb}{off:Nat}{x:V}{K:H->Prop} {vs vs':List V} {e:TypeId} {fz:Nat} {own:Own} (hw:Wf h) (hl:h.get l=some (.cells vs e fz own)) (hx:bU x=true) (ho:own.may=true) (hf:Nat.ble fz off=true)
  (hp:aX vs off [x]=some vs') (hk:∀h',h'.get l=some (.cells vs' e fz own)->Mod h h' [l]->Wf h'->K h'):StN h 1 l off x K:=
 .of hw hl (V7 hx) rfl ho hf (by simp [bd,hx]) hp hk
structure Fl where
 name:List Nat
 aZ:Lb
 born:Nat
 val:V
 bytes:List Nat
def flE (f:Fl):List Nat×V×Nat:=(f.name,.ptr f.aZ 0,f.born)
def fc (fs:List Fl):bF:=fs.map flE
def Ig (l:List Nat):Prop:=l.length<=400000/\∀b∈l,b<256
structure V8 (h:H)(f:Fl):Prop where
 cell:h.get f.aZ=some (.cells [f.val] dU 0 .yes)
 val:Ro h 1 f.val f.bytes.length (ae f.bytes)
 ok:Ig f.bytes
structure cC (h:H)(lm:Lb)(fs:List Fl)(c:Nat):Prop where
 map:h.get lm=some (.map (cg (fc fs)) c)
 ok:fG (fc fs) c
 file:∀f,f∈fs->V8 h f
 af:(fs.map (·.aZ)).Nodup
def oH:List Fl->List Nat->Option Fl
 | [],_=>none
 | f::r,k=>if f.name=k then some f else oH r k
theorem zB (fs:List Fl)(k:List Nat):cK (fc fs) k=(oH fs k).map λf=>.ptr f.aZ 0:=by
 induction fs with
 | nil=>rfl
 | cons f r ih=>
   simp only [fc,List.map_cons,flE,cK,oH] at ih ⊢;split
   ·rfl
   ·exact ih
theorem qP {fs:List Fl}{k:List Nat}{f:Fl}(h:oH fs k=some f):f∈fs/\f.name=k:=by
 induction fs with
 | nil=>cases h
 | cons g r ih=>
   simp only [oH] at h;split at h
   ·rename_i e;cases h;exact ⟨List.mem_cons_self ..,e⟩
   ·obtain ⟨a,b⟩:=ih h;exact ⟨List.mem_cons_of_mem _ a,b⟩
abbrev AL:=List (List Nat×List Nat)
def said (fs:List Fl):AL:=fs.map λf=>(f.name,f.bytes)
def bL:AL->List Nat->Option (List Nat)
 | [],_=>none
 | (x,b)::r,k=>if x=k then some b else bL r k
def xf:AL->List Nat->List Nat->AL
 | [],k,v=>[(k,v)]
 | (x,b)::r,k,v=>if x=k then (k,v)::r else (x,b)::xf r k v
def Ih:AL->List Nat->AL
 | [],_=>[]
 | (x,b)::r,k=>if x=k then r else (x,b)::Ih r k
theorem fM (fs:List Fl)(k:List Nat):bL (said fs) k=(oH fs k).map (·.bytes):=by
 induction fs with
 | nil=>rfl
 | cons f r ih=>
   simp only [said,List.map_cons,bL,oH] at ih ⊢;split
   ·rfl
   ·exact ih
def ff (b:List Nat)(at_:Nat)(x:List Nat):List Nat:=
 let c:=b++List.replicate (at_+x.length - b.length) 0
 c.take at_++x++c.drop (at_+x.length)
theorem ZB (fs:List Fl)(k:List Nat):∃po,fA (fc fs) k=fc po/\said po=Ih (said fs) k/\po.Sublist fs:=by
 induction fs with
 | nil=>exact ⟨[],rfl,rfl,.slnil⟩
 | cons f r ih=>
   obtain ⟨r',h1,h2,h3⟩:=ih;simp only [fc,List.map_cons,flE,fA,said,Ih] at h1 h2 ⊢
   by_cases hx:f.name=k
   ·exact ⟨r,by rw [if_pos hx];try rfl,by rw [if_pos hx],List.sublist_cons_self _ _⟩
   ·refine ⟨f::r',by rw [if_neg hx,h1];rfl,by rw [if_neg hx,List.map_cons,h2],h3.cons_cons _⟩
theorem cC.mono {h h':H}{lm:Lb}{fs:List Fl}{c:Nat}(F:cC h lm fs c){X:List Lb}(m:Mod h h' X)(h1:lm∉X)(h2:∀f,f∈fs->f.aZ∉X):cC h' lm fs c:=
 ⟨m.get F.map h1,F.ok,λf hf=>let a:=F.file f hf;⟨m.get a.cell (h2 f hf),a.val.mono m,a.ok⟩,F.af⟩
theorem cC.del {h h':H}{lm:Lb}{fs po:List Fl}{c:Nat}(F:cC h lm fs c){k:List Nat}(e:fA (fc fs) k=fc po)(s:po.Sublist fs)(m:Mod h h' [lm])(g:h'.get lm=some (.map (cg (fA (fc fs) k)) c)):cC h' lm po c:=by
 refine ⟨by rw [<-e];exact g,by rw [<-e];exact F.ok.del k,λf hf=>?_,F.af.sublist (s.map _)⟩;have a:=F.file f (s.subset hf);refine ⟨m.get a.cell ?_,a.val.mono m,a.ok⟩;simp only [List.mem_singleton];intro e;have:=a.cell;rw [e,F.map] at this;cases this
theorem _root_.Go.Dx.RJ.file {h:H}{lm:Lb}{fs:List Fl}{c:Nat}{nm:List Nat}{K:V->Prop} (F:cC h lm fs c) (hit:∀f,oH fs nm=some f->f∈fs->V8 h f->K (.ptr f.aZ 0)) (Fp:oH fs nm=none->K .nilPtr):RJ h .str .nilPtr false (.map lm) (.str nm) K:=by
 cases e:oH fs nm with
 | none=>exact .Fp F.map (by rw [zB,e];rfl) (Fp e)
 | some f=>exact .hit F.map (by rw [zB,e];rfl) (hit f e (qP e).1 (F.file f (qP e).1))
theorem gF:∀(l:List Nat) (k:Nat),ae (l.take k)=(ae l).take k
 | [],k=>by simp [ae]
 | x::l,0=>rfl
 | x::l,k+1=>by simp [ae,gF l k]
theorem sH:∀(l:List Nat) (k:Nat),ae (l.drop k)=(ae l).drop k
 | [],k=>by simp [ae]
 | x::l,0=>rfl
 | x::l,k+1=>by simp [ae,sH l k]
theorem V9 {h:H}{lm:Lb}{fs:List Fl}{c:Nat}{nm:List Nat}{at_:Int}{vb:V}(hw:Wf h)(F:cC h lm fs c){Q:V->H->Prop}
  (hq:∀h' po,cC h' lm po c->said po=Ih (said fs) nm->(∀f,f∈po->f∈fs)->Mod h h' [lm]->Wf h'->Q (.tuple []) h'):CW pf G0 eP [.map lm,.agg [.int .i64 2,.str nm,.int .i64 at_,vb]] h Q:=by
 refine lj.enter (by kernel_rfl) ?_;cbv;refine .agg ?_;cbv;refine .of hw λla h1 fS Bl ar aM=>?_;have F1:=F.mono ar (by simp) (by simp);cbv;refine .of fS rfl ?_;obtain ⟨po,e1,e2,e3⟩:=ZB fs nm;cbv;refine .file F1 (λf _ _ _=>?_) (λ_=>?_)
 all_goals
  cbv;refine .of fS rfl ?_;cbv;refine .mY rfl ?_;cbv;refine .of fS rfl ?_;cbv;refine .of aM F1.map λh2 jc aq aN=>?_;cbv;exact hq _ po (F1.del e1 e3 aq jc) e2 (λf hf=>e3.subset hf) (ar.trans aq) aN
theorem ZC {h:H}{lm:Lb}{fs:List Fl}{c:Nat}{nm:List Nat}{at_:Int}{vb:V}(hw:Wf h)(F:cC h lm fs c)(h0:0<=at_){Q:V->H->Prop}
  (bq:∀h',oH fs nm=none->Mod h h' []->Wf h'->Q (.tuple []) h')
  (hq:∀f h' v,oH fs nm=some f->h'.get f.aZ=some (.cells [v] dU 0 .yes)->Ro h' 1 v (min at_.toNat f.bytes.length) (ae (f.bytes.take at_.toNat))->Mod h h' [f.aZ]->Wf h'->Q (.tuple []) h'):CW pf G0 eP [.map lm,.agg [.int .i64 1,.str nm,.int .i64 at_,vb]] h Q:=by
 refine lj.enter (by kernel_rfl) ?_;cbv;refine .agg ?_;cbv;refine .of hw λla h1 fS Bl ar aM=>?_;have F1:=F.mono ar (by simp) (by simp);cbv;refine .of fS rfl ?_;cbv;refine .file F1 (λf hf gi fa=>?_) (λhf=>?_)
 ·cbv;refine .of fS rfl ?_
  cbv;refine .cP (by decide) ?_;cbv;refine .mY rfl ?_;cbv;refine .of follows 4 ?_;cbv;refine .of fa.cell rfl ?_;cbv;refine .of fS rfl ?_;cbv;refine .of fa.cell rfl ?_;cbv;refine .of fa.val.sl λn eT hn=>?_;cbv;refine .of λq aU=>?_;cbv;refine .front fa.val (by omega) (by omega) λv hv=>?_;cbv;refine .one aM fa.cell hv.flat rfl rfl rfl λh2 jc aq aN=>?_;cbv;refine .nil ?_;cbv;have e:ae (f.bytes.take at_.toNat)=List.take (q.toNat*1) (ae f.bytes):=by
   rw [gF,Nat.mul_one,show q.toNat=min at_.toNat f.bytes.length by omega,<-gF,<-gF,<-List.take_eq_take_min]
  exact hq f h2 v hf jc (by rw [e,show min at_.toNat f.bytes.length=q.toNat by omega];exact hv.mono aq) (ar.trans aq) aN
 ·cbv;refine .of fS rfl ?_
  cbv;refine .cP (by decide) ?_;cbv;refine .mY rfl ?_;cbv;exact bq _ hf ar aM
theorem sI (b:List Nat)(i:Nat)(x:List Nat):(ff b i x).length=max b.length (i+x.length):=by
 unfold ff;simp only [List.length_append,List.length_take,List.length_drop,List.length_replicate];omega
theorem Hx {b:List Nat}{i:Nat}{x:List Nat}(hb:Ig b)(hx:Ig x)(h:i+x.length<=400000):Ig (ff b i x):=by
 refine ⟨by rw [sI];have:=hb.1;omega,λy hy=>?_⟩;unfold ff at hy;have hc:∀z,z∈b++List.replicate (i+x.length - b.length) 0->z<256:=λz hz=>by
  rcases List.mem_append.1 hz with hz | hz
  ·exact hb.2 z hz
  ·have:=(List.mem_replicate.1 hz).2;omega
 rcases List.mem_append.1 hy with hy | hy
 ·rcases List.mem_append.1 hy with hy | hy
  ·exact hc y (List.mem_of_mem_take hy)
  ·exact hx.2 y hy
 ·exact hc y (List.mem_of_mem_drop hy)
def r8 (fs:List Fl)(k:List Nat)(v:V)(b:List Nat):List Fl:=fs.map λf=>if f.name=k then {f with val:=v,bytes:=b} else f
theorem EM (fs:List Fl)(k:List Nat)(v:V)(b:List Nat):fc (r8 fs k v b)=fc fs:=by
 unfold fc r8;rw [List.map_map];refine List.map_congr_left λf _=>?_;simp only [Function.comp];split<;>rfl
theorem Tx (fs:List Fl)(k:List Nat)(v:V)(b:List Nat):(r8 fs k v b).map (·.aZ)=fs.map (·.aZ):=by
 unfold r8;rw [List.map_map];refine List.map_congr_left λf _=>?_;simp only [Function.comp];split<;>rfl
theorem Ty {fs:List Fl}{k:List Nat}{v:V}{b:List Nat}{f:Fl}(hn:(cB (fc fs)).Nodup)(hf:oH fs k=some f):said (r8 fs k v b)=xf (said fs) k b:=by
 induction fs with
 | nil=>cases hf
 | cons g r ih=>
   simp only [cB,fc,List.map_cons,flE,List.nodup_cons] at hn;simp only [oH] at hf
   by_cases hx:g.name=k
   ·rw [if_pos hx] at hf
    simp only [said,r8,List.map_cons,xf,hx]
    congr 1
    rw [List.map_map];refine List.map_congr_left λq hq=>?_;have:q.name≠k:=λe=>hn.1 (by rw [hx,<-e];simp only [List.map_map];exact List.mem_map.2 ⟨q,hq,rfl⟩);simp [Function.comp,this]
   ·rw [if_neg hx] at hf
    have ih:=ih (by simpa [cB,fc] using hn.2) hf;simp only [said,r8,List.map_cons,if_neg hx,xf] at ih ⊢;rw [ih]
theorem Qv {fs:List Fl}(hn:(cB (fc fs)).Nodup){f:Fl}(hm:f∈fs):oH fs f.name=some f:=by
 induction fs with
 | nil=>cases hm
 | cons g r ih=>
   simp only [cB,fc,List.map_cons,flE,List.nodup_cons] at hn;simp only [oH];rcases List.mem_cons.1 hm with rfl | hm
   ·rw [if_pos rfl]
   ·rw [if_neg,ih (by simpa [cB,fc] using hn.2) hm]
    intro e;exact hn.1 (by rw [e];simp only [List.map_map];exact List.mem_map.2 ⟨f,hm,rfl⟩)
theorem TB {fs:List Fl}(hn:(fs.map (·.aZ)).Nodup){f g:Fl}(hf:f∈fs)(hg:g∈fs)(e:f.aZ=g.aZ):f=g:=by
 induction fs with
 | nil=>cases hf
 | cons a r ih=>
   simp only [List.map_cons,List.nodup_cons] at hn;rcases List.mem_cons.1 hf with h1 | h1<;>rcases List.mem_cons.1 hg with h2 | h2
   ·rw [h1,h2]
   ·exact absurd (List.mem_map.2 ⟨g,h2,by rw [<-e,h1]⟩) hn.1
   ·exact absurd (List.mem_map.2 ⟨f,h1,by rw [e,h2]⟩) hn.1
   ·exact ih hn.2 h1 h2
theorem pK {m:bF}{k:List Nat}{v:V}{c:Nat}(h:cK m k=none):dh m k v c=m++[(k,v,c)]:=by
 induction m with
 | nil=>rfl
 | cons p r ih=>
   obtain ⟨x,w,b⟩:=p;simp only [cK] at h;split at h
   ·cases h
   ·rename_i hx;simp only [dh,if_neg hx,ih h,List.cons_append]
theorem ZD {m:AL}{k:List Nat}{v:List Nat}(h:bL m k=none):xf m k v=m++[(k,v)]:=by
 induction m with
 | nil=>rfl
 | cons p r ih=>
   obtain ⟨x,w⟩:=p;simp only [bL] at h;split at h
   ·cases h
   ·rename_i hx;simp only [xf,if_neg hx,ih h,List.cons_append]
theorem TC {h:H}{lm:Lb}{fs:List Fl}{c:Nat}{nm:List Nat}{at_:Int}{vb:V}{bs:List Nat}(hw:Wf h)(F:cC h lm fs c)(h0:0<=at_)(hat:at_.toNat+bs.length<=400000)(KZ:Ro h 1 vb bs.length (ae bs))(Mv:Ig bs)(dj:0<bs.length){Q:V->H->Prop}
  (hq:∀h' po c',cC h' lm po c'->said po=xf (said fs) nm (ff ((bL (said fs) nm).getD []) at_.toNat bs)->(∀f,f∈po->(∃g,g∈fs/\g.aZ=f.aZ)\/h.get f.aZ=none)->Mod h h' (lm::fs.map (·.aZ))->Wf h'->Q (.tuple []) h'):CW pf G0 eP [.map lm,.agg [.int .i64 0,.str nm,.int .i64 at_,vb]] h Q:=by
 refine .pQ ?_;refine lj.enter (by kernel_rfl) ?_;cbv;refine .agg ?_;cbv;refine .of hw λla h1 fS Bl ar aM=>?_;have F1:=F.mono ar (by simp) (by simp);have ajU:=KZ.mono ar;cbv;refine .of fS rfl ?_;cbv;refine .file F1 (λf hf gi fa=>?_) (λhf=>?_)
 ·have fin:∀h' v,h'.get f.aZ=some (.cells [v] dU 0 .yes)->aE h' XW 1 v (ff f.bytes at_.toNat bs).length (ae (ff f.bytes at_.toNat bs))->Fr h1 v->Mod h1 h' [f.aZ]->Wf h'->∃h2,Less h' h2/\Q (.tuple []) h2:=λh' v e1 eo ef e3 e4=>by
   obtain ⟨h2,l1,l2,l3,l4⟩:=eo.freeze e4;have CV:f.aZ∉af v:=λhm=>by have:=ef _ hm;rw [fa.cell] at this;cases this
   have e3':Mod h1 h2 [f.aZ]:=e3.fr l3 λl hl=>.inl (ef l hl);refine ⟨h2,l1,hq h2 (r8 fs nm v (ff f.bytes at_.toNat bs)) c ⟨?_,by rw [EM];exact F.ok,λg hg=>?_,by rw [Tx];exact F.af⟩ ?_ (λg hg=>.inl ?_) ((ar.trans e3').mono ?_) l4⟩
   ·rw [EM]
    refine e3'.get F1.map ?_;simp only [List.mem_singleton];intro e;have:=fa.cell;rw [<-e,F1.map] at this;cases this
   ·unfold r8 at hg
    obtain ⟨q,sj,rfl⟩:=List.mem_map.1 hg;have fq:=F1.file q sj
    by_cases hx:q.name=nm
    ·have:q=f:=by
      have:oH fs q.name=some q:=Qv F.ok.keys sj;rw [hx,hf] at this;exact (Option.some.inj this).symm
     subst this;rw [if_pos hx];exact ⟨l3.get e1 CV,l2,Hx fa.ok Mv hat⟩
    ·rw [if_neg hx]
     have Cb:q.aZ≠f.aZ:=λe=>by
      have:q=f:=TB F.af sj gi e;subst this;exact hx (qP hf).2
     exact ⟨e3'.get fq.cell (by simpa using Cb),fq.val.mono e3',fq.ok⟩
   ·rw [fM,hf];exact Ty F.ok.keys hf
   ·unfold r8 at hg
    obtain ⟨q,sj,rfl⟩:=List.mem_map.1 hg;exact ⟨q,sj,by split<;>rfl⟩
   ·intro l o _ hl
    simp only [List.nil_append,List.mem_singleton] at hl;subst hl;exact List.mem_cons_of_mem _ (List.mem_map.2 ⟨f,gi,rfl⟩)
  have gC:=fa.ok.1;have dw:=fa.cell;have eA:=fa.val;generalize f.aZ=lf at*;generalize f.val=v0 at*;generalize f.bytes=b0 at*;cbv;refine .of fS rfl ?_;cbv;refine .cP (by decide) ?_;cbv;refine .cP (by decide) ?_;cbv;refine .of follows 4 ?_;cbv;refine .of dw rfl ?_;cbv;refine .of fS rfl ?_;cbv;refine .of fS rfl ?_;cbv;refine .of ajU.sl λnb fC hb=>?_;have SN:=Mv.1;cbv;refine .add (by omega) (by omega) λs1 e1=>?_;cbv;refine .of dw rfl ?_;cbv;refine .of eA.sl λnx lN hx=>?_;cbv;refine .sub (by omega) (by omega) λs2 e2=>?_;cbv;refine .of λs3 e3=>?_;cbv;refine mH mJ aM eA.sl (az _) (by omega) (by decide) λv2 h2 ke Dg=>?_;cbv;refine .load (Dg.get dw) rfl (.load (Dg.get fS) rfl (.load (Dg.get fS) rfl (.nil ?_)));cbv;refine .loc Dg ke (by omega) (by omega) rfl rfl (by decide) (by omega) (by decide) λv3 h3 fT lL _=>?_;rw [xZ,<-aK] at fT;cbv;refine .nil ?_;cbv;refine .of follows 4 ?_;cbv;refine .of (lL.get fS) rfl ?_;cbv;refine .back fT h0 (by omega) λd hd=>?_;cbv;refine .of (lL.get fS) rfl ?_;cbv;refine .tail lL fT hd (ajU.mono lL.mod).sl dj (by omega) (az _) (by decide) λr h4 jv Hy _=>?_;cbv;refine .nil ?_;cbv;refine .one Hy.wf (Hy.get dw) jv.sl.flat rfl rfl rfl λh5 Bg aY bH=>?_;cbv;refine fin h5 v3 Bg ?_ Hy.fr (Hy.mod.trans aY) bH;have ajV:lf∉af v3:=λhm=>by have:=Hy.fr _ hm;rw [dw] at this;cases this
  have kh:=jv.mono aY (λl hl=>by simp only [List.mem_singleton];rintro rfl;exact ajV hl);have e5:ae (ff b0 at_.toNat bs)=List.take (at_.toNat*1) (ae (b0++List.replicate s3.toNat 0))++ae bs++List.drop (at_.toNat*1+(ae bs).length) (ae (b0++List.replicate s3.toNat 0)):=by
   unfold ff;rw [show at_.toNat+bs.length - b0.length=s3.toNat by omega,aK,aK,gF,sH,Nat.mul_one,bp]
  rw [e5,sI,show max b0.length (at_.toNat+bs.length)=b0.length+s3.toNat by omega];exact kh
 ·cbv;refine .of fS rfl ?_
  cbv;refine .cP (by decide) ?_;cbv;refine .cP (by decide) ?_;cbv;refine .agg ?_;refine .of aM λlf h2 OZ Fe aq aN=>?_;have F2:=F1.mono aq (by simp) (by simp);cbv;refine .of (aq.get fS (by simp)) rfl ?_;cbv;refine .of aN F2.map λh3 iY aF aR=>?_;have TD:=aF.get (aq.get fS (by simp)) (by simp only [List.mem_singleton];rintro rfl;rw [F.map] at Bl;cases Bl);have dw:=aF.get OZ (by simp only [List.mem_singleton];rintro rfl;rw [F1.map] at Fe;cases Fe);have anV:=(ajU.mono aq).mono aF;have as9:lf≠lm:=by rintro rfl;rw [F1.map] at Fe;cases Fe
  obtain ⟨b0,agf⟩:∃b0:List Nat,b0=[]:=⟨_,rfl⟩;have eA:Sl h3 1 (.nilSlice 0) b0.length (ae b0):=by subst agf;exact .nil 0
  have gC:b0.length<=400000:=by subst agf;simp
  have fin:∀h' v,h'.get lf=some (.cells [v] dU 0 .yes)->aE h' XW 1 v (ff b0 at_.toNat bs).length (ae (ff b0 at_.toNat bs))->Fr h3 v->Mod h3 h' [lf]->Wf h'->∃h2,Less h' h2/\Q (.tuple []) h2:=λh' v e1 eo ef e3 e4=>by
   obtain ⟨h4,l1,l2,l3,l4⟩:=eo.freeze e4;have CV:lf∉af v:=λhm=>by have:=ef _ hm;rw [dw] at this;cases this
   have e3':Mod h3 h4 [lf]:=e3.fr l3 λl hl=>.inl (ef l hl);have adi:cK (fc fs) nm=none:=by rw [zB,hf];rfl
   have eE:fc (fs++[⟨nm,lf,c,v,ff b0 at_.toNat bs⟩])=dh (fc fs) nm (.ptr lf 0) c:=by
    rw [pK adi];simp [fc,flE]
   have uJ:∀g,g∈fs->g.aZ≠lf:=λg hg e=>by
    have:=(F1.file g hg).cell;rw [e,Fe] at this;cases this
   have F2:=F1.mono aq (by simp) (by simp);refine ⟨h4,l1,hq h4 (fs++[⟨nm,lf,c,v,ff b0 at_.toNat bs⟩]) (dQ (fc fs) nm c) ⟨?_,?_,λg hg=>?_,?_⟩ ?_ (λg hg=>?_) ?_ l4⟩
   ·rw [eE];exact e3'.get iY (by simpa using as9.symm)
   ·rw [eE];exact F.ok.set nm _
   ·rcases List.mem_append.1 hg with hg | hg
    ·have fq:=F2.file g hg
     have ajW:g.aZ≠lm:=λe=>by have:=fq.cell;rw [e,F2.map] at this;cases this
     exact ⟨e3'.get (aF.get fq.cell (by simpa using ajW)) (by simpa using uJ g hg),(fq.val.mono aF).mono e3',fq.ok⟩
    ·rw [List.mem_singleton] at hg
     subst hg;exact ⟨l3.get e1 CV,l2,Hx (by subst agf;exact ⟨by simp,by simp⟩) Mv hat⟩
   ·rw [List.map_append]
    refine List.nodup_append.2 ⟨F.af,by simp,λa ha b hb e=>?_⟩;simp only [List.map_cons,List.map_nil,List.mem_singleton] at hb;obtain ⟨g,hg,rfl⟩:=List.mem_map.1 ha;exact uJ g hg (e.trans hb)
   ·have:bL (said fs) nm=none:=by rw [fM,hf];rfl
    rw [this,ZD this];subst agf;simp [said]
   ·rcases List.mem_append.1 hg with hg | hg
    ·exact .inl ⟨g,hg,rfl⟩
    ·rw [List.mem_singleton] at hg
     subst hg;refine .inr ?_;cases hx:h.get lf with
     | none=>rfl
     | some o=>exact absurd (ar.get hx (by simp)) (by rw [Fe];simp)
   ·refine (((ar.trans aq).trans aF).trans e3').mono ?_
    intro l o hl hm;simp only [List.nil_append,List.mem_append,List.mem_singleton] at hm;rcases hm with rfl | rfl
    ·exact List.mem_cons_self ..
    ·exact absurd (ar.get hl (by simp)) (by rw [Fe];simp)
  cbv;cbv;refine .of follows 4 ?_;cbv;refine .of dw rfl ?_;cbv;refine .of TD rfl ?_;cbv;refine .of TD rfl ?_;cbv;refine .of anV.sl λnb fC hb=>?_;have SN:=Mv.1;cbv;refine .add (by omega) (by omega) λs1 e1=>?_;cbv;refine .of dw rfl ?_;cbv;refine .of eA λnx lN hx=>?_;cbv;refine .sub (by omega) (by omega) λs2 e2=>?_;cbv;refine .of λs3 e3=>?_;cbv;refine mH mJ aR eA (az _) (by omega) (by decide) λv2 h2 ke Dg=>?_;cbv;refine .load (Dg.get dw) rfl (.load (Dg.get TD) rfl (.load (Dg.get TD) rfl (.nil ?_)));cbv;refine .loc Dg ke (by omega) (by omega) rfl rfl (by decide) (by omega) (by decide) λv3 h3 fT lL _=>?_;rw [xZ,<-aK] at fT;cbv;refine .nil ?_;cbv;refine .of follows 4 ?_;cbv;refine .of (lL.get TD) rfl ?_;cbv;refine .back fT h0 (by omega) λd hd=>?_;cbv;refine .of (lL.get TD) rfl ?_;cbv;refine .tail lL fT hd (anV.mono lL.mod).sl dj (by omega) (az _) (by decide) λr h4 jv Hy _=>?_;cbv;refine .nil ?_;cbv;refine .one Hy.wf (Hy.get dw) jv.sl.flat rfl rfl rfl λh5 Bg aY bH=>?_;cbv;refine fin h5 v3 Bg ?_ Hy.fr (Hy.mod.trans aY) bH;have ajV:lf∉af v3:=λhm=>by have:=Hy.fr _ hm;rw [dw] at this;cases this
  have kh:=jv.mono aY (λl hl=>by simp only [List.mem_singleton];rintro rfl;exact ajV hl);have e5:ae (ff b0 at_.toNat bs)=List.take (at_.toNat*1) (ae (b0++List.replicate s3.toNat 0))++ae bs++List.drop (at_.toNat*1+(ae bs).length) (ae (b0++List.replicate s3.toNat 0)):=by
   unfold ff;rw [show at_.toNat+bs.length - b0.length=s3.toNat by omega,aK,aK,gF,sH,Nat.mul_one,bp]
  rw [e5,sI,show max b0.length (at_.toNat+bs.length)=b0.length+s3.toNat by omega];exact kh
end K
namespace K
open Go Go.Dx Go.RowKit
set_option maxRecDepth 100000
structure yG (nm:List Nat):Prop where
 chars:∀c,c∈nm->(97<=c/\c<=122)\/(48<=c/\c<=57)\/c=46
 pos:1<=nm.length
 iZ:nm.length<=24
theorem adj {h:H}{nm:List Nat}(ok:yG nm){Q:V->H->Prop} (hq:Q (.bool true) h):CW pf G0 KH [.str nm] h Q:=by
 refine VW.enter (by kernel_rfl) ?_;have h1:=ok.pos;have h2:=ok.iZ;cbv;refine .of λn eT hn=>?_;cbv;refine .inv [p0,p6,p7] (λm' aC h'=>∃i,aC=[.str nm,.int .i64 n,.int .i64 i]/\0<=i/\i.toNat<=nm.length/\m'=nm.length - i.toNat/\h'=h) [_,_,_] rfl _
  ⟨0,rfl,by omega,by simp,rfl,rfl⟩ ?_
 rintro m' _ h' ⟨i,rfl,jG,hi,dY,rfl⟩;cbv;refine .lt (λbA=>?_) (λjb=>?_)
 ·obtain ⟨x,hx⟩:∃x,nm[i.toNat]? =some x:=⟨_,List.getElem?_eq_getElem (by omega)⟩
  have hc:=ok.chars x (List.mem_of_getElem? hx);cbv;refine .of jG hx λy CU hy=>?_;have again:∀j,j=i+1->∃m2,m2<m'/\0<=j/\j.toNat<=nm.length/\m2=nm.length - j.toNat:=λj hj=>⟨nm.length - j.toNat,by omega,by omega,by omega,rfl⟩;cbv;refine .lt (λha=>?_) (λha=>?_)
  ·cbv;refine .lt (λhb=>?_) (λhb=>?_)
   ·cbv;refine .eC (by omega) ?_
    cbv;refine .add (by omega) (by omega) λj hj=>?_;obtain ⟨m2,a1,a2,a3,a4⟩:=again j hj;cbv;exact ⟨rfl,m2,a1,j,rfl,a2,a3,a4,rfl⟩
   ·cbv;refine .Jk (by omega) ?_
    cbv;refine .add (by omega) (by omega) λj hj=>?_;obtain ⟨m2,a1,a2,a3,a4⟩:=again j hj;cbv;exact ⟨rfl,m2,a1,j,rfl,a2,a3,a4,rfl⟩
  ·cbv;refine .Jk (by omega) ?_
   cbv;refine .add (by omega) (by omega) λj hj=>?_;obtain ⟨m2,a1,a2,a3,a4⟩:=again j hj;cbv;exact ⟨rfl,m2,a1,j,rfl,a2,a3,a4,rfl⟩
 ·cbv;refine .of λk Ir hk=>?_
  cbv;refine .um (by omega) ?_;cbv;refine .of λk2 af9 Fc=>?_;cbv;refine .O6 (by omega) ?_;cbv;exact hq
theorem Gr {h:H}{ld ls:Lb}{a c d e:V}{t:TypeId}(hc:h.get ld=some (.cells [a,.map ls,c,d,e] t 0 .yes)){Q:V->H->Prop} (hq:Q (.bool true) h):CW pf G0 tf [.ptr ld 0] h Q:=by
 refine Gd.enter (by kernel_rfl) ?_;cbv;refine .of hc rfl ?_;cbv;exact hq
theorem Gs {h:H}{ld ls:Lb}{a c d e:V}{t:TypeId}{nm:List Nat}{fs:List Fl}{k:Nat}(hc:h.get ld=some (.cells [a,.map ls,c,d,e] t 0 .yes))(ok:yG nm)(F:cC h ls fs k){Q:V->H->Prop}
  (hit:∀f,oH fs nm=some f->f∈fs->V8 h f->Q (.tuple [.ptr f.aZ 0,.int .i64 0]) h) (Fp:oH fs nm=none->Q (.tuple [.nilPtr,.int .i64 20]) h):CW pf G0 tk [.ptr ld 0,.str nm] h Q:=by
 refine Gi.enter (by kernel_rfl) ?_;cbv;refine Gr hc ?_;cbv;refine adj ok ?_;cbv;refine .of hc rfl ?_;cbv;refine .file F (λf hf hm fa=>?_) (λhf=>?_)
 ·generalize hl:f.aZ=lf
  cbv;rw [<-hl];exact hit f hf hm fa
 ·cbv;exact Fp hf
end K
namespace K
open Go Go.Dx Go.RowKit
set_option maxRecDepth 100000
inductive Act where
 | wrote (nm:List Nat) (i:Nat) (b:List Nat)
 | cut (nm:List Nat) (i:Nat)
 | drop (nm:List Nat)
namespace Act
def nm:Act->List Nat
 | wrote n _ _=>n
 | cut n _=>n
 | drop n=>n
def run:Act->AL->AL
 | wrote n i b,m=>xf m n (ff ((bL m n).getD []) i b)
 | cut n i,m=>match bL m n with
   | some b=>xf m n (b.take i)
   | none=>m
 | drop n,m=>Ih m n
def ok:Act->Prop
 | wrote _ i b=>i+b.length<=400000/\Ig b/\0<b.length
 | cut _ _=>True
 | drop _=>True
end Act
inductive AF (h:H):Act->List V->Prop
 | wrote {nm:List Nat} {i:Int} {vb:V} {b:List Nat} (h0:0<=i) (hv:Ro h 1 vb b.length (ae b)):AF h (.wrote nm i.toNat b) [.int .i64 0,.str nm,.int .i64 i,vb]
 | cut {nm:List Nat} {i:Int} (h0:0<=i):AF h (.cut nm i.toNat) [.int .i64 1,.str nm,.int .i64 i,.nilSlice 0]
 | drop {nm:List Nat}:AF h (.drop nm) [.int .i64 2,.str nm,.int .i64 0,.nilSlice 0]
theorem AF.mono {h h':H}{a:Act}{cs:List V}{F:List Lb}(c:AF h a cs)(m:Mod h h' F):AF h' a cs:=by
 cases c with
 | wrote h0 hv=>exact .wrote h0 (hv.mono m)
 | cut h0=>exact .cut h0
 | drop=>exact .drop
theorem AF.len {h:H}{a:Act}{cs:List V}(c:AF h a cs):cs.length=4:=by cases c<;>rfl
inductive EN (h:H):List Act->List V->Prop
 | nil:EN h [] []
 | cons {a:Act} {l:List Act} {cs r:List V} (c:AF h a cs) (t:EN h l r):EN h (a::l) (cs++r)
theorem EN.mono {h h':H}{l:List Act}{cs:List V}{F:List Lb}(c:EN h l cs)(m:Mod h h' F):EN h' l cs:=by
 induction c with
 | nil=>exact .nil
 | cons c _ ih=>exact .cons (c.mono m) ih
theorem EN.snoc {h:H}{l:List Act}{cs r:List V}{a:Act}(c:EN h l cs)(t:AF h a r):EN h (l++[a]) (cs++r):=by
 induction c with
 | nil=>have:=EN.cons t .nil;simpa using this
 | cons c _ ih=>rw [List.append_assoc];exact .cons c ih
theorem vz:∀(a b:List V),takeN a.length (a++b)=some a
 | [],b=>by simp [takeN]
 | x::a,b=>by simp only [List.length_cons,List.cons_append,takeN,vz a b,ob]
theorem vA:∀(a b:List V),bB a.length (a++b)=b
 | [],b=>by simp [bB]
 | x::a,b=>by simp [bB,vA a b]
theorem EN.get {h:H}{l:List Act}{cs:List V}(c:EN h l cs):∀{i:Nat} {a:Act},l[i]? =some a->∃r,rowFrom cs (i*4) 4=some r/\AF h a r:=by
 induction c with
 | nil=>intro i a h;simp at h
 | @cons b l cs r c _ ih=>
   intro i a hi;cases i with
   | zero=>
     simp at hi;subst hi;refine ⟨cs,?_,c⟩;have:=vz cs r;rw [c.len] at this;simpa [rowFrom,bB] using this
   | succ i=>
     obtain ⟨q,h1,h2⟩:=ih (i:=i) (by simpa using hi);refine ⟨q,?_,h2⟩;unfold rowFrom at h1 ⊢;rw [show (i+1)*4=4+i*4 by omega,<-rK (i*4) 4 (cs++r)];have:=vA cs r;rw [c.len] at this;rw [this];exact h1
theorem tQ {fs:List Fl}{k:List Nat}{f:Fl}(hf:oH fs k=some f):bL (said fs) k=some f.bytes:=by rw [fM,hf];rfl
theorem cC.set {h h':H}{lm:Lb}{fs:List Fl}{c:Nat}(F:cC h lm fs c){nm:List Nat}{f:Fl}(hf:oH fs nm=some f){v:V}{b:List Nat}(m:Mod h h' [f.aZ])(hc:h'.get f.aZ=some (.cells [v] dU 0 .yes))(hv:Ro h' 1 v b.length (ae b))(hb:Ig b):cC h' lm (r8 fs nm v b) c:=by
 obtain ⟨gi,si⟩:=qP hf;have fa:=F.file f gi;refine ⟨?_,by rw [EM];exact F.ok,λg hg=>?_,by rw [Tx];exact F.af⟩
 ·rw [EM]
  refine m.get F.map ?_;simp only [List.mem_singleton];intro e;have:=fa.cell;rw [<-e,F.map] at this;cases this
 ·unfold r8 at hg
  obtain ⟨q,sj,rfl⟩:=List.mem_map.1 hg;have fq:=F.file q sj
  by_cases hx:q.name=nm
  ·have:q=f:=by
    have:oH fs q.name=some q:=Qv F.ok.keys sj;rw [hx,hf] at this;exact (Option.some.inj this).symm
   subst this;rw [if_pos hx];exact ⟨hc,hv,hb⟩
  ·rw [if_neg hx]
   have Cb:q.aZ≠f.aZ:=λe=>by
    have:q=f:=TB F.af sj gi e;subst this;exact hx si
   exact ⟨m.get fq.cell (by simpa using Cb),fq.val.mono m,fq.ok⟩
theorem ZE {b:List Nat}(h:Ig b)(i:Nat):Ig (b.take i):=⟨by have:=h.1;rw [List.length_take];omega,λx hx=>h.2 x (List.mem_of_mem_take hx)⟩
theorem La {h:H}{lm:Lb}{fs:List Fl}{c:Nat}{a:Act}{cs:List V}(hw:Wf h)(F:cC h lm fs c)(ha:a.ok)(hc:AF h a cs){Q:V->H->Prop}
  (hq:∀h' po c',cC h' lm po c'->said po=a.run (said fs)->(∀f,f∈po->(∃g,g∈fs/\g.aZ=f.aZ)\/h.get f.aZ=none)->Mod h h' (lm::fs.map (·.aZ))->Wf h'->Q (.tuple []) h'):CW pf G0 eP [.map lm,.agg cs] h Q:=by
 cases hc with
 | wrote h0 hv=>exact TC hw F h0 ha.1 hv ha.2.1 ha.2.2 hq
 | drop=>
   exact V9 hw F λh' po F' s k m w=>hq h' po c F' s (λf hf=>.inl ⟨f,k f hf,rfl⟩) (m.mono λl o _ hl=>by simp at hl;subst hl;exact List.mem_cons_self ..) w
 | @cut nm i h0=>
   refine ZC hw F h0 (λh' hn m w=>hq h' fs c (F.mono m (by simp) (by simp)) ?_ (λf hf=>.inl ⟨f,hf,rfl⟩) (m.mono λ_ _ _ h=>by cases h) w) λf h' v hf dw hv m w=>?_
   ·have:bL (said fs) nm=none:=by rw [fM,hn];rfl
    simp only [Act.run,this]
   ·have hb:=ZE (F.file f (qP hf).1).ok i.toNat
    have hl:(f.bytes.take i.toNat).length=min i.toNat f.bytes.length:=List.length_take;refine hq h' (r8 fs nm v (f.bytes.take i.toNat)) c (F.set hf m dw (by rw [hl];exact hv) hb) ?_ (λg hg=>.inl ?_) (m.mono λl o _ hl=>by simp at hl;subst hl;exact List.mem_cons_of_mem _ (List.mem_map.2 ⟨f,(qP hf).1,rfl⟩)) w
    ·simp only [Act.run,tQ hf];exact Ty F.ok.keys hf
    ·unfold r8 at hg
     obtain ⟨q,sj,rfl⟩:=List.mem_map.1 hg;exact ⟨q,sj,by split<;>rfl⟩
end K
namespace K
open Go Go.Dx Go.RowKit
set_option maxRecDepth 100000
structure dR where
 room:Int
 ls:Lb
 ll:Lb
 lh:Lb
 seen:List Fl
 last:List Fl
 cs:Nat
 cl:Nat
 ch:Nat
 pv:V
 aH:List Act
 ac:List V
 held:bF
def dR.own (d:dR)(ld:Lb):List Lb:=ld::d.ls::d.ll::d.lh::(af d.pv++(d.seen++d.last).map (·.aZ))
structure bJ (h:H)(ld:Lb)(d:dR):Prop where
 cell:h.get ld=some (.cells [.int .i64 d.room,.map d.ls,.map d.ll,d.pv,.map d.lh] rZ 0 .yes)
 seen:cC h d.ls d.seen d.cs
 last:cC h d.ll d.last d.cl
 B7:aE h uY 4 d.pv d.aH.length d.ac
 aH:EN h d.aH d.ac
 oks:∀a,a∈d.aH->a.ok
 held:h.get d.lh=some (.map (cg d.held) d.ch)
 pX:fG d.held d.ch
 ints:∀e,e∈d.held->∃x:Int,e.2.1 = .int .i64 x
 ne1:d.ls≠d.ll
 ne2:d.ls≠d.lh
 ne3:d.ll≠d.lh
 af:((d.seen++d.last).map (·.aZ)).Nodup
def dC (m:bF)(k:List Nat):Int:=match cK m k with
 | some (.int _ x)=>x
 | _=>0
def hdo (m:bF)(c:Nat)(k:List Nat):Option (List Nat)->bF
 | some b=>dh m k (.int .i64 (max (dC m k) b.length)) c
 | none=>m
theorem _root_.Go.Dx.Uw.all {h:H}{n:Nat}{l:Lb}{K:V->Prop} {vs:List V} {e:TypeId} {fz:Nat} {own:Own} (hl:h.get l=some (.cells vs e fz own)) (hn:vs.length=n) (hk:K (.agg vs)):Uw h (.many n) l 0 K:=
 .of hl (by subst hn;have:=vz vs [];rw [List.append_nil] at this;simp only [dI,rowFrom,bB,this,ob]) hk
theorem AF.form {h:H}{a:Act}{cs:List V}(c:AF h a cs):∃k i vb nm,cs=[.int .i64 k,.str nm,.int .i64 i,vb]/\nm=a.nm/\bU vb=true:=by
 cases c with
 | wrote h0 hv=>exact ⟨_,_,_,_,rfl,rfl,hv.flat⟩
 | cut h0=>exact ⟨_,_,_,_,rfl,rfl,rfl⟩
 | drop=>exact ⟨_,_,_,_,rfl,rfl,rfl⟩
theorem cC.off {h:H}{lm:Lb}{fs:List Fl}{c:Nat}(F:cC h lm fs c){l:Lb}{o:Dx.Obj}(hg:h.get l=some o)(h1:∀es c,o≠.map es c) (h2:∀v,o≠.cells [v] dU 0 .yes):l∉lm::fs.map (·.aZ):=by
 intro hm;rcases List.mem_cons.1 hm with rfl | hm
 ·rw [F.map] at hg;exact h1 _ _ (Option.some.inj hg).symm
 ·obtain ⟨f,hf,rfl⟩:=List.mem_map.1 hm
  rw [(F.file f hf).cell] at hg;exact h2 _ (Option.some.inj hg).symm
theorem cC.Gt {h:H}{lm:Lb}{fs:List Fl}{c:Nat}(F:cC h lm fs c){l:Lb}{es:List (V×V×Nat)}{k:Nat}(hg:h.get l=some (.map es k))(dj:l≠lm):l∉lm::fs.map (·.aZ):=by
 intro hm;rcases List.mem_cons.1 hm with rfl | hm
 ·exact dj rfl
 ·obtain ⟨f,hf,rfl⟩:=List.mem_map.1 hm
  rw [(F.file f hf).cell] at hg;cases hg
theorem _root_.Go.Dx.aE.row {h:H}{e:TypeId}{size:Nat}{v:V}{n:Nat}{cs:List V}(o:aE h e size v n cs){l:Lb}(hl:l∈af v):∃cs,h.get l=some (.cells cs e 0 .yes):=by
 cases o with
 | nil=>simp [af] at hl
 | ends hg _=>simp only [af,List.mem_singleton] at hl;subst hl;exact ⟨_,hg⟩
 | exact hg _=>simp only [af,List.mem_singleton] at hl;subst hl;exact ⟨_,hg⟩
theorem cC.mF {h h':H}{lm:Lb}{fs:List Fl}{c:Nat}(F:cC h lm fs c){X:List Lb}(m:Mod h h' X)(hX:∀l,l∈X->l∉lm::fs.map (·.aZ)):cC h' lm fs c:=
 F.mono m (λhm=>hX _ hm (List.mem_cons_self ..)) λf hf hm=>hX _ hm (List.mem_cons_of_mem _ (List.mem_map.2 ⟨f,hf,rfl⟩))
theorem cC.beside {h h':H}{lm lm':Lb}{fs po:List Fl}{c c':Nat}(F:cC h lm fs c)(F':cC h lm' po c')(dj:lm≠lm')(hd:∀f,f∈fs->∀g,g∈po->f.aZ≠g.aZ) (m:Mod h h' (lm'::po.map (·.aZ))):cC h' lm fs c:=
 F.mono m (F'.Gt F.map dj) λf hf hm=>by
  rcases List.mem_cons.1 hm with e | hm
  ·have:=(F.file f hf).cell;rw [e,F'.map] at this;cases this
  ·obtain ⟨g,hg,e⟩:=List.mem_map.1 hm
   exact hd f hf g hg e.symm
theorem _root_.Go.Dx.RJ.held {h:H}{l:Lb}{m:bF}{c:Nat}{nm:List Nat}{K:V->Prop} (hg:h.get l=some (.map (cg m) c)) (hi:∀e,e∈m->∃x:Int,e.2.1 = .int .i64 x) (hk:∀x,x=dC m nm->K (.int .i64 x)):RJ h .str (.int .i64 0) false (.map l) (.str nm) K:=by
 cases e:cK m nm with
 | none=>exact .Fp hg e (hk 0 (by simp only [dC,e]))
 | some v=>
   obtain ⟨x,rfl⟩:∃x:Int,v = .int .i64 x:=by
    clear hk hg;induction m with
    | nil=>cases e
    | cons p r ih=>
      obtain ⟨k,w,b⟩:=p;simp only [cK] at e;split at e
      ·cases e;exact hi _ (List.mem_cons_self ..)
      ·exact ih (λe he=>hi e (List.mem_cons_of_mem _ he)) e
   exact .hit hg e (hk x (by simp only [dC,e]))
theorem X5 {h:H}{ld:Lb}{d:dR}{a:Act}{cs:List V}(hw:Wf h)(D:bJ h ld d)(ha:a.ok)(hc:AF h a cs)(hn:d.aH.length<=1000000000){Q:V->H->Prop}
  (hq:∀h' d',bJ h' ld d'->d'.room=d.room->said d'.seen=a.run (said d.seen)->d'.last=d.last->d'.aH=d.aH++[a]->d'.held=hdo d.held d.ch a.nm (bL (said d'.seen) a.nm)->
   (∀l,l∈d'.own ld->l∈d.own ld\/h.get l=none)->Mod h h' (d.own ld)->Wf h'->Q (.tuple []) h'):CW pf G0 qB [.ptr ld 0,.agg cs] h Q:=by
 obtain ⟨room,ls,ll,lh,seen,last,kcs,ZF,X6,pv,aH,ac,held⟩:=d;obtain ⟨D1,D2,D3,D4,D5,D6,D7,D8,D9,Xo,D11,ZG,V'⟩:=D;dsimp only at D1 D2 D3 D4 D5 D6 D7 D8 D9 Xo D11 ZG V' hn hq;obtain ⟨k0,i0,vb,nm,rfl,si,KZ⟩:=hc.form;refine KT.enter (by kernel_rfl) ?_;cbv;refine .agg ?_;cbv;refine .of hw λla h1 fS Bl ar aM=>?_;cbv;refine .of follows 4 ?_;cbv;refine .of (ar.get D1) rfl ?_;have U':=hc.mono ar;cbv;refine .of fS rfl ?_;cbv;refine La aM (D2.mono ar (by simp) (by simp)) ha U' λh2 fs2 cs2 F2 Oi oi aq aN=>?_;refine .nil ?_;have ajX:ld∉ls::seen.map (·.aZ):=D2.off D1 (λ_ _ e=>by cases e) (λ_ e=>by cases e);have ajY:∀l,l∈af pv->l∉ls::seen.map (·.aZ):=λl hl=>by
  obtain ⟨r,hr⟩:=D4.row hl;exact D2.off hr (λ_ _ e=>by cases e) (λ_ e=>by cases e)
 have atc:la∉ls::seen.map (·.aZ):=(D2.mono ar (by simp) (by simp)).off fS (λ_ _ e=>by cases e) (λ_ e=>by cases e);have E1:=aq.get (ar.get D1 (by simp)) ajX;have E4:=(D4.mono ar (by simp)).mono aq ajY;have anX:=aq.get fS atc;cbv;refine .of follows 4 ?_;cbv;refine .of E1 rfl ?_;cbv;refine .of anX rfl ?_;cbv;refine .agg ?_;cbv;refine .of aN λlb h3 Qt gG aF aR=>?_;refine .load (aF.get E1 (by simp)) rfl ?_;refine .nil ?_;have E1b:=aF.get E1 (by simp);have TD:=aF.get anX (by simp);have mD:Sl h3 4 (.slice lb 0 1 (.exact 1)) 1 [.int .i64 k0,.str nm,.int .i64 i0,vb]:=.row Qt rfl;refine .own aR (E4.mono aF (by simp)) mD.elems rfl (by simp [Dx.bd,bU];exact KZ) (by show _<=1099511627776;omega) (by decide) λpv2 h4 jv gr4 aD aQ=>?_;have anZ:ld∉af pv:=λhl=>by obtain ⟨r,hr⟩:=D4.row hl;rw [D1] at hr;cases hr
 have an0:la∉af pv:=λhl=>by obtain ⟨r,hr⟩:=D4.row hl;rw [Bl] at hr;cases hr
 have E1c:=aD.get E1b anZ;cbv;refine .nil ?_;refine .one aQ E1c jv.sl.flat rfl rfl rfl λh5 Bg aY bH=>?_;have V1:=(aF.trans aD).trans aY;have F5:=F2.mF V1 λl hl=>by
  simp only [List.nil_append,List.mem_append,List.mem_singleton] at hl;rcases hl with hl | rfl
  ·obtain ⟨r,hr⟩:=E4.row hl
   exact F2.off hr (λ_ _ e=>by cases e) (λ_ e=>by cases e)
  ·exact F2.off E1 (λ_ _ e=>by cases e) (λ_ e=>by cases e)
 have an1:la≠ld:=by rintro rfl;rw [D1] at Bl;cases Bl
 have ajZ:=aY.get (aD.get TD an0) (by simpa using an1);have atd:lh∉ls::seen.map (·.aZ):=D2.Gt D7 (Ne.symm D11);have an2:lh∉af pv:=λhl=>by obtain ⟨r,hr⟩:=D4.row hl;rw [D7] at hr;cases hr
 have ahV:lh≠ld:=by rintro rfl;rw [D1] at D7;cases D7
 have D7c:=V1.get (aq.get (ar.get D7 (by simp)) atd) (by simpa using ⟨an2,ahV⟩);have aL:=(ar.trans aq).trans V1;have fin:∀h6 Oj ch',h6.get lh=some (.map (cg Oj) ch')->fG Oj ch'->(∀e,e∈Oj->∃x:Int,e.2.1 = .int .i64 x)->Mod h5 h6 [lh]->Wf h6->Oj=hdo held X6 a.nm (bL (said fs2) a.nm)->Q (.tuple []) h6:=λh6 Oj ch' g1 g2 g3 m6 w6 g4=>by
  have m06:=aL.trans m6;have an4:∀l,l∈af pv->l∉ll::last.map (·.aZ):=λl hl=>by
   obtain ⟨r,hr⟩:=D4.row hl;exact D3.off hr (λ_ _ e=>by cases e) (λ_ e=>by cases e)
  have L2:=(D3.mono ar (by simp) (by simp)).beside (D2.mono ar (by simp) (by simp)) (Ne.symm Xo) (λf hf g hg e=>by
   rw [List.map_append,List.nodup_append] at V';exact V'.2.2 _ (List.mem_map.2 ⟨g,hg,rfl⟩) _ (List.mem_map.2 ⟨f,hf,rfl⟩) e.symm) aq
  have L6:=(L2.mF V1 λl hl=>by
   simp only [List.nil_append,List.mem_append,List.mem_singleton] at hl;rcases hl with hl | rfl
   ·exact an4 l hl
   ·exact D3.off D1 (λ_ _ e=>by cases e) (λ_ e=>by cases e)).mF m6 λl hl=>by
    rw [List.mem_singleton] at hl;subst hl;exact D3.Gt D7 (Ne.symm ZG)
  have o5:=jv.mono aY λl hl=>by
   obtain ⟨r,hr⟩:=jv.row hl;rw [List.mem_singleton];rintro rfl;rw [E1c] at hr;cases hr
  have o6:=o5.mono m6 λl hl=>by
   obtain ⟨r,hr⟩:=o5.row hl;rw [List.mem_singleton];rintro rfl;rw [D7c] at hr;cases hr
  refine hq h6 ⟨room,ls,ll,lh,fs2,last,cs2,ZF,ch',pv2,aH++[a],ac++[.int .i64 k0,.str nm,.int .i64 i0,vb],Oj⟩
   ⟨m6.get Bg (by simpa using Ne.symm ahV),F5.mF m6 (λl hl=>by rw [List.mem_singleton] at hl;subst hl;exact F5.Gt D7c (Ne.symm D11)),L6,by simpa using o6,(D5.mono m06).snoc (hc.mono m06),λb hb=>?_,g1,g2,g3,Xo,D11,ZG,?_⟩ rfl Oi rfl rfl g4 (λl hl=>?_) (m06.mono λl o _ hl=>?_) w6
  ·rcases List.mem_append.1 hb with hb | hb
   ·exact D6 b hb
   ·rw [List.mem_singleton] at hb;subst hb;exact ha
  ·rw [List.map_append,List.nodup_append]
   refine ⟨F2.af,D3.af,λx hx y hy e=>?_⟩;obtain ⟨f,hf,rfl⟩:=List.mem_map.1 hx;obtain ⟨g,hg,rfl⟩:=List.mem_map.1 hy;rcases oi f hf with ⟨q,sj,gV⟩ | eT
   ·rw [List.map_append,List.nodup_append] at V'
    exact V'.2.2 _ (List.mem_map.2 ⟨q,sj,rfl⟩) _ (List.mem_map.2 ⟨g,hg,rfl⟩) (gV.trans e)
   ·have:=ar.get ((D3.file g hg).cell) (by simp)
    rw [<-e,eT] at this;cases this
  ·simp only [dR.own,List.map_append,List.mem_cons,List.mem_append] at hl ⊢
   rcases hl with rfl | rfl | rfl | rfl | hl | hl | hl
   ·simp
   ·simp
   ·simp
   ·simp
   ·rcases gr4 l hl with hg | hg
    ·cases hx:h.get l with
     | none=>exact .inr rfl
     | some o=>
       left
       by_cases hm:l∈ls::seen.map (·.aZ)
       ·rcases List.mem_cons.1 hm with rfl | hm
        ·simp
        ·simp [hm]
       ·have:=aF.get (aq.get (ar.get hx (by simp)) hm) (by simp)
        rw [hg] at this;cases this
    ·exact .inl (by simp [hg])
   ·obtain ⟨f,hf,rfl⟩:=List.mem_map.1 hl
    rcases oi f hf with ⟨q,sj,gV⟩ | eT
    ·left
     have:f.aZ∈seen.map (·.aZ):=List.mem_map.2 ⟨q,sj,gV⟩;simp [this]
    ·right
     cases hx:h.get f.aZ with
     | none=>rfl
     | some o=>have:=ar.get hx (by simp);rw [eT] at this;cases this
   ·exact .inl (by simp [hl])
  ·simp only [dR.own,List.map_append,List.mem_cons,List.mem_append,List.nil_append,List.not_mem_nil,or_false] at hl ⊢
   rcases hl with ((rfl | hl) | hl | rfl) | rfl
   ·simp
   ·simp [hl]
   ·simp [hl]
   ·simp
   ·simp
 refine .nil ?_;cbv;refine .of follows 4 ?_;cbv;refine .of Bg rfl ?_;cbv;refine .of ajZ rfl ?_;cbv;refine .file F5 (λf hf gi fa=>?_) (λhf=>?_)
 ·have gG:=tQ hf
  have dw:=fa.cell;have eA:=fa.val;have gC:=fa.ok.1;generalize OZ:f.aZ=lf at*;generalize f.val=fv at*;generalize f.bytes=fbs at*;cbv;refine .of follows 4 ?_;cbv;refine .of Bg rfl ?_;cbv;refine .of ajZ rfl ?_;cbv;refine .of Bg rfl ?_;cbv;refine .of ajZ rfl ?_;cbv;refine .held D7c D9 λx hx=>?_;cbv;refine .of dw rfl ?_;cbv;refine .of eA.sl λn eT Fj=>?_;cbv;refine .of λy hy=>?_;cbv;refine .of bH D7c λh6 Gu bP cy=>?_;cbv;refine .nil ?_;cbv;refine fin h6 _ _ Gu (D8.set nm _) (λe he=>?_) bP cy ?_
  ·rcases ki he with he | ⟨_,he,_⟩
   ·exact D9 e he
   ·exact ⟨y,he⟩
  ·rw [<-si,gG]
   show _=dh held nm (.int .i64 (max (dC held nm) fbs.length)) X6
   rw [hy,hx,show n=(fbs.length:Int) by omega]
 ·cbv
  exact fin h5 held X6 D7c D8 D9 (Mod.refl _ _) bH (by rw [<-si,fM,hf];rfl)
end K
namespace K
open Go Go.Dx Go.RowKit Go.Proofs
set_option maxRecDepth 100000
theorem _root_.Go.Dx.Grow.dG {h:H}{s v:V}(g:Grow h s v){x:Lb}{o:Dx.Obj}(e:h.get x=some o)(n:x∉af s):x∉af v:=λhx=>(g x hx).elim (λa=>by rw [e] at a;cases a) n
theorem _root_.Go.Dx.Fr.UD {h:H}{v:V}(f:Fr h v){p:Lb}{o:Dx.Obj}(e:h.get p=some o):p∉af v:=λhl=>by rw [f p hl] at e;cases e
theorem Fr.EO (h:H)(c:Nat):Fr h (.nilSlice c):=λl hl=>by simp [af] at hl
theorem nS.five {h:H}{t:Js}{cs:List V}(j:nS h t cs):∃a b c d e,cs=[a,b,c,d,e]:=by
 cases j with
 | mk ht CT Na UC h5 hn hi hr=>exact ⟨_,_,_,_,_,rfl⟩
def VS (n:Nat):Prop:=∀{h:H} {p:Lb} {s:List Nat} {i deep:Int},Wf h->lM h p s i->s.length - i.toNat<n->0<=deep->deep<=16->∀{Q Pn:V->H->Prop},(∀t cs j h',i<=j->lM h' p s j->nS h' t cs->Mod h h' [p]->Wf h'->Q (.agg cs) h')->(∀v h',X0 v->Mod h h' [p]->Wf h'->Pn v h')->
 CX pf G0 nH [.ptr p 0,.int .i64 deep] h Q Pn
theorem aj0 {n:Nat}(ih:VS n){h:H}{p:Lb}{s:List Nat}{i deep:Int}(hw:Wf h)(hp:lM h p s i)(hn:s.length - i.toNat<n)(sq:0<=deep)(hd:deep<=16){Q Pn:V->H->Prop} (hq:∀t cs j h',i<j->lM h' p s j->nS h' t cs->Mod h h' [p]->Wf h'->Q (.agg cs) h') (hx:∀v h',X0 v->Mod h h' [p]->Wf h'->Pn v h'):
  CX pf G0 oW [.ptr p 0,.int .i64 deep] h Q Pn:=by
 have IB:=hp.lo;have HP:=hp.hi;have qY:=hp.small;refine CW.pQ ?_;refine Aw.oo (by kernel_rfl) ?_;cbv;refine .of hw λlr h1 TE dt ar aM=>?_;cbv;refine .flat rfl ?_;cbv;refine .of aM λlv h2 hv2 CV aq aN=>?_;cbv;refine .of aN hv2 rfl rfl rfl rfl rfl rfl λh3 Qx aF aR=>?_;have Ii:lr≠lv:=λe=>by subst e;rw [TE] at CV;cases CV
 have yH:lr≠p:=λe=>by subst e;rw [hp.get] at dt;cases dt
 have Mh:lv≠p:=λe=>by subst e;rw [ar.get hp.get] at CV;cases CV
 have Ng:h.get lv=none:=by
  cases e:h.get lv with
  | none=>rfl
  | some o=>rw [ar.get e] at CV;cases CV
 have zA:lM h3 p s i:=((hp.mono ar).mono aq).mono aF (by simpa using Ne.symm Mh);have ug:=aF.get (aq.get TE) (by simpa using Ii);have aJ:Mod h h3 [p]:=((ar.trans aq).fr aF (λl hl=>by simp at hl;subst hl;exact .inl Ng)).mono λl o _ hl=>by simp at hl
 cbv;refine .Hv <| nO aR zA λj4 h4 Gq pH aD aQ=>?_;have ay:Mod h h4 [p]:=(aJ.trans aD).mono λl o _ hl=>by simpa using hl
 have xe:=aD.get ug (by simpa using yH);have hv4:=aD.get Qx (by simpa using Mh);cbv;refine vw pH (λy c atf hc CU hyc=>?_) λv hv=>?_
 ·cbv;refine .eq (λe=>?_) λe=>?_
  ·cbv;refine .of pH.get rfl ?_
   cbv;refine .add (by omega) (by omega) λk hk=>?_;cbv;refine .of aQ pH.get rfl rfl rfl rfl rfl rfl λh5 we aY bH=>?_;cbv;refine .of (aY.get hv4 (by simpa using Mh)) rfl ?_;cbv;refine .of bH (aY.get xe (by simpa using yH)) rfl rfl rfl rfl rfl rfl λh6 Qu bP cy=>?_;cbv;refine .of Qu rfl ?_;cbv;refine ⟨h6,.refl _,hq _ _ k h6 (by omega) ?_ (nS.zero h6 4 0 bt.nil) ?_ cy⟩
   ·exact lM.mono ⟨we,by omega,by omega,qY,hp.Gp⟩ bP (by simpa using Ne.symm yH)
   ·exact ((ay.trans aY).fr bP (λl hl=>by simp at hl;subst hl;exact .inl dt)).mono λl o _ hl=>by simpa using hl
  ·cbv
   refine .inv [p0,p1,p4,p5] (λm' aC h'=>∃(iv:V) (its:List Js) (rows:List V) (j:Int),aC=[.ptr p 0,.int .i64 deep,.ptr lr 0,.ptr lv 0]/\h'.get lr=some (.cells [.int .i64 0,.int .i64 0,.str [],.nilSlice 0,.nilSlice 0] bK 0 .yes)/\h'.get lv=some (.cells [.int .i64 4,.int .i64 0,.str [],.nilSlice 0,iv] bK 0 .yes)/\
    aE h' bK 5 iv its.length rows/\oF h' its rows/\Fr h iv/\lr∉af iv/\lv∉af iv/\its.length<=j.toNat/\i<=j/\m'=s.length - j.toNat/\lM h' p s j/\Mod h h' [p]/\Wf h') [_,_,_,_] rfl _ ⟨.nilSlice 0,[],[],j4,rfl,xe,hv4,.nil,.nil,Fr.EO _ _,by simp [af],by simp [af],by simp,Gq,rfl,pH,ay,aQ⟩ ?_
   rintro m' _ h5 ⟨iv,its,rows,j,rfl,Iu,hv5,kh,ZH,IL,an5,an6,hlen,zO,dY,Hw,aL,bH⟩;have atg:=Hw.lo;have ath:=Hw.hi;cbv;refine .of follows 8 ?_;cbv;refine .of hv5 rfl ?_;cbv;refine ih bH Hw (by omega) sq hd (λt cs j6 h6 an7 fu hj6 bP cy=>?_) λv h6 hv bP cy=>?_
   ·have hv6:=bP.get hv5 (by simpa using Mh)
    have vP:=bP.get Iu (by simpa using yH);have bT:Mod h h6 [p]:=(aL.trans bP).mono λl o _ hl=>by simpa using hl
    have pZ:=kh.mono bP (IL.ne hp.get);have ati:=ZH.mono bP;have aCp:=fu.hi;have atj:=hj6.bd;obtain ⟨a1,a2,a3,a4,a5,rfl⟩:=hj6.five;cbv;refine .load hv6 rfl (.nil ?_);cbv;refine .agg ?_;cbv;refine .of cy λl7 h7 xj hf7 cH eu=>?_;have Qy:=cH.get hv6;have Nz:=cH.get vP;have hp7:=fu.mono cH;have cM:Mod h h7 [p]:=(bT.trans cH).mono λl o _ hl=>by simpa using hl
    have Ma:=pZ.mono cH;cbv;refine .load Qy rfl (.nil ?_);cbv;refine .own eu Ma (m:=1) (new:=_) (by simp only [de,xj];rfl) rfl atj (by unfold bz;omega) (by decide) λiv8 h8 sd O0 cO ew=>?_;have hv8:=cO.get Qy an6;have hr8:=cO.get Nz an5;have hp8:=hp7.mono cO (IL.UD hp.get);have dL:Mod h h8 [p]:=cM.fr cO (λl hl=>.inl (IL l hl));have Nh:Fr h iv8:=O0.frp cM hp7.get IL;have ahW:=O0.dG Nz an5;have ahX:=O0.dG Qy an6;have atl:=((ati.mono cH).mono cO).snoc ((hj6.mono cH).mono cO);cbv;refine .nil ?_;refine .one ew hv8 sd.sl.flat rfl rfl rfl λh9 hv9 eU pd=>?_;have Jl:=sd.mono eU (λl hl hm=>ahX (by simp at hm;subst hm;exact hl));have hr9:=eU.get hr8 (by simpa using Ii);have hp9:=hp8.mono eU (by simpa using Ne.symm Mh);have atn:=atl.mono eU;have pJ:Mod h h9 [p]:=(dL.fr eU (λl hl=>by simp at hl;subst hl;exact .inl Ng));have ato:its.length+1=(its++[t]).length:=by simp
    rw [ato] at Jl;generalize its++[t]=an9 at*;generalize rows++_=an' at*;cbv;refine .nil ?_;cbv;refine .Hv <| nO pd hp9 λj10 vM aoa adk gZ sU=>?_;have atp:=gZ.get hv9 (by simpa using Mh);have agh:=gZ.get hr9 (by simpa using yH);have l5:Mod h vM [p]:=(pJ.trans gZ).mono λl o _ hl=>by simpa using hl
    have yI:=Jl.mono gZ (Nh.ne hp.get);have adl:=atn.mono gZ;cbv;refine yF sU adk (λx c UN aob atq lN hxc _ ZI pg De=>?_) λv hv=>?_
    ·have ZJ:=pg.get atp (by simpa using Mh)
     have Wa:=pg.get agh (by simpa using yH);have Ol:Mod h UN [p]:=(l5.trans pg).mono λl o _ hl=>by simpa using hl
     have Bq:=yI.mono pg (Nh.ne hp.get);have ahY:=adl.mono pg;have aye:=adk.hi;cbv;refine .eq (λe=>?_) λe=>?_
     ·cbv;refine .of ZJ rfl ?_
      cbv;refine .of (cs:=[.int .i64 4,.int .i64 0,.str [],.nilSlice 0,iv8]) De Wa rfl rfl rfl rfl (by show (true&&(true&&(true&&(true&&(bU iv8&&true)))))=true;rw [Bq.sl.flat];rfl) rfl λIp aj1 kd O1=>?_;have abO:=Bq.mono kd (λl hl hm=>ahW (by simp at hm;subst hm;exact hl));have Om:Mod h Ip [p]:=Ol.fr kd (λl hl=>by simp at hl;subst hl;exact .inl dt);obtain ⟨h13,l13,atr,m13,w13⟩:=abO.freeze O1;have aj2:lM h13 p s (j10+1):=(ZI.mono kd (by simpa using Ne.symm yH)).mono m13 (Nh.UD hp.get);have adn:Mod h h13 [p]:=Om.fr m13 (λl hl=>.inl (Nh l hl));have aoc:=(ahY.mono kd).mono m13;cbv;refine .of aj1 rfl ?_;cbv;exact ⟨h13,l13,hq (.mk 4 0 [] [] an9) _ _ h13 (by omega) aj2 (.mk bt.nil (by simp) (by simp) (by omega) (λe=>by cases e) .nil atr aoc) adn w13⟩
     ·cbv;exact ⟨rfl,s.length - (j10+1).toNat,by omega,iv8,an9,an',j10+1,rfl,Wa,ZJ,Bq,ahY,Nh,ahW,ahX,by omega,by omega,rfl,ZI,Ol,De⟩
    ·cbv;exact hx v vM hv l5 sU
   ·cbv;exact hx v h6 hv ((aL.trans bP).mono λl o _ hl=>by simpa using hl) cy
 ·cbv;exact hx v h4 hv ay aQ
end K
