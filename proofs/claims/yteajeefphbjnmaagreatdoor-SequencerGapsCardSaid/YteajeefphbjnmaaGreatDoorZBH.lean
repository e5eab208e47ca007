/-
  The sequencer's laws. Part ZBH of the proof: A run of the machine on a heap of its own, and what it leaves laid beside what there is, under other labels.
-/
import Derived.KernelRfl
import Derived.Test.YteajeefphbjnmaaGreatDoorZBG
import Derived.Test.YteajeefphbjnmaaGreatDoorZAY
import Derived.Test.YteajeefphbjnmaaGreatDoorZAK
import Derived.Test.YteajeefphbjnmaaGreatDoorZBF
namespace Go.Dx
open Go Go.RowKit
def aZ:Nat->Lb
 | 0=>[]
 | n+1=>inc (aZ n)
theorem eS:∀n,val (aZ n)=n
 | 0=>rfl
 | n+1=>by rw [aZ,iG,eS n]
theorem Yv {m n:Nat}(h:aZ m=aZ n):m=n:=by rw [<-eS m,h,eS]
def QY (l:Lb):Bool:=na l (aZ (val l))
theorem zG {l:Lb}(h:QY l=true):l=aZ (val l):=jg h
mutual
def Io:V->Bool
 | .ptr l _=>QY l
 | .slice l _ _ _=>QY l
 | .map l=>QY l
 | .func _ a b=>wh a&&wh b
 | .iface _ v=>Io v
 | .agg l=>wh l
 | .tuple l=>wh l
 | .sym _ _=>false
 | _=>true
def wh:List V->Bool
 | []=>true
 | v::r=>Io v&&wh r
end
mutual
def shV (s:Lb->Lb):V->V
 | .ptr l o=>.ptr (s l) o
 | .slice l o n c=>.slice (s l) o n c
 | .map l=>.map (s l)
 | .func f a b=>.func f (GM s a) (GM s b)
 | .iface t v=>.iface t (shV s v)
 | .agg l=>.agg (GM s l)
 | .tuple l=>.tuple (GM s l)
 | v=>v
def GM (s:Lb->Lb):List V->List V
 | []=>[]
 | v::r=>shV s v::GM s r
end
structure aez (b c:dZ):Prop where
 block:c.block=b.block
 base:c.base=b.base
 total:c.total=b.total
def aeA (ρ ρ':bE)(s:Lb->Lb):Prop:=∀l b,ρ l=some b->l=aZ (val l)->∃c,ρ' (s l)=some c/\aez b c
mutual
theorem RV.sh {ρ ρ':bE}{s:Lb->Lb} (S:aeA ρ ρ' s):∀{v:V} {x:Value},RV ρ v x->Io v=true->RV ρ' (shV s v) x
 | _,_,.bool b,_=>.bool b
 | _,_,.int k n,_=>.int k n
 | _,_,.str t,_=>.str t
 | _,_,.nilPtr,_=>.nilPtr
 | _,_,.ptr off h,hn=>by
   obtain ⟨c,h1,h2⟩:=S _ _ h (zG hn);have:=RV.ptr off h1;rw [h2.block,h2.base] at this;exact this
 | _,_,.nilSlice c,_=>.nilSlice c
 | _,_,.slice off len c h,hn=>by
   obtain ⟨d,h1,h2⟩:=S _ _ h (zG hn);have:=RV.slice off len c h1;rw [h2.block,h2.base] at this;exact this
 | _,_,.sliceEnd off len size c h hl hc,hn=>by
   obtain ⟨d,h1,h2⟩:=S _ _ h (zG hn);have:=RV.sliceEnd off len size c h1 hl (by rw [h2.base,h2.total];exact hc);rw [h2.block,h2.base] at this;exact this
 | _,_,.aP,_=>.aP
 | _,_,.map h,hn=>by
   obtain ⟨d,h1,h2⟩:=S _ _ h (zG hn);have:=RV.map h1;rw [h2.block] at this;exact this
 | _,_,.func f ha hb,hn=>by
   simp only [Io,Bool.and_eq_true] at hn;exact .func f (cU.sh S ha hn.1) (cU.sh S hb hn.2)
 | _,_,.nilFunc,_=>.nilFunc
 | _,_,.iface t h,hn=>.iface t (RV.sh S h (by simpa [Io] using hn))
 | _,_,.nilIface,_=>.nilIface
 | _,_,.agg h,hn=>.agg (cU.sh S h (by simpa [Io] using hn))
 | _,_,.tuple h,hn=>.tuple (cU.sh S h (by simpa [Io] using hn))
 | _,_,.sym h ht hv,hn=>by simp [Io] at hn
 | _,_,.any h,_=>.any h
 | _,_,.empty a c,_=>.empty a c
 | _,_,.lG h1 h2,_=>.lG h1 h2
theorem cU.sh {ρ ρ':bE}{s:Lb->Lb} (S:aeA ρ ρ' s):∀{v:List V} {x:List Value},cU ρ v x->wh v=true->cU ρ' (GM s v) x
 | _,_,.nil,_=>.nil
 | _,_,.cons h hs,hn=>.cons (RV.sh S h (by simp only [wh,Bool.and_eq_true] at hn;exact hn.1)) (cU.sh S hs (by simp only [wh,Bool.and_eq_true] at hn;exact hn.2))
end
theorem Ug (s:Lb->Lb):∀l:List V,(GM s l).length=l.length
 | []=>rfl
 | v::r=>by simp [GM,Ug s r]
theorem Uh (s:Lb->Lb):∀(l:List V) (i:Nat) (v:V),(GM s l)[i]? =some v->∃u,l[i]? =some u/\v=shV s u
 | [],i,v,h=>by simp [GM] at h
 | u::r,0,v,h=>by simp [GM] at h;exact ⟨u,rfl,h.symm⟩
 | u::r,i+1,v,h=>by simpa using Uh s r i v (by simpa [GM] using h)
theorem OT:∀(l:List V) (i:Nat) (v:V),wh l=true->l[i]? =some v->Io v=true
 | [],i,v,_,h=>by simp at h
 | u::r,0,v,hc,h=>by simp only [wh,Bool.and_eq_true] at hc;simp at h;subst h;exact hc.1
 | u::r,i+1,v,hc,h=>by simp only [wh,Bool.and_eq_true] at hc;exact OT r i v hc.2 (by simpa using h)
def alu (s:Lb->Lb):List (V×V×Nat)->List (V×V×Nat)
 | []=>[]
 | (k,v,b)::r=>(shV s k,shV s v,b)::alu s r
def Yw:List (V×V×Nat)->Bool
 | []=>true
 | (k,v,_)::r=>Io k&&Io v&&Yw r
theorem pj.sh {ρ ρ':bE}{s:Lb->Lb} (S:aeA ρ ρ' s) {es:List (V×V×Nat)} {ms:List MapEntry} (h:pj ρ es ms):Yw es=true->pj ρ' (alu s es) ms:=by
 induction h with
 | nil=>exact λ_=>.nil
 | cons hk hv hn _ ih=>
   intro hc;simp only [Yw,Bool.and_eq_true] at hc;exact .cons (hk.sh S hc.1.1) (hv.sh S hc.1.2) hn (ih hc.2)
def shO (s:Lb->Lb):Obj->Obj
 | .cells vs e fz own=>.cells (GM s vs) e fz own
 | .map es c=>.map (alu s es) c
 | o=>o
def Ui:Obj->Bool
 | .cells vs _ _ own=>wh vs&&own.may
 | .map es _=>Yw es
 | _=>false
theorem HK {o:Obj}(h:Ui o=true):o.writes=true:=by
 cases o with
 | cells vs e fz own=>simp only [Ui,Bool.and_eq_true] at h;exact h.2
 | map es c=>rfl
 | _=>simp [Ui] at h
theorem sf.sh {ρ ρ':bE}{s:Lb->Lb} (S:aeA ρ ρ' s) {b c:dZ} (hb:aez b c) {w:World} {o:Obj} (h:sf ρ b w o) (hc:Ui o=true):sf ρ' c w (shO s o):=by
 cases o with
 | cells vs e fz own=>
   simp only [Ui,Bool.and_eq_true] at hc;refine ⟨by rw [hb.block,hb.total];exact h.shape,by rw [hb.base,hb.total,Ug];exact h.fits,λi v hv=>?_,λho i=>?_,λho=>by rw [hb.block,hb.base];exact h.bare ho⟩
   ·obtain ⟨u,h1,rfl⟩:=Uh s _ _ _ hv
    obtain ⟨x,h2,h3⟩:=h.cell i u h1;refine ⟨x,?_,h3.sh S (OT _ _ _ hc.1 h1)⟩;unfold cZ at h2 ⊢;rw [hb.block,hb.base];exact h2
   ·rw [hb.block,hb.base,hb.total];exact h.free ho i
 | map es k=>
   obtain ⟨ms,h1,h2⟩:=h;exact ⟨ms,by rw [hb.block];exact h1,h2.sh S hc⟩
 | _=>simp [Ui] at hc
section
variable {pf:Unit->Program} {G:Nat} {f:FuncId} {args:List V} {h:H}
def Uj:List (Lb×Obj)->T Obj->T Obj
 | [],t=>t
 | (l,o)::r,t=>(Uj r t).set l (some o)
theorem Yx:∀{r:List (Lb×Obj)} {t:T Obj} {l:Lb},(∀p∈r,p.1≠l)->(Uj r t).get l=t.get l
 | [],t,l,_=>rfl
 | (m,o)::r,t,l,h=>by
   simp only [Uj];rw [T.br _ _ _ _ (h (m,o) (by simp))];exact Yx λp hp=>h p (by simp [hp])
theorem Uk:∀{r:List (Lb×Obj)} {t:T Obj},(r.map (·.1)).Nodup->∀p∈r,(Uj r t).get p.1=some p.2
 | (m,o)::r,t,hn,p,hp=>by
   simp only [List.map_cons,List.nodup_cons] at hn;simp only [Uj];rcases List.mem_cons.1 hp with rfl | hp
   ·rw [T.bg]
   ·have dj:m≠p.1:=λe=>hn.1 (e▸List.mem_map_of_mem hp)
    rw [T.br _ _ _ _ dj];exact Uk hn.2 p hp
theorem Ul:∀{r:List (Lb×Obj)} {t:T Obj} {l:Lb} {o:Obj},(Uj r t).get l=some o->(l,o)∈r\/((∀p∈r,p.1≠l)/\t.get l=some o)
 | [],t,l,o,h=>.inr ⟨by simp,h⟩
 | (m,q)::r,t,l,o,h=>by
   simp only [Uj] at h
   by_cases e:m=l
   ·subst e
    rw [T.bg] at h;cases h;exact .inl (by simp)
   ·rw [T.br _ _ _ _ e] at h
    rcases Ul h with g | ⟨g1,g2⟩
    ·exact .inl (by simp [g])
    ·refine .inr ⟨λp hp=>?_,g2⟩
     rcases List.mem_cons.1 hp with rfl | hp
     ·exact e
     ·exact g1 p hp
def ag5 (ρ ρ0:bE)(G n:Nat):bE:=λL=>if val L<n then ρ L else if L=aZ (val L) then (ρ0 (aZ (val L - n+G))).map λb=>{b with val:=.nilFunc} else none
def GN (G n:Nat)(l:Lb):Lb:=if val l<G then l else aZ (val l - G+n)
theorem CW.aeB {vQ:je}(SC:nq (pf ()) G vQ)(hG:∀g,g<G->aZ g=pathOf g) {gl outs:List (Lb×Obj)} {v:V} {h0':H} (dW:vQ f args {t:=ofL gl,next:=aZ G} =some (v,h0')) (aqe:CP args=true)
  (hgl:∀l o,(l,o)∈gl->val l<G/\l=aZ (val l)/\h.get l=some o/\∃vs e fz,o = .cells vs e fz .no/\mU G vs=true)
  (yV:∀p∈outs,h0'.get p.1=some p.2/\G<=val p.1/\val p.1<val h0'.next/\p.1=aZ (val p.1)/\Ui p.2=true) (Rl:(outs.map (·.1)).Nodup) (hv:Io v=true) (hw:Wf h) {Q:V->H->Prop}
  (hq:∀k' (s:Lb->Lb),(∀p∈outs,k'.get (s p.1)=some (shO s p.2))->(∀p∈outs,h.get (s p.1)=none)->(∀p∈outs,∀q∈outs,s p.1=s q.1->p.1=q.1)->Mod h k' []->Wf k'->Q (shV s v) k'):CW pf G f args h Q:=by
 refine .mk λ{B w0 ρ w xs} R hGB hx=>?_;obtain ⟨n,hn⟩:∃n,n=val h.next:=⟨_,rfl⟩;have hGR:=hGB.rel;have hGn:G<=n:=by
  rcases Nat.eq_zero_or_pos G with e | e
  ·omega
  ·obtain ⟨m,hm⟩:=hGR (G - 1) (by omega)
   have:=R.lt _ _ hm;rw [<-hG _ (by omega),eS] at this;omega
 obtain ⟨ρ0,aqf⟩:∃ρ0:bE,ρ0=λl=>if val l<G/\l=pathOf (val l) then ρ l else none:=⟨_,rfl⟩
 have aaO:∀{l b},ρ0 l=some b->val l<G/\l=pathOf (val l)/\ρ l=some b:=λ{l b} e=>by
  rw [aqf] at e;dsimp only at e;split at e
  ·rename_i c;exact ⟨c.1,c.2,e⟩
  ·cases e
 have same:IT G ρ ρ0:=λl h1 h2=>by rw [aqf];exact if_pos ⟨h1,h2⟩
 have aEF:∀{l},val l<G->l=aZ (val l)->l=pathOf (val l):=λ{l} h1 h2=>by rw [<-hG _ h1];exact h2
 have hG0:gv ρ0 G:=λg hg=>by
  obtain ⟨m,hm⟩:=hGR g hg;refine ⟨m,?_⟩;have e:=hG g hg;rw [<-e] at hm ⊢;rw [same (aZ g) (by rw [eS];exact hg) (by rw [eS];exact e)];exact hm
 have R0:aA w.heap.size w ρ0 {t:=ofL gl,next:=aZ G} w:=by
  refine ⟨λl b o hl hg=>?_,λl b hl=>?_,λl b hl=>?_,λl m b c hl hm il im e=>?_,λl b o hl hg hwr=>?_,Nat.le_refl _,Below.refl _ _⟩
  ·obtain ⟨_,_,h3,vs,e,fz,rfl,h5⟩:=hgl l o (EZ hg)
   have c:dO ρ b vs e fz .no w:=R.obj l b _ (aaO hl).2.2 h3;refine ⟨c.shape,c.fits,λi v' Me=>?_,(λhh=>by cases hh),(λhh=>by cases hh)⟩;obtain ⟨x,h6,h7⟩:=c.cell i v' Me;exact ⟨x,h6,h7.low (HJ _ _ _ h5 Me) same⟩
  ·show val l<val (aZ G)
   rw [eS];exact (aaO hl).1
  ·obtain ⟨h1,h2,h3⟩:=aaO hl
   obtain ⟨m,hm⟩:=hGR (val l) h1;rw [<-h2,h3] at hm;cases hm;exact ⟨rfl,.nil rfl⟩
  ·obtain ⟨o1,h1⟩:=Option.isSome_iff_exists.1 il
   obtain ⟨o2,h2⟩:=Option.isSome_iff_exists.1 im;obtain ⟨_,_,g1,_⟩:=hgl l o1 (EZ h1);obtain ⟨_,_,g2,_⟩:=hgl m o2 (EZ h2);exact R.inj l m b c (aaO hl).2.2 (aaO hm).2.2 (by rw [g1];rfl) (by rw [g2];rfl) e
  ·obtain ⟨_,_,_,vs,e,fz,rfl,_⟩:=hgl l o (EZ hg)
   cases hwr
 have key:=SC dW R0 hG0 (cU.tZ hx aqe);refine key.mono λx w' ⟨Um,S0,hv0,R0'⟩=>?_;have Lq:Below w.heap.size w w':=R0'.below;have Rw:=R.under Lq;have awZ:∀l,val l<G->Um l=ρ0 l:=λl hl=>S0.old l (by show val l<val (aZ G);rw [eS];exact hl);obtain ⟨ρ',alx⟩:∃ρ',ρ'=ag5 ρ Um G n:=⟨_,rfl⟩;have rlt:∀{L},val L<n->ρ' L=ρ L:=λ{L} hL=>by rw [alx];unfold ag5;rw [if_pos hL]
 have rge:∀{l},G<=val l->l=aZ (val l)->ρ' (GN G n l)=(Um l).map λb=>{b with val:=.nilFunc}:=λ{l} h1 h2=>by
  have e:GN G n l=aZ (val l - G+n):=by unfold GN;rw [if_neg (by omega)]
  rw [alx,e];unfold ag5;rw [eS,if_neg (by omega),if_pos rfl,show val l - G+n - n+G=val l by omega,<-h2]
 have inv:∀{L b},ρ' L=some b->(val L<n/\ρ L=some b)\/(n<=val L/\L=aZ (val L)/\∃c,Um (aZ (val L - n+G))=some c/\b = {c with val:=.nilFunc}):=λ{L b} e=>by
  rw [alx] at e;unfold ag5 at e;split at e
  ·rename_i h1;exact .inl ⟨h1,e⟩
  ·rename_i h1
   split at e
   ·rename_i h2
    cases hc:Um (aZ (val L - n+G)) with
    | none=>rw [hc] at e;cases e
    | some c=>rw [hc] at e;cases e;exact .inr ⟨by omega,h2,c,rfl,rfl⟩
   ·cases e
 have E:jI ρ ρ':=λl b e=>by rw [rlt (by rw [hn];exact R.lt l b e)];exact e
 have SH:aeA Um ρ' (GN G n):=λl b e hc=>by
  by_cases hl:val l<G
  ·refine ⟨b,?_,⟨rfl,rfl,rfl⟩⟩
   have e':GN G n l=l:=by unfold GN;rw [if_pos hl]
   rw [e',rlt (by omega)];rw [awZ l hl] at e;exact (aaO e).2.2
  ·exact ⟨{b with val:=.nilFunc},by rw [rge (by omega) hc,e];rfl,⟨rfl,rfl,rfl⟩⟩
 obtain ⟨os,hos⟩:∃os:List (Lb×Obj),os=outs.map λp=>(GN G n p.1,shO (GN G n) p.2):=⟨_,rfl⟩;obtain ⟨k',G6⟩:∃k':H,k' = {t:=Uj os h.t,next:=aZ (n+(val h0'.next - G))}:=⟨_,rfl⟩;have aeC:∀{l},G<=val l->val (GN G n l)=val l - G+n:=λ{l} hl=>by unfold GN;rw [if_neg (by omega),eS]
 have osm:∀{L o},(L,o)∈os->∃p∈outs,L=GN G n p.1/\o=shO (GN G n) p.2:=λ{L o} hm=>by
  rw [hos] at hm;obtain ⟨p,hp,e⟩:=List.mem_map.1 hm;cases e;exact ⟨p,hp,rfl,rfl⟩
 have osl:∀{L o},(L,o)∈os->n<=val L:=λ{L o} hm=>by
  obtain ⟨p,hp,rfl,_⟩:=osm hm;obtain ⟨_,h2,_⟩:=yV p hp;rw [aeC h2];omega
 have aqg:∀p∈outs,∀q∈outs,GN G n p.1=GN G n q.1->p.1=q.1:=λp hp q aU e=>by
  obtain ⟨_,a2,_,a4,_⟩:=yV p hp;obtain ⟨_,b2,_,b4,_⟩:=yV q aU;have:=congrArg val e;rw [aeC a2,aeC b2] at this;rw [a4,b4,show val p.1=val q.1 by omega]
 have ond:(os.map (·.1)).Nodup:=by
  rw [hos,List.map_map];exact List.pairwise_map.2 ((List.pairwise_map.1 Rl).imp_of_mem λ{p q} hp aU dj e=>dj (aqg p hp q aU e))
 have aw0:∀p∈outs,k'.get (GN G n p.1)=some (shO (GN G n) p.2):=λp hp=>by
  rw [G6];exact Uk (t:=h.t) ond (GN G n p.1,shO (GN G n) p.2) (by rw [hos];exact List.mem_map.2 ⟨p,hp,rfl⟩)
 have aaP:∀{l},val l<n->k'.get l=h.get l:=λ{l} hl=>by
  rw [G6];exact Yx λp hp e=>by have:=osl (L:=p.1) (o:=p.2) hp;rw [e] at this;omega
 have aqh:∀{l o},k'.get l=some o->(∃p∈outs,l=GN G n p.1/\o=shO (GN G n) p.2)\/(val l<n/\h.get l=some o):=λ{l o} hg=>by
  rw [G6] at hg;rcases Ul (t:=h.t) hg with g | ⟨_,g⟩
  ·exact .inl (osm g)
  ·exact .inr ⟨by rw [hn];exact hw l (by show (h.t.get l).isSome=true;rw [g];rfl),g⟩
 have dt:∀p∈outs,h.get (GN G n p.1)=none:=λp hp=>by
  cases hg:h.get (GN G n p.1) with
  | none=>rfl
  | some o=>
    have:=hw (GN G n p.1) (by rw [hg];rfl);obtain ⟨_,a2,_⟩:=yV p hp;rw [aeC a2] at this;omega
 have Mc:val k'.next=n+(val h0'.next - G):=by rw [G6];exact eS _
 have aw1:Mod h k' []:=⟨λl o hg _=>by rw [aaP (by rw [hn];exact hw l (by rw [hg];rfl))];exact hg,by rw [Mc];omega⟩;have hwf:Wf k':=λl hl=>by
  obtain ⟨o,ho⟩:=Option.isSome_iff_exists.1 hl;rw [Mc];rcases aqh ho with ⟨p,hp,rfl,_⟩ | ⟨g,_⟩
  ·obtain ⟨_,a2,a3,_⟩:=yV p hp
   rw [aeC a2];omega
  ·omega
 refine ⟨shV (GN G n) v,k',ρ',hq k' (GN G n) aw0 dt aqg aw1 hwf,⟨λl hl=>rlt (by omega),by rw [Mc];omega⟩,hv0.sh SH hv,?_⟩;have aeD:∀{L b o},ρ' L=some b->k'.get L=some o->n<=val L->∃p∈outs,L=GN G n p.1/\o=shO (GN G n) p.2/\∃c,Um p.1=some c/\aez c b:=λ{L b o} hl hg jb=>by
  rcases aqh hg with ⟨p,hp,rfl,rfl⟩ | ⟨g,_⟩
  ·obtain ⟨_,a2,_,a4,_⟩:=yV p hp
   rw [rge a2 a4] at hl;cases hc:Um p.1 with
   | none=>rw [hc] at hl;cases hl
   | some c=>rw [hc] at hl;cases hl;exact ⟨p,hp,rfl,rfl,c,hc,⟨rfl,rfl,rfl⟩⟩
  ·omega
 refine ⟨λL b o hl hg=>?_,λL b hl=>?_,λL b hl=>?_,λL M b c hl hm il im e=>?_,λL b o hl hg hwr=>?_,Rw.size,Rw.below⟩
 ·rcases Nat.lt_or_ge (val L) n with g | g
  ·rw [rlt g] at hl
   rw [aaP g] at hg;exact (Rw.obj L b o hl hg).jh E rfl
  ·obtain ⟨p,hp,rfl,rfl,c,hc,hb⟩:=aeD hl hg g
   obtain ⟨a1,_,_,_,a5⟩:=yV p hp;exact (R0'.obj p.1 c p.2 hc a1).sh SH hb a5
 ·rw [Mc]
  rcases inv hl with ⟨g,_⟩ | ⟨g,_,c,hc,_⟩
  ·omega
  ·have:=R0'.lt _ _ hc
   rw [eS] at this;omega
 ·rcases inv hl with ⟨_,g⟩ | ⟨_,_,c,hc,rfl⟩
  ·exact R.base L b g
  ·exact ⟨(R0'.base _ _ hc).1,.nil rfl⟩
 ·obtain ⟨o1,h1⟩:=Option.isSome_iff_exists.1 il
  obtain ⟨o2,h2⟩:=Option.isSome_iff_exists.1 im;have aiz:∀{L b o},val L<n->ρ' L=some b->k'.get L=some o->b.block<w.heap.size:=λ{L b o} g hl hg=>by
   rw [rlt g] at hl;rw [aaP g] at hg;exact (R.obj L b o hl hg).lt
  have aiA:∀{L b o},n<=val L->ρ' L=some b->k'.get L=some o->w.heap.size<=b.block:=λ{L b o} g hl hg=>by
   obtain ⟨p,hp,rfl,rfl,c,hc,hb⟩:=aeD hl hg g;obtain ⟨a1,_,_,_,a5⟩:=yV p hp;rw [hb.block];exact R0'.own p.1 c p.2 hc a1 (HK a5)
  rcases Nat.lt_or_ge (val L) n with g1 | g1
  ·rcases Nat.lt_or_ge (val M) n with g2 | g2
   ·rw [rlt g1] at hl
    rw [rlt g2] at hm;rw [aaP g1] at h1;rw [aaP g2] at h2;exact R.inj L M b c hl hm (by rw [h1];rfl) (by rw [h2];rfl) e
   ·have a:=aiz g1 hl h1
    have b':=aiA g2 hm h2;omega
  ·rcases Nat.lt_or_ge (val M) n with g2 | g2
   ·have a:=aiz g2 hm h2
    have b':=aiA g1 hl h1;omega
   ·obtain ⟨p,hp,rfl,rfl,c1,U',cx⟩:=aeD hl h1 g1
    obtain ⟨q,aU,rfl,rfl,c2,E5,cR⟩:=aeD hm h2 g2;obtain ⟨a1,_⟩:=yV p hp;obtain ⟨a2,_⟩:=yV q aU;rw [R0'.inj p.1 q.1 c1 c2 U' E5 (by rw [a1];rfl) (by rw [a2];rfl) (by rw [<-cx.block,<-cR.block];exact e)]
 ·rcases Nat.lt_or_ge (val L) n with g | g
  ·rw [rlt g] at hl
   rw [aaP g] at hg;exact R.own L b o hl hg hwr
  ·obtain ⟨p,hp,rfl,rfl,c,hc,hb⟩:=aeD hl hg g
   obtain ⟨a1,_,_,_,a5⟩:=yV p hp;rw [hb.block];exact Nat.le_trans R.size (R0'.own p.1 c p.2 hc a1 (HK a5))
end
end Go.Dx
namespace Go.Dx
open Go
namespace K
noncomputable section
def AJ {α β:Type}(x:Option α)(f:α->Option β):Option β:=Option.rec (motive:=λ_=>Option β) none f x
def aly {β:Type}(b:Bool)(k:Option β):Option β:=Bool.rec (motive:=λ_=>Option β) none k b
def alz {α:Type}(_l:T α)(v:Option α)(_r:T α)(ihl ihr:Lb->Option α) (p:Lb):Option α:=
 List.rec (motive:=λ_=>Option α) v (λb p' _=>Bool.rec (motive:=λ_=>Option α) (ihl p') (ihr p') b) p
def alB {α:Type}(t:T α):Lb->Option α:=T.rec (motive:=λ_=>Lb->Option α) (λ_=>none) alz t
def Un {α:Type}(p:Lb)(x:Option α):T α:=
 List.rec (motive:=λ_=>T α) (.node .leaf x .leaf) (λb _ ih=>Bool.rec (motive:=λ_=>T α) (.node ih none .leaf) (.node .leaf none ih) b) p
def setRow {α:Type}(l:T α)(v:Option α)(r:T α)(ihl ihr:Lb->Option α->T α) (p:Lb) (x:Option α):T α:=
 List.rec (motive:=λ_=>T α) (.node l x r) (λb p' _=>Bool.rec (motive:=λ_=>T α) (.node (ihl p' x) v r) (.node l v (ihr p' x)) b) p
def aqi {α:Type}(t:T α):Lb->Option α->T α:=T.rec (motive:=λ_=>Lb->Option α->T α) Un setRow t
theorem Yy {α:Type}(t:T α):∀p,alB t p=t.get p:=by
 induction t with
 | leaf=>intro p;rfl
 | node l v r ihl ihr=>
   intro p;cases p with
   | nil=>rfl
   | cons b p=>cases b
               ·exact ihl p
               ·exact ihr p
theorem Uo {α:Type}(x:Option α):∀p,Un p x=T.set (.leaf:T α) p x:=by
 intro p;induction p with
 | nil=>rfl
 | cons b p ih=>cases b<;>(simp only [T.set,<-ih];rfl)
theorem ag6 {α:Type}(t:T α):∀p x,aqi t p x=t.set p x:=by
 induction t with
 | leaf=>intro p x;exact Uo x p
 | node l v r ihl ihr=>
   intro p x;cases p with
   | nil=>rfl
   | cons b p=>cases b
               ·simp only [T.set,<-ihl];rfl
               ·simp only [T.set,<-ihr];rfl
def Yz (tm:T V)(p:Lb):V:=Option.rec (motive:=λ_=>V) undef (λv=>v) (alB tm p)
def j9 (x:X)(tm:T V):V:=X.rec (motive:=λ_=>T V->V) (λp tm=>Yz tm p) (λv _=>v) x tm
def alC (l:List X)(tm:T V):List V:=List.rec (motive:=λ_=>T V->List V) (λ_=>[]) (λx _ ih tm=>j9 x tm::ih tm) l tm
theorem Up (tm:T V)(p:Lb):Yz tm p=bS tm p:=by
 unfold Yz bS;rw [Yy];cases tm.get p<;>rfl
theorem CQ (x:X)(tm:T V):j9 x tm=x.ev tm:=by
 cases x with
 | t p=>exact Up tm p
 | c v=>rfl
theorem ag7 (l:List X)(tm:T V):alC l tm=UX tm l:=by
 induction l with
 | nil=>rfl
 | cons x l ih=>simp only [UX,<-ih,<-CQ];rfl
def QZ (x:Option X)(tm:T V):Option V:=Option.rec (motive:=λ_=>T V->Option V) (λ_=>none) (λx tm=>some (j9 x tm)) x tm
theorem ag8 (x:Option X)(tm:T V):QZ x tm=Rn tm x:=by
 cases x with
 | none=>rfl
 | some x=>simp only [Rn,<-CQ];rfl
def isTrue (v:V):Option Bool:=match v with
 | .bool b=>some b
 | _=>none
def aeE (c a b:X)(_:Env)(tm:T V):Option V:=AJ (isTrue (j9 c tm)) λx=>Bool.rec (motive:=λ_=>Option V) (some (j9 b tm)) (some (j9 a tm)) x
def W0 (z:List V)(ps:List (Nat×Nat×X))(_:Env)(tm:T V):Option V:=AJ (nY tm ps z) λcs=>some (.agg cs)
def aw2 (x:X)(_:Env)(tm:T V):Option V:=uC (j9 x tm)
def aw3 (op:BinOp)(ek:EK)(x y:X)(E:Env)(tm:T V):Option V:=binOp E.plain op ek (j9 x tm) (j9 y tm)
def pUn (op:UnOp)(x:X)(_:Env)(tm:T V):Option V:=unOp op (j9 x tm)
def alD (k:IntKind)(x:X)(_:Env)(tm:T V):Option V:=match j9 x tm with
 | .int _ n=>some (.int k (bR k n))
 | _=>none
def aqj (x:X)(_:Env)(tm:T V):Option V:=match j9 x tm with
 | .int _ n=>some (.str ((Utf8.encode n).data.toList.map (·.toNat)))
 | _=>none
def aeF (x:X)(_:Env)(tm:T V):Option V:=Fv (j9 x tm)
def alE (t:TypeId)(x:X)(_:Env)(tm:T V):Option V:=some (.iface t (j9 x tm))
def aqk (f:FuncId)(a b:List X)(_:Env)(tm:T V):Option V:=some (.func f (alC a tm) (alC b tm))
def aaQ (x:X)(lo hi:Option X)(_:Env)(tm:T V):Option V:=match j9 x tm with
 | .str s=>mw s (QZ lo tm) (QZ hi tm)
 | _=>none
def alF (size:Nat)(x:X)(lo hi mx:Option X)(_:Env)(tm:T V):Option V:=ez size (j9 x tm) (QZ lo tm) (QZ hi tm) (QZ mx tm)
def aaR (n size:Nat)(x:X)(lo hi mx:Option X)(_:Env)(tm:T V):Option V:=uy n size (j9 x tm) (QZ lo tm) (QZ hi tm) (QZ mx tm)
def Xa (o:Nat)(x:X)(_:Env)(tm:T V):Option V:=match j9 x tm with
 | .ptr a off=>some (.ptr a (off+o))
 | _=>none
def alG (rd:Rd)(o:Nat)(x:X)(_:Env)(tm:T V):Option V:=match j9 x tm with
 | .agg cs=>dI rd cs o
 | _=>none
def Xb (size:Nat)(x i:X)(_:Env)(tm:T V):Option V:=rD size (j9 x tm) (j9 i tm)
def aaS (n size:Nat)(x i:X)(_:Env)(tm:T V):Option V:=uz n size (j9 x tm) (j9 i tm)
def aaT (x i:X)(_:Env)(tm:T V):Option V:=uA (j9 x tm) (j9 i tm)
def aaU (rd:Rd)(n size:Nat)(x i:X)(_:Env)(tm:T V):Option V:=BS rd n size (j9 x tm) (j9 i tm)
def aeG (w:Array (String×TypeId))(z:V)(ok:Bool)(x:X)(E:Env)(tm:T V):Option V:=zb (E.has w) z ok (j9 x tm)
def aeH (t:TypeId)(z:V)(ok:Bool)(x:X)(_:Env)(tm:T V):Option V:=za t z ok (j9 x tm)
def aeI (i:Nat)(x:X)(_:Env)(tm:T V):Option V:=zd i (j9 x tm)
def ag9 (x:X)(_:Env)(tm:T V):Option V:=Du (j9 x tm)
def aaV (x:X)(_:Env)(tm:T V):Option V:=uB (j9 x tm)
def ag' (n:Nat)(_:Env)(_:T V):Option V:=some (.int .i64 (Int.ofNat n))
def aw4 (x:X)(_:Env)(tm:T V):Option V:=Xx (j9 x tm)
def aw5 (x y:X)(_:Env)(tm:T V):Option V:=Xy (j9 x tm) (j9 y tm)
def aw6 (x y:X)(_:Env)(tm:T V):Option V:=Xz (j9 x tm) (j9 y tm)
def aql (x:X)(_:Env)(tm:T V):Option V:=nh (j9 x tm)
def aha (n:Nat)(x:X)(_:Env)(tm:T V):Option V:=RR n (j9 x tm)
def PDK (d:PD)(E:Env)(tm:T V):Option V:=
 PD.rec (motive:=λ_=>Env->T V->Option V) aeE W0 aw2 aw3 pUn alD aqj aeF alE aqk aaQ alF aaR Xa alG Xb aaS aaT aaU aeG aeH aeI ag9 aaV ag' aw4 aw5 aw6 aql aha d E tm
theorem alH (d:PD)(E:Env)(tm:T V):PDK d E tm=d.eval E tm:=by
 cases d<;>(simp only [PD.eval,<-CQ,<-ag7,<-ag8];try rfl)
 case pick c a b=>
  show aeE c a b E tm=_
  unfold aeE isTrue;cases j9 c tm<;>try rfl
  rename_i x;cases x<;>rfl
 case build z ps=>show W0 z ps E tm=_;unfold W0;cases nY tm ps z<;>rfl
def wi (v:V):Option (Lb×Nat):=match v with
 | .ptr l o=>some (l,o)
 | _=>none
def aeJ (rd:Rd)(x:X)(tm:T V):Option Q:=AJ (wi (j9 x tm)) λp=>some (.load rd p.1 p.2)
def Q0 (pk:PK)(z:V)(ok:Bool)(m k:X)(tm:T V):Option Q:=aly (plainKey pk (j9 k tm)) (some (.lookup pk z ok (j9 m tm) (j9 k tm)))
def alI (x:X)(tm:T V):Option Q:=some (.bytes (j9 x tm))
def alJ (x:X)(tm:T V):Option Q:=AJ (wi (j9 x tm)) λp=>some (.row p.1 p.2)
def Q5 (u:TypeId)(n:Nat)(x:X)(tm:T V):Option Q:=AJ (wi (j9 x tm)) λp=>some (.whole u n p.1 p.2)
def ahb (x:X)(tm:T V):Option Q:=some (.mapLen (j9 x tm))
def Xc (t:TypeId)(cs:List V)(x:X)(tm:T V):Option Q:=AJ (wi (j9 x tm)) λp=>some (.fresh t cs p.1 p.2)
def Q6 (t:TypeId)(cs:List V)(n:Nat)(x:X)(tm:T V):Option Q:=AJ (wi (j9 x tm)) λp=>some (.freshS t cs n p.1 p.2)
def Xd (x:X)(tm:T V):Option Q:=AJ (wi (j9 x tm)) λp=>some (.entry p.1 p.2)
def ahc (e:TypeId)(x s:X)(tm:T V):Option Q:=RD.oO tm (.freshB e x s)
def RDK (d:RD)(tm:T V):Option Q:=RD.rec (motive:=λ_=>T V->Option Q) aeJ Q0 alI alJ Q5 ahb Xc Q6 Xd ahc d tm
theorem alK (d:RD)(tm:T V):RDK d tm=d.oO tm:=by
 cases d<;>simp only [RD.oO,<-CQ]
 case load rd x=>show aeJ rd x tm=_;unfold aeJ wi eD;cases j9 x tm<;>rfl
 case lookup pk z ok m k=>show Q0 pk z ok m k tm=_;unfold Q0;cases plainKey pk (j9 k tm)<;>rfl
 case bytesStr x=>rfl
 case ptrUnsafe x=>show alJ x tm=_;unfold alJ wi eD;cases j9 x tm<;>rfl
 case unsafePtr u n x=>show Q5 u n x tm=_;unfold Q5 wi eD;cases j9 x tm<;>rfl
 case mapLen x=>rfl
 case freshS t cs n x=>show Q6 t cs n x tm=_;unfold Q6 wi eD;cases j9 x tm<;>rfl
 case entry x=>show Xd x tm=_;unfold Xd wi eD;cases j9 x tm<;>rfl
 case freshB e x s=>show RD.oO tm (.freshB e x s)=_;simp only [RD.oO,<-CQ]
 case fresh t cs x=>show Xc t cs x tm=_;unfold Xc wi eD;cases j9 x tm<;>rfl
def alL (want b:Bool):Bool:=Bool.rec (motive:=λ_=>Bool) (!b) b want
def Xe (g:Lb×Bool)(tm:T V):Bool:=Option.rec (motive:=λ_=>Bool) false (alL g.2) (isTrue (Yz tm g.1))
def Xf (g:Option (Lb×Bool))(tm:T V):Bool:=Option.rec (motive:=λ_=>T V->Bool) (λ_=>true) Xe g tm
def aw7 (d:Lb)(v:V)(tm:T V):T V:=aqi tm d (some v)
def Q7 (d:Option Lb)(v:V)(tm:T V):T V:=Option.rec (motive:=λ_=>V->T V->T V) (λ_ tm=>tm) aw7 d v tm
def aw8 (x:X)(dst:Option Lb)(_:Env)(_:je)(tm:T V)(ds:List (FuncId×List V))(h:H)(k:T V->List (FuncId×List V)->H->Option (A×H)):Option (A×H):=k (Q7 dst (j9 x tm) tm) ds h
def sP (q:PD)(dst:Option Lb)(E:Env)(_:je)(tm:T V)(ds:List (FuncId×List V))(h:H)(k:T V->List (FuncId×List V)->H->Option (A×H)):Option (A×H):=AJ (PDK q E tm) λv=>k (Q7 dst v tm) ds h
def sR (q:RD)(dst:Option Lb)(_:Env)(_:je)(tm:T V)(ds:List (FuncId×List V))(h:H)(k:T V->List (FuncId×List V)->H->Option (A×H)):Option (A×H):=AJ (RDK q tm) λq=>AJ (q.ask h) λv=>k (Q7 dst v tm) ds h
def sE (q:ED)(dst:Option Lb)(_:Env)(_:je)(tm:T V)(ds:List (FuncId×List V))(h:H)(k:T V->List (FuncId×List V)->H->Option (A×H)):Option (A×H):=AJ (q.run tm h) λr=>k (Q7 dst r.1 tm) ds r.2
def sC (q:CD)(dst:Option Lb)(E:Env)(call:je)(tm:T V)(ds:List (FuncId×List V))(h:H)(k:T V->List (FuncId×List V)->H->Option (A×H)):Option (A×H):=AJ (q.args E tm) λf=>AJ (call f.1 f.2 h) λr=>k (Q7 dst r.1 tm) ds r.2
def Xg (q:CD)(dst:Option Lb)(E:Env)(_:je)(tm:T V)(ds:List (FuncId×List V))(h:H)(k:T V->List (FuncId×List V)->H->Option (A×H)):Option (A×H):=AJ (q.args E tm) λf=>k (Q7 dst undef tm) (f::ds) h
def alM (_:Option Lb)(_:Env)(_:je)(_:T V)(_:List (FuncId×List V))(_:H)(_:T V->List (FuncId×List V)->H->Option (A×H)):Option (A×H):=none
def aiB (d:D)(dst:Option Lb)(E:Env)(call:je)(tm:T V)(ds:List (FuncId×List V))(h:H)(k:T V->List (FuncId×List V)->H->Option (A×H)):Option (A×H):=
 D.rec (motive:=λ_=>Option Lb->Env->je->T V->List (FuncId×List V)->H->(T V->List (FuncId×List V)->H->Option (A×H))->Option (A×H)) aw8 sP sR sE sC Xg alM d dst E call tm ds h k
def alN (_:Env)(_:je)(tm:T V)(ds:List (FuncId×List V))(h:H):Option (A×H):=some ({tmps:=tm,defers:=ds},h)
def Q8 (d:DO)(_:List DO)(ih:Env->je->T V->List (FuncId×List V)->H->Option (A×H)) (E:Env) (call:je) (tm:T V) (ds:List (FuncId×List V)) (h:H):Option (A×H):=
 Bool.rec (motive:=λ_=>Option (A×H)) (ih E call (Q7 d.dst undef tm) ds h) (aiB d.op d.dst E call tm ds h (ih E call)) (Xf d.guard tm)
def E0 (l:List DO):Env->je->T V->List (FuncId×List V)->H->Option (A×H):=
 List.rec (motive:=λ_=>Env->je->T V->List (FuncId×List V)->H->Option (A×H)) alN Q8 l
theorem aaW (g:Option (Lb×Bool))(tm:T V):Xf g tm=dS tm g:=by
 cases g with
 | none=>rfl
 | some g=>
   obtain ⟨p,w⟩:=g;show Xe (p,w) tm=_
   unfold Xe isTrue dS;simp only [Up];cases bS tm p<;>cases w<;>rfl
theorem Q9 (a:A)(d:Option Lb)(v:V):{tmps:=Q7 d v a.tmps,defers:=a.defers} =a.put d v:=by
 cases d with
 | none=>rfl
 | some d=>simp only [A.put,<-ag6];rfl
theorem wj {α β:Type}(x:Option α)(f:α->Option β):AJ x f=ob x f:=by cases x<;>rfl
theorem Xh (E:Env)(call:je):∀(l:List DO) (a:A) (h:H),E0 l E call a.tmps a.defers h=uF E call l a h:=by
 intro l;induction l with
 | nil=>intro a h;rfl
 | cons d l ih=>
   intro a h;show Q8 d l (E0 l) E call a.tmps a.defers h=_
   unfold Q8;simp only [uF,<-aaW];cases Xf d.guard a.tmps with
   | false=>exact (ih (a.put d.dst undef) h▸by rw [<-Q9])
   | true=>
     show aiB d.op d.dst E call a.tmps a.defers h (E0 l E call)=_
     have key:∀v h',E0 l E call (Q7 d.dst v a.tmps) a.defers h'=uF E call l (a.put d.dst v) h':=λv h'=>by
      rw [<-ih (a.put d.dst v) h',<-Q9]
     obtain ⟨dst,op,g⟩:=d;cases op with
     | Rm x=>simp only [Dv,ob,<-CQ];exact key _ _
     | p q=>
       show sP q dst E call a.tmps a.defers h _=_
       unfold sP;simp only [Dv,alH,wj];cases q.eval E a.tmps<;>simp only [ob];exact key _ _
     | r q=>
       show sR q dst E call a.tmps a.defers h _=_
       unfold sR;simp only [Dv,alK,wj];cases q.oO a.tmps<;>simp only [ob];rename_i q';cases q'.ask h<;>simp only [];exact key _ _
     | e q=>
       show sE q dst E call a.tmps a.defers h _=_
       unfold sE;simp only [Dv,wj];cases q.run a.tmps h<;>simp only [ob];exact key _ _
     | c q=>
       show sC q dst E call a.tmps a.defers h _=_
       unfold sC;simp only [Dv,wj];cases q.args E a.tmps<;>simp only [ob];rename_i f;cases call f.1 f.2 h<;>simp only [];exact key _ _
     | defer q=>
       show Xg q dst E call a.tmps a.defers h _=_
       unfold Xg;simp only [Dv,wj];cases q.args E a.tmps<;>simp only [ob];rename_i f;rw [<-ih ({tmps:=a.tmps,defers:=f::a.defers:A}.put dst undef) h,<-Q9]
     | stuck=>rfl
abbrev Ec:=DC->A->H->Option (Ex×A×H)
def aqm (_:Env)(_:je)(_:Ec)(a:A)(h:H):Option (Ex×A×H):=some (.normal,a,h)
def alO (l:List DO)(E:Env)(call:je)(_:Ec)(a:A)(h:H):Option (Ex×A×H):=AJ (E0 l E call a.tmps a.defers h) λr=>some (.normal,r.1,r.2)
def aeK (m:List Made)(l:List (DO×Nat×Nat))(E:Env)(call:je)(_:Ec)(a:A)(h:H):Option (Ex×A×H):=
 AJ (Dw E l m a.tmps h) λm=>AJ (fW E call l {tmps:=(makeAll m a.tmps h).1,defers:=a.defers} (makeAll m a.tmps h).2 0 [] []) λr=>some (.normal,r.1,r.2)
def YA (next:A->H->Option (Ex×A×H)) (r:Ex×A×H):Option (Ex×A×H):=
 Ex.rec (motive:=λ_=>A->H->Option (Ex×A×H)) next (λi a h=>some (.exit i,a,h)) (λa h=>some (.ret,a,h)) r.1 r.2.1 r.2.2
def aw9 (x y:DC)(_ _:Env->je->Ec->A->H->Option (Ex×A×H)) (_:Env) (_:je) (exec:Ec) (a:A) (h:H):Option (Ex×A×H):=AJ (exec x a h) (YA (exec y))
def aqn (c:X)(x y:DC)(_ _:Env->je->Ec->A->H->Option (Ex×A×H)) (_:Env) (_:je) (exec:Ec) (a:A) (h:H):Option (Ex×A×H):=
 AJ (isTrue (j9 c a.tmps)) λb=>Bool.rec (motive:=λ_=>Option (Ex×A×H)) (exec y a h) (exec x a h) b
def GQ (id:Nat)(r:Ex×A×H):Option (Ex×A×H):=
 Ex.rec (motive:=λ_=>A->H->Option (Ex×A×H)) (λa h=>some (.normal,a,h)) (λi a h=>some (Bool.rec (motive:=λ_=>Ex) (.exit i) .normal (Nat.beq i id),a,h)) (λa h=>some (.ret,a,h)) r.1 r.2.1 r.2.2
def alP (id:Nat)(b:DC)(_:Env->je->Ec->A->H->Option (Ex×A×H)) (_:Env) (_:je) (exec:Ec) (a:A) (h:H):Option (Ex×A×H):=AJ (exec b a h) (GQ id)
def aqo (b:DC)(_:Env->je->Ec->A->H->Option (Ex×A×H)) (_:Env) (_:je) (exec:Ec) (a:A) (h:H):Option (Ex×A×H):=AJ (exec b a h) (YA (exec (.loop b)))
def aqp (id:Nat)(_:Env)(_:je)(_:Ec)(a:A)(h:H):Option (Ex×A×H):=some (.exit id,a,h)
def aw' (_:Env)(_:je)(_:Ec)(a:A)(h:H):Option (Ex×A×H):=some (.ret,a,h)
def alQ (_:Env)(_:je)(_:Ec)(_:A)(_:H):Option (Ex×A×H):=none
def aeL (E:Env)(call:je)(exec:Ec)(c:DC)(a:A)(h:H):Option (Ex×A×H):=
 DC.rec (motive:=λ_=>Env->je->Ec->A->H->Option (Ex×A×H)) aqm alO aeK aw9 aqn alP aqo aqp aw' alQ c E call exec a h
theorem aeM (E:Env)(call:je)(exec:Ec)(c:DC)(a:A)(h:H):aeL E call exec c a h=cJ E call exec c a h:=by
 cases c with
 | skip=>rfl
 | ops l=>show alO l E call exec a h=_;unfold alO;rw [Xh,wj];rfl
 | draw m l=>show aeK m l E call exec a h=_;unfold aeK;simp only [wj];rfl
 | seq x y=>
   show AJ (exec x a h) (YA (exec y))=_
   rw [wj];simp only [cJ];cases exec x a h with
   | none=>rfl
   | some r=>obtain ⟨e,a',h'⟩:=r;cases e<;>rfl
 | cond c x y=>
   show AJ (isTrue (j9 c a.tmps)) _=_
   simp only [cJ,<-CQ];cases j9 c a.tmps<;>try rfl
   rename_i b;cases b<;>rfl
 | block id b=>
   show AJ (exec b a h) (GQ id)=_
   rw [wj];simp only [cJ];cases exec b a h with
   | none=>rfl
   | some r=>
     obtain ⟨e,a',h'⟩:=r;cases e with
     | exit i=>simp only [ob,GQ];cases Nat.beq i id<;>rfl
     | _=>rfl
 | loop b=>
   show AJ (exec b a h) (YA (exec (.loop b)))=_
   rw [wj];simp only [cJ];cases exec b a h with
   | none=>rfl
   | some r=>obtain ⟨e,a',h'⟩:=r;cases e<;>rfl
 | exit id=>rfl
 | ret=>rfl
 | stuck=>rfl
def alR (r:V×H):Option (V×H):=some r
def aeN (fns:T bC)(f:FuncId):Option bC:=aly (Nat.blt f 65536) (alB fns (pathOf f))
def aqq (late:FuncId->List V->H->Option H) (fn:bC) (r:Ex×A×H):Option (V×H):=
 Ex.rec (motive:=λ_=>Option (V×H)) (AJ (xE late r.2.1.defers r.2.2) λh'=>AJ (dK h' r.2.1.tmps fn.results) λvs=>some (rF vs,h')) (λ_=>none)
  (AJ (xE late r.2.1.defers r.2.2) λh'=>AJ (dK h' r.2.1.tmps fn.results) λvs=>some (rF vs,h')) r.1
def YB (fns:T bC)(vQ:je)(iF:FuncId->List V->H->Option H) (exec:Ec) (f:FuncId) (args:List V) (h:H):Option (V×H):=
 Option.rec (motive:=λ_=>Option (V×H)) (AJ (aeN fns f) λfn=>AJ (mj exec fn args h) (aqq (RX fns iF exec) fn)) alR (vQ f args h)
theorem aeO (fns:T bC)(f:FuncId):aeN fns f=Pf fns f:=by
 unfold aeN Pf aly bN;rw [Yy];cases Nat.blt f 65536<;>rfl
theorem aeP (fns:T bC)(vQ:je)(iF:FuncId->List V->H->Option H) (exec:Ec) (f:FuncId) (args:List V) (h:H):
  YB fns vQ iF exec f args h=RZ fns vQ iF exec f args h:=by
 unfold YB RZ;cases vQ f args h with
 | some r=>rfl
 | none=>
   simp only [wj,aeO]
   congr 1;funext fn
   congr 1;funext r
   obtain ⟨e,a,h'⟩:=r;cases e<;>simp only [aqq,wj]
def Uq (E:Env)(fns:T bC)(vQ:je)(iF:FuncId->List V->H->Option H) (n:Nat):UY:=
 Nat.rec (motive:=λ_=>UY) ahx (λ_ t=>{exec:=λc a h=>aeL E t.call t.exec c a h,call:=λf args h=>YB fns vQ iF t.exec f args h}) n
theorem aeQ (E:Env)(fns:T bC)(vQ:je)(iF:FuncId->List V->H->Option H):∀n,Uq E fns vQ iF n=abV E fns vQ iF n:=by
 intro n;induction n with
 | zero=>rfl
 | succ n ih=>
   show ({exec:=λc a h=>aeL E (Uq E fns vQ iF n).call (Uq E fns vQ iF n).exec c a h,call:=λf args h=>YB fns vQ iF (Uq E fns vQ iF n).exec f args h}:UY)=_
   simp only [aeM,aeP,ih];rfl
end
end K
end Go.Dx
namespace Go.Dx
open Go Go.RowKit
theorem Good.calls {P:Program}{f:FuncId}{func:Func}{c:Code}{xs:List Value}{w:World}{R:Value->World->Prop} (hf:P.funcs[f]? =some func) (hb:func.body=some c) (hn:(func.name == "runtime.NumGoroutine")=false) (h:Good P f xs w R):
  Calls P f ⟨xs⟩ w λe w'=>∃v,e = .returned v/\R v w':=by
 rcases h with ⟨x,w',h1,_⟩ | ⟨_,h⟩
 ·exfalso
  have hn:¬func.name = "runtime.NumGoroutine":=λe=>by rw [e] at hn;simp at hn
  unfold callFunc at h1;simp [hf,hn,hb] at h1
 ·exact h
end Go.Dx
namespace Go.Dx
open Go
section
variable {P:Program} {h k h':H}
def without (fns:T bC):List FuncId->T bC
 | []=>fns
 | f::r=>(without fns r).set (pathOf f) none
theorem LP {fns:T bC}{g:FuncId}{d:bC}:∀{l:List FuncId},Pf (without fns l) g=some d->Pf fns g=some d
 | [],h=>h
 | f::r,h=>by
   refine LP (l:=r) ?_;simp only [Pf,ag,without] at h ⊢;refine ⟨h.1,?_⟩
   by_cases e:pathOf f=pathOf g
   ·rw [e,T.bg] at h;cases h.2
   ·rw [T.br _ _ _ _ e] at h;exact h.2
end
end Go.Dx
namespace Go.Dx
open Go Go.RowKit
def vK (P:Program)(G:Nat):Nat->T bC
 | 0=>.leaf
 | n+1=>(vK P G n).set (pathOf n) (ob P.funcs[n]? (qg P G))
theorem LQ {P:Program}{G:Nat}:∀{n:Nat},n<=65536->∀{f:FuncId} {fn:bC},f<65536->(vK P G n).get (pathOf f)=some fn->∃func,P.funcs[f]? =some func/\qg P G func=some fn
 | 0,_,f,fn,_,h=>by simp [vK,T.kz] at h
 | n+1,hn,f,fn,hf,h=>by
   by_cases e:f=n
   ·subst e
    simp only [vK,T.bg] at h;rw [ad] at h;obtain ⟨func,h1,h2⟩:=h;exact ⟨func,h1,h2⟩
   ·have:pathOf n≠pathOf f:=λh=>e (eX (Nat.lt_of_lt_of_le hn (by decide)) (Nat.lt_trans hf (by decide)) h).symm
    simp only [vK,T.br _ _ _ _ this] at h;exact LQ (by omega) hf h
theorem aaX {P:Program}{G n:Nat}(hn:n<=65536)(l:List FuncId):Sy P G (without (vK P G n) l):=by
 intro f fn hf;have hf:=LP hf;simp only [Pf,ag] at hf;obtain ⟨h1,h2⟩:=hf;exact LQ hn (by simpa using h1) h2
end Go.Dx
namespace KB
open Go Go.Dx Go.RowKit Go.Proofs
def ids:List (FuncId×Ext):=[(130,.nop),(131,.XN),(132,.nop),(133,.mark),(135,.mark),(136,.XO),(216,.clone),(225,.same),(226,.Vt 5),(243,.seq true 9 1 16 [192,217] []),(289,.seq false 55 2 32 [] [267]),(291,.compare)]
noncomputable def fns:T bC:=without (vK Tryz.prog 8 381) [243,289]
noncomputable def vQ:je:=acE Tryz.prog ids
theorem af7:cb Tryz.prog 130 (λ_=>do mark .disable;pure Extern.Race.none_):=⟨⟨_,Tryz.func130,by kernel_rfl,by kernel_rfl,by kernel_rfl,by kernel_rfl⟩⟩
theorem ajF:cb Tryz.prog 131 (Extern.Atomic.casT (.int .i32)):=⟨⟨_,Tryz.func131,by kernel_rfl,by kernel_rfl,by kernel_rfl,by kernel_rfl⟩⟩
theorem af8:cb Tryz.prog 132 (λ_=>do mark .enable;pure Extern.Race.none_):=⟨⟨_,Tryz.func132,by kernel_rfl,by kernel_rfl,by kernel_rfl,by kernel_rfl⟩⟩
theorem ajG:cb Tryz.prog 133 (Extern.Race.marked .acquire):=⟨⟨_,Tryz.func133,by kernel_rfl,by kernel_rfl,by kernel_rfl,by kernel_rfl⟩⟩
theorem ajH:cb Tryz.prog 135 (Extern.Race.marked .releaseMerge):=⟨⟨_,Tryz.func135,by kernel_rfl,by kernel_rfl,by kernel_rfl,by kernel_rfl⟩⟩
theorem ajI:cb Tryz.prog 136 (Extern.Atomic.update (Op.intArith .add) .i32 true):=⟨⟨_,Tryz.func136,by kernel_rfl,by kernel_rfl,by kernel_rfl,by kernel_rfl⟩⟩
theorem axa:cb Tryz.prog 216 Extern.MapsClone.clone:=⟨⟨_,Tryz.func216,by kernel_rfl,by kernel_rfl,by kernel_rfl,by kernel_rfl⟩⟩
theorem akf:cb Tryz.prog 225 Extern.AbiNoEscape.same:=⟨⟨_,Tryz.func225,by kernel_rfl,by kernel_rfl,by kernel_rfl,by kernel_rfl⟩⟩
theorem axb:cb Tryz.prog 226 (Extern.BytealgMakeNoZero.makeNoZero Tryz.f226.params #[81]):=⟨⟨_,Tryz.func226,by kernel_rfl,by kernel_rfl,by kernel_rfl,by kernel_rfl⟩⟩
theorem axc:cb Tryz.prog 291 Extern.BytealgCompare.compare:=⟨⟨_,Tryz.func291,by kernel_rfl,by kernel_rfl,by kernel_rfl,by kernel_rfl⟩⟩
theorem ahd:nq Tryz.prog 8 vQ:=by
 refine ajd λp hp=>?_;simp only [ids,List.mem_cons,List.not_mem_nil,or_false] at hp;rcases hp with rfl | rfl | rfl | rfl | rfl | rfl | rfl | rfl | rfl | rfl | rfl | rfl
 ·exact zq af7
 ·exact N8 ajF
 ·exact zq af8
 ·exact DP ajG
 ·exact DP ajH
 ·exact N7 ajI
 ·exact Zg axa
 ·exact SM akf
 ·exact Vw (t:=81) (by kernel_rfl) axb
 ·exact WX
 ·exact WY
 ·exact He axc
def gT:List (Lb×Go.Dx.Obj):=[(aZ 9,.map [] 0),(aZ 10,.map [] 0),(aZ 11,.cells [.int .i64 16777216,.map (aZ 21),.map (aZ 9),.nilSlice 0,.map (aZ 10)] 80 0 .yes),(aZ 18,.cells [.ptr (aZ 11) 0,.nilSlice 0,.nilSlice 0,.int .i64 1] 152 0 .yes),(aZ 21,.map [] 0),(aZ 23,.map [] 0),(aZ 25,.cells [.int .i32 0,.int .u32 0,.ptr (aZ 18) 0,.map (aZ 23),.int .i64 0,.int .i64 0] 107 0 .yes),(aZ 26,.map [] 0),(aZ 27,.cells [.ptr (aZ 25) 0,.nilSlice 0,.nilSlice 0,.map (aZ 26)] 70 0 .yes)]
def aeR:V:=.tuple [.ptr (aZ 11) 0,.ptr (aZ 27) 0,.bool true]
def Ur (h:H):List (Lb×Go.Dx.Obj)->Bool
 | []=>true
 | (l,o)::r=>holds h l o&&Nat.blt (val l) (val h.next)&&Ur h r
def Ra:Option (V×H)->Bool
 | some (v,h)=>sO v aeR&&Ur h gT
 | none=>false
def isTrue:Option (V×H)->Bool
 | some (.bool true,_)=>true
 | _=>false
noncomputable def call:je:=(K.Uq (dz Tryz.prog) fns vQ WU 3000).call
theorem aaY:isTrue (call 8 [] {t:=ofL [],next:=aZ 8})=true:=by kernel_rfl
theorem aaZ:Ra (call 9 [.int .i64 16777216] {t:=ofL [],next:=aZ 8})=true:=by kernel_rfl
theorem mixed:Tryz.prog.follows .mixedOrders=true:=by kernel_rfl
theorem ID:nq Tryz.prog 8 call:=by
 unfold call;rw [K.aeQ];exact Vq mixed ahd aaN (aaX (by decide) _) 3000
theorem OU {h:H}:∀{l:List (Lb×Go.Dx.Obj)},Ur h l=true->∀p∈l,h.get p.1=some p.2/\val p.1<val h.next
 | [],_,p,hp=>by cases hp
 | (l,o)::r,hb,p,hp=>by
   simp only [Ur,Bool.and_eq_true] at hb;rcases List.mem_cons.1 hp with rfl | hp
   ·exact ⟨aey hb.1.1,by simpa using hb.1.2⟩
   ·exact OU hb.2 p hp
end KB
namespace K
open Go Go.Dx Go.RowKit Go.Proofs
set_option maxRecDepth 100000
theorem aa0 {r:Option (V×H)}(h:KB.isTrue r=true):∃h',r=some (.bool true,h'):=by
 unfold KB.isTrue at h;split at h
 ·exact ⟨_,rfl⟩
 ·cases h
theorem Xi {r:Option (V×H)}(h:KB.Ra r=true):∃h',r=some (KB.aeR,h')/\KB.Ur h' KB.gT=true:=by
 unfold KB.Ra at h;split at h
 ·simp only [Bool.and_eq_true] at h
  exact ⟨_,by rw [B6 h.1],h.2⟩
 ·cases h
theorem aeS (g:Nat)(hg:g<8):aZ g=pathOf g:=by
 have:∀g<8,aZ g=pathOf g:=by decide
 exact this g hg
theorem aa1 {h:H}{Q:V->H->Prop} (hw:Wf h) (hq:∀h',Mod h h' []->Wf h'->Q (.bool true) h'):CW pf G0 nC [] h Q:=by
 obtain ⟨h0',hr⟩:=aa0 KB.aaY;exact CW.aeB (pf:=pf) (G:=8) (outs:=[]) (gl:=[]) (v:=.bool true) KB.ID aeS hr rfl (λl o hm=>by cases hm) (λp hp=>by cases hp) (by simp) rfl hw λk' s _ _ _ hm cG=>hq k' hm cG
theorem aa2 {h:H}{Q:V->H->Prop} (hw:Wf h) (hq:∀h' ld lp z,E6 h' lp z 0 0->z.r.log=[]->z.g.ld=ld->(∀q,q∈z.own lp->h.get q=none)->Mod h h' []->Wf h'->Q (.tuple [.ptr ld 0,.ptr lp 0,.bool true]) h'):CW pf G0 nD [.int .i64 16777216] h Q:=by
 obtain ⟨h0',hr,ho⟩:=Xi KB.aaZ
 ·have hL:∀p∈KB.gT,8<=val p.1/\p.1=aZ (val p.1)/\Ui p.2=true:=λp hp=>by
   simp only [KB.gT,List.mem_cons,List.not_mem_nil,or_false] at hp;rcases hp with rfl | rfl | rfl | rfl | rfl | rfl | rfl | rfl | rfl<;>exact ⟨by decide,by decide,by decide⟩
  refine CW.aeB (pf:=pf) (G:=8) (outs:=KB.gT) (gl:=[]) KB.ID aeS hr rfl (λl o hm=>by cases hm) (λp hp=>?_) (by decide) rfl hw λk' s hk dt hinj hm cG=>?_
  ·obtain ⟨a1,a2⟩:=KB.OU ho p hp
   obtain ⟨b1,b2,b3⟩:=hL p hp;exact ⟨a1,b1,a2,b2,b3⟩
  have c9:k'.get (s (aZ 9))=some (.map [] 0):=hk (KB.gT[0]'(by decide)) (List.getElem_mem _);have c10:k'.get (s (aZ 10))=some (.map [] 0):=hk (KB.gT[1]'(by decide)) (List.getElem_mem _);have c11:k'.get (s (aZ 11))=some (.cells [.int .i64 16777216,.map (s (aZ 21)),.map (s (aZ 9)),.nilSlice 0,.map (s (aZ 10))] 80 0 .yes):=hk (KB.gT[2]'(by decide)) (List.getElem_mem _);have c18:k'.get (s (aZ 18))=some (.cells [.ptr (s (aZ 11)) 0,.nilSlice 0,.nilSlice 0,.int .i64 1] 152 0 .yes):=hk (KB.gT[3]'(by decide)) (List.getElem_mem _);have c21:k'.get (s (aZ 21))=some (.map [] 0):=hk (KB.gT[4]'(by decide)) (List.getElem_mem _);have c23:k'.get (s (aZ 23))=some (.map [] 0):=hk (KB.gT[5]'(by decide)) (List.getElem_mem _);have c25:k'.get (s (aZ 25))=some (.cells [.int .i32 0,.int .u32 0,.ptr (s (aZ 18)) 0,.map (s (aZ 23)),.int .i64 0,.int .i64 0] 107 0 .yes):=hk (KB.gT[6]'(by decide)) (List.getElem_mem _);have c26:k'.get (s (aZ 26))=some (.map [] 0):=hk (KB.gT[7]'(by decide)) (List.getElem_mem _);have c27:k'.get (s (aZ 27))=some (.cells [.ptr (s (aZ 25)) 0,.nilSlice 0,.nilSlice 0,.map (s (aZ 26))] 70 0 .yes):=hk (KB.gT[8]'(by decide)) (List.getElem_mem _);have at_:∀i∈[9,10,11,18,21,23,25,26,27],∃p∈KB.gT,p.1=aZ i:=λi hi=>by
   simp only [List.mem_cons,List.not_mem_nil,or_false] at hi;rcases hi with rfl | rfl | rfl | rfl | rfl | rfl | rfl | rfl | rfl
   ·exact ⟨KB.gT[0]'(by decide),List.getElem_mem _,rfl⟩
   ·exact ⟨KB.gT[1]'(by decide),List.getElem_mem _,rfl⟩
   ·exact ⟨KB.gT[2]'(by decide),List.getElem_mem _,rfl⟩
   ·exact ⟨KB.gT[3]'(by decide),List.getElem_mem _,rfl⟩
   ·exact ⟨KB.gT[4]'(by decide),List.getElem_mem _,rfl⟩
   ·exact ⟨KB.gT[5]'(by decide),List.getElem_mem _,rfl⟩
   ·exact ⟨KB.gT[6]'(by decide),List.getElem_mem _,rfl⟩
   ·exact ⟨KB.gT[7]'(by decide),List.getElem_mem _,rfl⟩
   ·exact ⟨KB.gT[8]'(by decide),List.getElem_mem _,rfl⟩
  have ne:∀i∈[9,10,11,18,21,23,25,26,27],∀j∈[9,10,11,18,21,23,25,26,27],i≠j->s (aZ i)≠s (aZ j):=λi hi j hj zO e=>by
   obtain ⟨p,p1,p2⟩:=at_ i hi
   obtain ⟨q,q1,q2⟩:=at_ j hj
   have:=hinj p p1 q q1 (by rw [p2,q2];exact e);rw [p2,q2] at this;exact zO (Yv this)
  have fr:∀i∈[9,10,11,18,21,23,25,26,27],h.get (s (aZ i))=none:=λi hi=>by
   obtain ⟨p,p1,p2⟩:=at_ i hi
   rw [<-p2];exact dt p p1
  have fm:∀c,cC k' (s (aZ 21)) [] 0->c=0->cC k' (s (aZ 21)) [] c:=λc F e=>by rw [e];exact F
  clear fm;have D:bJ k' (s (aZ 11)) ⟨16777216,s (aZ 21),s (aZ 9),s (aZ 10),[],[],0,0,0,.nilSlice 0,[],[],[]⟩:=by
   refine ⟨c11,⟨c21,fG.nil 0,by simp,by simp⟩,⟨c9,fG.nil 0,by simp,by simp⟩,.nil,.nil,by simp,c10,fG.nil 0,by simp,?_,?_,?_,by simp⟩
   ·exact ne 21 (by simp) 9 (by simp) (by decide)
   ·exact ne 21 (by simp) 10 (by simp) (by decide)
   ·exact ne 9 (by simp) 10 (by simp) (by decide)
  have L:iQ k' (s (aZ 18)) ⟨s (aZ 11),.nilSlice 0,.nilSlice 0,[],[],[],1⟩:=⟨c18,.nil,.nil,.nil⟩;have ok:gS ⟨s (aZ 11),.nilSlice 0,.nilSlice 0,[],[],[],1⟩ ⟨16777216,s (aZ 21),s (aZ 9),s (aZ 10),[],[],0,0,0,.nilSlice 0,[],[],[]⟩:=
   ⟨by simp,by simp,by dsimp only;omega,by dsimp only;omega,.nil,by simp,by simp,by simp,λk _=>rfl,by simp,λ_=>rfl⟩
  have down:dR.own ⟨16777216,s (aZ 21),s (aZ 9),s (aZ 10),[],[],0,0,0,.nilSlice 0,[],[],[]⟩ (s (aZ 11))=[s (aZ 11),s (aZ 21),s (aZ 9),s (aZ 10)]:=rfl;have S:eR k' (s (aZ 25)) ⟨s (aZ 18),s (aZ 23),[],0,0,0⟩ ⟨s (aZ 11),.nilSlice 0,.nilSlice 0,[],[],[],1⟩ ⟨16777216,s (aZ 21),s (aZ 9),s (aZ 10),[],[],0,0,0,.nilSlice 0,[],[],[]⟩:=by
   refine ⟨c25,c23,fG.nil 0,by simp,L,D,ok,λhm=>?_⟩;dsimp only at hm;rw [down] at hm;simp only [List.mem_cons,List.not_mem_nil,or_false] at hm;rcases hm with e | e | e | e
   ·exact ne 23 (by simp) 11 (by simp) (by decide) e
   ·exact ne 23 (by simp) 21 (by simp) (by decide) e
   ·exact ne 23 (by simp) 9 (by simp) (by decide) e
   ·exact ne 23 (by simp) 10 (by simp) (by decide) e
  have V:nR k' (s (aZ 27)) ⟨s (aZ 25),.nilSlice 0,.nilSlice 0,s (aZ 26),[],[],[],0⟩:=
   ⟨c27,.nil,.nil,c26,fG.nil 0,by simp,λc=>rfl,λi x h=>by simp at h,by simp,by simp,by simp,by simp⟩
  have aqr:xl.own ⟨s (aZ 18),s (aZ 23),[],0,0,0⟩ (s (aZ 25)) ⟨s (aZ 11),.nilSlice 0,.nilSlice 0,[],[],[],1⟩ ⟨16777216,s (aZ 21),s (aZ 9),s (aZ 10),[],[],0,0,0,.nilSlice 0,[],[],[]⟩=[s (aZ 25),s (aZ 23),s (aZ 18),s (aZ 11),s (aZ 21),s (aZ 9),s (aZ 10)]:=rfl;have aqs:Ik.own ⟨s (aZ 25),.nilSlice 0,.nilSlice 0,s (aZ 26),[],[],[],0⟩ (s (aZ 27))=[s (aZ 27),s (aZ 26)]:=rfl;refine hq k' (s (aZ 11)) (s (aZ 27)) ⟨⟨s (aZ 25),.nilSlice 0,.nilSlice 0,s (aZ 26),[],[],[],0⟩,⟨s (aZ 18),s (aZ 23),[],0,0,0⟩,⟨s (aZ 11),.nilSlice 0,.nilSlice 0,[],[],[],1⟩,⟨16777216,s (aZ 21),s (aZ 9),s (aZ 10),[],[],0,0,0,.nilSlice 0,[],[],[]⟩⟩ ⟨V,S,λq h1 h2=>?_,λk=>rfl,by simp,by simp,by dsimp only;omega,by dsimp only;omega,by dsimp only;omega,by simp⟩ rfl rfl (λq hm=>?_) hm cG
  ·dsimp only at h1 h2
   rw [aqs] at h1;rw [aqr] at h2;simp only [List.mem_cons,List.not_mem_nil,or_false] at h1 h2;rcases h1 with rfl | rfl
   ·rcases h2 with e | e | e | e | e | e | e
    ·exact ne 27 (by simp) 25 (by simp) (by decide) e
    ·exact ne 27 (by simp) 23 (by simp) (by decide) e
    ·exact ne 27 (by simp) 18 (by simp) (by decide) e
    ·exact ne 27 (by simp) 11 (by simp) (by decide) e
    ·exact ne 27 (by simp) 21 (by simp) (by decide) e
    ·exact ne 27 (by simp) 9 (by simp) (by decide) e
    ·exact ne 27 (by simp) 10 (by simp) (by decide) e
   ·rcases h2 with e | e | e | e | e | e | e
    ·exact ne 26 (by simp) 25 (by simp) (by decide) e
    ·exact ne 26 (by simp) 23 (by simp) (by decide) e
    ·exact ne 26 (by simp) 18 (by simp) (by decide) e
    ·exact ne 26 (by simp) 11 (by simp) (by decide) e
    ·exact ne 26 (by simp) 21 (by simp) (by decide) e
    ·exact ne 26 (by simp) 9 (by simp) (by decide) e
    ·exact ne 26 (by simp) 10 (by simp) (by decide) e
  ·unfold Zs.own at hm
   dsimp only at hm;rw [aqs,aqr] at hm;simp only [List.mem_cons,List.mem_append,List.not_mem_nil,or_false] at hm;rcases hm with (e | e) | e | e | e | e | e | e | e<;>rw [e]
   ·exact fr 27 (by simp)
   ·exact fr 26 (by simp)
   ·exact fr 25 (by simp)
   ·exact fr 23 (by simp)
   ·exact fr 18 (by simp)
   ·exact fr 11 (by simp)
   ·exact fr 21 (by simp)
   ·exact fr 9 (by simp)
   ·exact fr 10 (by simp)
theorem Xu:Nw:=⟨λhw _ hq=>aa1 hw hq,λhw _ hq=>aa2 hw hq⟩
end K
