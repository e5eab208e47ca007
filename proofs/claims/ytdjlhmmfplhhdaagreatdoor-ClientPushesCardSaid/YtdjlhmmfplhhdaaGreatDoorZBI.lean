/-
  The client's laws. Part ZBI of the proof: errors.As as the machine takes it.
-/
import Derived.Test.YtdjlhmmfplhhdaaGreatDoorZAL
import Derived.Test.YtdjlhmmfplhhdaaGreatDoorZAJ
import Derived.Test.YtdjlhmmfplhhdaaGreatDoorZAK
import Derived.Test.YtdjlhmmfplhhdaaGreatDoorZAY
namespace Go.Dx
open Go Go.RowKit Go.Proofs
theorem abT {G:Nat}(E:7<G):km Tryz.prog G 44 (.aIo (pathOf 0) 226 (pathOf 7) 45 [(90,92,2)] [] []):=by
 intro args h v h' a B w0 ρ w xs R O U;simp only [fJ] at a;split at a
 ·cases a
  obtain ⟨x1,S,rfl,s,T⟩:=U.two;cases s;exact Good.fQ Tryz.func44 rfl (by kernel_rfl) ((Tz.adK S w).mono λe w' ⟨f,I⟩=>⟨_,f,ρ,Step.refl _ _,.bool false,by rw [I];exact R⟩)
 ·rename_i t cs W l off
  split at a
  ·rename_i r l2 e d
   simp only [ai,ad,Option.some.injEq,Prod.mk.injEq,Bool.and_eq_true,QK,Bool.or_false] at a;obtain ⟨⟨⟨⟨C,M⟩,K⟩,⟨z,F⟩,y⟩,f,hs,rfl,rfl⟩:=a;have C:=Nat.eq_of_beq_eq_true C;have M:=gL M;have K:=Nat.eq_of_beq_eq_true K;have z:=Nat.eq_of_beq_eq_true z;have F:=Nat.eq_of_beq_eq_true F;have y:=Nat.eq_of_beq_eq_true y;subst C;subst M;subst K;subst z;subst F;obtain ⟨x1,S,rfl,s,T⟩:=U.two;obtain ⟨y1,rfl,t1⟩:=je s;obtain ⟨y2,rfl,V⟩:=je T;obtain ⟨b,P,rfl⟩:=dy V;cases t1 with | agg q1=>
   rename_i ys;obtain ⟨vs,el,fz,g,vs',hg,Z,hf,fK,hp,rfl⟩:=iJ hs;obtain ⟨a1,a2,rfl⟩:∃a1 a2,cs=[a1,a2]:=by
    match cs,y with
    | [a1,a2],_=>exact ⟨a1,a2,rfl⟩
   obtain ⟨u,p,rfl,s1,s2⟩:=q1.two;have N:=Ad q1 fK;obtain ⟨n0,fg⟩:=O 0 (by omega);obtain ⟨n7,H⟩:=O 7 E;have dz:w.cell? ⟨0,0,none⟩=some (.iface 226 (.agg #[.pointer (some ⟨7,45,none⟩)])):=by
    simp only [cellAt,Q.ask] at d;split at d
    ·rename_i k D J m o
     have c0:dE ρ _ k D J m w:=R.obj _ _ _ fg o;simp only [dB,bz] at d;obtain ⟨q,q1,q2⟩:=c0.cell 0 _ (by rw [<-List.head?_eq_getElem?];exact d);obtain ⟨q',rfl,X⟩:=je q2;cases X with | agg q4=>
     obtain ⟨Y,rfl,q5⟩:=q4.one;obtain ⟨b7,FG,rfl⟩:=dy q5;rw [H] at FG;cases FG;unfold cQ at q1;simpa using q1
    ·cases d
   have L:dE ρ b vs el fz g w:=R.obj l b _ P hg;have A:=iI hp;simp only [List.length_cons,List.length_nil] at A;have tB:=L.fits;have hit:=Tz.adP u p (N u (by simp)) (N p (by simp)) b.block (b.base+off) w dz
    (λj hj=>by
     have:=L.isSome (i:=off+j) (by omega);unfold cQ at this
     rwa [<-Nat.add_assoc] at this) (λj hj=>L.free Z _ (by omega) (by omega))
   have R4:=(((R.junk (.cells #[.pointer (some ⟨b.block,b.base+off,none⟩)] 92)).junk (Tz.VV w.heap.size)).junk (Tz.VV w.heap.size)).junk (.cells #[u,p] 90);have R5:=(R4.store P hs q1).2;exact Good.fQ Tryz.func44 rfl (by kernel_rfl) (hit.mono λe w' ⟨f,I⟩=>⟨_,f,ρ,Step.same rfl,.bool true,by rw [I];exact R5⟩)
  ·cases a
 ·rename_i t n W l off
  split at a
  ·simp only [ai,Bool.and_eq_true,QL] at a
   exact absurd a.2 (by simp)
  ·cases a
 ·cases a
end Go.Dx
namespace Go.Dx
open Go
theorem ZD:∀{a b:List (V×V×Nat)},agR a b=true->a=b
 | [],[],_=>rfl
 | (a,b,c)::r,(x,y,z)::s,h=>by
   simp only [agR,Bool.and_eq_true] at h;obtain ⟨⟨⟨d,e⟩,h3⟩,h4⟩:=h;rw [Cm d,Cm e,Nat.eq_of_beq_eq_true h3,ZD h4]
 | [],_::_,h=>by cases h
 | _::_,[],h=>by cases h
theorem afB {a b:Own}(h:aiK a b=true):a=b:=by cases a<;>cases b<;>first | rfl | cases h
theorem afC {a b:Option Lb}(h:aiL a b=true):a=b:=by
 cases a<;>cases b<;>first | rfl | (cases h;done) | (rw [gL h])
theorem afD {a b:Obj}(h:OV a b=true):a=b:=by
 cases a<;>cases b<;>try (cases h;done)
 ·simp only [OV,Bool.and_eq_true] at h
  obtain ⟨⟨⟨c,d⟩,h3⟩,h4⟩:=h;rw [jX c,Nat.eq_of_beq_eq_true d,Nat.eq_of_beq_eq_true h3,afB h4]
 ·simp only [OV,Bool.and_eq_true] at h
  obtain ⟨c,d⟩:=h;rw [ZD c,Nat.eq_of_beq_eq_true d]
 ·simp only [OV,Bool.and_eq_true] at h
  obtain ⟨c,d⟩:=h;rw [qM.1 c,Nat.eq_of_beq_eq_true d]
 ·simp only [OV,Bool.and_eq_true] at h
  obtain ⟨⟨⟨c,d⟩,h3⟩,h4⟩:=h;rw [afC c,Nat.eq_of_beq_eq_true d,qM.1 h3,Nat.eq_of_beq_eq_true h4]
def ofL:List (Lb×Obj)->T Obj
 | []=>.leaf
 | (l,o)::r=>(ofL r).set l (some o)
def afE {a:Type}(l:Lb):List (Lb×a)->Bool
 | []=>false
 | (m,_)::r=>nJ l m||afE l r
def kept (h:H)(a:List (Lb×Option Obj)):List (Lb×Obj)->Bool
 | []=>true
 | (l,o)::r=>(afE l a||holds h l o)&&kept h a r
def below (a:Lb):List (Lb×Obj)->Bool
 | []=>true
 | (l,_)::r=>Nat.blt (val l) (val a)&&below a r
def fits (a:List (Lb×Obj))(c b:Lb):List (Lb×Option Obj)->Bool
 | []=>true
 | (l,_)::r=>Nat.blt (val l) (val b)&&(Nat.ble (val c) (val l)||afE l a)&&fits a c b r
theorem afF {h:H}{l:Lb}{o:Obj}(k:holds h l o=true):h.get l=some o:=by
 unfold holds at k;split at k
 ·rename_i x a;rw [a,afD k]
 ·cases k
theorem Fx:∀{r:List (Lb×Obj)} {l:Lb} {o:Obj},(ofL r).get l=some o->(l,o)∈r
 | [],l,o,h=>by simp [ofL,T.kW] at h
 | (m,x)::r,l,o,h=>by
   simp only [ofL] at h
   by_cases e:m=l
   ·subst e;rw [T.aY] at h;cases h;exact List.mem_cons_self ..
   ·rw [T.bh _ _ _ _ e] at h;exact List.mem_cons_of_mem _ (Fx h)
end Go.Dx
namespace Go.Dx
open Go Go.RowKit
mutual
def rH:V->Bool
 | .bool _=>true
 | .int _ _=>true
 | .str _=>true
 | .nilPtr=>true
 | .nilSlice _=>true
 | .aP=>true
 | .eG _ _=>true
 | .agg l=>Dk l
 | .tuple l=>Dk l
 | _=>false
def Dk:List V->Bool
 | []=>true
 | v::vs=>rH v&&Dk vs
end
mutual
theorem RV.uC {ρ ρ':bD}:∀{v:V} {x:Value},RV ρ v x->rH v=true->RV ρ' v x
 | _,_,.bool b,_=>.bool b
 | _,_,.int k n,_=>.int k n
 | _,_,.str t,_=>.str t
 | _,_,.nilPtr,_=>.nilPtr
 | _,_,.ptr off h,hn=>by simp [rH] at hn
 | _,_,.nilSlice c,_=>.nilSlice c
 | _,_,.slice off len c h,hn=>by simp [rH] at hn
 | _,_,.sliceEnd off len size c h hl hc,hn=>by simp [rH] at hn
 | _,_,.aP,_=>.aP
 | _,_,.map h,hn=>by simp [rH] at hn
 | _,_,.func f ha hb,hn=>by simp [rH] at hn
 | _,_,.nilFunc,hn=>by simp [rH] at hn
 | _,_,.iface t h,hn=>by simp [rH] at hn
 | _,_,.nilIface,hn=>by simp [rH] at hn
 | _,_,.agg h,hn=>.agg (cZ.uC h (by simpa [rH] using hn))
 | _,_,.tuple h,hn=>.tuple (cZ.uC h (by simpa [rH] using hn))
 | _,_,.sym h ht hv,hn=>by simp [rH] at hn
 | _,_,.any h,hn=>by simp [rH] at hn
 | _,_,.empty a c,hn=>by simp [rH] at hn
 | _,_,.eG h1 h2,_=>.eG h1 h2
theorem cZ.uC {ρ ρ':bD}:∀{v:List V} {x:List Value},cZ ρ v x->Dk v=true->cZ ρ' v x
 | _,_,.nil,_=>.nil
 | _,_,.cons h hs,hn=>.cons (RV.uC h (by simp only [Dk,Bool.and_eq_true] at hn;exact hn.1)) (cZ.uC hs (by simp only [Dk,Bool.and_eq_true] at hn;exact hn.2))
end
mutual
def iX (G:Nat):V->Bool
 | .bool _=>true
 | .int _ _=>true
 | .str _=>true
 | .nilPtr=>true
 | .nilSlice _=>true
 | .aP=>true
 | .nilFunc=>true
 | .nilIface=>true
 | .ptr l _=>Nat.blt (val l) G&&nJ l (pathOf (val l))
 | .iface _ v=>iX G v
 | .agg l=>nE G l
 | .tuple l=>nE G l
 | _=>false
def nE (G:Nat):List V->Bool
 | []=>true
 | v::vs=>iX G v&&nE G vs
end
def Jr (G:Nat)(ρ ρ':bD):Prop:=∀l,val l<G->l=pathOf (val l)->ρ' l=ρ l
mutual
theorem RV.Yh {G:Nat}{ρ ρ':bD}(S:Jr G ρ ρ'):∀{v:V} {x:Value},RV ρ v x->iX G v=true->RV ρ' v x
 | _,_,.bool b,_=>.bool b
 | _,_,.int k n,_=>.int k n
 | _,_,.str t,_=>.str t
 | _,_,.nilPtr,_=>.nilPtr
 | _,_,.ptr off h,hn=>by
   simp only [iX,Bool.and_eq_true] at hn;exact .ptr off ((S _ (by simpa using hn.1) (gL hn.2)).trans h)
 | _,_,.nilSlice c,_=>.nilSlice c
 | _,_,.slice off len c h,hn=>by simp [iX] at hn
 | _,_,.sliceEnd off len size c h hl hc,hn=>by simp [iX] at hn
 | _,_,.aP,_=>.aP
 | _,_,.map h,hn=>by simp [iX] at hn
 | _,_,.func f ha hb,hn=>by simp [iX] at hn
 | _,_,.nilFunc,hn=>.nilFunc
 | _,_,.iface t h,hn=>.iface t (RV.Yh S h (by simpa [iX] using hn))
 | _,_,.nilIface,hn=>.nilIface
 | _,_,.agg h,hn=>.agg (cZ.Yh S h (by simpa [iX] using hn))
 | _,_,.tuple h,hn=>.tuple (cZ.Yh S h (by simpa [iX] using hn))
 | _,_,.sym h ht hv,hn=>by simp [iX] at hn
 | _,_,.any h,hn=>by simp [iX] at hn
 | _,_,.empty a c,hn=>by simp [iX] at hn
 | _,_,.eG h1 h2,hn=>by simp [iX] at hn
theorem cZ.Yh {G:Nat}{ρ ρ':bD}(S:Jr G ρ ρ'):∀{v:List V} {x:List Value},cZ ρ v x->nE G v=true->cZ ρ' v x
 | _,_,.nil,_=>.nil
 | _,_,.cons h hs,hn=>.cons (RV.Yh S h (by simp only [nE,Bool.and_eq_true] at hn;exact hn.1)) (cZ.Yh S hs (by simp only [nE,Bool.and_eq_true] at hn;exact hn.2))
end
theorem RV.low {G:Nat}{ρ ρ':bD}{v:V}{x:Value}(hn:iX G v=true)(S:Jr G ρ ρ')(h:RV ρ v x):RV ρ' v x:=h.Yh S hn
section
variable {P:Program} {G:Nat} {f:FuncId} {B:Nat} {w0:World} {ρ:bD} {h h':H} {w:World}
theorem aA.under (R:aA B w0 ρ h w){w':World}(hb:Below w.heap.size w w'):aA B w0 ρ h w':=
 ⟨λl b o hl ho=>(R.obj l b o hl ho).jH (j8.refl _) (hb.block _ (R.obj l b o hl ho).lt),R.lt,R.base,R.inj,R.own,Nat.le_trans R.size hb.size,R.below.trans (hb.mono R.size)⟩
theorem Ig {G:Nat}:∀(b:List V) (i:Nat) (v:V),nE G b=true->b[i]? =some v->iX G v=true
 | [],i,v,_,h=>by simp at h
 | n::b,0,v,hb,h=>by simp only [nE,Bool.and_eq_true] at hb;simp at h;subst h;exact hb.1
 | n::b,i+1,v,hb,h=>by simp only [nE,Bool.and_eq_true] at hb;exact Ig b i v hb.2 (by simpa using h)
end
end Go.Dx
namespace Go.Dx
open Go Go.RowKit
def bw:Nat->Lb
 | 0=>[]
 | n+1=>inc (bw n)
theorem ff:∀n,val (bw n)=n
 | 0=>rfl
 | n+1=>by rw [bw,jc,ff n]
theorem P4 {m n:Nat}(h:bw m=bw n):m=n:=by rw [<-ff m,h,ff]
def Sd (l:Lb):Bool:=nJ l (bw (val l))
theorem Au {l:Lb}(h:Sd l=true):l=bw (val l):=gL h
mutual
def IZ:V->Bool
 | .ptr l _=>Sd l
 | .slice l _ _ _=>Sd l
 | .map l=>Sd l
 | .func _ a b=>wx a&&wx b
 | .iface _ v=>IZ v
 | .agg l=>wx l
 | .tuple l=>wx l
 | .sym _ _=>false
 | _=>true
def wx:List V->Bool
 | []=>true
 | v::r=>IZ v&&wx r
end
mutual
def shV (s:Lb->Lb):V->V
 | .ptr l o=>.ptr (s l) o
 | .slice l o n c=>.slice (s l) o n c
 | .map l=>.map (s l)
 | .func f a b=>.func f (Hh s a) (Hh s b)
 | .iface t v=>.iface t (shV s v)
 | .agg l=>.agg (Hh s l)
 | .tuple l=>.tuple (Hh s l)
 | v=>v
def Hh (s:Lb->Lb):List V->List V
 | []=>[]
 | v::r=>shV s v::Hh s r
end
structure afG (b c:ej):Prop where
 block:c.block=b.block
 base:c.base=b.base
 total:c.total=b.total
def afH (ρ ρ':bD)(s:Lb->Lb):Prop:=∀l b,ρ l=some b->l=bw (val l)->∃c,ρ' (s l)=some c/\afG b c
mutual
theorem RV.sh {ρ ρ':bD}{s:Lb->Lb} (S:afH ρ ρ' s):∀{v:V} {x:Value},RV ρ v x->IZ v=true->RV ρ' (shV s v) x
 | _,_,.bool b,_=>.bool b
 | _,_,.int k n,_=>.int k n
 | _,_,.str t,_=>.str t
 | _,_,.nilPtr,_=>.nilPtr
 | _,_,.ptr off h,hn=>by
   obtain ⟨c,h1,h2⟩:=S _ _ h (Au hn);have:=RV.ptr off h1;rw [h2.block,h2.base] at this;exact this
 | _,_,.nilSlice c,_=>.nilSlice c
 | _,_,.slice off len c h,hn=>by
   obtain ⟨d,h1,h2⟩:=S _ _ h (Au hn);have:=RV.slice off len c h1;rw [h2.block,h2.base] at this;exact this
 | _,_,.sliceEnd off len size c h hl hc,hn=>by
   obtain ⟨d,h1,h2⟩:=S _ _ h (Au hn);have:=RV.sliceEnd off len size c h1 hl (by rw [h2.base,h2.total];exact hc);rw [h2.block,h2.base] at this;exact this
 | _,_,.aP,_=>.aP
 | _,_,.map h,hn=>by
   obtain ⟨d,h1,h2⟩:=S _ _ h (Au hn);have:=RV.map h1;rw [h2.block] at this;exact this
 | _,_,.func f ha hb,hn=>by
   simp only [IZ,Bool.and_eq_true] at hn;exact .func f (cZ.sh S ha hn.1) (cZ.sh S hb hn.2)
 | _,_,.nilFunc,_=>.nilFunc
 | _,_,.iface t h,hn=>.iface t (RV.sh S h (by simpa [IZ] using hn))
 | _,_,.nilIface,_=>.nilIface
 | _,_,.agg h,hn=>.agg (cZ.sh S h (by simpa [IZ] using hn))
 | _,_,.tuple h,hn=>.tuple (cZ.sh S h (by simpa [IZ] using hn))
 | _,_,.sym h ht hv,hn=>by simp [IZ] at hn
 | _,_,.any h,_=>.any h
 | _,_,.empty a c,_=>.empty a c
 | _,_,.eG h1 h2,_=>.eG h1 h2
theorem cZ.sh {ρ ρ':bD}{s:Lb->Lb} (S:afH ρ ρ' s):∀{v:List V} {x:List Value},cZ ρ v x->wx v=true->cZ ρ' (Hh s v) x
 | _,_,.nil,_=>.nil
 | _,_,.cons h hs,hn=>.cons (RV.sh S h (by simp only [wx,Bool.and_eq_true] at hn;exact hn.1)) (cZ.sh S hs (by simp only [wx,Bool.and_eq_true] at hn;exact hn.2))
end
theorem Vq (s:Lb->Lb):∀l:List V,(Hh s l).length=l.length
 | []=>rfl
 | v::r=>by simp [Hh,Vq s r]
theorem Vr (s:Lb->Lb):∀(l:List V) (i:Nat) (v:V),(Hh s l)[i]? =some v->∃u,l[i]? =some u/\v=shV s u
 | [],i,v,h=>by simp [Hh] at h
 | u::r,0,v,h=>by simp [Hh] at h;exact ⟨u,rfl,h.symm⟩
 | u::r,i+1,v,h=>by simpa using Vr s r i v (by simpa [Hh] using h)
theorem PU:∀(l:List V) (i:Nat) (v:V),wx l=true->l[i]? =some v->IZ v=true
 | [],i,v,_,h=>by simp at h
 | u::r,0,v,hc,h=>by simp only [wx,Bool.and_eq_true] at hc;simp at h;subst h;exact hc.1
 | u::r,i+1,v,hc,h=>by simp only [wx,Bool.and_eq_true] at hc;exact PU r i v hc.2 (by simpa using h)
def amA (s:Lb->Lb):List (V×V×Nat)->List (V×V×Nat)
 | []=>[]
 | (k,v,b)::r=>(shV s k,shV s v,b)::amA s r
def ZE:List (V×V×Nat)->Bool
 | []=>true
 | (k,v,_)::r=>IZ k&&IZ v&&ZE r
theorem pO.sh {ρ ρ':bD}{s:Lb->Lb} (S:afH ρ ρ' s) {es:List (V×V×Nat)} {ms:List MapEntry} (h:pO ρ es ms):ZE es=true->pO ρ' (amA s es) ms:=by
 induction h with
 | nil=>exact λ_=>.nil
 | cons hk hv hn _ ih=>
   intro hc;simp only [ZE,Bool.and_eq_true] at hc;exact .cons (hk.sh S hc.1.1) (hv.sh S hc.1.2) hn (ih hc.2)
def shO (s:Lb->Lb):Obj->Obj
 | .cells vs e fz own=>.cells (Hh s vs) e fz own
 | .map es c=>.map (amA s es) c
 | o=>o
def P3:Obj->Bool
 | .cells vs _ _ own=>wx vs&&own.may
 | .map es _=>ZE es
 | _=>false
theorem Ih {o:Obj}(h:P3 o=true):o.writes=true:=by
 cases o with
 | cells vs e fz own=>simp only [P3,Bool.and_eq_true] at h;exact h.2
 | map es c=>rfl
 | _=>simp [P3] at h
theorem sS.sh {ρ ρ':bD}{s:Lb->Lb} (S:afH ρ ρ' s) {b c:ej} (hb:afG b c) {w:World} {o:Obj} (h:sS ρ b w o) (hc:P3 o=true):sS ρ' c w (shO s o):=by
 cases o with
 | cells vs e fz own=>
   simp only [P3,Bool.and_eq_true] at hc;refine ⟨by rw [hb.block,hb.total];exact h.shape,by rw [hb.base,hb.total,Vq];exact h.fits,λi v hv=>?_,λho i=>?_,λho=>by rw [hb.block,hb.base];exact h.bare ho⟩
   ·obtain ⟨u,h1,rfl⟩:=Vr s _ _ _ hv
    obtain ⟨x,h2,h3⟩:=h.cell i u h1;refine ⟨x,?_,h3.sh S (PU _ _ _ hc.1 h1)⟩;unfold cQ at h2 ⊢;rw [hb.block,hb.base];exact h2
   ·rw [hb.block,hb.base,hb.total];exact h.free ho i
 | map es k=>
   obtain ⟨ms,h1,h2⟩:=h;exact ⟨ms,by rw [hb.block];exact h1,h2.sh S hc⟩
 | _=>simp [P3] at hc
section
variable {pf:Unit->Program} {G:Nat} {f:FuncId} {args:List V} {h:H}
def Vs:List (Lb×Obj)->T Obj->T Obj
 | [],t=>t
 | (l,o)::r,t=>(Vs r t).set l (some o)
theorem ZF:∀{r:List (Lb×Obj)} {t:T Obj} {l:Lb},(∀p∈r,p.1≠l)->(Vs r t).get l=t.get l
 | [],t,l,_=>rfl
 | (m,o)::r,t,l,h=>by
   simp only [Vs];rw [T.bh _ _ _ _ (h (m,o) (by simp))];exact ZF λp hp=>h p (by simp [hp])
theorem Vt:∀{r:List (Lb×Obj)} {t:T Obj},(r.map (·.1)).Nodup->∀p∈r,(Vs r t).get p.1=some p.2
 | (m,o)::r,t,hn,p,hp=>by
   simp only [List.map_cons,List.nodup_cons] at hn;simp only [Vs];rcases List.mem_cons.1 hp with rfl | hp
   ·rw [T.aY]
   ·have cV:m≠p.1:=λe=>hn.1 (e▸List.mem_map_of_mem hp)
    rw [T.bh _ _ _ _ cV];exact Vt hn.2 p hp
theorem Vu:∀{r:List (Lb×Obj)} {t:T Obj} {l:Lb} {o:Obj},(Vs r t).get l=some o->(l,o)∈r\/((∀p∈r,p.1≠l)/\t.get l=some o)
 | [],t,l,o,h=>.inr ⟨by simp,h⟩
 | (m,q)::r,t,l,o,h=>by
   simp only [Vs] at h
   by_cases e:m=l
   ·subst e
    rw [T.aY] at h;cases h;exact .inl (by simp)
   ·rw [T.bh _ _ _ _ e] at h
    rcases Vu h with g | ⟨g1,g2⟩
    ·exact .inl (by simp [g])
    ·refine .inr ⟨λp hp=>?_,g2⟩
     rcases List.mem_cons.1 hp with rfl | hp
     ·exact e
     ·exact g1 p hp
def ah8 (ρ ρ0:bD)(G n:Nat):bD:=λL=>if val L<n then ρ L else if L=bw (val L) then (ρ0 (bw (val L - n+G))).map λb=>{b with val:=.nilFunc} else none
def Hj (G n:Nat)(l:Lb):Lb:=if val l<G then l else bw (val l - G+n)
theorem CW.V8 {vV:jF}(TV:nQ (pf ()) G vV)(hG:∀g,g<G->bw g=pathOf g) {gl outs:List (Lb×Obj)} {v:V} {h0':H} (ed:vV f args {t:=ofL gl,next:=bw G} =some (v,h0')) (arA:Dk args=true)
  (hgl:∀l o,(l,o)∈gl->val l<G/\l=bw (val l)/\h.get l=some o/\∃vs e fz,o = .cells vs e fz .no/\nE G vs=true)
  (zO:∀p∈outs,h0'.get p.1=some p.2/\G<=val p.1/\val p.1<val h0'.next/\p.1=bw (val p.1)/\P3 p.2=true) (Tc:(outs.map (·.1)).Nodup) (hv:IZ v=true) (hw:Wf h) {Q:V->H->Prop}
  (hq:∀k' (s:Lb->Lb),(∀p∈outs,k'.get (s p.1)=some (shO s p.2))->(∀p∈outs,h.get (s p.1)=none)->(∀p∈outs,∀q∈outs,s p.1=s q.1->p.1=q.1)->Mod h k' []->Wf k'->Q (shV s v) k'):CW pf G f args h Q:=by
 refine .mk λ{B w0 ρ w xs} R hGB hx=>?_;obtain ⟨n,hn⟩:∃n,n=val h.next:=⟨_,rfl⟩;have hGR:=hGB.rel;have hGn:G<=n:=by
  rcases Nat.eq_zero_or_pos G with e | e
  ·omega
  ·obtain ⟨m,hm⟩:=hGR (G - 1) (by omega)
   have:=R.lt _ _ hm;rw [<-hG _ (by omega),ff] at this;omega
 obtain ⟨ρ0,arB⟩:∃ρ0:bD,ρ0=λl=>if val l<G/\l=pathOf (val l) then ρ l else none:=⟨_,rfl⟩
 have abU:∀{l b},ρ0 l=some b->val l<G/\l=pathOf (val l)/\ρ l=some b:=λ{l b} e=>by
  rw [arB] at e;dsimp only at e;split at e
  ·rename_i c;exact ⟨c.1,c.2,e⟩
  ·cases e
 have same:Jr G ρ ρ0:=λl h1 h2=>by rw [arB];exact if_pos ⟨h1,h2⟩
 have aGu:∀{l},val l<G->l=bw (val l)->l=pathOf (val l):=λ{l} h1 h2=>by rw [<-hG _ h1];exact h2
 have hG0:gM ρ0 G:=λg hg=>by
  obtain ⟨m,hm⟩:=hGR g hg;refine ⟨m,?_⟩;have e:=hG g hg;rw [<-e] at hm ⊢;rw [same (bw g) (by rw [ff];exact hg) (by rw [ff];exact e)];exact hm
 have R0:aA w.heap.size w ρ0 {t:=ofL gl,next:=bw G} w:=by
  refine ⟨λl b o hl hg=>?_,λl b hl=>?_,λl b hl=>?_,λl m b c hl hm il im e=>?_,λl b o hl hg hwr=>?_,Nat.le_refl _,Below.refl _ _⟩
  ·obtain ⟨_,_,h3,vs,e,fz,rfl,h5⟩:=hgl l o (Fx hg)
   have c:dE ρ b vs e fz .no w:=R.obj l b _ (abU hl).2.2 h3;refine ⟨c.shape,c.fits,λi v' MX=>?_,(λhh=>by cases hh),(λhh=>by cases hh)⟩;obtain ⟨x,h6,h7⟩:=c.cell i v' MX;exact ⟨x,h6,h7.low (Ig _ _ _ h5 MX) same⟩
  ·show val l<val (bw G)
   rw [ff];exact (abU hl).1
  ·obtain ⟨h1,h2,h3⟩:=abU hl
   obtain ⟨m,hm⟩:=hGR (val l) h1;rw [<-h2,h3] at hm;cases hm;exact ⟨rfl,.nil rfl⟩
  ·obtain ⟨o1,h1⟩:=Option.isSome_iff_exists.1 il
   obtain ⟨o2,h2⟩:=Option.isSome_iff_exists.1 im;obtain ⟨_,_,g1,_⟩:=hgl l o1 (Fx h1);obtain ⟨_,_,g2,_⟩:=hgl m o2 (Fx h2);exact R.inj l m b c (abU hl).2.2 (abU hm).2.2 (by rw [g1];rfl) (by rw [g2];rfl) e
  ·obtain ⟨_,_,_,vs,e,fz,rfl,_⟩:=hgl l o (Fx hg)
   cases hwr
 have key:=TV ed R0 hG0 (cZ.uC hx arA);refine key.mono λx w' ⟨Vv,S0,hv0,R0'⟩=>?_;have Mg:Below w.heap.size w w':=R0'.below;have Rw:=R.under Mg;have ayy:∀l,val l<G->Vv l=ρ0 l:=λl hl=>S0.old l (by show val l<val (bw G);rw [ff];exact hl);obtain ⟨ρ',amC⟩:∃ρ',ρ'=ah8 ρ Vv G n:=⟨_,rfl⟩;have rlt:∀{L},val L<n->ρ' L=ρ L:=λ{L} hL=>by rw [amC];unfold ah8;rw [if_pos hL]
 have rge:∀{l},G<=val l->l=bw (val l)->ρ' (Hj G n l)=(Vv l).map λb=>{b with val:=.nilFunc}:=λ{l} h1 h2=>by
  have e:Hj G n l=bw (val l - G+n):=by unfold Hj;rw [if_neg (by omega)]
  rw [amC,e];unfold ah8;rw [ff,if_neg (by omega),if_pos rfl,show val l - G+n - n+G=val l by omega,<-h2]
 have inv:∀{L b},ρ' L=some b->(val L<n/\ρ L=some b)\/(n<=val L/\L=bw (val L)/\∃c,Vv (bw (val L - n+G))=some c/\b = {c with val:=.nilFunc}):=λ{L b} e=>by
  rw [amC] at e;unfold ah8 at e;split at e
  ·rename_i h1;exact .inl ⟨h1,e⟩
  ·rename_i h1
   split at e
   ·rename_i h2
    cases hc:Vv (bw (val L - n+G)) with
    | none=>rw [hc] at e;cases e
    | some c=>rw [hc] at e;cases e;exact .inr ⟨by omega,h2,c,rfl,rfl⟩
   ·cases e
 have E:j8 ρ ρ':=λl b e=>by rw [rlt (by rw [hn];exact R.lt l b e)];exact e
 have SH:afH Vv ρ' (Hj G n):=λl b e hc=>by
  by_cases hl:val l<G
  ·refine ⟨b,?_,⟨rfl,rfl,rfl⟩⟩
   have e':Hj G n l=l:=by unfold Hj;rw [if_pos hl]
   rw [e',rlt (by omega)];rw [ayy l hl] at e;exact (abU e).2.2
  ·exact ⟨{b with val:=.nilFunc},by rw [rge (by omega) hc,e];rfl,⟨rfl,rfl,rfl⟩⟩
 obtain ⟨os,hos⟩:∃os:List (Lb×Obj),os=outs.map λp=>(Hj G n p.1,shO (Hj G n) p.2):=⟨_,rfl⟩;obtain ⟨k',Hz⟩:∃k':H,k' = {t:=Vs os h.t,next:=bw (n+(val h0'.next - G))}:=⟨_,rfl⟩;have afI:∀{l},G<=val l->val (Hj G n l)=val l - G+n:=λ{l} hl=>by unfold Hj;rw [if_neg (by omega),ff]
 have osm:∀{L o},(L,o)∈os->∃p∈outs,L=Hj G n p.1/\o=shO (Hj G n) p.2:=λ{L o} hm=>by
  rw [hos] at hm;obtain ⟨p,hp,e⟩:=List.mem_map.1 hm;cases e;exact ⟨p,hp,rfl,rfl⟩
 have osl:∀{L o},(L,o)∈os->n<=val L:=λ{L o} hm=>by
  obtain ⟨p,hp,rfl,_⟩:=osm hm;obtain ⟨_,h2,_⟩:=zO p hp;rw [afI h2];omega
 have arC:∀p∈outs,∀q∈outs,Hj G n p.1=Hj G n q.1->p.1=q.1:=λp hp q ax e=>by
  obtain ⟨_,a2,_,a4,_⟩:=zO p hp;obtain ⟨_,b2,_,b4,_⟩:=zO q ax;have:=congrArg val e;rw [afI a2,afI b2] at this;rw [a4,b4,show val p.1=val q.1 by omega]
 have ond:(os.map (·.1)).Nodup:=by
  rw [hos,List.map_map];exact List.pairwise_map.2 ((List.pairwise_map.1 Tc).imp_of_mem λ{p q} hp ax cV e=>cV (arC p hp q ax e))
 have ayz:∀p∈outs,k'.get (Hj G n p.1)=some (shO (Hj G n) p.2):=λp hp=>by
  rw [Hz];exact Vt (t:=h.t) ond (Hj G n p.1,shO (Hj G n) p.2) (by rw [hos];exact List.mem_map.2 ⟨p,hp,rfl⟩)
 have abV:∀{l},val l<n->k'.get l=h.get l:=λ{l} hl=>by
  rw [Hz];exact ZF λp hp e=>by have:=osl (L:=p.1) (o:=p.2) hp;rw [e] at this;omega
 have arD:∀{l o},k'.get l=some o->(∃p∈outs,l=Hj G n p.1/\o=shO (Hj G n) p.2)\/(val l<n/\h.get l=some o):=λ{l o} hg=>by
  rw [Hz] at hg;rcases Vu (t:=h.t) hg with g | ⟨_,g⟩
  ·exact .inl (osm g)
  ·exact .inr ⟨by rw [hn];exact hw l (by show (h.t.get l).isSome=true;rw [g];rfl),g⟩
 have dN:∀p∈outs,h.get (Hj G n p.1)=none:=λp hp=>by
  cases hg:h.get (Hj G n p.1) with
  | none=>rfl
  | some o=>
    have:=hw (Hj G n p.1) (by rw [hg];rfl);obtain ⟨_,a2,_⟩:=zO p hp;rw [afI a2] at this;omega
 have Nc:val k'.next=n+(val h0'.next - G):=by rw [Hz];exact ff _
 have ayA:Mod h k' []:=⟨λl o hg _=>by rw [abV (by rw [hn];exact hw l (by rw [hg];rfl))];exact hg,by rw [Nc];omega⟩;have hwf:Wf k':=λl hl=>by
  obtain ⟨o,ho⟩:=Option.isSome_iff_exists.1 hl;rw [Nc];rcases arD ho with ⟨p,hp,rfl,_⟩ | ⟨g,_⟩
  ·obtain ⟨_,a2,a3,_⟩:=zO p hp
   rw [afI a2];omega
  ·omega
 refine ⟨shV (Hj G n) v,k',ρ',hq k' (Hj G n) ayz dN arC ayA hwf,⟨λl hl=>rlt (by omega),by rw [Nc];omega⟩,hv0.sh SH hv,?_⟩;have afJ:∀{L b o},ρ' L=some b->k'.get L=some o->n<=val L->∃p∈outs,L=Hj G n p.1/\o=shO (Hj G n) p.2/\∃c,Vv p.1=some c/\afG c b:=λ{L b o} hl hg jl=>by
  rcases arD hg with ⟨p,hp,rfl,rfl⟩ | ⟨g,_⟩
  ·obtain ⟨_,a2,_,a4,_⟩:=zO p hp
   rw [rge a2 a4] at hl;cases hc:Vv p.1 with
   | none=>rw [hc] at hl;cases hl
   | some c=>rw [hc] at hl;cases hl;exact ⟨p,hp,rfl,rfl,c,hc,⟨rfl,rfl,rfl⟩⟩
  ·omega
 refine ⟨λL b o hl hg=>?_,λL b hl=>?_,λL b hl=>?_,λL M b c hl hm il im e=>?_,λL b o hl hg hwr=>?_,Rw.size,Rw.below⟩
 ·rcases Nat.lt_or_ge (val L) n with g | g
  ·rw [rlt g] at hl
   rw [abV g] at hg;exact (Rw.obj L b o hl hg).jH E rfl
  ·obtain ⟨p,hp,rfl,rfl,c,hc,hb⟩:=afJ hl hg g
   obtain ⟨a1,_,_,_,a5⟩:=zO p hp;exact (R0'.obj p.1 c p.2 hc a1).sh SH hb a5
 ·rw [Nc]
  rcases inv hl with ⟨g,_⟩ | ⟨g,_,c,hc,_⟩
  ·omega
  ·have:=R0'.lt _ _ hc
   rw [ff] at this;omega
 ·rcases inv hl with ⟨_,g⟩ | ⟨_,_,c,hc,rfl⟩
  ·exact R.base L b g
  ·exact ⟨(R0'.base _ _ hc).1,.nil rfl⟩
 ·obtain ⟨o1,h1⟩:=Option.isSome_iff_exists.1 il
  obtain ⟨o2,h2⟩:=Option.isSome_iff_exists.1 im;have ajO:∀{L b o},val L<n->ρ' L=some b->k'.get L=some o->b.block<w.heap.size:=λ{L b o} g hl hg=>by
   rw [rlt g] at hl;rw [abV g] at hg;exact (R.obj L b o hl hg).lt
  have ajP:∀{L b o},n<=val L->ρ' L=some b->k'.get L=some o->w.heap.size<=b.block:=λ{L b o} g hl hg=>by
   obtain ⟨p,hp,rfl,rfl,c,hc,hb⟩:=afJ hl hg g;obtain ⟨a1,_,_,_,a5⟩:=zO p hp;rw [hb.block];exact R0'.own p.1 c p.2 hc a1 (Ih a5)
  rcases Nat.lt_or_ge (val L) n with g1 | g1
  ·rcases Nat.lt_or_ge (val M) n with g2 | g2
   ·rw [rlt g1] at hl
    rw [rlt g2] at hm;rw [abV g1] at h1;rw [abV g2] at h2;exact R.inj L M b c hl hm (by rw [h1];rfl) (by rw [h2];rfl) e
   ·have a:=ajO g1 hl h1
    have b':=ajP g2 hm h2;omega
  ·rcases Nat.lt_or_ge (val M) n with g2 | g2
   ·have a:=ajO g2 hm h2
    have b':=ajP g1 hl h1;omega
   ·obtain ⟨p,hp,rfl,rfl,c1,YN,cw⟩:=afJ hl h1 g1
    obtain ⟨q,ax,rfl,rfl,c2,HQ,dh⟩:=afJ hm h2 g2;obtain ⟨a1,_⟩:=zO p hp;obtain ⟨a2,_⟩:=zO q ax;rw [R0'.inj p.1 q.1 c1 c2 YN HQ (by rw [a1];rfl) (by rw [a2];rfl) (by rw [<-cw.block,<-dh.block];exact e)]
 ·rcases Nat.lt_or_ge (val L) n with g | g
  ·rw [rlt g] at hl
   rw [abV g] at hg;exact R.own L b o hl hg hwr
  ·obtain ⟨p,hp,rfl,rfl,c,hc,hb⟩:=afJ hl hg g
   obtain ⟨a1,_,_,_,a5⟩:=zO p hp;rw [hb.block];exact Nat.le_trans R.size (R0'.own p.1 c p.2 hc a1 (Ih a5))
end
end Go.Dx
namespace Go.Dx
open Go
variable{α:Type}
namespace K
noncomputable section
def Br {α a:Type}(x:Option α)(f:α->Option a):Option a:=Option.rec (motive:=λ_=>Option a) none f x
def amD {a:Type}(b:Bool)(k:Option a):Option a:=Bool.rec (motive:=λ_=>Option a) none k b
def amE {α:Type}(_l:T α)(v:Option α)(_r:T α)(c a:Lb->Option α) (p:Lb):Option α:=
 List.rec (motive:=λ_=>Option α) v (λb d _=>Bool.rec (motive:=λ_=>Option α) (c d) (a d) b) p
def amG {α:Type}(t:T α):Lb->Option α:=T.rec (motive:=λ_=>Lb->Option α) (λ_=>none) amE t
def Vw {α:Type}(p:Lb)(x:Option α):T α:=
 List.rec (motive:=λ_=>T α) (.node .leaf x .leaf) (λb _ a=>Bool.rec (motive:=λ_=>T α) (.node a none .leaf) (.node .leaf none a) b) p
def setRow {α:Type}(l:T α)(v:Option α)(r:T α)(c a:Lb->Option α->T α) (p:Lb) (x:Option α):T α:=
 List.rec (motive:=λ_=>T α) (.node l x r) (λb d _=>Bool.rec (motive:=λ_=>T α) (.node (c d x) v r) (.node l v (a d x)) b) p
def arE {α:Type}(t:T α):Lb->Option α->T α:=T.rec (motive:=λ_=>Lb->Option α->T α) Vw setRow t
theorem ZG (t:T α):∀p,amG t p=t.get p:=by
 induction t with
 | leaf=>intro p;rfl
 | node l v r ihl ihr=>
   intro p;cases p with
   | nil=>rfl
   | cons b p=>cases b
               ·exact ihl p
               ·exact ihr p
theorem Vx (x:Option α):∀p,Vw p x=T.set (.leaf:T α) p x:=by
 intro p;induction p with
 | nil=>rfl
 | cons b p ih=>cases b<;>(simp only [T.set,<-ih];rfl)
theorem ah9 (t:T α):∀p x,arE t p x=t.set p x:=by
 induction t with
 | leaf=>intro p x;exact Vx x p
 | node l v r ihl ihr=>
   intro p x;cases p with
   | nil=>rfl
   | cons b p=>cases b
               ·simp only [T.set,<-ihl];rfl
               ·simp only [T.set,<-ihr];rfl
def ZH (tm:T V)(p:Lb):V:=Option.rec (motive:=λ_=>V) undef (λv=>v) (amG tm p)
def kE (x:X)(tm:T V):V:=X.rec (motive:=λ_=>T V->V) (λp tm=>ZH tm p) (λv _=>v) x tm
def amH (l:List X)(tm:T V):List V:=List.rec (motive:=λ_=>T V->List V) (λ_=>[]) (λx _ a tm=>kE x tm::a tm) l tm
theorem Vy (tm:T V)(p:Lb):ZH tm p=bV tm p:=by
 unfold ZH bV;rw [ZG];cases tm.get p<;>rfl
theorem Dl (x:X)(tm:T V):kE x tm=x.ev tm:=by
 cases x with
 | t p=>exact Vy tm p
 | c v=>rfl
theorem ah' (l:List X)(tm:T V):amH l tm=Wh tm l:=by
 induction l with
 | nil=>rfl
 | cons x l ih=>simp only [Wh,<-ih,<-Dl];rfl
def Se (x:Option X)(tm:T V):Option V:=Option.rec (motive:=λ_=>T V->Option V) (λ_=>none) (λx tm=>some (kE x tm)) x tm
theorem aia (x:Option X)(tm:T V):Se x tm=SE tm x:=by
 cases x with
 | none=>rfl
 | some x=>simp only [SE,<-Dl];rfl
def isTrue (v:V):Option Bool:=match v with
 | .bool b=>some b
 | _=>none
def afK (c a b:X)(_:Env)(tm:T V):Option V:=Br (isTrue (kE c tm)) λx=>Bool.rec (motive:=λ_=>Option V) (some (kE b tm)) (some (kE a tm)) x
def Yi (z:List V)(ps:List (Nat×Nat×X))(_:Env)(tm:T V):Option V:=Br (oP tm ps z) λcs=>some (.agg cs)
def ayB (x:X)(_:Env)(tm:T V):Option V:=uP (kE x tm)
def ayC (op:BinOp)(a:EK)(x y:X)(E:Env)(tm:T V):Option V:=binOp E.plain op a (kE x tm) (kE y tm)
def pUn (op:UnOp)(x:X)(_:Env)(tm:T V):Option V:=unOp op (kE x tm)
def amI (k:IntKind)(x:X)(_:Env)(tm:T V):Option V:=match kE x tm with
 | .int _ n=>some (.int k (bU k n))
 | _=>none
def arF (x:X)(_:Env)(tm:T V):Option V:=match kE x tm with
 | .int _ n=>some (.str ((Utf8.encode n).data.toList.map (·.toNat)))
 | _=>none
def afL (x:X)(_:Env)(tm:T V):Option V:=F6 (kE x tm)
def amJ (t:TypeId)(x:X)(_:Env)(tm:T V):Option V:=some (.iface t (kE x tm))
def arG (f:FuncId)(a b:List X)(_:Env)(tm:T V):Option V:=some (.func f (amH a tm) (amH b tm))
def abW (x:X)(lo hi:Option X)(_:Env)(tm:T V):Option V:=match kE x tm with
 | .str s=>mY s (Se lo tm) (Se hi tm)
 | _=>none
def amK (size:Nat)(x:X)(lo hi a:Option X)(_:Env)(tm:T V):Option V:=dV size (kE x tm) (Se lo tm) (Se hi tm) (Se a tm)
def abX (n size:Nat)(x:X)(lo hi a:Option X)(_:Env)(tm:T V):Option V:=uL n size (kE x tm) (Se lo tm) (Se hi tm) (Se a tm)
def Yj (o:Nat)(x:X)(_:Env)(tm:T V):Option V:=match kE x tm with
 | .ptr a off=>some (.ptr a (off+o))
 | _=>none
def amL (a:Rd)(o:Nat)(x:X)(_:Env)(tm:T V):Option V:=match kE x tm with
 | .agg cs=>dB a cs o
 | _=>none
def Yk (size:Nat)(x i:X)(_:Env)(tm:T V):Option V:=rX size (kE x tm) (kE i tm)
def abY (n size:Nat)(x i:X)(_:Env)(tm:T V):Option V:=uM n size (kE x tm) (kE i tm)
def abZ (x i:X)(_:Env)(tm:T V):Option V:=uN (kE x tm) (kE i tm)
def ab0 (a:Rd)(n size:Nat)(x i:X)(_:Env)(tm:T V):Option V:=Cb a n size (kE x tm) (kE i tm)
def afM (w:Array (String×TypeId))(z:V)(a:Bool)(x:X)(E:Env)(tm:T V):Option V:=tv (E.has w) z a (kE x tm)
def afN (t:TypeId)(z:V)(a:Bool)(x:X)(_:Env)(tm:T V):Option V:=zX t z a (kE x tm)
def afO (i:Nat)(x:X)(_:Env)(tm:T V):Option V:=zY i (kE x tm)
def aib (x:X)(_:Env)(tm:T V):Option V:=DT (kE x tm)
def ab1 (x:X)(_:Env)(tm:T V):Option V:=uO (kE x tm)
def aic (n:Nat)(_:Env)(_:T V):Option V:=some (.int .i64 (Int.ofNat n))
def ayD (x:X)(_:Env)(tm:T V):Option V:=YG (kE x tm)
def ayE (x y:X)(_:Env)(tm:T V):Option V:=YH (kE x tm) (kE y tm)
def ayF (x y:X)(_:Env)(tm:T V):Option V:=YI (kE x tm) (kE y tm)
def arH (x:X)(_:Env)(tm:T V):Option V:=nL (kE x tm)
def aid (n:Nat)(x:X)(_:Env)(tm:T V):Option V:=Tp n (kE x tm)
def PDK (d:PD)(E:Env)(tm:T V):Option V:=
 PD.rec (motive:=λ_=>Env->T V->Option V) afK Yi ayB ayC pUn amI arF afL amJ arG abW amK abX Yj amL Yk abY abZ ab0 afM afN afO aib ab1 aic ayD ayE ayF arH aid d E tm
theorem amM (d:PD)(E:Env)(tm:T V):PDK d E tm=d.eval E tm:=by
 cases d<;>(simp only [PD.eval,<-Dl,<-ah',<-aia];try rfl)
 case pick c a b=>
  show afK c a b E tm=_
  unfold afK isTrue;cases kE c tm<;>try rfl
  rename_i x;cases x<;>rfl
 case build z ps=>show Yi z ps E tm=_;unfold Yi;cases oP tm ps z<;>rfl
def wz (v:V):Option (Lb×Nat):=match v with
 | .ptr l o=>some (l,o)
 | _=>none
def afP (a:Rd)(x:X)(tm:T V):Option Q:=Br (wz (kE x tm)) λp=>some (.load a p.1 p.2)
def Sf (a:PK)(z:V)(b:Bool)(m k:X)(tm:T V):Option Q:=amD (plainKey a (kE k tm)) (some (.lookup a z b (kE m tm) (kE k tm)))
def amN (x:X)(tm:T V):Option Q:=some (.bytes (kE x tm))
def amO (x:X)(tm:T V):Option Q:=Br (wz (kE x tm)) λp=>some (.row p.1 p.2)
def Sg (u:TypeId)(n:Nat)(x:X)(tm:T V):Option Q:=Br (wz (kE x tm)) λp=>some (.whole u n p.1 p.2)
def aie (x:X)(tm:T V):Option Q:=some (.mapLen (kE x tm))
def Yl (t:TypeId)(cs:List V)(x:X)(tm:T V):Option Q:=Br (wz (kE x tm)) λp=>some (.fresh t cs p.1 p.2)
def Sh (t:TypeId)(cs:List V)(n:Nat)(x:X)(tm:T V):Option Q:=Br (wz (kE x tm)) λp=>some (.freshS t cs n p.1 p.2)
def Ym (x:X)(tm:T V):Option Q:=Br (wz (kE x tm)) λp=>some (.entry p.1 p.2)
def aif (e:TypeId)(x s:X)(tm:T V):Option Q:=RD.px tm (.freshB e x s)
def RDK (d:RD)(tm:T V):Option Q:=RD.rec (motive:=λ_=>T V->Option Q) afP Sf amN amO Sg aie Yl Sh Ym aif d tm
theorem amP (d:RD)(tm:T V):RDK d tm=d.px tm:=by
 cases d<;>simp only [RD.px,<-Dl]
 case load rd x=>show afP rd x tm=_;unfold afP wz eK;cases kE x tm<;>rfl
 case lookup pk z ok m k=>show Sf pk z ok m k tm=_;unfold Sf;cases plainKey pk (kE k tm)<;>rfl
 case bytesStr x=>rfl
 case ptrUnsafe x=>show amO x tm=_;unfold amO wz eK;cases kE x tm<;>rfl
 case unsafePtr u n x=>show Sg u n x tm=_;unfold Sg wz eK;cases kE x tm<;>rfl
 case mapLen x=>rfl
 case freshS t cs n x=>show Sh t cs n x tm=_;unfold Sh wz eK;cases kE x tm<;>rfl
 case entry x=>show Ym x tm=_;unfold Ym wz eK;cases kE x tm<;>rfl
 case freshB e x s=>show RD.px tm (.freshB e x s)=_;simp only [RD.px,<-Dl]
 case fresh t cs x=>show Yl t cs x tm=_;unfold Yl wz eK;cases kE x tm<;>rfl
def amQ (want b:Bool):Bool:=Bool.rec (motive:=λ_=>Bool) (!b) b want
def Yn (g:Lb×Bool)(tm:T V):Bool:=Option.rec (motive:=λ_=>Bool) false (amQ g.2) (isTrue (ZH tm g.1))
def Yo (g:Option (Lb×Bool))(tm:T V):Bool:=Option.rec (motive:=λ_=>T V->Bool) (λ_=>true) Yn g tm
def ayG (d:Lb)(v:V)(tm:T V):T V:=arE tm d (some v)
def Si (d:Option Lb)(v:V)(tm:T V):T V:=Option.rec (motive:=λ_=>V->T V->T V) (λ_ tm=>tm) ayG d v tm
def ayH (x:X)(a:Option Lb)(_:Env)(_:jF)(tm:T V)(ds:List (FuncId×List V))(h:H)(k:T V->List (FuncId×List V)->H->Option (A×H)):Option (A×H):=k (Si a (kE x tm) tm) ds h
def sP (q:PD)(a:Option Lb)(E:Env)(_:jF)(tm:T V)(ds:List (FuncId×List V))(h:H)(k:T V->List (FuncId×List V)->H->Option (A×H)):Option (A×H):=Br (PDK q E tm) λv=>k (Si a v tm) ds h
def sR (q:RD)(a:Option Lb)(_:Env)(_:jF)(tm:T V)(ds:List (FuncId×List V))(h:H)(k:T V->List (FuncId×List V)->H->Option (A×H)):Option (A×H):=Br (RDK q tm) λq=>Br (q.ask h) λv=>k (Si a v tm) ds h
def sE (q:ED)(a:Option Lb)(_:Env)(_:jF)(tm:T V)(ds:List (FuncId×List V))(h:H)(k:T V->List (FuncId×List V)->H->Option (A×H)):Option (A×H):=Br (q.run tm h) λr=>k (Si a r.1 tm) ds r.2
def sC (q:CD)(a:Option Lb)(E:Env)(call:jF)(tm:T V)(ds:List (FuncId×List V))(h:H)(k:T V->List (FuncId×List V)->H->Option (A×H)):Option (A×H):=Br (q.args E tm) λf=>Br (call f.1 f.2 h) λr=>k (Si a r.1 tm) ds r.2
def Yp (q:CD)(a:Option Lb)(E:Env)(_:jF)(tm:T V)(ds:List (FuncId×List V))(h:H)(k:T V->List (FuncId×List V)->H->Option (A×H)):Option (A×H):=Br (q.args E tm) λf=>k (Si a undef tm) (f::ds) h
def amR (_:Option Lb)(_:Env)(_:jF)(_:T V)(_:List (FuncId×List V))(_:H)(_:T V->List (FuncId×List V)->H->Option (A×H)):Option (A×H):=none
def ajQ (d:D)(a:Option Lb)(E:Env)(call:jF)(tm:T V)(ds:List (FuncId×List V))(h:H)(k:T V->List (FuncId×List V)->H->Option (A×H)):Option (A×H):=
 D.rec (motive:=λ_=>Option Lb->Env->jF->T V->List (FuncId×List V)->H->(T V->List (FuncId×List V)->H->Option (A×H))->Option (A×H)) ayH sP sR sE sC Yp amR d a E call tm ds h k
def amS (_:Env)(_:jF)(tm:T V)(ds:List (FuncId×List V))(h:H):Option (A×H):=some ({tmps:=tm,defers:=ds},h)
def Sj (d:DO)(_:List DO)(a:Env->jF->T V->List (FuncId×List V)->H->Option (A×H)) (E:Env) (call:jF) (tm:T V) (ds:List (FuncId×List V)) (h:H):Option (A×H):=
 Bool.rec (motive:=λ_=>Option (A×H)) (a E call (Si d.dst undef tm) ds h) (ajQ d.op d.dst E call tm ds h (a E call)) (Yo d.guard tm)
def Fy (l:List DO):Env->jF->T V->List (FuncId×List V)->H->Option (A×H):=
 List.rec (motive:=λ_=>Env->jF->T V->List (FuncId×List V)->H->Option (A×H)) amS Sj l
theorem ab2 (g:Option (Lb×Bool))(tm:T V):Yo g tm=dY tm g:=by
 cases g with
 | none=>rfl
 | some g=>
   obtain ⟨p,w⟩:=g;show Yn (p,w) tm=_
   unfold Yn isTrue dY;simp only [Vy];cases bV tm p<;>cases w<;>rfl
theorem Sk (a:A)(d:Option Lb)(v:V):{tmps:=Si d v a.tmps,defers:=a.defers} =a.put d v:=by
 cases d with
 | none=>rfl
 | some d=>simp only [A.put,<-ah9];rfl
theorem wA {a:Type}(x:Option α)(f:α->Option a):Br x f=ob x f:=by cases x<;>rfl
theorem Yq (E:Env)(call:jF):∀(l:List DO) (a:A) (h:H),Fy l E call a.tmps a.defers h=uS E call l a h:=by
 intro l;induction l with
 | nil=>intro a h;rfl
 | cons d l ih=>
   intro a h;show Sj d l (Fy l) E call a.tmps a.defers h=_
   unfold Sj;simp only [uS,<-ab2];cases Yo d.guard a.tmps with
   | false=>exact (ih (a.put d.dst undef) h▸by rw [<-Sk])
   | true=>
     show ajQ d.op d.dst E call a.tmps a.defers h (Fy l E call)=_
     have key:∀v h',Fy l E call (Si d.dst v a.tmps) a.defers h'=uS E call l (a.put d.dst v) h':=λv h'=>by
      rw [<-ih (a.put d.dst v) h',<-Sk]
     obtain ⟨b,op,g⟩:=d;cases op with
     | SD x=>simp only [DU,ob,<-Dl];exact key _ _
     | p q=>
       show sP q b E call a.tmps a.defers h _=_
       unfold sP;simp only [DU,amM,wA];cases q.eval E a.tmps<;>simp only [ob];exact key _ _
     | r q=>
       show sR q b E call a.tmps a.defers h _=_
       unfold sR;simp only [DU,amP,wA];cases q.px a.tmps<;>simp only [ob];rename_i j;cases j.ask h<;>simp only [];exact key _ _
     | e q=>
       show sE q b E call a.tmps a.defers h _=_
       unfold sE;simp only [DU,wA];cases q.run a.tmps h<;>simp only [ob];exact key _ _
     | c q=>
       show sC q b E call a.tmps a.defers h _=_
       unfold sC;simp only [DU,wA];cases q.args E a.tmps<;>simp only [ob];rename_i f;cases call f.1 f.2 h<;>simp only [];exact key _ _
     | defer q=>
       show Yp q b E call a.tmps a.defers h _=_
       unfold Yp;simp only [DU,wA];cases q.args E a.tmps<;>simp only [ob];rename_i f;rw [<-ih ({tmps:=a.tmps,defers:=f::a.defers:A}.put b undef) h,<-Sk]
     | stuck=>rfl
abbrev Ec:=DC->A->H->Option (Ex×A×H)
def arI (_:Env)(_:jF)(_:Ec)(a:A)(h:H):Option (Ex×A×H):=some (.normal,a,h)
def amT (l:List DO)(E:Env)(call:jF)(_:Ec)(a:A)(h:H):Option (Ex×A×H):=Br (Fy l E call a.tmps a.defers h) λr=>some (.normal,r.1,r.2)
def afQ (m:List Made)(l:List (DO×Nat×Nat))(E:Env)(call:jF)(_:Ec)(a:A)(h:H):Option (Ex×A×H):=
 Br (DV E l m a.tmps h) λm=>Br (gj E call l {tmps:=(makeAll m a.tmps h).1,defers:=a.defers} (makeAll m a.tmps h).2 0 [] []) λr=>some (.normal,r.1,r.2)
def ZI (next:A->H->Option (Ex×A×H)) (r:Ex×A×H):Option (Ex×A×H):=
 Ex.rec (motive:=λ_=>A->H->Option (Ex×A×H)) next (λi a h=>some (.exit i,a,h)) (λa h=>some (.ret,a,h)) r.1 r.2.1 r.2.2
def ayI (x y:DC)(_ _:Env->jF->Ec->A->H->Option (Ex×A×H)) (_:Env) (_:jF) (b:Ec) (a:A) (h:H):Option (Ex×A×H):=Br (b x a h) (ZI (b y))
def arJ (c:X)(x y:DC)(_ _:Env->jF->Ec->A->H->Option (Ex×A×H)) (_:Env) (_:jF) (d:Ec) (a:A) (h:H):Option (Ex×A×H):=
 Br (isTrue (kE c a.tmps)) λb=>Bool.rec (motive:=λ_=>Option (Ex×A×H)) (d y a h) (d x a h) b
def Hk (id:Nat)(r:Ex×A×H):Option (Ex×A×H):=
 Ex.rec (motive:=λ_=>A->H->Option (Ex×A×H)) (λa h=>some (.normal,a,h)) (λi a h=>some (Bool.rec (motive:=λ_=>Ex) (.exit i) .normal (Nat.beq i id),a,h)) (λa h=>some (.ret,a,h)) r.1 r.2.1 r.2.2
def amU (id:Nat)(b:DC)(_:Env->jF->Ec->A->H->Option (Ex×A×H)) (_:Env) (_:jF) (c:Ec) (a:A) (h:H):Option (Ex×A×H):=Br (c b a h) (Hk id)
def arK (b:DC)(_:Env->jF->Ec->A->H->Option (Ex×A×H)) (_:Env) (_:jF) (c:Ec) (a:A) (h:H):Option (Ex×A×H):=Br (c b a h) (ZI (c (.loop b)))
def arL (id:Nat)(_:Env)(_:jF)(_:Ec)(a:A)(h:H):Option (Ex×A×H):=some (.exit id,a,h)
def ayJ (_:Env)(_:jF)(_:Ec)(a:A)(h:H):Option (Ex×A×H):=some (.ret,a,h)
def amV (_:Env)(_:jF)(_:Ec)(_:A)(_:H):Option (Ex×A×H):=none
def afR (E:Env)(call:jF)(b:Ec)(c:DC)(a:A)(h:H):Option (Ex×A×H):=
 DC.rec (motive:=λ_=>Env->jF->Ec->A->H->Option (Ex×A×H)) arI amT afQ ayI arJ amU arK arL ayJ amV c E call b a h
theorem afS (E:Env)(call:jF)(d:Ec)(c:DC)(a:A)(h:H):afR E call d c a h=cM E call d c a h:=by
 cases c with
 | skip=>rfl
 | ops l=>show amT l E call d a h=_;unfold amT;rw [Yq,wA];rfl
 | draw m l=>show afQ m l E call d a h=_;unfold afQ;simp only [wA];rfl
 | seq x y=>
   show Br (d x a h) (ZI (d y))=_
   rw [wA];simp only [cM];cases d x a h with
   | none=>rfl
   | some r=>obtain ⟨e,f,h'⟩:=r;cases e<;>rfl
 | cond c x y=>
   show Br (isTrue (kE c a.tmps)) _=_
   simp only [cM,<-Dl];cases kE c a.tmps<;>try rfl
   rename_i b;cases b<;>rfl
 | block id b=>
   show Br (d b a h) (Hk id)=_
   rw [wA];simp only [cM];cases d b a h with
   | none=>rfl
   | some r=>
     obtain ⟨e,f,h'⟩:=r;cases e with
     | exit i=>simp only [ob,Hk];cases Nat.beq i id<;>rfl
     | _=>rfl
 | loop b=>
   show Br (d b a h) (ZI (d (.loop b)))=_
   rw [wA];simp only [cM];cases d b a h with
   | none=>rfl
   | some r=>obtain ⟨e,f,h'⟩:=r;cases e<;>rfl
 | exit id=>rfl
 | ret=>rfl
 | stuck=>rfl
def amW (r:V×H):Option (V×H):=some r
def afT (a:T br)(f:FuncId):Option br:=amD (Nat.blt f 65536) (amG a (pathOf f))
def arM (a:FuncId->List V->H->Option H) (fn:br) (r:Ex×A×H):Option (V×H):=
 Ex.rec (motive:=λ_=>Option (V×H)) (Br (xU a r.2.1.defers r.2.2) λh'=>Br (dQ h' r.2.1.tmps fn.results) λvs=>some (r8 vs,h')) (λ_=>none)
  (Br (xU a r.2.1.defers r.2.2) λh'=>Br (dQ h' r.2.1.tmps fn.results) λvs=>some (r8 vs,h')) r.1
def ZJ (b:T br)(d:jF)(c:FuncId->List V->H->Option H) (a:Ec) (f:FuncId) (args:List V) (h:H):Option (V×H):=
 Option.rec (motive:=λ_=>Option (V×H)) (Br (afT b f) λfn=>Br (oM a fn args h) (arM (Ts b c a) fn)) amW (d f args h)
theorem afU (a:T br)(f:FuncId):afT a f=Qd a f:=by
 unfold afT Qd amD bO;rw [ZG];cases Nat.blt f 65536<;>rfl
theorem afV (c:T br)(d:jF)(g:FuncId->List V->H->Option H) (b:Ec) (f:FuncId) (args:List V) (h:H):
  ZJ c d g b f args h=Tt c d g b f args h:=by
 unfold ZJ Tt;cases d f args h with
 | some r=>rfl
 | none=>
   simp only [wA,afU]
   congr 1;funext fn
   congr 1;funext r
   obtain ⟨e,a,h'⟩:=r;cases e<;>simp only [arM,wA]
def Vz (E:Env)(b:T br)(e:jF)(d:FuncId->List V->H->Option H) (n:Nat):Wi:=
 Nat.rec (motive:=λ_=>Wi) aiB (λ_ t=>{exec:=λc a h=>afR E t.call t.exec c a h,call:=λf args h=>ZJ b e d t.exec f args h}) n
theorem afW (E:Env)(b:T br)(e:jF)(d:FuncId->List V->H->Option H):∀n,Vz E b e d n=acZ E b e d n:=by
 intro n;induction n with
 | zero=>rfl
 | succ n ih=>
   show ({exec:=λc a h=>afR E (Vz E b e d n).call (Vz E b e d n).exec c a h,call:=λf args h=>ZJ b e d (Vz E b e d n).exec f args h}:Wi)=_
   simp only [afS,afV,ih];rfl
end
end K
end Go.Dx
namespace Go.Dx
open Go Go.RowKit
theorem Good.calls {P:Program}{f:FuncId}{func:Func}{c:Code}{xs:List Value}{w:World}{R:Value->World->Prop} (g:P.funcs[f]? =some func) (d:func.body=some c) (a:(func.name == "runtime.NumGoroutine")=false) (h:Good P f xs w R):
  Calls P f ⟨xs⟩ w λe w'=>∃v,e = .returned v/\R v w':=by
 rcases h with ⟨x,w',b,_⟩ | ⟨_,h⟩
 ·exfalso
  have a:¬func.name = "runtime.NumGoroutine":=λe=>by rw [e] at a;simp at a
  unfold callFunc at b;simp [g,a,d] at b
 ·exact h
end Go.Dx
namespace Go.Dx
open Go
section
variable {P:Program} {h k h':H}
def without (a:T br):List FuncId->T br
 | []=>a
 | f::r=>(without a r).set (pathOf f) none
theorem MI {a:T br}{g:FuncId}{d:br}:∀{l:List FuncId},Qd (without a l) g=some d->Qd a g=some d
 | [],h=>h
 | f::r,h=>by
   refine MI (l:=r) ?_;simp only [Qd,ai,without] at h ⊢;refine ⟨h.1,?_⟩
   by_cases e:pathOf f=pathOf g
   ·rw [e,T.aY] at h;cases h.2
   ·rw [T.bh _ _ _ _ e] at h;exact h.2
end
end Go.Dx
namespace Go.Dx
open Go Go.RowKit
def vS (P:Program)(G:Nat):Nat->T br
 | 0=>.leaf
 | n+1=>(vS P G n).set (pathOf n) (ob P.funcs[n]? (qH P G))
theorem MJ {P:Program}{G:Nat}:∀{n:Nat},n<=65536->∀{f:FuncId} {fn:br},f<65536->(vS P G n).get (pathOf f)=some fn->∃func,P.funcs[f]? =some func/\qH P G func=some fn
 | 0,_,f,fn,_,h=>by simp [vS,T.kW] at h
 | n+1,hn,f,fn,hf,h=>by
   by_cases e:f=n
   ·subst e
    simp only [vS,T.aY] at h;rw [ad] at h;obtain ⟨func,a,b⟩:=h;exact ⟨func,a,b⟩
   ·have:pathOf n≠pathOf f:=λh=>e (fk (Nat.lt_of_lt_of_le hn (by decide)) (Nat.lt_trans hf (by decide)) h).symm
    simp only [vS,T.bh _ _ _ _ this] at h;exact MJ (by omega) hf h
theorem ab3 {P:Program}{G n:Nat}(b:n<=65536)(l:List FuncId):TS P G (without (vS P G n) l):=by
 intro f fn a;have a:=MI a;simp only [Qd,ai] at a;obtain ⟨d,c⟩:=a;exact MJ b (by simpa using d) c
end Go.Dx
