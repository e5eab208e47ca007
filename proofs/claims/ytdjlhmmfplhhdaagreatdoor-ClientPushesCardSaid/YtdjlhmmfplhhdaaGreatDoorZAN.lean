/-
  The client's laws. Part ZAN of the proof: What code comes to: the rules of the places where a step stands still (numbers, texts, loops).
-/
import Derived.Test.YtdjlhmmfplhhdaaGreatDoorZAM
namespace Go.Dx
open Go Go.RowKit
def gU:List Lb->List V->T V
 | p::ps,v::vs=>(gU ps vs).set p (some v)
 | _,_=>.leaf
structure akN (I:Nat->List V->H->Prop) (m:Nat) (aB:List V) (h:H) (ds ds':List (FuncId×List V)):Prop where
 out:ds'=ds/\∃m',m'<m/\I m' aB h
def aoM (ps:List Lb)(I:Nat->List V->H->Prop) (m:Nat) (ds:List (FuncId×List V)) (Q:Ex->A->H->Prop):Ex->A->H->Prop
 | .normal,a,h=>gxs a.tmps (ps.map X.t) λb=>akN I m b h ds a.defers
 | .exit i,a,h=>Q (.exit i) a h
 | .ret,a,h=>Q .ret a h
section
variable {pf:Unit->Program} {G n:Nat}
theorem u9 {f:T V}:∀{ps:List Lb} {a:List V},ps.map (λp=>f.get p)=a.map some->agW (gU ps a) f
 | [],[],_=>λp v e=>by simp [gU,T.kW] at e
 | p::ps,v::vs,h=>by
   simp only [List.map_cons,List.cons.injEq] at h;obtain ⟨c,d⟩:=h;intro q u e
   by_cases hq:p=q
   ·subst hq;simp only [gU,T.aY,Option.some.injEq] at e;subst e;exact c
   ·simp only [gU,T.bh _ _ _ _ hq] at e;exact u9 d q u e
 | [],_::_,h=>by simp at h
 | _::_,[],h=>by simp at h
theorem Y3 {f:T V}:∀{ps:List Lb} {k:List V->Prop},gxs f (ps.map X.t) k->∃a,ps.map (λp=>f.get p)=a.map some/\k a
 | [],k,h=>⟨[],rfl,h⟩
 | p::ps,k,h=>by
   simp only [List.map_cons,gxs] at h;unfold gx at h;split at h
   ·rename_i v c
    have c:f.get p=some v:=c;obtain ⟨a,d,e⟩:=Y3 (k:=λvs=>k (v::vs)) h;exact ⟨v::a,by simp [c,d],e⟩
   ·exact h.elim
theorem LoopN.inv (ps:List Lb)(I:Nat->List V->H->Prop) {b:DC} {j:T V} {ds:List (FuncId×List V)} {h:H} {Q:Ex->A->H->Prop} {Pn:A->V->H->Prop} (d:List V) (r:ps.map (λp=>j.get p)=d.map some) (m:Nat) (x:I m d h)
  (body:∀m d h,I m d h->VQ pf G n b {tmps:=gU ps d,defers:=ds} h (aoM ps I m ds Q) Pn):LoopN pf G n b {tmps:=j,defers:=ds} h Q Pn:=by
 refine ⟨λc l=>SmL.rounds (λm a h=>∃d,I m d h/\a.defers=ds/\agW (gU ps d) a.tmps) (λm a h ⟨d,t,k,h3⟩=>?_) m _ _ ⟨d,x,rfl,u9 r⟩⟩;obtain ⟨u,y⟩:=a;simp only at k h3;subst k;refine ((Li l (body m d h t)).mono λe z h' q=>?_).weak h3;cases e with
 | exit i=>exact q
 | ret=>exact q
 | normal=>
   obtain ⟨g,w,s⟩:=Y3 q;obtain ⟨e,o,v,f⟩:=s.out;exact ⟨o,v,g,f,e,u9 w⟩
theorem FlN.flat {x:V}(a:cf x=true){K:List V->Prop} (k:K [x]):FlN x K:=⟨by cases x<;>first | exact k | simp [cf] at a⟩
theorem FlN.agg {cs:List V}{K:List V->Prop} (k:K cs):FlN (.agg cs) K:=⟨k⟩
theorem qq {x:Int}(b:-9223372036854775808<=x)(a:x<=9223372036854775807):bU .i64 x=x:=by
 rw [eT];simp [IntKind.wrap,IntKind.bits,IntKind.signed];omega
theorem Gn {x:Int}(b:0<=x)(a:x<=18446744073709551615):bU .u64 x=x:=by
 rw [eT];simp [IntKind.wrap,IntKind.bits,IntKind.signed];omega
theorem Lj {x:Int}(b:0<=x)(a:x<=255):bU .u8 x=x:=by
 rw [eT];simp [IntKind.wrap,IntKind.bits,IntKind.signed];omega
theorem aaD {x:Int}(b:0<=x)(a:x<=4294967295):bU .u32 x=x:=by
 rw [eT];simp [IntKind.wrap,IntKind.bits,IntKind.signed];omega
variable {ek:EK} {k:IntKind} {a b:Int} {K:V->Prop}
theorem aR (k:IntKind):FX k k=true:=by cases k<;>rfl
theorem bE.add (e:-9223372036854775808<=a+b:=by omega) (d:a+b<=9223372036854775807:=by omega) (c:∀x:Int,x=a+b->K (.int .i64 x)):bE pf .add ek (.int .i64 a) (.int .i64 b) K:=
 ⟨_,by simp only [binOp,aR,bO,ct,qq e d],c _ rfl⟩
theorem bE.sub (e:-9223372036854775808<=a - b:=by omega) (d:a - b<=9223372036854775807:=by omega) (c:∀x:Int,x=a - b->K (.int .i64 x)):bE pf .sub ek (.int .i64 a) (.int .i64 b) K:=
 ⟨_,by simp only [binOp,aR,bO,ct,qq e d],c _ rfl⟩
theorem bE.mul (e:-9223372036854775808<=a*b)(d:a*b<=9223372036854775807)(c:∀x:Int,x=a*b->K (.int .i64 x)):bE pf .mul ek (.int .i64 a) (.int .i64 b) K:=
 ⟨_,by simp only [binOp,aR,bO,ct,qq e d],c _ rfl⟩
theorem bE.Gp (c:∀x:Int,x=bU k (a+b)->K (.int k x)):bE pf .add ek (.int k a) (.int k b) K:=
 ⟨_,by simp only [binOp,aR,bO,ct],c _ rfl⟩
theorem bE.Ll (c:∀x:Int,x=bU k (a - b)->K (.int k x)):bE pf .sub ek (.int k a) (.int k b) K:=
 ⟨_,by simp only [binOp,aR,bO,ct],c _ rfl⟩
theorem bE.aaE (c:∀x:Int,x=bU k (a*b)->K (.int k x)):bE pf .mul ek (.int k a) (.int k b) K:=
 ⟨_,by simp only [binOp,aR,bO,ct],c _ rfl⟩
theorem bE.is {op:BinOp}{x y v:V}(h:∀a,binOp a op ek x y=some v) (b:K v):bE pf op ek x y K:=⟨v,h _,b⟩
theorem bE.QP (h:a<b:=by omega) (c:K (.bool true)):bE pf .lss ek (.int k a) (.int k b) K:=⟨.bool true,by simp [binOp,aR,bO,ct,cR];omega,c⟩
theorem bE.DF (h:b<=a:=by omega) (c:K (.bool false)):bE pf .lss ek (.int k a) (.int k b) K:=⟨.bool false,by simp [binOp,aR,bO,ct,cR];omega,c⟩
theorem bE.Ue (h:a<=b:=by omega) (c:K (.bool true)):bE pf .leq ek (.int k a) (.int k b) K:=⟨.bool true,by simp [binOp,aR,bO,ct,cR];omega,c⟩
theorem bE.atS (h:b<a:=by omega) (c:K (.bool false)):bE pf .leq ek (.int k a) (.int k b) K:=⟨.bool false,by simp [binOp,aR,bO,ct,cR];omega,c⟩
theorem bE.ZQ (h:b<a:=by omega) (c:K (.bool true)):bE pf .gtr ek (.int k a) (.int k b) K:=⟨.bool true,by simp [binOp,aR,bO,ct,cR];omega,c⟩
theorem bE.Ij (h:a<=b:=by omega) (c:K (.bool false)):bE pf .gtr ek (.int k a) (.int k b) K:=⟨.bool false,by simp [binOp,aR,bO,ct,cR];omega,c⟩
theorem bE.AB (h:b<=a:=by omega) (c:K (.bool true)):bE pf .geq ek (.int k a) (.int k b) K:=⟨.bool true,by simp [binOp,aR,bO,ct,cR];omega,c⟩
theorem bE.qQ (h:a<b:=by omega) (c:K (.bool false)):bE pf .geq ek (.int k a) (.int k b) K:=⟨.bool false,by simp [binOp,aR,bO,ct,cR];omega,c⟩
theorem bE.nH (h:a=b:=by omega) (c:K (.bool true)):bE pf .eql ek (.int k a) (.int k b) K:=⟨.bool true,by simp [binOp,aR,bO,ct,cE];omega,c⟩
theorem bE.cK (h:a≠b:=by omega) (c:K (.bool false)):bE pf .eql ek (.int k a) (.int k b) K:=⟨.bool false,by simp [binOp,aR,bO,ct,cE];omega,c⟩
theorem bE.iz (h:a=b:=by omega) (c:K (.bool false)):bE pf .neq ek (.int k a) (.int k b) K:=⟨.bool false,by simp [binOp,aR,bO,ct,cE];omega,c⟩
theorem bE.yr (h:a≠b:=by omega) (c:K (.bool true)):bE pf .neq ek (.int k a) (.int k b) K:=⟨.bool true,by simp [binOp,aR,bO,ct,cE];omega,c⟩
theorem bE.lt (d:a<b->K (.bool true)) (c:b<=a->K (.bool false)):bE pf .lss ek (.int k a) (.int k b) K:=by
 rcases Int.lt_or_le a b with h | h
 ·exact .QP h (d h)
 ·exact .DF h (c h)
theorem bE.le (d:a<=b->K (.bool true)) (c:b<a->K (.bool false)):bE pf .leq ek (.int k a) (.int k b) K:=by
 rcases Int.lt_or_le b a with h | h
 ·exact .atS h (c h)
 ·exact .Ue h (d h)
theorem bE.gt (d:b<a->K (.bool true)) (c:a<=b->K (.bool false)):bE pf .gtr ek (.int k a) (.int k b) K:=by
 rcases Int.lt_or_le b a with h | h
 ·exact .ZQ h (d h)
 ·exact .Ij h (c h)
theorem bE.ge (d:b<=a->K (.bool true)) (c:a<b->K (.bool false)):bE pf .geq ek (.int k a) (.int k b) K:=by
 rcases Int.lt_or_le a b with h | h
 ·exact .qQ h (c h)
 ·exact .AB h (d h)
theorem bE.eq (d:a=b->K (.bool true)) (c:a≠b->K (.bool false)):bE pf .eql ek (.int k a) (.int k b) K:=by
 by_cases h:a=b
 ·exact .nH h (d h)
 ·exact .cK h (c h)
theorem bE.ne (c:a=b->K (.bool false)) (d:a≠b->K (.bool true)):bE pf .neq ek (.int k a) (.int k b) K:=by
 by_cases h:a=b
 ·exact .iz h (c h)
 ·exact .yr h (d h)
theorem CvN.i64 (d:-9223372036854775808<=a:=by omega) (c:a<=9223372036854775807:=by omega) (b:K (.int .i64 a)):CvN .i64 a K:=⟨by rw [qq d c];exact b⟩
theorem CvN.u64 (d:0<=a:=by omega) (c:a<=18446744073709551615:=by omega) (b:K (.int .u64 a)):CvN .u64 a K:=⟨by rw [Gn d c];exact b⟩
theorem CvN.u8 (d:0<=a:=by omega) (c:a<=255:=by omega) (b:K (.int .u8 a)):CvN .u8 a K:=⟨by rw [Lj d c];exact b⟩
theorem CvN.u32 (d:0<=a:=by omega) (c:a<=4294967295:=by omega) (b:K (.int .u32 a)):CvN .u32 a K:=⟨by rw [aaD d c];exact b⟩
theorem CvN.any (b:∀x:Int,x=bU k a->K (.int k x)):CvN k a K:=⟨b _ rfl⟩
theorem akE.of (c:∀x:Int,x=max a b->K (.int k x)):akE (.int k a) (.int k b) K:=
 ⟨_,rfl,c _ (by rw [cR];by_cases h:a<b<;>simp [h,Ht]<;>omega)⟩
theorem akF.of (c:∀x:Int,x=min a b->K (.int k x)):akF (.int k a) (.int k b) K:=
 ⟨_,rfl,c _ (by rw [cR];by_cases h:b<a<;>simp [h,Ht]<;>omega)⟩
variable {s t:List Nat}
theorem bE.cat (h:s.length+t.length<9223372036854775807:=by omega) (a:∀r,r=s++t->K (.str r)):bE pf .add ek (.str s) (.str t) K:=
 ⟨_,by simp only [binOp,Hr];rw [show Nat.blt (s.length+t.length) 9223372036854775807=true from by simpa using h];rfl,a _ rfl⟩
theorem bE.aio (h:s=t)(a:K (.bool true)):bE pf .eql ek (.str s) (.str t) K:=⟨.bool true,by simp [binOp,Hr,iZ,h],a⟩
theorem bE.adZ (h:s≠t)(a:K (.bool false)):bE pf .eql ek (.str s) (.str t) K:=⟨.bool false,by simp [binOp,Hr,iZ,h],a⟩
theorem bE.acM (h:s=t)(a:K (.bool false)):bE pf .neq ek (.str s) (.str t) K:=⟨.bool false,by simp [binOp,Hr,iZ,h],a⟩
theorem bE.aoO (h:s≠t)(a:K (.bool true)):bE pf .neq ek (.str s) (.str t) K:=⟨.bool true,by simp [binOp,Hr,iZ,h],a⟩
theorem bE.seq (b:s=t->K (.bool true)) (a:s≠t->K (.bool false)):bE pf .eql ek (.str s) (.str t) K:=by
 by_cases h:s=t
 ·exact .aio h (b h)
 ·exact .adZ h (a h)
theorem bE.sne (a:s=t->K (.bool false)) (b:s≠t->K (.bool true)):bE pf .neq ek (.str s) (.str t) K:=by
 by_cases h:s=t
 ·exact .acM h (a h)
 ·exact .aoO h (b h)
theorem LsN.of (a:∀n:Int,0<=n->n.toNat=s.length->K (.int .i64 n)):LsN (.str s) K:=⟨_,rfl,a (Int.ofNat s.length) (by simp) (by simp)⟩
theorem agX.of {i:Int}{c:Nat}(hi:0<=i)(b:s[i.toNat]? =some c)(a:∀x:Int,0<=x->x.toNat=c->K (.int .u8 x)):agX (.str s) (.int k i) K:=by
 obtain ⟨j,rfl⟩:=Int.eq_ofNat_of_zero_le hi;exact ⟨.int .u8 (Int.ofNat c),by show ob (s[j]?) _=_;rw [show s[j]? =some c from b];rfl,a _ (by simp) (by simp)⟩
end
end Go.Dx
namespace Go.Dx
open Go Go.RowKit
variable{F':List Lb}{h h' h0:H}{l:Lb}{fz n size m:Nat}{vs cs els:List V}{v s:V}
def Wf (h:H):Prop:=∀l,(h.get l).isSome=true->val l<val h.next
def Obj.ro:Obj->Bool
 | .cells _ _ _ .no=>true
 | _=>false
structure Mod (h h':H)(F:List Lb):Prop where
 ni:∀l o,h.get l=some o->(l∉F\/o.ro=true)->h'.get l=some o
 next:val h.next<=val h'.next
theorem Mod.refl (h:H)(F:List Lb):Mod h h F:=⟨λ_ _ e _=>e,Nat.le_refl _⟩
theorem Mod.trans {Eg:H}{F:List Lb}(a:Mod h h' F)(b:Mod h' Eg F'):Mod h Eg (F++F'):=
 ⟨λl o e n=>b.ni l o (a.ni l o e (n.imp_left λn m=>n (List.mem_append_left _ m))) (n.imp_left λn m=>n (List.mem_append_right _ m)),Nat.le_trans a.next b.next⟩
theorem Mod.mono {F:List Lb}(a:Mod h h' F)(k:∀l o,h.get l=some o->l∈F->l∈F'):Mod h h' F':=
 ⟨λl o e n=>a.ni l o e (n.imp_left λn m=>n (k l o e m)),a.next⟩
theorem Mod.get {F:List Lb}(a:Mod h h' F){o:Obj}(e:h.get l=some o)(n:l∉F:=by simp):h'.get l=some o:=a.ni l o e (.inl n)
theorem Mod.ro {F:List Lb}(a:Mod h h' F){o:Obj}(e:h.get l=some o)(n:o.ro=true):h'.get l=some o:=a.ni l o e (.inr n)
def ag:V->List Lb
 | .slice l _ _ _=>[l]
 | .ptr l _=>[l]
 | .map l=>[l]
 | _=>[]
def Fr (h:H)(v:V):Prop:=∀l,l∈ag v->h.get l=none
theorem Mod.fr {F:List Lb}(a:Mod h0 h F)(b:Mod h h' F')(f:∀l,l∈F'->h0.get l=none\/l∈F):Mod h0 h' F:=
 ⟨λl o e n=>b.ni l o (a.ni l o e n) (n.imp_left λn m=>(f l m).elim (λg=>by rw [e] at g;cases g) n),Nat.le_trans a.next b.next⟩
section
variable {pf:Unit->Program} {G n:Nat} {h:H}
theorem H.add_mod (b:Wf h)(o:Obj):(h.add o).get h.next=some o/\h.get h.next=none/\Mod h (h.add o) []/\Wf (h.add o):=by
 have a:h.get h.next=none:=by
  cases e:h.get h.next with
  | none=>rfl
  | some o=>have:=b h.next (by rw [e];rfl);omega
 refine ⟨H.kY _ _,a,⟨λl f e _=>?_,?_⟩,λl c=>?_⟩
 ·rw [H.ew _ _ (λd=>by rw [d,a] at e;cases e)];exact e
 ·show _<=val (inc h.next);rw [jc];omega
 ·show _<val (inc h.next);rw [jc]
  by_cases e:l=h.next
  ·rw [e];omega
  ·rw [H.ew _ _ e] at c;have:=b l c;omega
theorem AlN.of {o:Obj}{K:Lb->H->Prop} (b:Wf h) (a:∀l h',h'.get l=some o->h.get l=none->Mod h h' []->Wf h'->K l h'):AlN h o K:=by
 obtain ⟨d,c,h3,h4⟩:=H.add_mod b o;exact ⟨a _ _ d c h3 h4⟩
theorem H.eD (d:Wf h){j:Obj}(f:h.get l=some j)(a:j.ro=false)(o:Obj):(h.set l o).get l=some o/\Mod h (h.set l o) [l]/\Wf (h.set l o):=by
 refine ⟨H.aY _ _ _,⟨λm g e n=>?_,Nat.le_refl _⟩,λm b=>?_⟩
 ·have i:m≠l:=by
   rintro rfl;rw [f] at e;cases e;rcases n with n | n
   ·simp at n
   ·rw [a] at n;cases n
  rw [H.bh _ _ i];exact e
 ·show _<val h.next
  by_cases e:m=l
  ·rw [e];exact d l (by rw [f];rfl)
  ·rw [H.bh _ _ e] at b;exact d m b
theorem StN.of {off:Nat}{x:V}{K:H->Prop} {vs':List V} {e:TypeId}  {a:Own} (k:Wf h) (d:h.get l=some (.cells vs e fz a)) (c:x.cells=cs) (i:cs.length=n) (b:a.may=true) (g:Nat.ble fz off=true) (m:aZ cs=true)
  (p:aX vs off cs=some vs') (f:∀h',h'.get l=some (.cells vs' e fz a)->Mod h h' [l]->Wf h'->K h'):StN h n l off x K:=by
 obtain ⟨j,o,h3⟩:=H.eD k d (by cases a<;>first | rfl | cases b) (.cells vs' e fz a);exact ⟨by rw [c];exact i,_,by simp only [eu,d,c,b,g,m,Bool.and_self,bO,p,ob],f _ j o h3⟩
theorem VO.of {b:Rd}{off:Nat}{K:V->Prop}  {e:TypeId}  {a:Own}  (f:h.get l=some (.cells vs e fz a)) (d:dB b vs off=some v) (c:K v):VO h b l off K:=
 ⟨v,by simp only [Q.ask,f,d],c⟩
inductive Sl (h:H)(size:Nat):V->Nat->List V->Prop
 | nil (c:Nat):Sl h size (.nilSlice c) 0 []
 | empty:Sl h size .empty 0 []
 | row {l:Lb} {off n:Nat} {cap:Cap} {row cs:List V} {e:TypeId} {fz:Nat} {own:Own} (hg:h.get l=some (.cells row e fz own)) (hr:rowFrom row off (n*size)=some cs):Sl h size (.slice l off n cap) n cs
theorem Sl.len (s:Sl h size v n cs):cs.length=n*size:=by
 cases s with
 | nil c=>simp
 | empty=>simp
 | row hg hr=>exact pN hr
theorem Sl.flat (s:Sl h size v n cs):cf v=true:=by cases s<;>rfl
theorem Sl.mono {F:List Lb}(s:Sl h size v n cs)(m:Mod h h' F)(d:∀l,l∈ag v->l∉F:=by simp [ag]):Sl h' size v n cs:=by
 cases s with
 | nil c=>exact .nil c
 | empty=>exact .empty
 | row hg hr=>exact .row (m.get hg (d _ (by simp [ag]))) hr
theorem Sl.elems (s:Sl h size v n cs):cW h size v=some (n,cs):=by
 cases s with
 | nil c=>rfl
 | empty=>rfl
 | row hg hr=>simp only [cW,hg,hr,ob]
theorem akD.of {K:V->Prop} (s:Sl h size v n cs) (a:∀m:Int,0<=m->m.toNat=n->K (.int .i64 m)):akD v K:=by
 cases s with
 | nil c=>exact ⟨_,rfl,a _ (by simp) (by simp)⟩
 | empty=>exact ⟨_,rfl,a _ (by simp) (by simp)⟩
 | row hg hr=>exact ⟨_,rfl,a _ (by simp) (by simp)⟩
structure Ep (h:H)(l:Lb)(off:Nat)(els:List V):Prop where
 out:∃row e fz own,h.get l=some (.cells row e fz own)/\rowFrom row off els.length=some els
theorem sd:∀(a b:Nat) (vs:List V),bz a (bz b vs)=bz (b+a) vs
 | a,0,vs=>by simp [bz]
 | a,b+1,[]=>by cases a<;>simp [bz]
 | a,b+1,v::vs=>by rw [show b+1+a=(b+a)+1 from by omega];simp only [bz];exact sd a b vs
theorem yu:∀{n:Nat} {vs cs:List V},takeN n vs=some cs->∀i m,i+m<=n->takeN m (bz i vs)=takeN m (bz i cs)
 | n,vs,cs,h,i,0,hm=>rfl
 | 0,vs,cs,h,i,m+1,hm=>by omega
 | n+1,[],cs,h,i,m+1,hm=>by simp [takeN] at h
 | n+1,v::vs,cs,h,0,m+1,hm=>by
   simp only [takeN,ad] at h;obtain ⟨r,a,h⟩:=h;cases h;simp only [bz,takeN];have:=yu a 0 m (by omega);simp only [bz] at this;rw [this]
 | n+1,v::vs,cs,h,i+1,m+1,hm=>by
   simp only [takeN,ad] at h;obtain ⟨r,a,h⟩:=h;cases h;simp only [bz];exact yu a i (m+1) (by omega)
theorem yw {a:List V}{off i:Nat}(h:rowFrom a off n=some cs)(b:rowFrom cs i m=some els)(c:i+m<=n):rowFrom a (off+i) m=some els:=by
 unfold rowFrom at*;rw [<-sd i off a,yu h i m c];exact b
theorem WW.of {k:IntKind}{i:Int}{j:Nat}{K:V->Prop} (s:Sl h size v n cs) (h0:0<=i) (hi:i.toNat=j) (b:j<n) (d:rowFrom cs (j*size) size=some els) (f:∀l off,Ep h l off els->K (.ptr l off)):WW size v (.int k i) K:=by
 cases s with
 | nil c=>omega
 | empty=>omega
 | @row l off _ cap row _ e fz own hg hr=>
   obtain ⟨a,rfl⟩:=Int.eq_ofNat_of_zero_le h0;have hi:a=j:=by simpa using hi
   subst hi;refine ⟨.ptr l (off+a*size),?_,f _ _ ⟨row,e,fz,own,hg,?_⟩⟩
   ·show ob (bO (Nat.blt a n) (some a)) (λi=>some (V.ptr l (off+i*size)))=_
    rw [show Nat.blt a n=true from by simpa using b];rfl
   ·rw [show els.length=size from pN d]
    refine yw hr d ?_;have g:(a+1)*size<=n*size:=Nat.mul_le_mul_right _ b;rw [Nat.add_mul] at g;omega
theorem VO.fR {off:Nat}{K:V->Prop} (e:Ep h l off els) (j:Nat) (b:els[j]? =some v) (c:K v):VO h .one l (off+j) K:=by
 obtain ⟨a,t,fz,d,f,g⟩:=e.out;refine .of f ?_ c;have i:j<els.length:=(List.getElem?_eq_some_iff.1 b).1;obtain ⟨k,m,h3⟩:=r9 g;have:=h3 j i;show (bz (off+j) a).head? =some v
 rw [List.head?_eq_getElem?,qj,Nat.add_zero,<-this];exact b
theorem VO.jC {off:Nat}{K:V->Prop} (e:Ep h l off els) (f:els.length=m) (a:K (.agg els)):VO h (.many m) l off K:=by
 obtain ⟨g,t,fz,b,c,d⟩:=e.out;subst f;exact .of c (by simp only [dB,d,ob]) a
theorem Ep.mono {F:List Lb}{off:Nat}(e:Ep h l off els)(m:Mod h h' F)(d:l∉F:=by simp):Ep h' l off els:=
 let ⟨row,t,fz,own,hg,hr⟩:=e.out;⟨row,t,fz,own,m.get hg d,hr⟩
inductive aG (h:H)(e:TypeId)(size:Nat):V->Nat->List V->Prop
 | nil:aG h e size (.nilSlice 0) 0 []
 | ends {l:Lb} {n:Nat} {cs:List V} (hg:h.get l=some (.cells cs e 0 .yes)) (hl:cs.length=n*size):aG h e size (.slice l 0 n (.toEnd size)) n cs
 | exact {l:Lb} {n:Nat} {cs:List V} (hg:h.get l=some (.cells cs e 0 .yes)) (hl:cs.length=n*size):aG h e size (.slice l 0 n (.exact n)) n cs
theorem dG (h:cs.length=n):rowFrom cs 0 n=some cs:=by subst h;exact qk cs
theorem aG.sl {e:TypeId}(o:aG h e size v n cs):Sl h size v n cs:=by
 cases o with
 | nil=>exact .nil 0
 | ends hg hl=>exact .row hg (dG hl)
 | exact hg hl=>exact .row hg (dG hl)
theorem aG.mono {F:List Lb}{e:TypeId}(o:aG h e size v n cs)(m:Mod h h' F)(d:∀l,l∈ag v->l∉F:=by simp [ag]):aG h' e size v n cs:=by
 cases o with
 | nil=>exact .nil
 | ends hg hl=>exact .ends (m.get hg (d _ (by simp [ag]))) hl
 | exact hg hl=>exact .exact (m.get hg (d _ (by simp [ag]))) hl
def Grow (h:H)(s v:V):Prop:=∀l,l∈ag v->h.get l=none\/l∈ag s
theorem Grow.fr {F:List Lb}(g:Grow h s v)(m:Mod h0 h F)(b:∀l,l∈F->h0.get l=none) (f:Fr h0 s):Fr h0 v:=λl c=>by
 rcases g l c with a | a
 ·cases e:h0.get l with
  | none=>rfl
  | some o=>
    by_cases hm:l∈F
    ·rw [b l hm] at e;cases e
    ·rw [m.get e hm] at a;cases a
 ·exact f l a
theorem yy:∀(cs:List V),aX cs cs.length []=some cs
 | []=>rfl
 | v::vs=>by simp only [List.length_cons,aX,yy vs,ob]
theorem H.Lm (h:H){m:Lb}(a:m≠l):(h.del l).get m=h.get m:=T.bh _ _ _ _ (Ne.symm a)
theorem Er {e:TypeId}{bytes:Nat}{new:List V}{K:V->H->Prop} (d:Wf h) (o:aG h e size s n cs) (b:new.length=m*size) (A:aZ new=true) (y:4*(n+m)*bytes<=jE)
  (C:0<size) (g:∀v h',aG h' e size v (n+m) (cs++new)->Grow h s v->Mod h h' (ag s)->Wf h'->K v h'):∃v h',eR h e size bytes s m new=some (v,h')/\K v h':=by
 have DB:Nat.ble (4*(n+m)*bytes) jE=true:=Nat.ble_eq_true_of_le y;obtain ⟨a1,a2,u,w⟩:=H.add_mod d (.cells (cs++new) e 0 .yes);have a:(cs++new).length=(n+m)*size:=by
  have:=o.sl.len;rw [List.length_append,this,b,Nat.add_mul]
 cases o with
 | nil=>
   cases hm:Nat.ble m 0 with
   | true=>
     have:m=0:=by simpa using hm
     subst this;have:new=[]:=by simpa using b
     subst this;exact ⟨.nilSlice 0,h,rfl,g _ _ .nil (λl b=>by simp [ag] at b) (Mod.refl _ _) d⟩
   | false=>
     rw [Nat.zero_add] at DB;refine ⟨_,_,by simp only [eR,hm,DB,bO];rw [Nat.zero_add,List.nil_append],g _ _ (.ends a1 ?_) (λl b=>?_) (u.mono (by simp)) w⟩
     ·simpa using a
     ·simp only [ag,List.mem_singleton] at b;subst b;exact .inl a2
 | @ends l _ _ hg Qt=>
   simp only [eR,DB,bO,Nat.beq_refl,hg,Own.may,Bool.and_self];cases hm:Nat.ble (0+(n+m)*size) cs.length with
   | true=>
     have h0:m=0:=by
      have:0+(n+m)*size<=cs.length:=Nat.le_of_ble_eq_true hm;rw [Qt,Nat.add_mul] at this;have:m*size=0:=by omega
      rcases Nat.mul_eq_zero.1 this with h | h
      ·exact h
      ·omega
     subst h0;have:new=[]:=by simpa using b
     subst this;obtain ⟨j,p,f⟩:=H.eD d hg rfl (.cells cs e 0 .yes);refine ⟨.slice l 0 (n+0) (.toEnd size),h.set l (.cells cs e 0 .yes),?_,g _ _ (by simpa using aG.ends j Qt) (λt c=>.inr c) p f⟩;simp only [eu,hg,Own.may,aZ,bO,Bool.and_self,show Nat.ble 0 (0+n*size)=true from by simp];rw [show 0+n*size=cs.length from by omega,yy];rfl
   | false=>
     have r:Wf (h.del l):=λk x=>by
      show _<val h.next
      by_cases e:k=l
      ·rw [e];exact d l (by rw [hg];rfl)
      ·rw [H.Lm _ e] at x;exact d k x
     obtain ⟨j,p,f,B⟩:=H.add_mod r (.cells (cs++new) e 0 .yes);refine ⟨.slice h.next 0 (n+m) (.toEnd size),(h.del l).add (.cells (cs++new) e 0 .yes),?_,g _ _ (.ends j a) (λt c=>?_) ⟨λk o q i=>?_,f.next⟩ B⟩
     ·simp only [A,show Nat.beq (0+n*size) cs.length=true from by simp [Qt],Nat.ble,Bool.and_self,bz];first | done | rfl
     ·simp only [ag,List.mem_singleton] at c;subst c;exact .inl a2
     ·have z:k≠l:=by
       rintro rfl;rw [hg] at q;cases q;rcases i with i | i
       ·simp [ag] at i
       ·cases i
      exact f.get (by rw [H.Lm _ z];exact q)
 | @exact l _ _ hg Qt=>
   simp only [eR,DB,bO];cases hm:Nat.ble (n+m) n with
   | true=>
     have h0:m=0:=by have:=Nat.le_of_ble_eq_true hm;omega
     subst h0;have:new=[]:=by simpa using b
     subst this;obtain ⟨j,p,f⟩:=H.eD d hg rfl (.cells cs e 0 .yes);refine ⟨.slice l 0 (n+0) (.exact n),h.set l (.cells cs e 0 .yes),?_,g _ _ (by simpa using aG.exact j Qt) (λt c=>.inr c) p f⟩;simp only [eu,hg,Own.may,aZ,bO,Bool.and_self,show Nat.ble 0 (0+n*size)=true from by simp];rw [show 0+n*size=cs.length from by omega,yy];rfl
   | false=>
     have Qr:0<m:=by
      rcases Nat.eq_zero_or_pos m with h0 | h0
      ·rw [h0,Nat.add_zero] at hm;have:=Nat.ble_eq_true_of_le (Nat.le_refl n);rw [hm] at this;cases this
      ·exact h0
     refine ⟨_,_,?_,g _ _ (.ends a1 a) (λt c=>?_) (u.mono (by simp)) w⟩
     ·simp only [hg,show Nat.blt 0 m=true from by simpa using Qr,dG Qt,ob]
     ·simp only [ag,List.mem_singleton] at c;subst c;exact .inl a2
theorem HO {e:TypeId}{bytes:Nat}{new:List V}{K:V->H->Prop} (d:Wf h) (o:aG h e size s n cs) (g:new.length=m*size) (f:aZ new=true) (c:4*(n+m)*bytes<=bg)
  (b:0<size) (a:∀v h',aG h' e size v (n+m) (cs++new)->Grow h s v->Mod h h' (ag s)->Wf h'->K v h'):∃v h',eR h e size bytes s m new=some (v,h')/\K v h':=
 Er d o g f (Nat.le_trans c (by decide)) b a
theorem WX.big {e:TypeId}{bytes:Nat}{x:V}{new:List V}{K:V->H->Prop} (i:Wf h) (o:aG h e size s n cs) (g:cW h size x=some (m,new)) (k:new.length=m*size) (j:aZ new=true) (f:4*(n+m)*bytes<=jE)
  (d:0<size) (c:∀v h',aG h' e size v (n+m) (cs++new)->Grow h s v->Mod h h' (ag s)->Wf h'->K v h'):WX h e size bytes s x K:=
 let ⟨v,h',a,b⟩:=Er i o k j f d c;⟨(m,new),v,h',g,a,b⟩
theorem WX.own {e:TypeId}{bytes:Nat}{x:V}{new:List V}{K:V->H->Prop} (i:Wf h) (o:aG h e size s n cs) (g:cW h size x=some (m,new)) (k:new.length=m*size) (j:aZ new=true) (f:4*(n+m)*bytes<=bg)
  (d:0<size) (c:∀v h',aG h' e size v (n+m) (cs++new)->Grow h s v->Mod h h' (ag s)->Wf h'->K v h'):WX h e size bytes s x K:=
 let ⟨v,h',a,b⟩:=HO i o k j f d c;⟨(m,new),v,h',g,a,b⟩
def aoP (size:Nat):Cap->Nat->Prop
 | .exact c,n=>n<=c
 | .toEnd es,_=>es=size
inductive Ro (h:H)(size:Nat):V->Nat->List V->Prop
 | nil:Ro h size (.nilSlice 0) 0 []
 | row {l:Lb} {off n:Nat} {cap:Cap} {row cs:List V} {e:TypeId} {fz:Nat} (hg:h.get l=some (.cells row e fz .no)) (hr:rowFrom row off (n*size)=some cs) (hc:aoP size cap n):Ro h size (.slice l off n cap) n cs
theorem Ro.sl (r:Ro h size v n cs):Sl h size v n cs:=by
 cases r with
 | nil=>exact .nil 0
 | row hg hr=>exact .row hg hr
theorem Ro.mono {F:List Lb}(r:Ro h size v n cs)(m:Mod h h' F):Ro h' size v n cs:=by
 cases r with
 | nil=>exact .nil
 | row hg hr hc=>exact .row (m.ro hg rfl) hr hc
theorem Ro.flat (r:Ro h size v n cs):cf v=true:=by cases r<;>rfl
theorem Less.freeze {e:TypeId}{f:Own}(t:h.get l=some (.cells cs e fz f)):Less h (h.set l (.cells cs e fz .no)):=by
 refine ⟨rfl,λ{B w0 ρ w} R=>?_⟩;have key:∀m o,(h.set l (.cells cs e fz .no)).get m=some o->∃d,h.get m=some d/\(d=o\/(d = .cells cs e fz f/\o = .cells cs e fz .no)):=λm o a=>by
  by_cases e':m=l
  ·subst e';rw [H.aY] at a;cases a;exact ⟨_,t,.inr ⟨rfl,rfl⟩⟩
  ·rw [H.bh _ _ e'] at a;exact ⟨_,a,.inl rfl⟩
 refine ⟨λm b o a g=>?_,R.lt,R.base,λm k b c a u p x=>?_,λm b o a g n=>?_,R.size,R.below⟩
 ·obtain ⟨d,i,j⟩:=key m o g
  have r:=R.obj m b d a i;rcases j with rfl | ⟨rfl,rfl⟩
  ·exact r
  ·exact ⟨r.shape,r.fits,r.cell,(λh=>by cases h),(λh=>by cases h)⟩
 ·obtain ⟨q,z⟩:=Option.isSome_iff_exists.1 p
  obtain ⟨A,y⟩:=Option.isSome_iff_exists.1 x;obtain ⟨C,s,_⟩:=key m q z;obtain ⟨D,v,_⟩:=key k A y;exact R.inj m k b c a u (by rw [s];rfl) (by rw [v];rfl)
 ·obtain ⟨d,i,j⟩:=key m o g
  rcases j with rfl | ⟨rfl,rfl⟩
  ·exact R.own m b _ a i n
  ·cases n
theorem aG.freeze {e:TypeId}(o:aG h e size v n cs)(i:Wf h):∃g,Less h g/\Ro g size v n cs/\Mod h g (ag v)/\Wf g:=by
 have set:∀l,h.get l=some (.cells cs e 0 .yes)->Less h (h.set l (.cells cs e 0 .no))/\(h.set l (.cells cs e 0 .no)).get l=some (.cells cs e 0 .no)/\Mod h (h.set l (.cells cs e 0 .no)) [l]/\Wf (h.set l (.cells cs e 0 .no)):=λl f=>
  let ⟨a,b,c⟩:=H.eD i f rfl (.cells cs e 0 .no);⟨.freeze f,a,b,c⟩
 cases o with
 | nil=>exact ⟨h,.refl h,.nil,Mod.refl _ _,i⟩
 | @ends l _ _ f hl=>
   obtain ⟨a,b,c,d⟩:=set l f;exact ⟨_,a,.row b (dG hl) rfl,c,d⟩
 | @exact l _ _ f hl=>
   obtain ⟨a,b,c,d⟩:=set l f;exact ⟨_,a,.row b (dG hl) (Nat.le_refl _),c,d⟩
end
end Go.Dx
namespace Go.Dx
open Go Go.RowKit
def AE (f:Nat->Nat->Nat) (k:IntKind) (x y:Int):Int:=DL (IK.sgn k) (IK.half k) (IK.top k) (f (jw (IK.top k) x) (jw (IK.top k) y))
section
variable {pf:Unit->Program} {ek:EK} {k j:IntKind} {a b:Int} {K:V->Prop}
theorem bE.akQ (c:∀x,x=AE Nat.land k a b->K (.int k x)):bE pf .and ek (.int k a) (.int k b) K:=⟨_,by simp only [binOp,aR,bO,ct];rfl,c _ rfl⟩
theorem bE.orB (c:∀x,x=AE Nat.lor k a b->K (.int k x)):bE pf .or ek (.int k a) (.int k b) K:=⟨_,by simp only [binOp,aR,bO,ct];rfl,c _ rfl⟩
theorem bE.ag1 (c:∀x,x=AE Nat.xor k a b->K (.int k x)):bE pf .xor ek (.int k a) (.int k b) K:=⟨_,by simp only [binOp,aR,bO,ct];rfl,c _ rfl⟩
theorem UnN.atT (b:∀x,x=bU k (0 - a)->K (.int k x)):UnN .neg (.int k a) K:=⟨_,by simp only [unOp,ct],b _ rfl⟩
theorem UnN.ag1 (b:∀x,x=AE Nat.xor k (allOnes k) a->K (.int k x)):UnN .xor (.int k a) K:=⟨_,by simp only [unOp,ct];rfl,b _ rfl⟩
theorem bE.shr (d:Int)(h0:0<=a:=by omega) (f:0<=b:=by omega) (hs:b.toNat<=bitsOf k:=by decide) (e:(2:Int) ^ b.toNat=d:=by rfl) (c:∀x:Int,x=a / d->K (.int k x)):bE pf .shr ek (.int k a) (.int j b) K:=by
 obtain ⟨m,rfl⟩:=Int.eq_ofNat_of_zero_le h0;obtain ⟨n,rfl⟩:=Int.eq_ofNat_of_zero_le f;have hs:n<=bitsOf k:=by simpa using hs
 refine ⟨.int k (Int.ofNat (Nat.shiftRight m (Nat.min n (bitsOf k)))),rfl,c _ ?_⟩;rw [show Nat.min n (bitsOf k)=n from Nat.min_eq_left hs,<-e];show ((m >>>n:Nat):Int)=_
 rw [Nat.shiftRight_eq_div_pow];simp
theorem bE.atU (h0:0<=a:=by omega) (d:0<=b:=by omega) (hs:b.toNat<=bitsOf k) (c:∀x:Int,0<=x->x.toNat=a.toNat / 2 ^ b.toNat->K (.int k x)):bE pf .shr ek (.int k a) (.int j b) K:=by
 obtain ⟨m,rfl⟩:=Int.eq_ofNat_of_zero_le h0;obtain ⟨n,rfl⟩:=Int.eq_ofNat_of_zero_le d;have hs:n<=bitsOf k:=by simpa using hs
 refine ⟨.int k (Int.ofNat (Nat.shiftRight m (Nat.min n (bitsOf k)))),rfl,c _ (Int.natCast_nonneg _) ?_⟩;rw [show Nat.min n (bitsOf k)=n from Nat.min_eq_left hs];show m >>>n=_
 rw [Nat.shiftRight_eq_div_pow];simp
theorem bE.ag2 (h0:0<=a:=by omega) (d:0<=b:=by omega) (hs:b.toNat<=bitsOf k) (c:∀x:Int,x=bU k (a*2 ^ b.toNat)->K (.int k x)):bE pf .shl ek (.int k a) (.int j b) K:=by
 obtain ⟨m,rfl⟩:=Int.eq_ofNat_of_zero_le h0;obtain ⟨n,rfl⟩:=Int.eq_ofNat_of_zero_le d;have hs:n<=bitsOf k:=by simpa using hs
 refine ⟨.int k (bU k (Int.ofNat (Nat.shiftLeft m (Nat.min n (bitsOf k))))),rfl,c _ ?_⟩;rw [show Nat.min n (bitsOf k)=n from Nat.min_eq_left hs]
 congr 1
 show ((m <<<n:Nat):Int)=_
 rw [Nat.shiftLeft_eq];simp
theorem bE.quo (h0:0<=a:=by omega) (f:0<b:=by omega) (g:a<=9223372036854775807:=by omega) (c:∀x:Int,x=a / b->K (.int .i64 x)):bE pf .quo ek (.int .i64 a) (.int .i64 b) K:=by
 have e:a.tdiv b=a / b:=Int.tdiv_eq_ediv_of_nonneg h0;refine ⟨.int .i64 (a / b),?_,c _ rfl⟩;have d:pw b 0=false:=by rw [cE];simp;omega
 simp only [binOp,aR,bO,ct,d,Bool.not_false,e];rw [qq]
 ·have:=Int.ediv_nonneg h0 (Int.le_of_lt f);omega
 ·have:=Int.ediv_le_self b h0;omega
theorem bE.rem (h0:0<=a:=by omega) (f:0<b:=by omega) (c:∀x:Int,x=a % b->K (.int k x)):bE pf .rem ek (.int k a) (.int k b) K:=by
 have e:a.tmod b=a % b:=Int.tmod_eq_emod_of_nonneg h0;refine ⟨.int k (a % b),?_,c _ rfl⟩;have d:pw b 0=false:=by rw [cE];simp;omega
 simp only [binOp,aR,bO,ct,d,Bool.not_false,e]
theorem QQ (x:Int):bU .u8 x=x % 256:=by rw [eT];simp [IntKind.wrap,IntKind.bits,IntKind.signed]
theorem CvN.u8m (b:∀x:Int,x=a % 256->K (.int .u8 x)):CvN .u8 a K:=⟨by rw [QQ];exact b _ rfl⟩
theorem ad0 {f:Nat->Nat->Nat} (a:∀x y,x<4294967296->y<4294967296->f x y<4294967296) (x y:Int):0<=AE f .u32 x y/\AE f .u32 x y<=4294967295:=by
 have:=a _ _ (F8 (top:=4294967296) (by decide) x) (F8 (top:=4294967296) (by decide) y);show 0<=((f (jw 4294967296 x) (jw 4294967296 y):Nat):Int)/\((f (jw 4294967296 x) (jw 4294967296 y):Nat):Int)<=4294967295
 omega
theorem ad1 (x y:Nat)(a:x<4294967296)(hy:y<4294967296):Nat.xor x y<4294967296:=Nat.xor_lt_two_pow (n:=32) a hy
end
end Go.Dx
namespace Go.Dx
open Go Go.RowKit
variable{h h0 h':H}{v:V}{l:Lb}{n:Nat}
structure Loc (h0 h:H)(v:V):Prop where
 mod:Mod h0 h []
 fr:Fr h0 v
 wf:Wf h
theorem Loc.nil (a:Wf h)(c:Nat):Loc h h (.nilSlice c):=⟨Mod.refl _ _,λl b=>by simp [ag] at b,a⟩
theorem Loc.al (a:Loc h0 h v)(m:Mod h h' [])(b:Wf h'):Loc h0 h' v:=⟨a.mod.trans m,a.fr,b⟩
theorem Loc.grow {b:V}(a:Loc h0 h v)(g:Grow h v b)(m:Mod h h' (ag v))(c:Wf h'):Loc h0 h' b:=
 ⟨a.mod.fr m λl d=>.inl (a.fr l d),g.fr a.mod (by simp) a.fr,c⟩
theorem Loc.base {b:H}(a:Loc b h v)(m:Mod h0 b []):Loc h0 h v:=
 ⟨m.trans a.mod,λl c=>by
  cases e:h0.get l with
  | none=>rfl
  | some o=>(have:=m.get e;rw [a.fr l c] at this;cases this),a.wf⟩
theorem Loc.get (a:Loc h0 h v){o:Obj}(e:h0.get l=some o):h.get l=some o:=a.mod.get e
theorem Loc.sl (a:Loc h0 h v){size:Nat}{u:V}{cs:List V}(s:Sl h0 size u n cs):Sl h size u n cs:=s.mono a.mod
theorem aD:∀l:List Nat,aZ (ae l)=true
 | []=>rfl
 | _::r=>by simp [ae,aZ,cf,aD r]
theorem eW:∀{a b:List V},aZ a=true->aZ b=true->aZ (a++b)=true
 | [],b,_,h=>h
 | x::a,b,h,k=>by simp only [aZ,Bool.and_eq_true,List.cons_append] at *;exact ⟨h.1,eW h.2 k⟩
theorem aM:∀a b:List Nat,ae (a++b)=ae a++ae b
 | [],_=>rfl
 | _::a,b=>by simp [ae,aM a b]
theorem HP:∀{vs cs:List V},cs.length=vs.length->aX vs 0 cs=some cs
 | [],[],_=>rfl
 | v::vs,c::cs,h=>by simp only [aX,HP (vs:=vs) (cs:=cs) (by simpa using h),ob]
 | [],_::_,h=>by simp at h
 | _::_,[],h=>by simp at h
theorem Et:∀(l:List Nat) (i:Nat) (b:Nat),l[i]? =some b->rowFrom (ae l) (i*1) 1=some [.int .u8 (Int.ofNat b)]
 | [],i,b,h=>by simp at h
 | x::l,0,b,h=>by simp at h;subst h;rfl
 | x::l,i+1,b,h=>by
   have:=Et l i b (by simpa using h);rw [show (i+1)*1=i*1+1 by omega];exact this
theorem VO.byte {off:Nat}{b:Nat}{K:V->Prop} (e:Ep h l off [.int .u8 (Int.ofNat b)]) (a:∀x:Int,0<=x->x.toNat=b->K (.int .u8 x)):VO h .one l off K:=
 .fR e 0 rfl (a _ (by simp) (by simp))
theorem WW.byte {l:List Nat}{k:IntKind}{i:Int}{b:Nat}{K:V->Prop} (s:Sl h 1 v n (ae l)) (h0:0<=i) (a:l[i.toNat]? =some b) (c:∀q off,Ep h q off [.int .u8 (Int.ofNat b)]->K (.ptr q off)):WW 1 v (.int k i) K:=
 .of s h0 rfl (by have:=s.len;have d:=(List.getElem?_eq_some_iff.1 a).1;rw [bq] at this;omega) (Et l _ b a) c
section
variable {h0 h:H} {e:TypeId} {size bytes:Nat} {s x:V} {n m:Nat} {cs new:List V} {K:V->H->Prop}
theorem WX.loc (a:Loc h0 h s)(o:aG h e size s n cs)(j:cW h size x=some (m,new))(l:new.length=m*size)(k:aZ new=true)(f:4*(n+m)*bytes<=1099511627776)(d:0<size:=by decide)
  (c:∀v h',aG h' e size v (n+m) (cs++new)->Loc h0 h' v->Mod h h' (ag s)->K v h'):WX h e size bytes s x K:=
 .own a.wf o j l k f d λv h' i g b w=>c v h' i (a.grow g b w) b
theorem WX.text {t:List Nat}(a:Loc h0 h s)(o:aG h e 1 s n cs)(c:n+t.length<=100000000)(b:∀v h',aG h' e 1 v (n+t.length) (cs++ae t)->Loc h0 h' v->Mod h h' (ag s)->K v h'):WX h e 1 1 s (.str t) K:=
 .loc a o (m:=t.length) (new:=ae t) rfl (by simp [bq]) (aD t) (by omega) (by decide) b
theorem WX.one {d:Nat}{b:Own}{j:TypeId}(a:Loc h0 h s)(o:aG h e size s n cs)(g:h.get l=some (.cells new j d b))(p:new.length=size)(k:aZ new=true)(i:4*(n+1)*bytes<=1099511627776)(f:0<size:=by decide)
  (c:∀v h',aG h' e size v (n+1) (cs++new)->Loc h0 h' v->Mod h h' (ag s)->K v h'):WX h e size bytes s (.slice l 0 1 (.exact 1)) K:=
 .loc a o (m:=1) (new:=new) (by simp only [cW,g,Nat.one_mul];rw [dG p];rfl) (by omega) k i f c
theorem WX.copy (g:Wf h)(j:Sl h size x m cs)(i:aZ cs=true)(f:4*m*bytes<=1099511627776)(d:0<size:=by decide)
  (c:∀v h',aG h' e size v m cs->Loc h h' v->K v h'):WX h e size bytes (.nilSlice 0) x K:=
 .loc (Loc.nil g 0) .nil j.elems j.len i (by rw [Nat.zero_add];exact f) d λv h' o a _=>c v h' (by rw [Nat.zero_add,List.nil_append] at o;exact o) a
end
end Go.Dx
namespace Go.Dx
open Go Go.RowKit
variable{h:H}{tm:T V}
structure FbN (h:H)(e:TypeId)(a p:V)(K:Q->V->Prop):Prop where
 out:∃b cs l off v,a = .str b/\cs=ae b/\p = .ptr l off/\b.length<=9223372036854775807/\(Q.freshB e cs b.length l off).ask h=some v/\K (.freshB e cs b.length l off) v
def ad2 (b:T V)(h:H)(q:RD)(K:Q->V->Prop):Prop:=match q with
 | .load rd x=>gx b x λa=>match a with
   | .ptr l off=>VO h rd l off (K (.load rd l off))
   | _=>False
 | .lookup pk z ok m k=>gx b m λm=>gx b k λk=>VP h pk z ok m k (K (.lookup pk z ok m k))
 | .bytesStr x=>gx b x λa=>BsN h a (K (.bytes a))
 | .mapLen x=>gx b x λa=>u7 h (.mapLen a) (K (.mapLen a))
 | .fresh t cs x=>gx b x λa=>match a with
   | .ptr l off=>u7 h (.fresh t cs l off) (K (.fresh t cs l off))
   | _=>False
 | .freshS t cs n x=>gx b x λa=>match a with
   | .ptr l off=>u7 h (.freshS t cs n l off) (K (.freshS t cs n l off))
   | _=>False
 | .freshB e x s=>gx b x λa=>gx b s λp=>FbN h e a p K
 | _=>False
def ad3 (pf:Unit->Program) (d:DO) (a:A) (h:H) (K:V->Option Q->Prop):Prop:=match d.op with
 | .SD x=>gx a.tmps x λv=>K v none
 | .p q=>wpP pf a.tmps q λv=>K v none
 | .r q=>ad2 a.tmps h q λQ v=>K v (some Q)
 | _=>False
def QR (q:Option Q)(v:V)(hi:Nat)(ps:List kF):List kF:=match q with
 | some q=>(q,v,hi)::ps
 | none=>ps
def Nr (pf:Unit->Program) (k:Nat):List (DO×Nat×Nat)->A->H->List kF->(A->List kF->Prop)->Prop
 | [],a,_,ps,K=>K a ps
 | (d,lo,hi)::r,a,h,ps,K=>match !bT d&&Nat.beq lo k with
   | false=>Nr pf k r a h ps K
   | true=>match d.guard with
     | none=>ad3 pf d a h λv q=>Nr pf k r (a.put d.dst v) h (QR q v hi ps) K
     | some (p,want)=>gx a.tmps (.t p) λb=>match b with
       | .bool b=>match nw b want with
         | true=>ad3 pf d a h λv q=>Nr pf k r (a.put d.dst v) h (QR q v hi ps) K
         | false=>Nr pf k r (a.put d.dst undef) h ps K
       | .tuple _=>Nr pf k r (a.put d.dst undef) h ps K
       | _=>False
def Uf (k:Nat):List (DO×Nat×Nat)->Option DO
 | []=>none
 | (d,lo,_)::r=>match bT d&&Nat.beq lo k with
   | true=>some d
   | false=>Uf k r
def qR (k:Nat):List kF->List kF
 | []=>[]
 | (q,v,hi)::r=>match Nat.ble k hi with
   | true=>(q,v,hi)::qR k r
   | false=>qR k r
structure fu (h:H)(ps:List kF)(K:Prop):Prop where
 out:(∀p,p∈ps->p.1.ask h=some p.2.1)/\K
def wpG (pf:Unit->Program) (G:Nat) (d:DO) (a:A) (h:H) (K:A->H->Prop) (Pn:A->V->H->Prop):Prop:=match d.guard with
 | none=>wpD pf G d a h K (λa v h=>Pn {tmps:=.leaf,defers:=a.defers} v h)
 | some (p,want)=>gx a.tmps (.t p) λv=>match v with
   | .bool b=>match nw b want with
     | true=>wpD pf G d a h K (λa v h=>Pn {tmps:=.leaf,defers:=a.defers} v h)
     | false=>K (a.put d.dst undef) h
   | .tuple _=>K (a.put d.dst undef) h
   | _=>False
def Ns (pf:Unit->Program) (G:Nat) (b:List (DO×Nat×Nat)):Nat->Nat->A->H->List kF->(A->H->Prop)->(A->V->H->Prop)->Prop
 | 0,_,_,_,_,_,_=>False
 | f+1,k,a,h,ps,K,Pn=>Nr pf k b a h ps λa ps=>match Uf k b with
   | none=>K a h
   | some d=>wpG pf G d a h (λa h'=>fu h' (qR (k+1) ps) (Ns pf G b f (k+1) a h' ps K Pn)) Pn
def Ug:List Made->T V->H->(T V->H->Prop)->Prop
 | [],tp,h,K=>K tp h
 | (p,t,cs,o)::r,tp,h,K=>AlN h (.cells cs t 0 o) λl h'=>Ug r (tp.set p (some (.ptr l 0))) h' K
theorem Cv {k:Nat}{p:kF}:∀{ps:List kF},p∈ps->k<=p.2.2->p∈qR k ps
 | (q,v,hi)::r,a,hk=>by
   simp only [qR];rcases List.mem_cons.1 a with e | a
   ·subst e
    rw [show Nat.ble k hi=true from Nat.ble_eq_true_of_le hk];exact List.mem_cons_self ..
   ·split
    ·exact List.mem_cons_of_mem _ (Cv a hk)
    ·exact Cv a hk
theorem ag3 {f:T V}(s:iA f tm){q:RD}{K:Q->V->Prop} (a:ad2 f h q K):∃Q v,q.px tm=some Q/\Q.ask h=some v/\K Q v:=by
 cases q with
 | load rd x=>
   simp only [ad2] at a;have a:=(bd s a).1;simp only [RD.px];split at a
   ·rename_i e
    obtain ⟨v,c,d⟩:=a.out;rw [e];exact ⟨_,v,rfl,c,d⟩
   ·exact a.elim
 | lookup pk z ok m k=>
   obtain ⟨h0,v,c,d⟩:=(bd s (bd s a).1).1.out;exact ⟨_,v,by simp only [RD.px,h0,bO],c,d⟩
 | bytesStr x=>
   obtain ⟨v,c,d⟩:=(bd s a).1.out;exact ⟨_,v,rfl,c,d⟩
 | mapLen x=>
   obtain ⟨v,c,d⟩:=(bd s a).1.out;exact ⟨_,v,rfl,c,d⟩
 | fresh t cs x=>
   simp only [ad2] at a;have a:=(bd s a).1;simp only [RD.px];split at a
   ·rename_i e
    obtain ⟨v,c,d⟩:=a.out;rw [e];exact ⟨_,v,rfl,c,d⟩
   ·exact a.elim
 | freshS t cs n x=>
   simp only [ad2] at a;have a:=(bd s a).1;simp only [RD.px];split at a
   ·rename_i e
    obtain ⟨v,c,d⟩:=a.out;rw [e];exact ⟨_,v,rfl,c,d⟩
   ·exact a.elim
 | ptrUnsafe x=>exact a.elim
 | unsafePtr u n x=>exact a.elim
 | entry x=>exact a.elim
 | freshB e x y=>
   obtain ⟨b,cs,l,off,v,c,rfl,d,h3,h4,g⟩:=(bd s (bd s a).1).1.out;exact ⟨_,v,by simp only [RD.px,c,d,Nat.ble_eq_true_of_le h3,bO,eK],h4,g⟩
def NF (E:Env)(tm:T V)(d:DO)(u:V)(hi k:Nat)(a:H)(ps:List kF):Prop:=
 (dY tm d.guard=false/\u=undef)\/(dY tm d.guard=true/\match d.op with
  | .SD x=>u=x.ev tm
  | .p q=>q.eval E tm=some u
  | .r q=>∃Q:Q,q.px tm=some Q/\(k<=hi->Q.ask a=some u)/\(Q,u,hi)∈ps
  | _=>False)
theorem ag4 {pf:Unit->Program} {d:DO} {a:A}   (s:iA a.tmps tm) (f:dY tm d.guard=true) {K:V->Option Q->Prop} (j:ad3 pf d a h K):∃u q,K u q/\∀k hi ps,(∀Q,q=some Q->(Q,u,hi)∈ps)->NF (dq (pf ())) tm d u hi k h ps:=by
 unfold ad3 at j;split at j
 ·rename_i x e
  exact ⟨_,_,(bd s j).1,λk hi ps _=>.inr ⟨f,by rw [e]⟩⟩
 ·rename_i q e
  obtain ⟨v,c,g⟩:=adU s j;exact ⟨v,_,g,λk hi ps _=>.inr ⟨f,by rw [e];exact c⟩⟩
 ·rename_i q e
  obtain ⟨Q,v,c,g,h3⟩:=ag3 s j;exact ⟨v,_,h3,λk hi ps i=>.inr ⟨f,by rw [e];exact ⟨Q,c,λ_=>g,i Q rfl⟩⟩⟩
 ·exact j.elim
theorem Ln {p:Lb}{want b:Bool}(e:bV tm p = .bool b):dY tm (some (p,want))=nw b want:=by
 simp only [dY,e];cases want<;>cases b<;>rfl
theorem jg {l:List DO}{tm0:T V}{v a:Nat->V} {S:Nat->Bool}:∀i,(∀k,k<i->S k=true->v k=a k)->mask l tm0 v S i=mask l tm0 a S i
 | 0,_=>rfl
 | i+1,h=>by
   have b:=jg (l:=l) (tm0:=tm0) i λk c=>h k (by omega);simp only [mask,b];cases hs:S i with
   | true=>simp only [if_true,h i (by omega) hs]
   | false=>rfl
end Go.Dx
