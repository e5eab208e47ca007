/-
  The sequencer's laws. Part ZAN of the proof: What code comes to: the rules of the places where a step stands still (numbers, texts, loops).
-/
import Derived.Test.YteajeefphbjnmaaGreatDoorZAM
namespace Go.Dx
open Go Go.RowKit
def fV:List Lb->List V->T V
 | p::ps,v::vs=>(fV ps vs).set p (some v)
 | _,_=>.leaf
structure acS (I:Nat->List V->H->Prop) (m:Nat) (aC:List V) (h:H) (ds ds':List (FuncId×List V)):Prop where
 out:ds'=ds/\∃m',m'<m/\I m' aC h
def anD (ps:List Lb)(I:Nat->List V->H->Prop) (m:Nat) (ds:List (FuncId×List V)) (Q:Ex->A->H->Prop):Ex->A->H->Prop
 | .normal,a,h=>gxs a.tmps (ps.map X.t) λaC=>acS I m aC h ds a.defers
 | .exit i,a,h=>Q (.exit i) a h
 | .ret,a,h=>Q .ret a h
section
variable {pf:Unit->Program} {G n:Nat}
theorem uT {tp:T V}:∀{ps:List Lb} {aC:List V},ps.map (λp=>tp.get p)=aC.map some->afP (fV ps aC) tp
 | [],[],_=>λp v e=>by simp [fV,T.kz] at e
 | p::ps,v::vs,h=>by
   simp only [List.map_cons,List.cons.injEq] at h;obtain ⟨h1,h2⟩:=h;intro q u e
   by_cases hq:p=q
   ·subst hq;simp only [fV,T.bg,Option.some.injEq] at e;subst e;exact h1
   ·simp only [fV,T.br _ _ _ _ hq] at e;exact uT h2 q u e
 | [],_::_,h=>by simp at h
 | _::_,[],h=>by simp at h
theorem XT {tp:T V}:∀{ps:List Lb} {k:List V->Prop},gxs tp (ps.map X.t) k->∃aC,ps.map (λp=>tp.get p)=aC.map some/\k aC
 | [],k,h=>⟨[],rfl,h⟩
 | p::ps,k,h=>by
   simp only [List.map_cons,gxs] at h;unfold gx at h;split at h
   ·rename_i v hv
    have hv:tp.get p=some v:=hv;obtain ⟨aC,h1,h2⟩:=XT (k:=λvs=>k (v::vs)) h;exact ⟨v::aC,by simp [hv,h1],h2⟩
   ·exact h.elim
theorem LoopN.inv (ps:List Lb)(I:Nat->List V->H->Prop) {b:DC} {tp:T V} {ds:List (FuncId×List V)} {h:H} {Q:Ex->A->H->Prop} {Pn:A->V->H->Prop} (aC:List V) (hv:ps.map (λp=>tp.get p)=aC.map some) (m:Nat) (hI:I m aC h)
  (body:∀m aC h,I m aC h->Uz pf G n b {tmps:=fV ps aC,defers:=ds} h (anD ps I m ds Q) Pn):LoopN pf G n b {tmps:=tp,defers:=ds} h Q Pn:=by
 refine ⟨λc hc=>SmL.rounds (λm a h=>∃aC,I m aC h/\a.defers=ds/\afP (fV ps aC) a.tmps) (λm a h ⟨aC,h1,h2,h3⟩=>?_) m _ _ ⟨aC,hI,rfl,uT hv⟩⟩;obtain ⟨tp',ds'⟩:=a;simp only at h2 h3;subst h2;refine ((Kq hc (body m aC h h1)).mono λe a' h' q=>?_).weak h3;cases e with
 | exit i=>exact q
 | ret=>exact q
 | normal=>
   obtain ⟨anE,v1,v2⟩:=XT q;obtain ⟨e,m',hm,hI'⟩:=v2.out;exact ⟨m',hm,anE,hI',e,uT v1⟩
theorem FlN.flat {x:V}(hx:bU x=true){K:List V->Prop} (k:K [x]):FlN x K:=⟨by cases x<;>first | exact k | simp [bU] at hx⟩
theorem FlN.agg {cs:List V}{K:List V->Prop} (k:K cs):FlN (.agg cs) K:=⟨k⟩
theorem pR {x:Int}(h1:-9223372036854775808<=x)(h2:x<=9223372036854775807):bR .i64 x=x:=by
 rw [eJ];simp [IntKind.wrap,IntKind.bits,IntKind.signed];omega
theorem FN {x:Int}(h1:0<=x)(h2:x<=18446744073709551615):bR .u64 x=x:=by
 rw [eJ];simp [IntKind.wrap,IntKind.bits,IntKind.signed];omega
theorem Kr {x:Int}(h1:0<=x)(h2:x<=255):bR .u8 x=x:=by
 rw [eJ];simp [IntKind.wrap,IntKind.bits,IntKind.signed];omega
theorem Zk {x:Int}(h1:0<=x)(h2:x<=4294967295):bR .u32 x=x:=by
 rw [eJ];simp [IntKind.wrap,IntKind.bits,IntKind.signed];omega
variable {ek:EK} {k:IntKind} {a b:Int} {K:V->Prop}
theorem aV (k:IntKind):Fq k k=true:=by cases k<;>rfl
theorem bI.add (h1:-9223372036854775808<=a+b:=by omega) (h2:a+b<=9223372036854775807:=by omega) (hk:∀x:Int,x=a+b->K (.int .i64 x)):bI pf .add ek (.int .i64 a) (.int .i64 b) K:=
 ⟨_,by simp only [binOp,aV,bN,ct,pR h1 h2],hk _ rfl⟩
theorem bI.sub (h1:-9223372036854775808<=a - b:=by omega) (h2:a - b<=9223372036854775807:=by omega) (hk:∀x:Int,x=a - b->K (.int .i64 x)):bI pf .sub ek (.int .i64 a) (.int .i64 b) K:=
 ⟨_,by simp only [binOp,aV,bN,ct,pR h1 h2],hk _ rfl⟩
theorem bI.mul (h1:-9223372036854775808<=a*b)(h2:a*b<=9223372036854775807)(hk:∀x:Int,x=a*b->K (.int .i64 x)):bI pf .mul ek (.int .i64 a) (.int .i64 b) K:=
 ⟨_,by simp only [binOp,aV,bN,ct,pR h1 h2],hk _ rfl⟩
theorem bI.FO (hk:∀x:Int,x=bR k (a+b)->K (.int k x)):bI pf .add ek (.int k a) (.int k b) K:=
 ⟨_,by simp only [binOp,aV,bN,ct],hk _ rfl⟩
theorem bI.Ks (hk:∀x:Int,x=bR k (a - b)->K (.int k x)):bI pf .sub ek (.int k a) (.int k b) K:=
 ⟨_,by simp only [binOp,aV,bN,ct],hk _ rfl⟩
theorem bI.Zl (hk:∀x:Int,x=bR k (a*b)->K (.int k x)):bI pf .mul ek (.int k a) (.int k b) K:=
 ⟨_,by simp only [binOp,aV,bN,ct],hk _ rfl⟩
theorem bI.is {op:BinOp}{x y v:V}(h:∀plain,binOp plain op ek x y=some v) (hk:K v):bI pf op ek x y K:=⟨v,h _,hk⟩
theorem bI.PZ (h:a<b:=by omega) (hk:K (.bool true)):bI pf .lss ek (.int k a) (.int k b) K:=⟨.bool true,by simp [binOp,aV,bN,ct,cn];omega,hk⟩
theorem bI.FP (h:b<=a:=by omega) (hk:K (.bool false)):bI pf .lss ek (.int k a) (.int k b) K:=⟨.bool false,by simp [binOp,aV,bN,ct,cn];omega,hk⟩
theorem bI.O6 (h:a<=b:=by omega) (hk:K (.bool true)):bI pf .leq ek (.int k a) (.int k b) K:=⟨.bool true,by simp [binOp,aV,bN,ct,cn];omega,hk⟩
theorem bI.aiM (h:b<a:=by omega) (hk:K (.bool false)):bI pf .leq ek (.int k a) (.int k b) K:=⟨.bool false,by simp [binOp,aV,bN,ct,cn];omega,hk⟩
theorem bI.Zm (h:b<a:=by omega) (hk:K (.bool true)):bI pf .gtr ek (.int k a) (.int k b) K:=⟨.bool true,by simp [binOp,aV,bN,ct,cn];omega,hk⟩
theorem bI.Jk (h:a<=b:=by omega) (hk:K (.bool false)):bI pf .gtr ek (.int k a) (.int k b) K:=⟨.bool false,by simp [binOp,aV,bN,ct,cn];omega,hk⟩
theorem bI.um (h:b<=a:=by omega) (hk:K (.bool true)):bI pf .geq ek (.int k a) (.int k b) K:=⟨.bool true,by simp [binOp,aV,bN,ct,cn];omega,hk⟩
theorem bI.qp (h:a<b:=by omega) (hk:K (.bool false)):bI pf .geq ek (.int k a) (.int k b) K:=⟨.bool false,by simp [binOp,aV,bN,ct,cn];omega,hk⟩
theorem bI.mY (h:a=b:=by omega) (hk:K (.bool true)):bI pf .eql ek (.int k a) (.int k b) K:=⟨.bool true,by simp [binOp,aV,bN,ct,bO];omega,hk⟩
theorem bI.cP (h:a≠b:=by omega) (hk:K (.bool false)):bI pf .eql ek (.int k a) (.int k b) K:=⟨.bool false,by simp [binOp,aV,bN,ct,bO];omega,hk⟩
theorem bI.eC (h:a=b:=by omega) (hk:K (.bool false)):bI pf .neq ek (.int k a) (.int k b) K:=⟨.bool false,by simp [binOp,aV,bN,ct,bO];omega,hk⟩
theorem bI.uk (h:a≠b:=by omega) (hk:K (.bool true)):bI pf .neq ek (.int k a) (.int k b) K:=⟨.bool true,by simp [binOp,aV,bN,ct,bO];omega,hk⟩
theorem bI.lt (ht:a<b->K (.bool true)) (hf:b<=a->K (.bool false)):bI pf .lss ek (.int k a) (.int k b) K:=by
 rcases Int.lt_or_le a b with h | h
 ·exact .PZ h (ht h)
 ·exact .FP h (hf h)
theorem bI.le (ht:a<=b->K (.bool true)) (hf:b<a->K (.bool false)):bI pf .leq ek (.int k a) (.int k b) K:=by
 rcases Int.lt_or_le b a with h | h
 ·exact .aiM h (hf h)
 ·exact .O6 h (ht h)
theorem bI.gt (ht:b<a->K (.bool true)) (hf:a<=b->K (.bool false)):bI pf .gtr ek (.int k a) (.int k b) K:=by
 rcases Int.lt_or_le b a with h | h
 ·exact .Zm h (ht h)
 ·exact .Jk h (hf h)
theorem bI.ge (ht:b<=a->K (.bool true)) (hf:a<b->K (.bool false)):bI pf .geq ek (.int k a) (.int k b) K:=by
 rcases Int.lt_or_le a b with h | h
 ·exact .qp h (hf h)
 ·exact .um h (ht h)
theorem bI.eq (ht:a=b->K (.bool true)) (hf:a≠b->K (.bool false)):bI pf .eql ek (.int k a) (.int k b) K:=by
 by_cases h:a=b
 ·exact .mY h (ht h)
 ·exact .cP h (hf h)
theorem bI.ne (hf:a=b->K (.bool false)) (ht:a≠b->K (.bool true)):bI pf .neq ek (.int k a) (.int k b) K:=by
 by_cases h:a=b
 ·exact .eC h (hf h)
 ·exact .uk h (ht h)
theorem Zj.i64 (h1:-9223372036854775808<=a:=by omega) (h2:a<=9223372036854775807:=by omega) (hk:K (.int .i64 a)):Zj .i64 a K:=⟨by rw [pR h1 h2];exact hk⟩
theorem Zj.u64 (h1:0<=a:=by omega) (h2:a<=18446744073709551615:=by omega) (hk:K (.int .u64 a)):Zj .u64 a K:=⟨by rw [FN h1 h2];exact hk⟩
theorem Zj.u8 (h1:0<=a:=by omega) (h2:a<=255:=by omega) (hk:K (.int .u8 a)):Zj .u8 a K:=⟨by rw [Kr h1 h2];exact hk⟩
theorem Zj.u32 (h1:0<=a:=by omega) (h2:a<=4294967295:=by omega) (hk:K (.int .u32 a)):Zj .u32 a K:=⟨by rw [Zk h1 h2];exact hk⟩
theorem Zj.any (hk:∀x:Int,x=bR k a->K (.int k x)):Zj k a K:=⟨hk _ rfl⟩
theorem ajm.of (hk:∀x:Int,x=max a b->K (.int k x)):ajm (.int k a) (.int k b) K:=
 ⟨_,rfl,hk _ (by rw [cn];by_cases h:a<b<;>simp [h,GY]<;>omega)⟩
theorem ajn.of (hk:∀x:Int,x=min a b->K (.int k x)):ajn (.int k a) (.int k b) K:=
 ⟨_,rfl,hk _ (by rw [cn];by_cases h:b<a<;>simp [h,GY]<;>omega)⟩
variable {s t:List Nat}
theorem bI.cat (h:s.length+t.length<9223372036854775807:=by omega) (hk:∀r,r=s++t->K (.str r)):bI pf .add ek (.str s) (.str t) K:=
 ⟨_,by simp only [binOp,GX];rw [show Nat.blt (s.length+t.length) 9223372036854775807=true from by simpa using h];rfl,hk _ rfl⟩
theorem bI.anF (h:s=t)(hk:K (.bool true)):bI pf .eql ek (.str s) (.str t) K:=⟨.bool true,by simp [binOp,GX,jM,h],hk⟩
theorem bI.acT (h:s≠t)(hk:K (.bool false)):bI pf .eql ek (.str s) (.str t) K:=⟨.bool false,by simp [binOp,GX,jM,h],hk⟩
theorem bI.aht (h:s=t)(hk:K (.bool false)):bI pf .neq ek (.str s) (.str t) K:=⟨.bool false,by simp [binOp,GX,jM,h],hk⟩
theorem bI.anG (h:s≠t)(hk:K (.bool true)):bI pf .neq ek (.str s) (.str t) K:=⟨.bool true,by simp [binOp,GX,jM,h],hk⟩
theorem bI.seq (ht:s=t->K (.bool true)) (hf:s≠t->K (.bool false)):bI pf .eql ek (.str s) (.str t) K:=by
 by_cases h:s=t
 ·exact .anF h (ht h)
 ·exact .acT h (hf h)
theorem bI.UB (hf:s=t->K (.bool false)) (ht:s≠t->K (.bool true)):bI pf .neq ek (.str s) (.str t) K:=by
 by_cases h:s=t
 ·exact .aht h (hf h)
 ·exact .anG h (ht h)
theorem LsN.of (hk:∀n:Int,0<=n->n.toNat=s.length->K (.int .i64 n)):LsN (.str s) K:=⟨_,rfl,hk (Int.ofNat s.length) (by simp) (by simp)⟩
theorem afQ.of {i:Int}{c:Nat}(hi:0<=i)(hc:s[i.toNat]? =some c)(hk:∀x:Int,0<=x->x.toNat=c->K (.int .u8 x)):afQ (.str s) (.int k i) K:=by
 obtain ⟨j,rfl⟩:=Int.eq_ofNat_of_zero_le hi;exact ⟨.int .u8 (Int.ofNat c),by show ob (s[j]?) _=_;rw [show s[j]? =some c from hc];rfl,hk _ (by simp) (by simp)⟩
end
end Go.Dx
namespace Go.Dx
open Go Go.RowKit
def Wf (h:H):Prop:=∀l,(h.get l).isSome=true->val l<val h.next
def Obj.ro:Obj->Bool
 | .cells _ _ _ .no=>true
 | _=>false
structure Mod (h h':H)(F:List Lb):Prop where
 mF:∀l o,h.get l=some o->(l∉F\/o.ro=true)->h'.get l=some o
 next:val h.next<=val h'.next
theorem Mod.refl (h:H)(F:List Lb):Mod h h F:=⟨λ_ _ e _=>e,Nat.le_refl _⟩
theorem Mod.trans {h h' DG:H}{F F':List Lb}(a:Mod h h' F)(b:Mod h' DG F'):Mod h DG (F++F'):=
 ⟨λl o e n=>b.mF l o (a.mF l o e (n.imp_left λn m=>n (List.mem_append_left _ m))) (n.imp_left λn m=>n (List.mem_append_right _ m)),Nat.le_trans a.next b.next⟩
theorem Mod.mono {h h':H}{F F':List Lb}(a:Mod h h' F)(k:∀l o,h.get l=some o->l∈F->l∈F'):Mod h h' F':=
 ⟨λl o e n=>a.mF l o e (n.imp_left λn m=>n (k l o e m)),a.next⟩
theorem Mod.get {h h':H}{F:List Lb}(a:Mod h h' F){l:Lb}{o:Obj}(e:h.get l=some o)(n:l∉F:=by simp):h'.get l=some o:=a.mF l o e (.inl n)
theorem Mod.ro {h h':H}{F:List Lb}(a:Mod h h' F){l:Lb}{o:Obj}(e:h.get l=some o)(n:o.ro=true):h'.get l=some o:=a.mF l o e (.inr n)
def af:V->List Lb
 | .slice l _ _ _=>[l]
 | .ptr l _=>[l]
 | .map l=>[l]
 | _=>[]
def Fr (h:H)(v:V):Prop:=∀l,l∈af v->h.get l=none
theorem Mod.fr {h0 h h':H}{F F':List Lb}(a:Mod h0 h F)(b:Mod h h' F')(f:∀l,l∈F'->h0.get l=none\/l∈F):Mod h0 h' F:=
 ⟨λl o e n=>b.mF l o (a.mF l o e n) (n.imp_left λn m=>(f l m).elim (λg=>by rw [e] at g;cases g) n),Nat.le_trans a.next b.next⟩
section
variable {pf:Unit->Program} {G n:Nat} {h:H}
theorem H.add_mod (hw:Wf h)(o:Obj):(h.add o).get h.next=some o/\h.get h.next=none/\Mod h (h.add o) []/\Wf (h.add o):=by
 have hn:h.get h.next=none:=by
  cases e:h.get h.next with
  | none=>rfl
  | some o=>have:=hw h.next (by rw [e];rfl);omega
 refine ⟨H.kB _ _,hn,⟨λl o' e _=>?_,?_⟩,λl hl=>?_⟩
 ·rw [H.ed _ _ (λe'=>by rw [e',hn] at e;cases e)];exact e
 ·show _<=val (inc h.next);rw [iG];omega
 ·show _<val (inc h.next);rw [iG]
  by_cases e:l=h.next
  ·rw [e];omega
  ·rw [H.ed _ _ e] at hl;have:=hw l hl;omega
theorem AlN.of {o:Obj}{K:Lb->H->Prop} (hw:Wf h) (hk:∀l h',h'.get l=some o->h.get l=none->Mod h h' []->Wf h'->K l h'):AlN h o K:=by
 obtain ⟨h1,h2,h3,h4⟩:=H.add_mod hw o;exact ⟨hk _ _ h1 h2 h3 h4⟩
theorem H.eM (hw:Wf h){l:Lb}{o':Obj}(hl:h.get l=some o')(hro:o'.ro=false)(o:Obj):(h.set l o).get l=some o/\Mod h (h.set l o) [l]/\Wf (h.set l o):=by
 refine ⟨H.bg _ _ _,⟨λm o'' e n=>?_,Nat.le_refl _⟩,λm hm=>?_⟩
 ·have dj:m≠l:=by
   rintro rfl;rw [hl] at e;cases e;rcases n with n | n
   ·simp at n
   ·rw [hro] at n;cases n
  rw [H.br _ _ dj];exact e
 ·show _<val h.next
  by_cases e:m=l
  ·rw [e];exact hw l (by rw [hl];rfl)
  ·rw [H.br _ _ e] at hm;exact hw m hm
theorem StN.of {n:Nat}{l:Lb}{off:Nat}{x:V}{K:H->Prop} {vs vs' cs:List V} {e:TypeId} {fz:Nat} {own:Own} (hw:Wf h) (hl:h.get l=some (.cells vs e fz own)) (hx:x.cells=cs) (hn:cs.length=n) (ho:own.may=true) (hf:Nat.ble fz off=true) (gC:bd cs=true)
  (hp:aX vs off cs=some vs') (hk:∀h',h'.get l=some (.cells vs' e fz own)->Mod h h' [l]->Wf h'->K h'):StN h n l off x K:=by
 obtain ⟨h1,h2,h3⟩:=H.eM hw hl (by cases own<;>first | rfl | cases ho) (.cells vs' e fz own);exact ⟨by rw [hx];exact hn,_,by simp only [eb,hl,hx,ho,hf,gC,Bool.and_self,bN,hp,ob],hk _ h1 h2 h3⟩
theorem Uw.of {rd:Rd}{l:Lb}{off:Nat}{K:V->Prop} {vs:List V} {e:TypeId} {fz:Nat} {own:Own} {v:V} (hl:h.get l=some (.cells vs e fz own)) (hv:dI rd vs off=some v) (hk:K v):Uw h rd l off K:=
 ⟨v,by simp only [Q.ask,hl,hv],hk⟩
inductive Sl (h:H)(size:Nat):V->Nat->List V->Prop
 | nil (c:Nat):Sl h size (.nilSlice c) 0 []
 | empty:Sl h size .empty 0 []
 | row {l:Lb} {off n:Nat} {cap:Cap} {row cs:List V} {e:TypeId} {fz:Nat} {own:Own} (hg:h.get l=some (.cells row e fz own)) (hr:rowFrom row off (n*size)=some cs):Sl h size (.slice l off n cap) n cs
theorem Sl.len {size:Nat}{v:V}{n:Nat}{cs:List V}(s:Sl h size v n cs):cs.length=n*size:=by
 cases s with
 | nil c=>simp
 | empty=>simp
 | row hg hr=>exact ph hr
theorem Sl.flat {size:Nat}{v:V}{n:Nat}{cs:List V}(s:Sl h size v n cs):bU v=true:=by cases s<;>rfl
theorem Sl.mono {h':H}{F:List Lb}{size:Nat}{v:V}{n:Nat}{cs:List V}(s:Sl h size v n cs)(m:Mod h h' F)(d:∀l,l∈af v->l∉F:=by simp [af]):Sl h' size v n cs:=by
 cases s with
 | nil c=>exact .nil c
 | empty=>exact .empty
 | row hg hr=>exact .row (m.get hg (d _ (by simp [af]))) hr
theorem Sl.elems {size:Nat}{v:V}{n:Nat}{cs:List V}(s:Sl h size v n cs):de h size v=some (n,cs):=by
 cases s with
 | nil c=>rfl
 | empty=>rfl
 | row hg hr=>simp only [de,hg,hr,ob]
theorem ajl.of {size:Nat}{v:V}{n:Nat}{cs:List V}{K:V->Prop} (s:Sl h size v n cs) (hk:∀m:Int,0<=m->m.toNat=n->K (.int .i64 m)):ajl v K:=by
 cases s with
 | nil c=>exact ⟨_,rfl,hk _ (by simp) (by simp)⟩
 | empty=>exact ⟨_,rfl,hk _ (by simp) (by simp)⟩
 | row hg hr=>exact ⟨_,rfl,hk _ (by simp) (by simp)⟩
structure SQ (h:H)(l:Lb)(off:Nat)(els:List V):Prop where
 out:∃row e fz own,h.get l=some (.cells row e fz own)/\rowFrom row off els.length=some els
theorem rK:∀(a b:Nat) (vs:List V),bB a (bB b vs)=bB (b+a) vs
 | a,0,vs=>by simp [bB]
 | a,b+1,[]=>by cases a<;>simp [bB]
 | a,b+1,v::vs=>by rw [show b+1+a=(b+a)+1 from by omega];simp only [bB];exact rK a b vs
theorem xW:∀{n:Nat} {vs cs:List V},takeN n vs=some cs->∀i m,i+m<=n->takeN m (bB i vs)=takeN m (bB i cs)
 | n,vs,cs,h,i,0,hm=>rfl
 | 0,vs,cs,h,i,m+1,hm=>by omega
 | n+1,[],cs,h,i,m+1,hm=>by simp [takeN] at h
 | n+1,v::vs,cs,h,0,m+1,hm=>by
   simp only [takeN,ad] at h;obtain ⟨r,hr,h⟩:=h;cases h;simp only [bB,takeN];have:=xW hr 0 m (by omega);simp only [bB] at this;rw [this]
 | n+1,v::vs,cs,h,i+1,m+1,hm=>by
   simp only [takeN,ad] at h;obtain ⟨r,hr,h⟩:=h;cases h;simp only [bB];exact xW hr i (m+1) (by omega)
theorem Hg {row cs els:List V}{off n i m:Nat}(h:rowFrom row off n=some cs)(he:rowFrom cs i m=some els)(hm:i+m<=n):rowFrom row (off+i) m=some els:=by
 unfold rowFrom at*;rw [<-rK i off row,xW h i m hm];exact he
theorem VA.of {size:Nat}{v:V}{n:Nat}{cs els:List V}{k:IntKind}{i:Int}{j:Nat}{K:V->Prop} (s:Sl h size v n cs) (h0:0<=i) (hi:i.toNat=j) (hj:j<n) (he:rowFrom cs (j*size) size=some els) (hk:∀l off,SQ h l off els->K (.ptr l off)):VA size v (.int k i) K:=by
 cases s with
 | nil c=>omega
 | empty=>omega
 | @row l off _ cap row _ e fz own hg hr=>
   obtain ⟨j',rfl⟩:=Int.eq_ofNat_of_zero_le h0;have hi:j'=j:=by simpa using hi
   subst hi;refine ⟨.ptr l (off+j'*size),?_,hk _ _ ⟨row,e,fz,own,hg,?_⟩⟩
   ·show ob (bN (Nat.blt j' n) (some j')) (λi=>some (V.ptr l (off+i*size)))=_
    rw [show Nat.blt j' n=true from by simpa using hj];rfl
   ·rw [show els.length=size from ph he]
    refine Hg hr he ?_;have h1:(j'+1)*size<=n*size:=Nat.mul_le_mul_right _ hj;rw [Nat.add_mul] at h1;omega
theorem Uw.gH {l:Lb}{off:Nat}{els:List V}{v:V}{K:V->Prop} (e:SQ h l off els) (j:Nat) (hv:els[j]? =some v) (hk:K v):Uw h .one l (off+j) K:=by
 obtain ⟨row,t,fz,own,hg,hr⟩:=e.out;refine .of hg ?_ hk;have hj:j<els.length:=(List.getElem?_eq_some_iff.1 hv).1;obtain ⟨h1,h2,h3⟩:=rG hr;have:=h3 j hj;show (bB (off+j) row).head? =some v
 rw [List.head?_eq_getElem?,pL,Nat.add_zero,<-this];exact hv
theorem Uw.ka {l:Lb}{off m:Nat}{els:List V}{K:V->Prop} (e:SQ h l off els) (hm:els.length=m) (hk:K (.agg els)):Uw h (.many m) l off K:=by
 obtain ⟨row,t,fz,own,hg,hr⟩:=e.out;subst hm;exact .of hg (by simp only [dI,hr,ob]) hk
inductive aE (h:H)(e:TypeId)(size:Nat):V->Nat->List V->Prop
 | nil:aE h e size (.nilSlice 0) 0 []
 | ends {l:Lb} {n:Nat} {cs:List V} (hg:h.get l=some (.cells cs e 0 .yes)) (hl:cs.length=n*size):aE h e size (.slice l 0 n (.toEnd size)) n cs
 | exact {l:Lb} {n:Nat} {cs:List V} (hg:h.get l=some (.cells cs e 0 .yes)) (hl:cs.length=n*size):aE h e size (.slice l 0 n (.exact n)) n cs
theorem dA {cs:List V}{n:Nat}(h:cs.length=n):rowFrom cs 0 n=some cs:=by subst h;exact pM cs
theorem aE.sl {e:TypeId}{size:Nat}{v:V}{n:Nat}{cs:List V}(o:aE h e size v n cs):Sl h size v n cs:=by
 cases o with
 | nil=>exact .nil 0
 | ends hg hl=>exact .row hg (dA hl)
 | exact hg hl=>exact .row hg (dA hl)
theorem aE.mono {h':H}{F:List Lb}{e:TypeId}{size:Nat}{v:V}{n:Nat}{cs:List V}(o:aE h e size v n cs)(m:Mod h h' F)(d:∀l,l∈af v->l∉F:=by simp [af]):aE h' e size v n cs:=by
 cases o with
 | nil=>exact .nil
 | ends hg hl=>exact .ends (m.get hg (d _ (by simp [af]))) hl
 | exact hg hl=>exact .exact (m.get hg (d _ (by simp [af]))) hl
def Grow (h:H)(s v:V):Prop:=∀l,l∈af v->h.get l=none\/l∈af s
theorem Grow.fr {h0 h:H}{F:List Lb}{s v:V}(g:Grow h s v)(m:Mod h0 h F)(hF:∀l,l∈F->h0.get l=none) (f:Fr h0 s):Fr h0 v:=λl hl=>by
 rcases g l hl with a | a
 ·cases e:h0.get l with
  | none=>rfl
  | some o=>
    by_cases hm:l∈F
    ·rw [hF l hm] at e;cases e
    ·rw [m.get e hm] at a;cases a
 ·exact f l a
theorem xX:∀(cs:List V),aX cs cs.length []=some cs
 | []=>rfl
 | v::vs=>by simp only [List.length_cons,aX,xX vs,ob]
theorem H.Kt (h:H){l m:Lb}(hm:m≠l):(h.del l).get m=h.get m:=T.br _ _ _ _ (Ne.symm hm)
theorem DT {e:TypeId}{size bytes:Nat}{s:V}{n m:Nat}{cs new:List V}{K:V->H->Prop} (hw:Wf h) (o:aE h e size s n cs) (hl:new.length=m*size) (gC:bd new=true) (hb:4*(n+m)*bytes<=jd)
  (ft:0<size) (hk:∀v h',aE h' e size v (n+m) (cs++new)->Grow h s v->Mod h h' (af s)->Wf h'->K v h'):∃v h',eH h e size bytes s m new=some (v,h')/\K v h':=by
 have G3:Nat.ble (4*(n+m)*bytes) jd=true:=Nat.ble_eq_true_of_le hb;obtain ⟨a1,a2,a3,a4⟩:=H.add_mod hw (.cells (cs++new) e 0 .yes);have hlen:(cs++new).length=(n+m)*size:=by
  have:=o.sl.len;rw [List.length_append,this,hl,Nat.add_mul]
 cases o with
 | nil=>
   cases hm:Nat.ble m 0 with
   | true=>
     have:m=0:=by simpa using hm
     subst this;have:new=[]:=by simpa using hl
     subst this;exact ⟨.nilSlice 0,h,rfl,hk _ _ .nil (λl hl=>by simp [af] at hl) (Mod.refl _ _) hw⟩
   | false=>
     rw [Nat.zero_add] at G3;refine ⟨_,_,by simp only [eH,hm,G3,bN];rw [Nat.zero_add,List.nil_append],hk _ _ (.ends a1 ?_) (λl hl=>?_) (a3.mono (by simp)) a4⟩
     ·simpa using hlen
     ·simp only [af,List.mem_singleton] at hl;subst hl;exact .inl a2
 | @ends l _ _ hg Pz=>
   simp only [eH,G3,bN,Nat.beq_refl,hg,Own.may,Bool.and_self];cases hm:Nat.ble (0+(n+m)*size) cs.length with
   | true=>
     have h0:m=0:=by
      have:0+(n+m)*size<=cs.length:=Nat.le_of_ble_eq_true hm;rw [Pz,Nat.add_mul] at this;have:m*size=0:=by omega
      rcases Nat.mul_eq_zero.1 this with h | h
      ·exact h
      ·omega
     subst h0;have:new=[]:=by simpa using hl
     subst this;obtain ⟨b1,b2,b3⟩:=H.eM hw hg rfl (.cells cs e 0 .yes);refine ⟨.slice l 0 (n+0) (.toEnd size),h.set l (.cells cs e 0 .yes),?_,hk _ _ (by simpa using aE.ends b1 Pz) (λl' pn=>.inr pn) b2 b3⟩;simp only [eb,hg,Own.may,bd,bN,Bool.and_self,show Nat.ble 0 (0+n*size)=true from by simp];rw [show 0+n*size=cs.length from by omega,xX];rfl
   | false=>
     have hwd:Wf (h.del l):=λm' dY=>by
      show _<val h.next
      by_cases e:m'=l
      ·rw [e];exact hw l (by rw [hg];rfl)
      ·rw [H.Kt _ e] at dY;exact hw m' dY
     obtain ⟨b1,b2,b3,b4⟩:=H.add_mod hwd (.cells (cs++new) e 0 .yes);refine ⟨.slice h.next 0 (n+m) (.toEnd size),(h.del l).add (.cells (cs++new) e 0 .yes),?_,hk _ _ (.ends b1 hlen) (λl' pn=>?_) ⟨λm' o e' hn=>?_,b3.next⟩ b4⟩
     ·simp only [gC,show Nat.beq (0+n*size) cs.length=true from by simp [Pz],Nat.ble,Bool.and_self,bB];first | done | rfl
     ·simp only [af,List.mem_singleton] at pn;subst pn;exact .inl a2
     ·have dj:m'≠l:=by
       rintro rfl;rw [hg] at e';cases e';rcases hn with hn | hn
       ·simp [af] at hn
       ·cases hn
      exact b3.get (by rw [H.Kt _ dj];exact e')
 | @exact l _ _ hg Pz=>
   simp only [eH,G3,bN];cases hm:Nat.ble (n+m) n with
   | true=>
     have h0:m=0:=by have:=Nat.le_of_ble_eq_true hm;omega
     subst h0;have:new=[]:=by simpa using hl
     subst this;obtain ⟨b1,b2,b3⟩:=H.eM hw hg rfl (.cells cs e 0 .yes);refine ⟨.slice l 0 (n+0) (.exact n),h.set l (.cells cs e 0 .yes),?_,hk _ _ (by simpa using aE.exact b1 Pz) (λl' pn=>.inr pn) b2 b3⟩;simp only [eb,hg,Own.may,bd,bN,Bool.and_self,show Nat.ble 0 (0+n*size)=true from by simp];rw [show 0+n*size=cs.length from by omega,xX];rfl
   | false=>
     have Pw:0<m:=by
      rcases Nat.eq_zero_or_pos m with h0 | h0
      ·rw [h0,Nat.add_zero] at hm;have:=Nat.ble_eq_true_of_le (Nat.le_refl n);rw [hm] at this;cases this
      ·exact h0
     refine ⟨_,_,?_,hk _ _ (.ends a1 hlen) (λl' pn=>?_) (a3.mono (by simp)) a4⟩
     ·simp only [hg,show Nat.blt 0 m=true from by simpa using Pw,dA Pz,ob]
     ·simp only [af,List.mem_singleton] at pn;subst pn;exact .inl a2
theorem Hh {e:TypeId}{size bytes:Nat}{s:V}{n m:Nat}{cs new:List V}{K:V->H->Prop} (hw:Wf h) (o:aE h e size s n cs) (hl:new.length=m*size) (gC:bd new=true) (hb:4*(n+m)*bytes<=bz)
  (ft:0<size) (hk:∀v h',aE h' e size v (n+m) (cs++new)->Grow h s v->Mod h h' (af s)->Wf h'->K v h'):∃v h',eH h e size bytes s m new=some (v,h')/\K v h':=
 DT hw o hl gC (Nat.le_trans hb (by decide)) ft hk
theorem VB.big {e:TypeId}{size bytes:Nat}{s x:V}{n m:Nat}{cs new:List V}{K:V->H->Prop} (hw:Wf h) (o:aE h e size s n cs) (hx:de h size x=some (m,new)) (hl:new.length=m*size) (gC:bd new=true) (hb:4*(n+m)*bytes<=jd)
  (ft:0<size) (hk:∀v h',aE h' e size v (n+m) (cs++new)->Grow h s v->Mod h h' (af s)->Wf h'->K v h'):VB h e size bytes s x K:=
 let ⟨v,h',a,b⟩:=DT hw o hl gC hb ft hk;⟨(m,new),v,h',hx,a,b⟩
theorem VB.own {e:TypeId}{size bytes:Nat}{s x:V}{n m:Nat}{cs new:List V}{K:V->H->Prop} (hw:Wf h) (o:aE h e size s n cs) (hx:de h size x=some (m,new)) (hl:new.length=m*size) (gC:bd new=true) (hb:4*(n+m)*bytes<=bz)
  (ft:0<size) (hk:∀v h',aE h' e size v (n+m) (cs++new)->Grow h s v->Mod h h' (af s)->Wf h'->K v h'):VB h e size bytes s x K:=
 let ⟨v,h',a,b⟩:=Hh hw o hl gC hb ft hk;⟨(m,new),v,h',hx,a,b⟩
def anH (size:Nat):Cap->Nat->Prop
 | .exact c,n=>n<=c
 | .toEnd es,_=>es=size
inductive Ro (h:H)(size:Nat):V->Nat->List V->Prop
 | nil:Ro h size (.nilSlice 0) 0 []
 | row {l:Lb} {off n:Nat} {cap:Cap} {row cs:List V} {e:TypeId} {fz:Nat} (hg:h.get l=some (.cells row e fz .no)) (hr:rowFrom row off (n*size)=some cs) (hc:anH size cap n):Ro h size (.slice l off n cap) n cs
theorem Ro.sl {size:Nat}{v:V}{n:Nat}{cs:List V}(r:Ro h size v n cs):Sl h size v n cs:=by
 cases r with
 | nil=>exact .nil 0
 | row hg hr=>exact .row hg hr
theorem Ro.mono {h':H}{F:List Lb}{size:Nat}{v:V}{n:Nat}{cs:List V}(r:Ro h size v n cs)(m:Mod h h' F):Ro h' size v n cs:=by
 cases r with
 | nil=>exact .nil
 | row hg hr hc=>exact .row (m.ro hg rfl) hr hc
theorem Ro.flat {size:Nat}{v:V}{n:Nat}{cs:List V}(r:Ro h size v n cs):bU v=true:=by cases r<;>rfl
theorem Less.freeze {l:Lb}{cs:List V}{e:TypeId}{fz:Nat}{own:Own}(hg:h.get l=some (.cells cs e fz own)):Less h (h.set l (.cells cs e fz .no)):=by
 refine ⟨rfl,λ{B w0 ρ w} R=>?_⟩;have key:∀m o,(h.set l (.cells cs e fz .no)).get m=some o->∃o',h.get m=some o'/\(o'=o\/(o' = .cells cs e fz own/\o = .cells cs e fz .no)):=λm o hm=>by
  by_cases e':m=l
  ·subst e';rw [H.bg] at hm;cases hm;exact ⟨_,hg,.inr ⟨rfl,rfl⟩⟩
  ·rw [H.br _ _ e'] at hm;exact ⟨_,hm,.inl rfl⟩
 refine ⟨λm b o hm ho=>?_,R.lt,R.base,λm k b c hm hk i1 i2=>?_,λm b o hm ho hw=>?_,R.size,R.below⟩
 ·obtain ⟨o',h1,h2⟩:=key m o ho
  have r:=R.obj m b o' hm h1;rcases h2 with rfl | ⟨rfl,rfl⟩
  ·exact r
  ·exact ⟨r.shape,r.fits,r.cell,(λh=>by cases h),(λh=>by cases h)⟩
 ·obtain ⟨o1,e1⟩:=Option.isSome_iff_exists.1 i1
  obtain ⟨o2,e2⟩:=Option.isSome_iff_exists.1 i2;obtain ⟨p1,q1,_⟩:=key m o1 e1;obtain ⟨p2,q2,_⟩:=key k o2 e2;exact R.inj m k b c hm hk (by rw [q1];rfl) (by rw [q2];rfl)
 ·obtain ⟨o',h1,h2⟩:=key m o ho
  rcases h2 with rfl | ⟨rfl,rfl⟩
  ·exact R.own m b _ hm h1 hw
  ·cases hw
theorem aE.freeze {e:TypeId}{size:Nat}{v:V}{n:Nat}{cs:List V}(o:aE h e size v n cs)(hw:Wf h):∃h2,Less h h2/\Ro h2 size v n cs/\Mod h h2 (af v)/\Wf h2:=by
 have set:∀l,h.get l=some (.cells cs e 0 .yes)->Less h (h.set l (.cells cs e 0 .no))/\(h.set l (.cells cs e 0 .no)).get l=some (.cells cs e 0 .no)/\Mod h (h.set l (.cells cs e 0 .no)) [l]/\Wf (h.set l (.cells cs e 0 .no)):=λl hg=>
  let ⟨a,b,c⟩:=H.eM hw hg rfl (.cells cs e 0 .no);⟨.freeze hg,a,b,c⟩
 cases o with
 | nil=>exact ⟨h,.refl h,.nil,Mod.refl _ _,hw⟩
 | @ends l _ _ hg hl=>
   obtain ⟨a,b,c,d⟩:=set l hg;exact ⟨_,a,.row b (dA hl) rfl,c,d⟩
 | @exact l _ _ hg hl=>
   obtain ⟨a,b,c,d⟩:=set l hg;exact ⟨_,a,.row b (dA hl) (Nat.le_refl _),c,d⟩
end
end Go.Dx
namespace Go.Dx
open Go Go.RowKit
def zQ (f:Nat->Nat->Nat) (k:IntKind) (x y:Int):Int:=Dm (IK.sgn k) (IK.half k) (IK.top k) (f (iT (IK.top k) x) (iT (IK.top k) y))
section
variable {pf:Unit->Program} {ek:EK} {k j:IntKind} {a b:Int} {K:V->Prop}
theorem bI.ajy (hk:∀x,x=zQ Nat.land k a b->K (.int k x)):bI pf .and ek (.int k a) (.int k b) K:=⟨_,by simp only [binOp,aV,bN,ct];rfl,hk _ rfl⟩
theorem bI.orB (hk:∀x,x=zQ Nat.lor k a b->K (.int k x)):bI pf .or ek (.int k a) (.int k b) K:=⟨_,by simp only [binOp,aV,bN,ct];rfl,hk _ rfl⟩
theorem bI.afV (hk:∀x,x=zQ Nat.xor k a b->K (.int k x)):bI pf .xor ek (.int k a) (.int k b) K:=⟨_,by simp only [binOp,aV,bN,ct];rfl,hk _ rfl⟩
theorem UnN.asD (hk:∀x,x=bR k (0 - a)->K (.int k x)):UnN .neg (.int k a) K:=⟨_,by simp only [unOp,ct],hk _ rfl⟩
theorem UnN.afV (hk:∀x,x=zQ Nat.xor k (allOnes k) a->K (.int k x)):UnN .xor (.int k a) K:=⟨_,by simp only [unOp,ct];rfl,hk _ rfl⟩
theorem bI.shr (d:Int)(h0:0<=a:=by omega) (hb:0<=b:=by omega) (hs:b.toNat<=bitsOf k:=by decide) (hd:(2:Int) ^ b.toNat=d:=by rfl) (hk:∀x:Int,x=a / d->K (.int k x)):bI pf .shr ek (.int k a) (.int j b) K:=by
 obtain ⟨m,rfl⟩:=Int.eq_ofNat_of_zero_le h0;obtain ⟨n,rfl⟩:=Int.eq_ofNat_of_zero_le hb;have hs:n<=bitsOf k:=by simpa using hs
 refine ⟨.int k (Int.ofNat (Nat.shiftRight m (Nat.min n (bitsOf k)))),rfl,hk _ ?_⟩;rw [show Nat.min n (bitsOf k)=n from Nat.min_eq_left hs,<-hd];show ((m >>>n:Nat):Int)=_
 rw [Nat.shiftRight_eq_div_pow];simp
theorem bI.asE (h0:0<=a:=by omega) (hb:0<=b:=by omega) (hs:b.toNat<=bitsOf k) (hk:∀x:Int,0<=x->x.toNat=a.toNat / 2 ^ b.toNat->K (.int k x)):bI pf .shr ek (.int k a) (.int j b) K:=by
 obtain ⟨m,rfl⟩:=Int.eq_ofNat_of_zero_le h0;obtain ⟨n,rfl⟩:=Int.eq_ofNat_of_zero_le hb;have hs:n<=bitsOf k:=by simpa using hs
 refine ⟨.int k (Int.ofNat (Nat.shiftRight m (Nat.min n (bitsOf k)))),rfl,hk _ (Int.natCast_nonneg _) ?_⟩;rw [show Nat.min n (bitsOf k)=n from Nat.min_eq_left hs];show m >>>n=_
 rw [Nat.shiftRight_eq_div_pow];simp
theorem bI.afW (h0:0<=a:=by omega) (hb:0<=b:=by omega) (hs:b.toNat<=bitsOf k) (hk:∀x:Int,x=bR k (a*2 ^ b.toNat)->K (.int k x)):bI pf .shl ek (.int k a) (.int j b) K:=by
 obtain ⟨m,rfl⟩:=Int.eq_ofNat_of_zero_le h0;obtain ⟨n,rfl⟩:=Int.eq_ofNat_of_zero_le hb;have hs:n<=bitsOf k:=by simpa using hs
 refine ⟨.int k (bR k (Int.ofNat (Nat.shiftLeft m (Nat.min n (bitsOf k))))),rfl,hk _ ?_⟩;rw [show Nat.min n (bitsOf k)=n from Nat.min_eq_left hs]
 congr 1
 show ((m <<<n:Nat):Int)=_
 rw [Nat.shiftLeft_eq];simp
theorem bI.quo (h0:0<=a:=by omega) (hb:0<b:=by omega) (h1:a<=9223372036854775807:=by omega) (hk:∀x:Int,x=a / b->K (.int .i64 x)):bI pf .quo ek (.int .i64 a) (.int .i64 b) K:=by
 have e:a.tdiv b=a / b:=Int.tdiv_eq_ediv_of_nonneg h0;refine ⟨.int .i64 (a / b),?_,hk _ rfl⟩;have fC:oN b 0=false:=by rw [bO];simp;omega
 simp only [binOp,aV,bN,ct,fC,Bool.not_false,e];rw [pR]
 ·have:=Int.ediv_nonneg h0 (Int.le_of_lt hb);omega
 ·have:=Int.ediv_le_self b h0;omega
theorem bI.rem (h0:0<=a:=by omega) (hb:0<b:=by omega) (hk:∀x:Int,x=a % b->K (.int k x)):bI pf .rem ek (.int k a) (.int k b) K:=by
 have e:a.tmod b=a % b:=Int.tmod_eq_emod_of_nonneg h0;refine ⟨.int k (a % b),?_,hk _ rfl⟩;have fC:oN b 0=false:=by rw [bO];simp;omega
 simp only [binOp,aV,bN,ct,fC,Bool.not_false,e]
theorem P2 (x:Int):bR .u8 x=x % 256:=by rw [eJ];simp [IntKind.wrap,IntKind.bits,IntKind.signed]
theorem Zj.u8m (hk:∀x:Int,x=a % 256->K (.int .u8 x)):Zj .u8 a K:=⟨by rw [P2];exact hk _ rfl⟩
theorem acU {f:Nat->Nat->Nat} (hf:∀x y,x<4294967296->y<4294967296->f x y<4294967296) (x y:Int):0<=zQ f .u32 x y/\zQ f .u32 x y<=4294967295:=by
 have:=hf _ _ (Fy (top:=4294967296) (by decide) x) (Fy (top:=4294967296) (by decide) y);show 0<=((f (iT 4294967296 x) (iT 4294967296 y):Nat):Int)/\((f (iT 4294967296 x) (iT 4294967296 y):Nat):Int)<=4294967295
 omega
theorem acV (x y:Nat)(hx:x<4294967296)(hy:y<4294967296):Nat.xor x y<4294967296:=Nat.xor_lt_two_pow (n:=32) hx hy
end
end Go.Dx
namespace Go.Dx
open Go Go.RowKit
structure Loc (h0 h:H)(v:V):Prop where
 mod:Mod h0 h []
 fr:Fr h0 v
 wf:Wf h
theorem Loc.nil {h:H}(hw:Wf h)(c:Nat):Loc h h (.nilSlice c):=⟨Mod.refl _ _,λl hl=>by simp [af] at hl,hw⟩
theorem Loc.al {h0 h h':H}{v:V}(a:Loc h0 h v)(m:Mod h h' [])(hw:Wf h'):Loc h0 h' v:=⟨a.mod.trans m,a.fr,hw⟩
theorem Loc.grow {h0 h h':H}{v v':V}(a:Loc h0 h v)(g:Grow h v v')(m:Mod h h' (af v))(hw:Wf h'):Loc h0 h' v':=
 ⟨a.mod.fr m λl hl=>.inl (a.fr l hl),g.fr a.mod (by simp) a.fr,hw⟩
theorem Loc.base {h0 h1 h:H}{v:V}(a:Loc h1 h v)(m:Mod h0 h1 []):Loc h0 h v:=
 ⟨m.trans a.mod,λl hl=>by
  cases e:h0.get l with
  | none=>rfl
  | some o=>(have:=m.get e;rw [a.fr l hl] at this;cases this),a.wf⟩
theorem Loc.get {h0 h:H}{v:V}(a:Loc h0 h v){l:Lb}{o:Obj}(e:h0.get l=some o):h.get l=some o:=a.mod.get e
theorem Loc.sl {h0 h:H}{v:V}(a:Loc h0 h v){size:Nat}{u:V}{n:Nat}{cs:List V}(s:Sl h0 size u n cs):Sl h size u n cs:=s.mono a.mod
theorem az:∀l:List Nat,bd (ae l)=true
 | []=>rfl
 | _::r=>by simp [ae,bd,bU,az r]
theorem eN:∀{a b:List V},bd a=true->bd b=true->bd (a++b)=true
 | [],b,_,h=>h
 | x::a,b,h,k=>by simp only [bd,Bool.and_eq_true,List.cons_append] at *;exact ⟨h.1,eN h.2 k⟩
theorem aK:∀a b:List Nat,ae (a++b)=ae a++ae b
 | [],_=>rfl
 | _::a,b=>by simp [ae,aK a b]
theorem Hj:∀{vs cs:List V},cs.length=vs.length->aX vs 0 cs=some cs
 | [],[],_=>rfl
 | v::vs,c::cs,h=>by simp only [aX,Hj (vs:=vs) (cs:=cs) (by simpa using h),ob]
 | [],_::_,h=>by simp at h
 | _::_,[],h=>by simp at h
theorem DU:∀(l:List Nat) (i:Nat) (b:Nat),l[i]? =some b->rowFrom (ae l) (i*1) 1=some [.int .u8 (Int.ofNat b)]
 | [],i,b,h=>by simp at h
 | x::l,0,b,h=>by simp at h;subst h;rfl
 | x::l,i+1,b,h=>by
   have:=DU l i b (by simpa using h);rw [show (i+1)*1=i*1+1 by omega];exact this
theorem Uw.byte {h:H}{l:Lb}{off:Nat}{b:Nat}{K:V->Prop} (e:SQ h l off [.int .u8 (Int.ofNat b)]) (hk:∀x:Int,0<=x->x.toNat=b->K (.int .u8 x)):Uw h .one l off K:=
 .gH e 0 rfl (hk _ (by simp) (by simp))
theorem VA.byte {h:H}{v:V}{n:Nat}{l:List Nat}{k:IntKind}{i:Int}{b:Nat}{K:V->Prop} (s:Sl h 1 v n (ae l)) (h0:0<=i) (hb:l[i.toNat]? =some b) (hk:∀q off,SQ h q off [.int .u8 (Int.ofNat b)]->K (.ptr q off)):VA 1 v (.int k i) K:=
 .of s h0 rfl (by have:=s.len;have h2:=(List.getElem?_eq_some_iff.1 hb).1;rw [bp] at this;omega) (DU l _ b hb) hk
section
variable {h0 h:H} {e:TypeId} {size bytes:Nat} {s x:V} {n m:Nat} {cs new:List V} {K:V->H->Prop}
theorem VB.loc (a:Loc h0 h s)(o:aE h e size s n cs)(hx:de h size x=some (m,new))(hl:new.length=m*size)(gC:bd new=true)(hb:4*(n+m)*bytes<=1099511627776)(ft:0<size:=by decide)
  (hk:∀v h',aE h' e size v (n+m) (cs++new)->Loc h0 h' v->Mod h h' (af s)->K v h'):VB h e size bytes s x K:=
 .own a.wf o hx hl gC hb ft λv h' o' g m' w=>hk v h' o' (a.grow g m' w) m'
theorem VB.text {t:List Nat}(a:Loc h0 h s)(o:aE h e 1 s n cs)(hb:n+t.length<=100000000)(hk:∀v h',aE h' e 1 v (n+t.length) (cs++ae t)->Loc h0 h' v->Mod h h' (af s)->K v h'):VB h e 1 1 s (.str t) K:=
 .loc a o (m:=t.length) (new:=ae t) rfl (by simp [bp]) (az t) (by omega) (by decide) hk
theorem VB.one {l:Lb}{fz:Nat}{own:Own}{e':TypeId}(a:Loc h0 h s)(o:aE h e size s n cs)(hg:h.get l=some (.cells new e' fz own))(hl:new.length=size)(gC:bd new=true)(hb:4*(n+1)*bytes<=1099511627776)(ft:0<size:=by decide)
  (hk:∀v h',aE h' e size v (n+1) (cs++new)->Loc h0 h' v->Mod h h' (af s)->K v h'):VB h e size bytes s (.slice l 0 1 (.exact 1)) K:=
 .loc a o (m:=1) (new:=new) (by simp only [de,hg,Nat.one_mul];rw [dA hl];rfl) (by omega) gC hb ft hk
theorem VB.copy (hw:Wf h)(sl:Sl h size x m cs)(gC:bd cs=true)(hb:4*m*bytes<=1099511627776)(ft:0<size:=by decide)
  (hk:∀v h',aE h' e size v m cs->Loc h h' v->K v h'):VB h e size bytes (.nilSlice 0) x K:=
 .loc (Loc.nil hw 0) .nil sl.elems sl.len gC (by rw [Nat.zero_add];exact hb) ft λv h' o a _=>hk v h' (by rw [Nat.zero_add,List.nil_append] at o;exact o) a
end
end Go.Dx
namespace Go.Dx
open Go Go.RowKit
structure FbN (h:H)(e:TypeId)(a p:V)(K:Q->V->Prop):Prop where
 out:∃b cs l off v,a = .str b/\cs=ae b/\p = .ptr l off/\b.length<=9223372036854775807/\(Q.freshB e cs b.length l off).ask h=some v/\K (.freshB e cs b.length l off) v
def acW (tp:T V)(h:H)(q:RD)(K:Q->V->Prop):Prop:=match q with
 | .load rd x=>gx tp x λa=>match a with
   | .ptr l off=>Uw h rd l off (K (.load rd l off))
   | _=>False
 | .lookup pk z ok m k=>gx tp m λm=>gx tp k λk=>RJ h pk z ok m k (K (.lookup pk z ok m k))
 | .bytesStr x=>gx tp x λa=>BsN h a (K (.bytes a))
 | .mapLen x=>gx tp x λa=>uS h (.mapLen a) (K (.mapLen a))
 | .fresh t cs x=>gx tp x λa=>match a with
   | .ptr l off=>uS h (.fresh t cs l off) (K (.fresh t cs l off))
   | _=>False
 | .freshS t cs n x=>gx tp x λa=>match a with
   | .ptr l off=>uS h (.freshS t cs n l off) (K (.freshS t cs n l off))
   | _=>False
 | .freshB e x s=>gx tp x λa=>gx tp s λp=>FbN h e a p K
 | _=>False
def acX (pf:Unit->Program) (d:DO) (a:A) (h:H) (K:V->Option Q->Prop):Prop:=match d.op with
 | .Rm x=>gx a.tmps x λv=>K v none
 | .p q=>wpP pf a.tmps q λv=>K v none
 | .r q=>acW a.tmps h q λQ v=>K v (some Q)
 | _=>False
def P3 (q:Option Q)(v:V)(hi:Nat)(ps:List jH):List jH:=match q with
 | some q=>(q,v,hi)::ps
 | none=>ps
def ME (pf:Unit->Program) (k:Nat):List (DO×Nat×Nat)->A->H->List jH->(A->List jH->Prop)->Prop
 | [],a,_,ps,K=>K a ps
 | (d,lo,hi)::r,a,h,ps,K=>match !bQ d&&Nat.beq lo k with
   | false=>ME pf k r a h ps K
   | true=>match d.guard with
     | none=>acX pf d a h λv q=>ME pf k r (a.put d.dst v) h (P3 q v hi ps) K
     | some (p,want)=>gx a.tmps (.t p) λb=>match b with
       | .bool b=>match mO b want with
         | true=>acX pf d a h λv q=>ME pf k r (a.put d.dst v) h (P3 q v hi ps) K
         | false=>ME pf k r (a.put d.dst undef) h ps K
       | .tuple _=>ME pf k r (a.put d.dst undef) h ps K
       | _=>False
def SR (k:Nat):List (DO×Nat×Nat)->Option DO
 | []=>none
 | (d,lo,_)::r=>match bQ d&&Nat.beq lo k with
   | true=>some d
   | false=>SR k r
def qq (k:Nat):List jH->List jH
 | []=>[]
 | (q,v,hi)::r=>match Nat.ble k hi with
   | true=>(q,v,hi)::qq k r
   | false=>qq k r
structure dN (h:H)(ps:List jH)(K:Prop):Prop where
 out:(∀p,p∈ps->p.1.ask h=some p.2.1)/\K
def wpG (pf:Unit->Program) (G:Nat) (d:DO) (a:A) (h:H) (K:A->H->Prop) (Pn:A->V->H->Prop):Prop:=match d.guard with
 | none=>wpD pf G d a h K (λa v h=>Pn {tmps:=.leaf,defers:=a.defers} v h)
 | some (p,want)=>gx a.tmps (.t p) λv=>match v with
   | .bool b=>match mO b want with
     | true=>wpD pf G d a h K (λa v h=>Pn {tmps:=.leaf,defers:=a.defers} v h)
     | false=>K (a.put d.dst undef) h
   | .tuple _=>K (a.put d.dst undef) h
   | _=>False
def MF (pf:Unit->Program) (G:Nat) (tg:List (DO×Nat×Nat)):Nat->Nat->A->H->List jH->(A->H->Prop)->(A->V->H->Prop)->Prop
 | 0,_,_,_,_,_,_=>False
 | f+1,k,a,h,ps,K,Pn=>ME pf k tg a h ps λa ps=>match SR k tg with
   | none=>K a h
   | some d=>wpG pf G d a h (λa h'=>dN h' (qq (k+1) ps) (MF pf G tg f (k+1) a h' ps K Pn)) Pn
def SS:List Made->T V->H->(T V->H->Prop)->Prop
 | [],tp,h,K=>K tp h
 | (p,t,cs,o)::r,tp,h,K=>AlN h (.cells cs t 0 o) λl h'=>SS r (tp.set p (some (.ptr l 0))) h' K
theorem Ce {k:Nat}{p:jH}:∀{ps:List jH},p∈ps->k<=p.2.2->p∈qq k ps
 | (q,v,hi)::r,hm,hk=>by
   simp only [qq];rcases List.mem_cons.1 hm with e | hm
   ·subst e
    rw [show Nat.ble k hi=true from Nat.ble_eq_true_of_le hk];exact List.mem_cons_self ..
   ·split
    ·exact List.mem_cons_of_mem _ (Ce hm hk)
    ·exact Ce hm hk
theorem afX {tp tm:T V}(s:gU tp tm){h:H}{q:RD}{K:Q->V->Prop} (hk:acW tp h q K):∃Q v,q.oO tm=some Q/\Q.ask h=some v/\K Q v:=by
 cases q with
 | load rd x=>
   simp only [acW] at hk;have hk:=(bf s hk).1;simp only [RD.oO];split at hk
   ·rename_i e
    obtain ⟨v,h1,h2⟩:=hk.out;rw [e];exact ⟨_,v,rfl,h1,h2⟩
   ·exact hk.elim
 | lookup pk z ok m k=>
   obtain ⟨h0,v,h1,h2⟩:=(bf s (bf s hk).1).1.out;exact ⟨_,v,by simp only [RD.oO,h0,bN],h1,h2⟩
 | bytesStr x=>
   obtain ⟨v,h1,h2⟩:=(bf s hk).1.out;exact ⟨_,v,rfl,h1,h2⟩
 | mapLen x=>
   obtain ⟨v,h1,h2⟩:=(bf s hk).1.out;exact ⟨_,v,rfl,h1,h2⟩
 | fresh t cs x=>
   simp only [acW] at hk;have hk:=(bf s hk).1;simp only [RD.oO];split at hk
   ·rename_i e
    obtain ⟨v,h1,h2⟩:=hk.out;rw [e];exact ⟨_,v,rfl,h1,h2⟩
   ·exact hk.elim
 | freshS t cs n x=>
   simp only [acW] at hk;have hk:=(bf s hk).1;simp only [RD.oO];split at hk
   ·rename_i e
    obtain ⟨v,h1,h2⟩:=hk.out;rw [e];exact ⟨_,v,rfl,h1,h2⟩
   ·exact hk.elim
 | ptrUnsafe x=>exact hk.elim
 | unsafePtr u n x=>exact hk.elim
 | entry x=>exact hk.elim
 | freshB e x y=>
   obtain ⟨b,cs,l,off,v,h1,rfl,h2,h3,h4,h5⟩:=(bf s (bf s hk).1).1.out;exact ⟨_,v,by simp only [RD.oO,h1,h2,Nat.ble_eq_true_of_le h3,bN,eD],h4,h5⟩
def NF (E:Env)(tm:T V)(d:DO)(u:V)(hi k:Nat)(hk:H)(ps:List jH):Prop:=
 (dS tm d.guard=false/\u=undef)\/(dS tm d.guard=true/\match d.op with
  | .Rm x=>u=x.ev tm
  | .p q=>q.eval E tm=some u
  | .r q=>∃Q:Q,q.oO tm=some Q/\(k<=hi->Q.ask hk=some u)/\(Q,u,hi)∈ps
  | _=>False)
theorem afY {pf:Unit->Program} {d:DO} {a:A} {h:H} {tm:T V} (s:gU a.tmps tm) (hw:dS tm d.guard=true) {K:V->Option Q->Prop} (hk:acX pf d a h K):∃u q,K u q/\∀k hi ps,(∀Q,q=some Q->(Q,u,hi)∈ps)->NF (dz (pf ())) tm d u hi k h ps:=by
 unfold acX at hk;split at hk
 ·rename_i x e
  exact ⟨_,_,(bf s hk).1,λk hi ps _=>.inr ⟨hw,by rw [e]⟩⟩
 ·rename_i q e
  obtain ⟨v,h1,h2⟩:=acN s hk;exact ⟨v,_,h2,λk hi ps _=>.inr ⟨hw,by rw [e];exact h1⟩⟩
 ·rename_i q e
  obtain ⟨Q,v,h1,h2,h3⟩:=afX s hk;exact ⟨v,_,h3,λk hi ps hm=>.inr ⟨hw,by rw [e];exact ⟨Q,h1,λ_=>h2,hm Q rfl⟩⟩⟩
 ·exact hk.elim
theorem Ku {tm:T V}{p:Lb}{want b:Bool}(e:bS tm p = .bool b):dS tm (some (p,want))=mO b want:=by
 simp only [dS,e];cases want<;>cases b<;>rfl
theorem iJ {l:List DO}{tm0:T V}{v v':Nat->V} {S:Nat->Bool}:∀i,(∀k,k<i->S k=true->v k=v' k)->mask l tm0 v S i=mask l tm0 v' S i
 | 0,_=>rfl
 | i+1,h=>by
   have ih:=iJ (l:=l) (tm0:=tm0) i λk hk=>h k (by omega);simp only [mask,ih];cases hs:S i with
   | true=>simp only [if_true,h i (by omega) hs]
   | false=>rfl
end Go.Dx
