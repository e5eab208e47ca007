/-
  The sequencer's laws. Part ZAJ of the proof: The deterministic machine over labels: a region whose order is open, as it was run: what each operation yielded, and the heaps between the effects.
-/
import Derived.Test.YteajeefphbjnmaaGreatDoorZAI
namespace Go.Dx
open Go Go.RowKit
mutual
theorem B6:∀{a b:V},sO a b=true->a=b
 | .bool a,.bool b,h=>by cases a<;>cases b<;>simp [sO] at h ⊢
 | .int j a,.int k b,h=>by
   simp only [sO,Bool.and_eq_true] at h;have h1:=BX.1 h.1;have h2:a=b:=by have:=h.2;rw [bO] at this;simpa using this
   rw [h1,h2]
 | .str a,.str b,h=>by simp only [sO] at h;rw [qk.1 h]
 | .nilPtr,.nilPtr,_=>rfl
 | .ptr l a,.ptr m b,h=>by
   simp only [sO,Bool.and_eq_true] at h;rw [jg h.1,Nat.eq_of_beq_eq_true h.2]
 | .nilSlice a,.nilSlice b,h=>by simp only [sO] at h;rw [Nat.eq_of_beq_eq_true h]
 | .slice l a n c,.slice m b k d,h=>by
   simp only [sO,Bool.and_eq_true] at h;obtain ⟨⟨⟨h1,h2⟩,h3⟩,h4⟩:=h;have e:c=d:=by
    cases c<;>cases d<;>simp only [Bool.false_eq_true] at h4
    ·rw [Nat.eq_of_beq_eq_true h4]
    ·rw [Nat.eq_of_beq_eq_true h4]
   rw [jg h1,Nat.eq_of_beq_eq_true h2,Nat.eq_of_beq_eq_true h3,e]
 | .aP,.aP,_=>rfl
 | .map a,.map b,h=>by simp only [sO] at h;rw [jg h]
 | .func f a b,.func g c d,h=>by
   simp only [sO,Bool.and_eq_true] at h;rw [Nat.eq_of_beq_eq_true h.1.1,jD h.1.2,jD h.2]
 | .nilFunc,.nilFunc,_=>rfl
 | .iface t a,.iface u b,h=>by
   simp only [sO,Bool.and_eq_true] at h;rw [Nat.eq_of_beq_eq_true h.1,B6 h.2]
 | .nilIface,.nilIface,_=>rfl
 | .agg a,.agg b,h=>by simp only [sO] at h;rw [jD h]
 | .tuple a,.tuple b,h=>by simp only [sO] at h;rw [jD h]
 | .sym a n,.sym b m,h=>by
   simp only [sO,Bool.and_eq_true] at h;rw [jg h.1,Nat.eq_of_beq_eq_true h.2]
 | .empty,.empty,_=>rfl
 | .any,.any,_=>rfl
 | .lG a b,.lG c d,h=>by
   simp only [sO,Bool.and_eq_true] at h;have h1:a=c:=by have:=h.1;rw [bO] at this;simpa using this
   have h2:b=d:=by have:=h.2;rw [bO] at this;simpa using this
   rw [h1,h2]
 | .bool _,.int ..,h | .bool _,.str _,h | .bool _,.nilPtr,h | .bool _,.ptr ..,h | .bool _,.nilSlice _,h | .bool _,.slice ..,h | .bool _,.aP,h | .bool _,.map _,h | .bool _,.func ..,h | .bool _,.nilFunc,h | .bool _,.iface ..,h | .bool _,.nilIface,h | .bool _,.agg _,h | .bool _,.tuple _,h | .bool _,.sym ..,h | .bool _,.any,h | .bool _,.empty,h | .bool _,.lG ..,h=>by simp [sO] at h
 | .int ..,.bool _,h | .int ..,.str _,h | .int ..,.nilPtr,h | .int ..,.ptr ..,h | .int ..,.nilSlice _,h | .int ..,.slice ..,h | .int ..,.aP,h | .int ..,.map _,h | .int ..,.func ..,h | .int ..,.nilFunc,h | .int ..,.iface ..,h | .int ..,.nilIface,h | .int ..,.agg _,h | .int ..,.tuple _,h | .int ..,.sym ..,h | .int ..,.any,h | .int ..,.empty,h | .int ..,.lG ..,h=>by simp [sO] at h
 | .str _,.bool _,h | .str _,.int ..,h | .str _,.nilPtr,h | .str _,.ptr ..,h | .str _,.nilSlice _,h | .str _,.slice ..,h | .str _,.aP,h | .str _,.map _,h | .str _,.func ..,h | .str _,.nilFunc,h | .str _,.iface ..,h | .str _,.nilIface,h | .str _,.agg _,h | .str _,.tuple _,h | .str _,.sym ..,h | .str _,.any,h | .str _,.empty,h | .str _,.lG ..,h=>by simp [sO] at h
 | .nilPtr,.bool _,h | .nilPtr,.int ..,h | .nilPtr,.str _,h | .nilPtr,.ptr ..,h | .nilPtr,.nilSlice _,h | .nilPtr,.slice ..,h | .nilPtr,.aP,h | .nilPtr,.map _,h | .nilPtr,.func ..,h | .nilPtr,.nilFunc,h | .nilPtr,.iface ..,h | .nilPtr,.nilIface,h | .nilPtr,.agg _,h | .nilPtr,.tuple _,h | .nilPtr,.sym ..,h | .nilPtr,.any,h | .nilPtr,.empty,h | .nilPtr,.lG ..,h=>by simp [sO] at h
 | .ptr ..,.bool _,h | .ptr ..,.int ..,h | .ptr ..,.str _,h | .ptr ..,.nilPtr,h | .ptr ..,.nilSlice _,h | .ptr ..,.slice ..,h | .ptr ..,.aP,h | .ptr ..,.map _,h | .ptr ..,.func ..,h | .ptr ..,.nilFunc,h | .ptr ..,.iface ..,h | .ptr ..,.nilIface,h | .ptr ..,.agg _,h | .ptr ..,.tuple _,h | .ptr ..,.sym ..,h | .ptr ..,.any,h | .ptr ..,.empty,h | .ptr ..,.lG ..,h=>by simp [sO] at h
 | .nilSlice _,.bool _,h | .nilSlice _,.int ..,h | .nilSlice _,.str _,h | .nilSlice _,.nilPtr,h | .nilSlice _,.ptr ..,h | .nilSlice _,.slice ..,h | .nilSlice _,.aP,h | .nilSlice _,.map _,h | .nilSlice _,.func ..,h | .nilSlice _,.nilFunc,h | .nilSlice _,.iface ..,h | .nilSlice _,.nilIface,h | .nilSlice _,.agg _,h | .nilSlice _,.tuple _,h | .nilSlice _,.sym ..,h | .nilSlice _,.any,h | .nilSlice _,.empty,h | .nilSlice _,.lG ..,h=>by simp [sO] at h
 | .slice ..,.bool _,h | .slice ..,.int ..,h | .slice ..,.str _,h | .slice ..,.nilPtr,h | .slice ..,.ptr ..,h | .slice ..,.nilSlice _,h | .slice ..,.aP,h | .slice ..,.map _,h | .slice ..,.func ..,h | .slice ..,.nilFunc,h | .slice ..,.iface ..,h | .slice ..,.nilIface,h | .slice ..,.agg _,h | .slice ..,.tuple _,h | .slice ..,.sym ..,h | .slice ..,.any,h | .slice ..,.empty,h | .slice ..,.lG ..,h=>by simp [sO] at h
 | .aP,.bool _,h | .aP,.int ..,h | .aP,.str _,h | .aP,.nilPtr,h | .aP,.ptr ..,h | .aP,.nilSlice _,h | .aP,.slice ..,h | .aP,.map _,h | .aP,.func ..,h | .aP,.nilFunc,h | .aP,.iface ..,h | .aP,.nilIface,h | .aP,.agg _,h | .aP,.tuple _,h | .aP,.sym ..,h | .aP,.any,h | .aP,.empty,h | .aP,.lG ..,h=>by simp [sO] at h
 | .map _,.bool _,h | .map _,.int ..,h | .map _,.str _,h | .map _,.nilPtr,h | .map _,.ptr ..,h | .map _,.nilSlice _,h | .map _,.slice ..,h | .map _,.aP,h | .map _,.func ..,h | .map _,.nilFunc,h | .map _,.iface ..,h | .map _,.nilIface,h | .map _,.agg _,h | .map _,.tuple _,h | .map _,.sym ..,h | .map _,.any,h | .map _,.empty,h | .map _,.lG ..,h=>by simp [sO] at h
 | .func ..,.bool _,h | .func ..,.int ..,h | .func ..,.str _,h | .func ..,.nilPtr,h | .func ..,.ptr ..,h | .func ..,.nilSlice _,h | .func ..,.slice ..,h | .func ..,.aP,h | .func ..,.map _,h | .func ..,.nilFunc,h | .func ..,.iface ..,h | .func ..,.nilIface,h | .func ..,.agg _,h | .func ..,.tuple _,h | .func ..,.sym ..,h | .func ..,.any,h | .func ..,.empty,h | .func ..,.lG ..,h=>by simp [sO] at h
 | .nilFunc,.bool _,h | .nilFunc,.int ..,h | .nilFunc,.str _,h | .nilFunc,.nilPtr,h | .nilFunc,.ptr ..,h | .nilFunc,.nilSlice _,h | .nilFunc,.slice ..,h | .nilFunc,.aP,h | .nilFunc,.map _,h | .nilFunc,.func ..,h | .nilFunc,.iface ..,h | .nilFunc,.nilIface,h | .nilFunc,.agg _,h | .nilFunc,.tuple _,h | .nilFunc,.sym ..,h | .nilFunc,.any,h | .nilFunc,.empty,h | .nilFunc,.lG ..,h=>by simp [sO] at h
 | .iface ..,.bool _,h | .iface ..,.int ..,h | .iface ..,.str _,h | .iface ..,.nilPtr,h | .iface ..,.ptr ..,h | .iface ..,.nilSlice _,h | .iface ..,.slice ..,h | .iface ..,.aP,h | .iface ..,.map _,h | .iface ..,.func ..,h | .iface ..,.nilFunc,h | .iface ..,.nilIface,h | .iface ..,.agg _,h | .iface ..,.tuple _,h | .iface ..,.sym ..,h | .iface ..,.any,h | .iface ..,.empty,h | .iface ..,.lG ..,h=>by simp [sO] at h
 | .nilIface,.bool _,h | .nilIface,.int ..,h | .nilIface,.str _,h | .nilIface,.nilPtr,h | .nilIface,.ptr ..,h | .nilIface,.nilSlice _,h | .nilIface,.slice ..,h | .nilIface,.aP,h | .nilIface,.map _,h | .nilIface,.func ..,h | .nilIface,.nilFunc,h | .nilIface,.iface ..,h | .nilIface,.agg _,h | .nilIface,.tuple _,h | .nilIface,.sym ..,h | .nilIface,.any,h | .nilIface,.empty,h | .nilIface,.lG ..,h=>by simp [sO] at h
 | .agg _,.bool _,h | .agg _,.int ..,h | .agg _,.str _,h | .agg _,.nilPtr,h | .agg _,.ptr ..,h | .agg _,.nilSlice _,h | .agg _,.slice ..,h | .agg _,.aP,h | .agg _,.map _,h | .agg _,.func ..,h | .agg _,.nilFunc,h | .agg _,.iface ..,h | .agg _,.nilIface,h | .agg _,.tuple _,h | .agg _,.sym ..,h | .agg _,.any,h | .agg _,.empty,h | .agg _,.lG ..,h=>by simp [sO] at h
 | .tuple _,.bool _,h | .tuple _,.int ..,h | .tuple _,.str _,h | .tuple _,.nilPtr,h | .tuple _,.ptr ..,h | .tuple _,.nilSlice _,h | .tuple _,.slice ..,h | .tuple _,.aP,h | .tuple _,.map _,h | .tuple _,.func ..,h | .tuple _,.nilFunc,h | .tuple _,.iface ..,h | .tuple _,.nilIface,h | .tuple _,.agg _,h | .tuple _,.sym ..,h | .tuple _,.any,h | .tuple _,.empty,h | .tuple _,.lG ..,h=>by simp [sO] at h
 | .sym ..,.bool _,h | .sym ..,.int ..,h | .sym ..,.str _,h | .sym ..,.nilPtr,h | .sym ..,.ptr ..,h | .sym ..,.nilSlice _,h | .sym ..,.slice ..,h | .sym ..,.aP,h | .sym ..,.map _,h | .sym ..,.func ..,h | .sym ..,.nilFunc,h | .sym ..,.iface ..,h | .sym ..,.nilIface,h | .sym ..,.agg _,h | .sym ..,.tuple _,h | .sym ..,.any,h | .sym ..,.empty,h | .sym ..,.lG ..,h=>by simp [sO] at h
 | .any,.bool _,h | .any,.int ..,h | .any,.str _,h | .any,.nilPtr,h | .any,.ptr ..,h | .any,.nilSlice _,h | .any,.slice ..,h | .any,.aP,h | .any,.map _,h | .any,.func ..,h | .any,.nilFunc,h | .any,.iface ..,h | .any,.nilIface,h | .any,.agg _,h | .any,.tuple _,h | .any,.sym ..,h | .any,.empty,h | .any,.lG ..,h=>by simp [sO] at h
 | .empty,.bool _,h | .empty,.int ..,h | .empty,.str _,h | .empty,.nilPtr,h | .empty,.ptr ..,h | .empty,.nilSlice _,h | .empty,.slice ..,h | .empty,.aP,h | .empty,.map _,h | .empty,.func ..,h | .empty,.nilFunc,h | .empty,.iface ..,h | .empty,.nilIface,h | .empty,.agg _,h | .empty,.tuple _,h | .empty,.sym ..,h | .empty,.any,h | .empty,.lG ..,h=>by simp [sO] at h
 | .lG ..,.bool _,h | .lG ..,.int ..,h | .lG ..,.str _,h | .lG ..,.nilPtr,h | .lG ..,.ptr ..,h | .lG ..,.nilSlice _,h | .lG ..,.slice ..,h | .lG ..,.aP,h | .lG ..,.map _,h | .lG ..,.func ..,h | .lG ..,.nilFunc,h | .lG ..,.iface ..,h | .lG ..,.nilIface,h | .lG ..,.agg _,h | .lG ..,.tuple _,h | .lG ..,.sym ..,h | .lG ..,.any,h | .lG ..,.empty,h=>by simp [sO] at h
theorem jD:∀{a b:List V},wq a b=true->a=b
 | [],[],_=>rfl
 | a::x,b::y,h=>by
   simp only [wq,Bool.and_eq_true] at h;rw [B6 h.1,jD h.2]
 | [],_::_,h=>by simp [wq] at h
 | _::_,[],h=>by simp [wq] at h
end
def aT:List (DO×Nat×Nat)->Nat->Nat
 | _,0=>0
 | [],_+1=>0
 | d::r,j+1=>(if bQ d.1 then 1 else 0)+aT r j
theorem jk (a:A)(d:Option Lb)(v:V):(a.put d v).tmps=BV a.tmps d v/\(a.put d v).defers=a.defers:=by cases d<;>exact ⟨rfl,rfl⟩
def Ka (E:Env)(call:je)(d:DO)(lo hi:Nat)(tm:T V)(v:V)(hp:Nat->H) (c e:Nat):Prop:=
 (dS tm d.guard=false/\v=undef/\(bQ d=true->hp (c+1)=hp c))\/(dS tm d.guard=true/\match d.op with
  | .Rm x=>v=x.ev tm
  | .p q=>q.eval E tm=some v
  | .r q=>∃Q:Q,q.oO tm=some Q/\∀k,lo<=k->k<=hi->k<=e->Q.ask (hp k)=some v
  | .e q=>q.run tm (hp c)=some (v,hp (c+1))
  | .c q=>∃f,q.args E tm=some f/\call f.1 f.2 (hp c)=some (v,hp (c+1))
  | _=>False)
theorem N3 {q:Q}{v:V}:∀{k:Nat} {hs:List H},nj q v k hs=true->∀j,j<k->∃g,hs[j]? =some g/\q.ask g=some v
 | 0,_,_,j,hj=>by omega
 | k+1,[],h,j,hj=>by simp [nj] at h
 | k+1,g::hs,h,j,hj=>by
   simp only [nj,Bool.and_eq_true] at h;cases j with
   | zero=>
     refine ⟨g,rfl,?_⟩;have:=h.1;split at this
     ·rename_i u hu;rw [hu,B6 this]
     ·cases this
   | succ j=>simpa using N3 h.2 j (by omega)
theorem FG {h:H}{n:Nat}:∀{ps:List jH},qd h n ps=true->∀q v hi,(q,v,hi)∈ps->n<=hi->q.ask h=some v
 | [],_,q,v,hi,hm,_=>by cases hm
 | (q',v',ja)::ps,hs,q,v,hi,hm,hn=>by
   simp only [qd,Bool.and_eq_true] at hs;rcases List.mem_cons.1 hm with e | hm
   ·cases e
    have:=hs.1;rw [show Nat.ble n ja=true from Nat.ble_eq_true_of_le hn] at this;simp only at this;split at this
    ·rename_i u hu;rw [hu,B6 this]
    ·cases this
   ·exact FG hs.2 q v hi hm hn
structure Trace (E:Env)(call:je)(r:List (DO×Nat×Nat))(n:Nat)(a:A)(hs:List H)(h:H)(ps:List jH)(a':A)(h':H)(v:Nat->V) (tm:Nat->T V) (hp:Nat->H):Prop where
 tm0:tm 0=a.tmps
 now:hp n=h
 before:∀j,j<n->hs[n - 1 - j]? =some (hp j)
 ops:∀j d lo hi,r[j]? =some (d,lo,hi)->Ka E call d lo hi (tm j) (v j) hp (n+aT r j) (n+aT r r.length)/\tm (j+1)=BV (tm j) d.dst (v j)
 B7:∀q u hi,(q,u,hi)∈ps->∀k,n<k->k<=hi->k<=n+aT r r.length->q.ask (hp k)=some u
 last:a'.tmps=tm r.length/\h'=hp (n+aT r r.length)/\a'.defers=a.defers
def shift {α:Type}(x:α)(f:Nat->α):Nat->α
 | 0=>x
 | j+1=>f j
theorem Trace.cons {E:Env}{call:je}{r:List (DO×Nat×Nat)}{d:DO}{lo hi:Nat}{n n':Nat}{a:A}{hs lJ:List H}{h h1:H}{ps PS:List jH}{a':A}{h':H}{u:V}{v:Nat->V} {tm:Nat->T V} {hp:Nat->H}
  (t:Trace E call r n' (a.put d.dst u) lJ h1 PS a' h' v tm hp) (hn:n'=n+(if bQ d then 1 else 0)) (now:hp n=h) (before:∀j,j<n->hs[n - 1 - j]? =some (hp j))
  (op:Ka E call d lo hi a.tmps u hp n (n+aT ((d,lo,hi)::r) (r.length+1)))
  (B7:∀q u b,(q,u,b)∈ps->∀k,n<k->k<=b->k<=n+aT ((d,lo,hi)::r) (r.length+1)->q.ask (hp k)=some u):
  Trace E call ((d,lo,hi)::r) n a hs h ps a' h' (shift u v) (shift a.tmps tm) hp:=by
 have e:∀j,n'+aT r j=n+aT ((d,lo,hi)::r) (j+1):=λj=>by simp only [aT];omega
 refine ⟨rfl,now,before,λj d' Md ja hj=>?_,B7,?_⟩
 ·cases j with
  | zero=>
    simp only [List.getElem?_cons_zero,Option.some.injEq,Prod.mk.injEq] at hj;obtain ⟨rfl,rfl,rfl⟩:=hj;have op':Ka E call d lo hi (shift a.tmps tm 0) (shift u v 0) hp (n+0) (n+aT ((d,lo,hi)::r) (r.length+1)):=op;refine ⟨op',?_⟩;show tm 0=BV a.tmps d.dst u
    rw [t.tm0,(jk a d.dst u).1]
  | succ j=>
    have:=t.ops j d' Md ja (by simpa using hj);rw [e,e] at this;exact this
 ·obtain ⟨l1,l2,l3⟩:=t.last
  refine ⟨l1,?_,l3.trans (jk a d.dst u).2⟩;rw [l2,e];rfl
theorem DK {E:Env}{call:je}:∀{r:List (DO×Nat×Nat)} {n:Nat} {a:A} {hs:List H} {h:H} {ps:List jH} {a':A} {h':H},hs.length=n->(∀q v b,(q,v,b)∈ps->n<=b->q.ask h=some v)->fW E call r a h n hs ps=some (a',h')->∃v tm hp,Trace E call r n a hs h ps a' h' v tm hp
 | [],n,a,hs,h,ps,a',h',hl,hps,hr=>by
   simp only [fW,Option.some.injEq,Prod.mk.injEq] at hr;obtain ⟨rfl,rfl⟩:=hr;refine ⟨λ_=>undef,λ_=>a.tmps,λj=>if j<n then (hs[n - 1 - j]?).getD h else h,rfl,by simp,λj hj=>?_,λj d lo hi hj=>by simp at hj,λq u hi hm k h1 h2 h3=>?_,rfl,by simp [aT],rfl⟩
   ·rw [if_pos hj]
    have:n - 1 - j<hs.length:=by omega
    rw [List.getElem?_eq_getElem this];rfl
   ·simp [aT] at h3;omega
 | (d,lo,hi)::r,n,a,hs,h,ps,a',h',hl,hps,hr=>by
   have pure:∀{u:V},bQ d=false->(∀hp:Nat->H,hp n=h->(∀j,j<n->hs[n - 1 - j]? =some (hp j))->∀e,Ka E call d lo hi a.tmps u hp n e)->fW E call r (a.put d.dst u) h n hs ps=some (a',h')->∃v tm hp,Trace E call ((d,lo,hi)::r) n a hs h ps a' h' v tm hp:=λ{u} he hf B8=>by
    obtain ⟨v,tm,hp,t⟩:=DK hl hps B8;have ec:∀j,aT ((d,lo,hi)::r) (j+1)=aT r j:=λj=>by simp [aT,he]
    exact ⟨_,_,hp,t.cons (lo:=lo) (hi:=hi) (by simp [he]) t.now t.before (hf hp t.now t.before _) (by rw [ec];exact t.B7)⟩
   have eff:∀{u:V} {h1:H},bQ d=true->(∀hp:Nat->H,hp n=h->hp (n+1)=h1->∀e,Ka E call d lo hi a.tmps u hp n e)->(∀q v b,(q,v,b)∈ps->n+1<=b->q.ask h1=some v)->fW E call r (a.put d.dst u) h1 (n+1) (h::hs) ps=some (a',h')->
     ∃v tm hp,Trace E call ((d,lo,hi)::r) n a hs h ps a' h' v tm hp:=λ{u h1} he hf zl B8=>by
    obtain ⟨v,tm,hp,t⟩:=DK (n:=n+1) (by simp [hl]) zl B8;have b0:hp n=h:=by have:=t.before n (by omega);simpa using this.symm
    have bj:∀j,j<n->hs[n - 1 - j]? =some (hp j):=λj hj=>by
     have:=t.before j (by omega);rw [show n+1 - 1 - j=(n - 1 - j)+1 from by omega] at this;simpa using this
    have ec:∀j,n+aT ((d,lo,hi)::r) (j+1)=n+1+aT r j:=λj=>by simp [aT,he];omega
    refine ⟨_,_,hp,t.cons (lo:=lo) (hi:=hi) (by simp [he]) b0 bj (hf hp b0 t.now _) λq u' ja hm k h1' h2 h3=>?_⟩;rw [ec] at h3;rcases Nat.lt_or_ge (n+1) k with hk | hk
    ·exact t.B7 q u' ja hm k hk h2 h3
    ·have:k=n+1:=by omega
     subst this;rw [t.now];exact zl q u' ja hm h2
   simp only [fW] at hr;split at hr
   ·rename_i hw
    split at hr
    ·rename_i he
     refine eff he (λhp p0 p1 e=>.inl ⟨hw,rfl,λ_=>?_⟩) (λq v ja hm hn=>?_) hr
     ·rw [p0,p1]
     ·exact hps q v ja hm (by omega)
    ·rename_i he
     exact pure he (λhp p0 pb e=>.inl ⟨hw,rfl,λh=>by rw [he] at h;cases h⟩) hr
   ·rename_i hw
    split at hr
    ·rename_i x lK
     exact pure (by obtain ⟨dst,op,g⟩:=d;simp only at lK;subst lK;rfl) (λhp p0 pb e=>.inr ⟨hw,by rw [lK]⟩) hr
    ·rename_i q lK
     simp only [ad] at hr;obtain ⟨u,hu,hr⟩:=hr;exact pure (by obtain ⟨dst,op,g⟩:=d;simp only at lK;subst lK;rfl) (λhp p0 pb e=>.inr ⟨hw,by rw [lK];exact hu⟩) hr
    ·rename_i q lK
     simp only [ad,ag] at hr;obtain ⟨Q',hq,u,hu,zl,hr⟩:=hr;have he:bQ d=false:=by obtain ⟨dst,op,g⟩:=d;simp only at lK;subst lK;rfl
     obtain ⟨v,tm,hp,t⟩:=DK hl (λq v b hm hb=>by
      rcases List.mem_cons.1 hm with e | hm
      ·cases e;exact hu
      ·exact hps q v b hm hb) hr
     have ec:∀j,aT ((d,lo,hi)::r) (j+1)=aT r j:=λj=>by simp [aT,he]
     refine ⟨_,_,hp,t.cons (lo:=lo) (hi:=hi) (by simp [he]) t.now t.before (.inr ⟨hw,?_⟩) ?_⟩
     ·rw [lK]
      refine ⟨Q',hq,λk h1 h2 h3=>?_⟩;rw [ec] at h3;rcases Nat.lt_trichotomy k n with hk | hk | hk
      ·obtain ⟨g,g1,g2⟩:=N3 zl (n - 1 - k) (by omega)
       have:=t.before k hk;rw [g1] at this;cases this;exact g2
      ·subst hk;rw [t.now];exact hu
      ·exact t.B7 _ _ _ (List.mem_cons_self ..) k hk h2 h3
     ·rw [ec]
      exact λq u ja hm=>t.B7 q u ja (List.mem_cons_of_mem _ hm)
    ·rename_i q lK
     simp only [ad,ag] at hr;obtain ⟨⟨u,h1⟩,hu,zl,hr⟩:=hr;exact eff (by obtain ⟨dst,op,g⟩:=d;simp only at lK;subst lK;rfl) (λhp p0 p1 e=>.inr ⟨hw,by rw [lK];show q.run a.tmps (hp n)=_;rw [p0,p1];exact hu⟩) (λq v ja hm hn=>FG zl q v ja hm hn) hr
    ·rename_i q lK
     simp only [ad,ag] at hr;obtain ⟨f,hf,⟨u,h1⟩,hu,zl,hr⟩:=hr;exact eff (by obtain ⟨dst,op,g⟩:=d;simp only at lK;subst lK;rfl) (λhp p0 p1 e=>.inr ⟨hw,by rw [lK];exact ⟨f,hf,by rw [p0,p1];exact hu⟩⟩) (λq v ja hm hn=>FG zl q v ja hm hn) hr
    ·cases hr
    ·cases hr
end Go.Dx
namespace Go.Dx
open Go Go.RowKit
def jl (ah:List Nat)(i j:Nat):Prop:=((ah[j]?).getD 0).testBit i=true
theorem AV:∀(l:List Oper) (acc:List Nat),(bh l acc).length=acc.length+l.length
 | [],acc=>rfl
 | o::l,acc=>by simp only [bh,AV l,List.length_append,List.length_cons,List.length_nil];omega
theorem B9:∀(l:List Oper) (acc:List Nat) (j:Nat),j<acc.length->(bh l acc)[j]? =acc[j]?
 | [],acc,j,_=>rfl
 | o::l,acc,j,h=>by
   rw [bh,B9 l _ j (by simp;omega),List.getElem?_append_left h]
theorem FH:∀(l:List Oper) (acc:List Nat) (k:Nat) (o:Oper),l[k]? =some o->∃SD,(bh l acc)[acc.length+k]? =some (mR SD o.after.toList)/\SD.length=acc.length+k/\∀j,j<SD.length->SD[j]? =(bh l acc)[j]?
 | [],acc,k,o,h=>by simp at h
 | o'::l,acc,0,o,h=>by
   simp at h;subst h;refine ⟨acc,?_,rfl,λj hj=>(B9 (o'::l) acc j hj).symm⟩;rw [bh,B9 l _ _ (by simp)];simp
 | o'::l,acc,k+1,o,h=>by
   obtain ⟨SD,h1,h2,h3⟩:=FH l (acc++[mR acc o'.after.toList]) k o (by simpa using h);refine ⟨SD,?_,by simp at h2;omega,h3⟩;rw [bh,<-h1]
   congr 1
   simp;omega
theorem Ha {acc:List Nat}{i:Nat}:∀{es:List Edge},(mR acc es).testBit i=true->∃e∈es,Region.binds .any e=true/\(i=e.on\/((acc[e.on]?).getD 0).testBit i=true)
 | [],h=>by simp [mR] at h
 | e::es,h=>by
   have h':(match Region.binds .any e with
    | true=>Nat.lor (Nat.shiftLeft 1 e.on) ((acc[e.on]?).getD 0)
    | false=>0).testBit i=true\/(mR acc es).testBit i=true:=by
    have:((match Region.binds .any e with
     | true=>Nat.lor (Nat.shiftLeft 1 e.on) ((acc[e.on]?).getD 0)
     | false=>0) ||| (mR acc es)).testBit i=true:=h
    rw [Nat.testBit_or,Bool.or_eq_true] at this;exact this
   rcases h' with h' | h'
   ·cases hb:Region.binds .any e with
    | false=>rw [hb] at h';simp at h'
    | true=>
      rw [hb] at h';have:((1 <<<e.on) ||| ((acc[e.on]?).getD 0)).testBit i=true:=h';rw [Nat.testBit_or,Bool.or_eq_true] at this;refine ⟨e,List.mem_cons_self ..,hb,?_⟩;rcases this with this | this
      ·left
       rw [Nat.one_shiftLeft,Nat.testBit_two_pow] at this;simpa using (of_decide_eq_true this).symm
      ·exact .inr this
   ·obtain ⟨e',h1,h2⟩:=Ha h'
    exact ⟨e',List.mem_cons_of_mem _ h1,h2⟩
theorem mB {ops:Array Oper}{i j:Nat}(h:jl (bh ops.toList []) i j):∃o,ops[j]? =some o/\∃e∈o.after,Region.binds .any e=true/\(i=e.on\/jl (bh ops.toList []) i e.on):=by
 unfold jl at h;cases ho:ops[j]? with
 | none=>
   have jb:ops.size<=j:=Array.getElem?_eq_none_iff.1 ho;have:(bh ops.toList [])[j]? =none:=by
    rw [List.getElem?_eq_none_iff,AV];simp;omega
   rw [this] at h;simp at h
 | some o=>
   obtain ⟨SD,h1,h2,h3⟩:=FH ops.toList [] j o (by simpa using ho);simp only [List.length_nil,Nat.zero_add] at h1 h2;rw [h1] at h;obtain ⟨e,e1,e2,e3⟩:=Ha h;refine ⟨o,rfl,e,by simpa using e1,e2,e3.imp id λe3=>?_⟩;unfold jl
   by_cases bA:e.on<SD.length
   ·rw [<-h3 _ bA];exact e3
   ·rw [List.getElem?_eq_none_iff.2 (by omega)] at e3;simp at e3
theorem s8 {ops:Array Oper}(h:dk ops=true){j:Nat}{o:Oper}(ho:ops[j]? =some o){e:Edge}(he:e∈o.after)(hb:Region.binds .any e=true):e.on<j:=by
 unfold dk at h;rw [List.all_eq_true] at h;have:=h j (List.mem_range.2 (Array.getElem?_eq_some_iff.1 ho).1);have oe:ops.toList[j]? =some o:=by simpa using ho
 simp only [oe,List.all_eq_true] at this;have:=this e (by simpa using he);rw [hb] at this;simpa using this
def gd (ops:Array Oper)(S:Nat->Prop):Prop:=∀j o,ops[j]? =some o->S j->∀e∈o.after,Region.binds .any e=true->S e.on
theorem db {ops:Array Oper}(hE:dk ops=true){S:Nat->Prop} (hS:gd ops S):∀(j i:Nat),jl (bh ops.toList []) i j->S j->S i:=by
 intro j;induction j using Nat.strongRecOn with
 | _ j ih=>
   intro i h hj;obtain ⟨o,ho,e,he,hb,h'⟩:=mB h;have hs:=hS j o ho hj e he hb;rcases h' with rfl | h'
   ·exact hs
   ·exact ih e.on (s8 hE ho he hb) i h' hs
theorem xR {ops:Array Oper}(hE:dk ops=true):∀(j i:Nat),jl (bh ops.toList []) i j->i<j:=by
 intro j;induction j using Nat.strongRecOn with
 | _ j ih=>
   intro i h;obtain ⟨o,ho,e,he,hb,h'⟩:=mB h;have bA:=s8 hE ho he hb;rcases h' with rfl | h'
   ·exact bA
   ·exact Nat.lt_trans (ih e.on bA i h') bA
theorem Kb {ops:Array Oper}(h:Iy ops (bh ops.toList [])=true){i j:Nat}(zO:i<j){x y:Oper}(hx:ops[i]? =some x)(hy:ops[j]? =some y):jl (bh ops.toList []) i j\/Oper.apart ops x y=true:=by
 unfold Iy at h;rw [List.all_eq_true] at h;have h1:=h j (List.mem_range.2 (Array.getElem?_eq_some_iff.1 hy).1);rw [List.all_eq_true] at h1;have h2:=h1 i (List.mem_range.2 zO);have Df:ops.toList[i]? =some x:=by simpa using hx
 have hy':ops.toList[j]? =some y:=by simpa using hy
 simp only [Df,hy',Bool.or_eq_true] at h2;exact h2
theorem eG (f:Nat->Bool):∀l:List Nat,nZ f l=l.countP f
 | []=>rfl
 | i::l=>by
   simp only [nZ,List.countP_cons,eG f l];cases f i<;>simp
theorem jK:∀{l:List DO} {k e:Nat},e∈ku l k<->∃p d,l[p]? =some d/\bQ d=true/\e=k+p
 | [],k,e=>by simp [ku]
 | d::l,k,e=>by
   have ih:=jK (l:=l) (k:=k+1) (e:=e);unfold ku;constructor
   ·intro h
    split at h
    ·rename_i hd
     rcases List.mem_cons.1 h with rfl | h
     ·exact ⟨0,d,rfl,hd,rfl⟩
     ·obtain ⟨p,d',h1,h2,h3⟩:=ih.1 h
      exact ⟨p+1,d',by simpa using h1,h2,by omega⟩
    ·obtain ⟨p,d',h1,h2,h3⟩:=ih.1 h
     exact ⟨p+1,d',by simpa using h1,h2,by omega⟩
   ·rintro ⟨p,d',h1,h2,h3⟩
    cases p with
    | zero=>simp at h1;subst h1;rw [h2];simp [h3]
    | succ p=>
      have:=ih.2 ⟨p,d',by simpa using h1,h2,by omega⟩;split
      ·exact List.mem_cons_of_mem _ this
      ·exact this
theorem N4 {l:List DO}{k e:Nat}(h:e∈ku l k):k<=e:=by
 obtain ⟨p,d,_,_,rfl⟩:=jK.1 h;omega
theorem jo:∀(l:List DO) (k:Nat),(ku l k).Pairwise (· < ·)
 | [],k=>.nil
 | d::l,k=>by
   unfold ku;split
   ·refine .cons (λe he=>?_) (jo l (k+1))
    have:=N4 he;omega
   ·exact jo l (k+1)
theorem pr {ops:Array Oper}(hE:dk ops=true){S:Nat->Prop} (hS:gd ops S):∀{l:List Nat},jC (bh ops.toList []) l=true->l.Pairwise λa b=>S b->S a
 | [],_=>.nil
 | [a],_=>by simp
 | a::b::l,h=>by
   simp only [jC,Bool.and_eq_true] at h;have ih:=pr hE hS h.2;refine .cons (λc hc hsc=>?_) ih;have Pp:S b->S a:=λhb=>db hE hS b a h.1 hb;rcases List.mem_cons.1 hc with rfl | hc
   ·exact Pp hsc
   ·exact Pp (List.rel_of_pairwise_cons ih hc hsc)
theorem uO {ah effs:List Nat}:∀{l:List DO} {k j:Nat} {d:DO} {lo hi:Nat},(oa ah effs l k)[j]? =some (d,lo,hi)<->l[j]? =some d/\lo=nZ (λe=>((ah[k+j]?).getD 0).testBit e) effs/\hi=nZ (λe=>!((ah[e]?).getD 0).testBit (k+j)) effs
 | [],k,j,d,lo,hi=>by simp [oa]
 | d'::l,k,0,d,lo,hi=>by
   simp only [oa,List.getElem?_cons_zero,Option.some.injEq,Prod.mk.injEq,Nat.add_zero];constructor
   ·rintro ⟨rfl,rfl,rfl⟩;exact ⟨rfl,rfl,rfl⟩
   ·rintro ⟨rfl,rfl,rfl⟩;exact ⟨rfl,rfl,rfl⟩
 | d'::l,k,j+1,d,lo,hi=>by
   have:=uO (ah:=ah) (effs:=effs) (l:=l) (k:=k+1) (j:=j) (d:=d) (lo:=lo) (hi:=hi);rw [show k+1+j=k+(j+1) from by omega] at this;simpa only [oa,List.getElem?_cons_succ] using this
theorem eY {ah effs:List Nat}:∀(l:List DO) (k:Nat),(oa ah effs l k).length=l.length
 | [],k=>rfl
 | d::l,k=>by simp [oa,eY l]
theorem uP {ah effs:List Nat}:∀(l:List DO) (k j:Nat),aT (oa ah effs l k) j=(ku l k).countP λe=>decide (e<k+j)
 | [],k,j=>by cases j<;>simp [oa,aT,ku]
 | d::l,k,0=>by
   simp only [aT,Nat.add_zero]
   symm
   rw [List.countP_eq_zero];intro e he;have:=N4 he;simp;omega
 | d::l,k,j+1=>by
   simp only [oa,aT,uP l (k+1) j,ku];rw [show k+1+j=k+(j+1) from by omega];cases hd:bQ d with
   | true=>
     simp only [if_true];rw [List.countP_cons];have:decide (k<k+(j+1))=true:=by simp
     simp only [this,if_true];omega
   | false=>simp
end Go.Dx
namespace Go.Dx
open Go Go.RowKit
def cu (q:Bool):DO->Bool
 | ⟨_,.e (.alloc _ _),_⟩=>true
 | ⟨_,.e (.cI _ _ _),_⟩=>true
 | ⟨_,.e (.cY _ _),_⟩=>q
 | _=>false
def s9 (q:Bool):DO->Bool
 | ⟨_,.e (.alloc _ _),_⟩=>q
 | ⟨_,.e (.cI _ _ _),_⟩=>q
 | d=>q && !bQ d
def Fb:List DO->Bool->Nat->Bool
 | _,q,0=>q
 | [],q,_+1=>q
 | d::r,q,j+1=>Fb r (s9 q d) j
def cj:List DO->Bool->Nat->Nat
 | _,_,0=>0
 | [],_,_+1=>0
 | d::r,q,j+1=>(if cu q d then 1 else 0)+cj r (s9 q d) j
def DL (q:Bool)(d:DO)(k:Nat):DO:=match d,q with
 | ⟨dst,.e (.alloc t cs),g⟩,_=>⟨dst,.r (.fresh t cs (.t (pathOf k))),g⟩
 | ⟨dst,.e (.cI t cs n),g⟩,_=>⟨dst,.r (.freshS t cs n (.t (pathOf k))),g⟩
 | ⟨dst,.e (.cY e x),g⟩,true=>⟨dst,.r (.freshB e x (.t (pathOf k))),g⟩
 | d,_=>d
def madeOf (d:DO)(k:Nat):Made:=match d with
 | ⟨_,.e (.alloc t cs),_⟩=>(pathOf k,t,cs,.yes)
 | ⟨_,.e (.cI t cs _),_⟩=>(pathOf k,t,cs,.yes)
 | ⟨_,.e (.cY e _),_⟩=>(pathOf k,e,[],.marked)
 | _=>(pathOf k,0,[],.yes)
theorem SE (d:DO)(k:Nat):(madeOf d k).1=pathOf k:=by
 obtain ⟨dst,op,g⟩:=d;cases op with
 | e q=>cases q<;>rfl
 | _=>rfl
theorem gg (d:DO)(r:List DO)(k:Nat)(q:Bool):bu (d::r) k q=(match cu q d with
  | true=>(DL q d k::(bu r (k+1) (s9 q d)).1,madeOf d k::(bu r (k+1) (s9 q d)).2)
  | false=>(d::(bu r k (s9 q d)).1,(bu r k (s9 q d)).2)):=by
 obtain ⟨dst,op,g⟩:=d;cases op with
 | e p=>cases p<;>first | rfl | (cases q<;>rfl)
 | _=>rfl
theorem nu {q:Bool}{d:DO}(h:cu q d=false)(k:Nat):DL q d k=d:=by
 obtain ⟨dst,op,g⟩:=d;cases op with
 | e p=>cases p<;>first | rfl | (cases h;done) | (cases q<;>first | rfl | cases h)
 | _=>rfl
theorem ig (q:Bool)(d:DO)(k:Nat):(DL q d k).dst=d.dst/\(DL q d k).guard=d.guard:=by
 obtain ⟨dst,op,g⟩:=d;cases op with
 | e p=>cases p<;>first | exact ⟨rfl,rfl⟩ | (cases q<;>exact ⟨rfl,rfl⟩)
 | _=>exact ⟨rfl,rfl⟩
theorem jS:∀{l:List DO} {k j:Nat} {q:Bool} {d:DO},l[j]? =some d->(bu l k q).1[j]? =some (DL (Fb l q j) d (k+cj l q j))
 | [],k,j,q,d,h=>by simp at h
 | d'::l,k,0,q,d,h=>by
   simp at h;subst h;rw [gg];cases ha:cu q d' with
   | true=>simp [cj,Fb]
   | false=>simp [cj,Fb,nu ha]
 | d'::l,k,j+1,q,d,h=>by
   have h:l[j]? =some d:=by simpa using h
   rw [gg];cases ha:cu q d' with
   | true=>
     have:=jS (k:=k+1) (q:=s9 q d') h;simp only [List.getElem?_cons_succ,this,cj,Fb,ha,if_true]
     congr 2;omega
   | false=>
     have:=jS (k:=k) (q:=s9 q d') h;simp [this,cj,Fb,ha]
theorem eh:∀(l:List DO) (k:Nat) (q:Bool),(bu l k q).1.length=l.length
 | [],k,q=>rfl
 | d::l,k,q=>by
   rw [gg];cases cu q d<;>simp [eh l]
theorem pw:∀{l:List DO} {k p:Nat} {q:Bool} {x:Made},(bu l k q).2[p]? =some x->x.1=pathOf (k+p)
 | [],k,p,q,x,h=>by simp [bu] at h
 | d::l,k,p,q,x,h=>by
   rw [gg] at h;cases ha:cu q d with
   | true=>
     rw [ha] at h;cases p with
     | zero=>
       simp only [List.getElem?_cons_zero,Option.some.injEq] at h;subst h;exact SE d k
     | succ p=>
       have:=pw (l:=l) (k:=k+1) (p:=p) (x:=x) (by simpa using h);rw [this];congr 1;omega
   | false=>
     rw [ha] at h;exact pw h
theorem gE:∀{l:List DO} {k j:Nat} {q:Bool} {d:DO},l[j]? =some d->cu (Fb l q j) d=true->cj l q j<(bu l k q).2.length
 | [],k,j,q,d,h,_=>by simp at h
 | d'::l,k,0,q,d,h,ha=>by
   simp at h;subst h;have ha:cu q d'=true:=ha;rw [gg,ha];simp [cj]
 | d'::l,k,j+1,q,d,h,ha=>by
   have h:l[j]? =some d:=by simpa using h
   have ha:cu (Fb l (s9 q d') j) d=true:=ha;rw [gg];cases hb:cu q d' with
   | true=>have:=gE (k:=k+1) h ha;simp [cj,hb];omega
   | false=>have:=gE (k:=k) h ha;simp [cj,hb];omega
theorem ij:∀(l:List DO) (k:Nat) (q:Bool),(bu l k q).2.length<=l.length
 | [],k,q=>Nat.le_refl _
 | d::l,k,q=>by
   rw [gg];cases cu q d with
   | true=>have:=ij l (k+1) (s9 q d);simp;omega
   | false=>have:=ij l k (s9 q d);simp;omega
theorem dr:∀{l:List DO} {i j:Nat} {q:Bool} {d:DO},i<j->l[i]? =some d->cu (Fb l q i) d=true->cj l q i<cj l q j
 | [],i,j,q,d,_,h,_=>by simp at h
 | d'::l,0,j+1,q,d,_,h,ha=>by
   simp at h;subst h;have ha:cu q d'=true:=ha;simp [cj,ha];omega
 | d'::l,i+1,j+1,q,d,zO,h,ha=>by
   have:=dr (l:=l) (i:=i) (j:=j) (q:=s9 q d') (by omega) (by simpa using h) ha;simp [cj];omega
 | _::_,_,0,_,_,zO,_,_=>by omega
theorem B':∀(m:List Made) (k:Nat) (tm:T V) (h:H),(∀p x,m[p]? =some x->x.1=pathOf (k+p))->k+m.length<2 ^ 64->
  (∀t,t<k->bS (makeAll m tm h).1 (pathOf t)=bS tm (pathOf t))/\(∀p,p<m.length->∃L,val L=val h.next+p/\bS (makeAll m tm h).1 (pathOf (k+p)) = .ptr L 0)/\
  (∀l,val l<val h.next->(makeAll m tm h).2.get l=h.get l)/\val (makeAll m tm h).2.next=val h.next+m.length
 | [],k,tm,h,_,_=>⟨λ_ _=>rfl,λp hp=>by simp at hp,λ_ _=>rfl,rfl⟩
 | (q,t,cs,ow)::r,k,tm,h,hm,hk=>by
   simp only [List.length_cons] at hk;have hq:q=pathOf k:=by have:=hm 0 _ rfl;simpa using this
   obtain ⟨i1,i2,i3,i4⟩:=B' r (k+1) (tm.set q (some (.ptr h.next 0))) (h.add (.cells cs t 0 ow)) (λp x hp=>by
    have:=hm (p+1) x (by simpa using hp);rw [this];congr 1;omega) (by omega)
   have hn:val (h.add (.cells cs t 0 ow)).next=val h.next+1:=iG _
   refine ⟨λt' ht=>?_,λp hp=>?_,λl hl=>?_,?_⟩
   ·show bS (makeAll r _ _).1 _=_
    rw [i1 t' (by omega),jR];intro e;rw [hq] at e;have:=eX (by omega) (by omega) e;omega
   ·cases p with
    | zero=>
      refine ⟨h.next,rfl,?_⟩;show bS (makeAll r _ _).1 _=_
      rw [Nat.add_zero,i1 k (by omega),hq,jj]
    | succ p=>
      obtain ⟨L,h1,h2⟩:=i2 p (by simp at hp;omega);refine ⟨L,by rw [h1,hn];omega,?_⟩;rw [show k+(p+1)=k+1+p from by omega];exact h2
   ·show (makeAll r _ _).2.get l=_
    rw [i3 l (by rw [hn];omega),H.ed];intro e;rw [e] at hl;omega
   ·show val (makeAll r _ _).2.next=_
    rw [i4,hn];simp;omega
theorem AW {q:Lb}{cs:List V}:∀{m:List Made},(Ix q cs m).map (·.1)=m.map (·.1)
 | []=>rfl
 | (p,t,c,o)::r=>by
   simp only [Ix];split
   ·rfl
   ·simp only [List.map_cons,AW (m:=r)]
theorem nw {E:Env}:∀{l:List (DO×Nat×Nat)} {tm:T V} {h:H} {m m':List Made},GZ E l tm h m=some m'->m'.map (·.1)=m.map (·.1)
 | [],tm,h,m,m',hg=>by simp only [GZ,Option.some.injEq] at hg;rw [hg]
 | (d,_,_)::r,tm,h,m,m',hg=>by
   simp only [GZ] at hg;split at hg
   ·exact nw hg
   ·split at hg
    ·exact nw hg
    ·simp only [ad] at hg
     obtain ⟨v,_,hg⟩:=hg;exact nw hg
    ·split at hg
     ·simp only [Option.some.injEq] at hg
      rw [<-hg];exact AW
     ·cases hg
    ·simp only [ad] at hg
     obtain ⟨q,_,v,_,hg⟩:=hg;exact nw hg
    ·simp only [Option.some.injEq] at hg;rw [hg]
theorem Mz {E:Env}{l:List (DO×Nat×Nat)}{tm:T V}{h:H}{m m':List Made}(hg:Dw E l m tm h=some m'):m'.map (·.1)=m.map (·.1):=by
 unfold Dw at hg;split at hg
 ·exact nw hg
 ·simp only [Option.some.injEq] at hg;rw [hg]
theorem N5 (tm:T V)(d:Option Lb)(v:V)(q:Lb):bS (BV tm d v) q=if d=some q then v else bS tm q:=by
 cases d with
 | none=>simp [BV]
 | some d=>
   by_cases e:d=q
   ·subst e;simp [BV,jj]
   ·simp [BV,jR _ _ e,e]
theorem cN {C:CE}{ops:Array Oper}:∀{os:List Oper} {l:List DO},fZ C ops os=some l->∀j:Nat,(∀o,os[j]? =some o->∃d:DO,l[j]? =some d/\gK C ops o=some d)/\l.length=os.length
 | [],l,h,j=>by simp only [fZ,Option.some.injEq] at h;subst h;exact ⟨λo ho=>by simp at ho,rfl⟩
 | o::os,l,h,j=>by
   simp only [fZ,ad,Option.some.injEq] at h;obtain ⟨d,h1,ds,h2,rfl⟩:=h;refine ⟨λo' ho=>?_,by have:=(cN h2 0).2;simp [this]⟩;cases j with
   | zero=>simp at ho;subst ho;exact ⟨d,rfl,h1⟩
   | succ j=>simpa using (cN h2 j).1 o' (by simpa using ho)
end Go.Dx
namespace Go.Dx
open Go Go.RowKit
def mask (l:List DO)(tm0:T V)(v:Nat->V) (S:Nat->Bool):Nat->T V
 | 0=>tm0
 | i+1=>if S i then BV (mask l tm0 v S i) ((l[i]?).bind (·.dst)) (v i) else mask l tm0 v S i
section
variable {C:CE} {ops:Array Oper} {l:List DO} {tm0:T V} {v:Nat->V} {S:Nat->Bool}
theorem iI (i:Nat)(q:Lb):bS (mask l tm0 v S (i+1)) q=if S i=true/\(l[i]?).bind (·.dst)=some q then v i else bS (mask l tm0 v S i) q:=by
 show bS (if S i then BV (mask l tm0 v S i) ((l[i]?).bind (·.dst)) (v i) else mask l tm0 v S i) q=_
 cases h:S i with
 | true=>simp only [if_true];rw [N5];simp
 | false=>simp
theorem FI (hl:fZ C ops ops.toList=some l){i:Nat}{q:Lb}(h:(l[i]?).bind (·.dst)=some q):∃(o:Oper) (t:Nat),ops[i]? =some o/\o.dst=some t/\q=pathOf t/\t<C.n:=by
 obtain ⟨h1,h2⟩:=cN hl i;cases ho:ops[i]? with
 | none=>
   have jb:ops.size<=i:=Array.getElem?_eq_none_iff.1 ho;rw [List.getElem?_eq_none_iff.2 (by rw [h2];simpa using jb)] at h;cases h
 | some o=>
   obtain ⟨d,hd,hc⟩:=h1 o (by simpa using ho);rw [hd] at h;simp only [gK,ad,Option.some.injEq] at hc;obtain ⟨dst,kG,g,hg,rfl⟩:=hc;have h:dst=some q:=h;rcases J6 kG with ⟨e1,e2⟩ | ⟨t,e1,e2,e3⟩
   ·rw [h] at e2;cases e2
   ·rw [h] at e2;cases e2
    exact ⟨o,t,rfl,e1,rfl,e3⟩
theorem pP {o:Oper}{t:Nat}(h:.tmp t∈o.op.operands):t∈o.looksAt ops:=by
 unfold Oper.looksAt;exact List.mem_append_left _ (List.mem_filterMap.2 ⟨.tmp t,by simpa using h,rfl⟩)
structure qn (C:CE)(ops:Array Oper)(l:List DO):Prop where
 comp:fZ C ops ops.toList=some l
 small:C.n<=65536
 ei:dk ops=true
 apart:Iy ops (bh ops.toList [])=true
theorem Ca (F:qn C ops l)(hS:gd ops (λi=>S i=true)) {j:Nat} {o:Oper} (ho:ops[j]? =some o) (hj:S j=false) (gh:∀e∈o.after,Region.binds .any e=true->S e.on=true)
  {t:Nat} (ht:t<C.n) (SF:t∈o.looksAt ops):bS (mask l tm0 v S ops.size) (pathOf t)=bS (mask l tm0 v (λ_=>true) j) (pathOf t):=by
 have hjs:j<ops.size:=(Array.getElem?_eq_some_iff.1 ho).1;have hah:∀i,jl (bh ops.toList []) i j->S i=true:=λi hi=>by
  obtain ⟨o',oe,e,he,hb,h'⟩:=mB hi;rw [ho] at oe;cases oe;have hs:=gh e he hb;rcases h' with rfl | h'
  ·exact hs
  ·exact db F.ei hS e.on i h' hs
 have c1:∀k,j+k<=ops.size->bS (mask l tm0 v S (j+k)) (pathOf t)=bS (mask l tm0 v S j) (pathOf t):=by
  intro k;induction k with
  | zero=>intro _;rfl
  | succ k ih=>
    intro hk;rw [<-Nat.add_assoc,iI,if_neg,ih (by omega)];rintro ⟨h1,h2⟩;obtain ⟨o',t',oe,Sf,hq,ht'⟩:=FI F.comp h2;have:=F.small;have e:=eX (by omega) (by omega) hq;subst e;have dj:j≠j+k:=λe=>by rw [<-e,hj] at h1;cases h1
    rcases Kb F.apart (i:=j) (j:=j+k) (by omega) ho oe with ha | ha
    ·have:=db F.ei hS (j+k) j ha h1
     rw [hj] at this;cases this
    ·exact (Oper.apart_spec ha).2.2 _ Sf SF
 have c2:∀i,i<=j->bS (mask l tm0 v S i) (pathOf t)=bS (mask l tm0 v (λ_=>true) i) (pathOf t):=by
  intro i;induction i with
  | zero=>intro _;rfl
  | succ i ih=>
    intro hi;rw [iI,iI,ih (by omega)]
    by_cases hd:(l[i]?).bind (·.dst)=some (pathOf t)
    ·obtain ⟨o',t',oe,Sf,hq,ht'⟩:=FI F.comp hd
     have:=F.small;have e:=eX (by omega) (by omega) hq;subst e;have hs:S i=true:=by
      rcases Kb F.apart (i:=i) (j:=j) (by omega) oe ho with ha | ha
      ·exact hah i ha
      ·exact absurd SF ((Oper.apart_spec ha).1 _ Sf)
     rw [if_pos ⟨hs,hd⟩,if_pos ⟨rfl,hd⟩]
    ·rw [if_neg (λh=>hd h.2),if_neg (λh=>hd h.2)]
 have:=c1 (ops.size - j) (by omega);rw [show j+(ops.size - j)=ops.size from by omega] at this;rw [this,c2 j (Nat.le_refl _)]
theorem xS (F:qn C ops l)(hS:gd ops (λi=>S i=true)) {j:Nat} {o:Oper} (ho:ops[j]? =some o) (hj:S j=false) (q:Lb):
  bS (mask l tm0 v (λi=>S i||i==j) ops.size) q=bS (BV (mask l tm0 v S ops.size) ((l[j]?).bind (·.dst)) (v j)) q:=by
 have hjs:j<ops.size:=(Array.getElem?_eq_some_iff.1 ho).1;have b1:∀i,i<=j->mask l tm0 v (λi=>S i||i==j) i=mask l tm0 v S i:=by
  intro i;induction i with
  | zero=>intro _;rfl
  | succ i ih=>
    intro hi;have dj:(i==j)=false:=by simp;omega
    simp only [mask,dj,Bool.or_false,ih (by omega)]
 have b2:∀k,j+1+k<=ops.size->bS (mask l tm0 v (λi=>S i||i==j) (j+1+k)) q=if (l[j]?).bind (·.dst)=some q then v j else bS (mask l tm0 v S (j+1+k)) q:=by
  intro k;induction k with
  | zero=>
    intro _;rw [Nat.add_zero,iI,b1 j (Nat.le_refl _),iI];simp [hj]
  | succ k ih=>
    intro hk;rw [<-Nat.add_assoc,iI,iI,ih (by omega)];have dj:(j+1+k==j)=false:=by simp;omega
    simp only [dj,Bool.or_false]
    by_cases hd:(l[j]?).bind (·.dst)=some q
    ·rw [if_pos hd,if_pos hd,if_neg]
     rintro ⟨h1,h2⟩;obtain ⟨o1,t1,MA,DE,sj,ht1⟩:=FI F.comp hd;obtain ⟨o2,t2,ke,vS,gV,ht2⟩:=FI F.comp h2;have:=F.small;have e:=eX (by omega) (by omega) (sj.symm.trans gV);subst e;rcases Kb F.apart (i:=j) (j:=j+1+k) (by omega) MA ke with ha | ha
     ·have:=db F.ei hS (j+1+k) j ha h1
      rw [hj] at this;cases this
     ·exact (Oper.apart_spec ha).2.1 _ DE vS
    ·rw [if_neg hd,if_neg hd]
 have:=b2 (ops.size - (j+1)) (by omega);rw [show j+1+(ops.size - (j+1))=ops.size from by omega] at this;rw [this,N5]
theorem mC {S':Nat->Bool}:∀i,(∀k,k<i->S k=S' k)->mask l tm0 v S i=mask l tm0 v S' i
 | 0,_=>rfl
 | i+1,h=>by simp only [mask,h i (by omega),mC i λk hk=>h k (by omega)]
end
end Go.Dx
