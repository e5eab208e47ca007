/-
  The client's laws. Part ZAJ of the proof: The deterministic machine over labels: a region whose order is open, as it was run: what each operation yielded, and the heaps between the effects.
-/
import Derived.Test.YtdjlhmmfplhhdaaGreatDoorZAI
namespace Go.Dx
open Go Go.RowKit
mutual
theorem Cm:∀{a b:V},ti a b=true->a=b
 | .bool a,.bool b,h=>by cases a<;>cases b<;>simp [ti] at h ⊢
 | .int j a,.int k b,h=>by
   simp only [ti,Bool.and_eq_true] at h;have i:=Cf.1 h.1;have o:a=b:=by have:=h.2;rw [cE] at this;simpa using this
   rw [i,o]
 | .str a,.str b,h=>by simp only [ti] at h;rw [qM.1 h]
 | .nilPtr,.nilPtr,_=>rfl
 | .ptr l a,.ptr m b,h=>by
   simp only [ti,Bool.and_eq_true] at h;rw [gL h.1,Nat.eq_of_beq_eq_true h.2]
 | .nilSlice a,.nilSlice b,h=>by simp only [ti] at h;rw [Nat.eq_of_beq_eq_true h]
 | .slice l a n c,.slice m b k d,h=>by
   simp only [ti,Bool.and_eq_true] at h;obtain ⟨⟨⟨i,o⟩,h3⟩,h4⟩:=h;have e:c=d:=by
    cases c<;>cases d<;>simp only [Bool.false_eq_true] at h4
    ·rw [Nat.eq_of_beq_eq_true h4]
    ·rw [Nat.eq_of_beq_eq_true h4]
   rw [gL i,Nat.eq_of_beq_eq_true o,Nat.eq_of_beq_eq_true h3,e]
 | .aP,.aP,_=>rfl
 | .map a,.map b,h=>by simp only [ti] at h;rw [gL h]
 | .func f a b,.func g c d,h=>by
   simp only [ti,Bool.and_eq_true] at h;rw [Nat.eq_of_beq_eq_true h.1.1,jX h.1.2,jX h.2]
 | .nilFunc,.nilFunc,_=>rfl
 | .iface t a,.iface u b,h=>by
   simp only [ti,Bool.and_eq_true] at h;rw [Nat.eq_of_beq_eq_true h.1,Cm h.2]
 | .nilIface,.nilIface,_=>rfl
 | .agg a,.agg b,h=>by simp only [ti] at h;rw [jX h]
 | .tuple a,.tuple b,h=>by simp only [ti] at h;rw [jX h]
 | .sym a n,.sym b m,h=>by
   simp only [ti,Bool.and_eq_true] at h;rw [gL h.1,Nat.eq_of_beq_eq_true h.2]
 | .empty,.empty,_=>rfl
 | .any,.any,_=>rfl
 | .eG a b,.eG c d,h=>by
   simp only [ti,Bool.and_eq_true] at h;have i:a=c:=by have:=h.1;rw [cE] at this;simpa using this
   have o:b=d:=by have:=h.2;rw [cE] at this;simpa using this
   rw [i,o]
 | .bool _,.int ..,h | .bool _,.str _,h | .bool _,.nilPtr,h | .bool _,.ptr ..,h | .bool _,.nilSlice _,h | .bool _,.slice ..,h | .bool _,.aP,h | .bool _,.map _,h | .bool _,.func ..,h | .bool _,.nilFunc,h | .bool _,.iface ..,h | .bool _,.nilIface,h | .bool _,.agg _,h | .bool _,.tuple _,h | .bool _,.sym ..,h | .bool _,.any,h | .bool _,.empty,h | .bool _,.eG ..,h=>by simp [ti] at h
 | .int ..,.bool _,h | .int ..,.str _,h | .int ..,.nilPtr,h | .int ..,.ptr ..,h | .int ..,.nilSlice _,h | .int ..,.slice ..,h | .int ..,.aP,h | .int ..,.map _,h | .int ..,.func ..,h | .int ..,.nilFunc,h | .int ..,.iface ..,h | .int ..,.nilIface,h | .int ..,.agg _,h | .int ..,.tuple _,h | .int ..,.sym ..,h | .int ..,.any,h | .int ..,.empty,h | .int ..,.eG ..,h=>by simp [ti] at h
 | .str _,.bool _,h | .str _,.int ..,h | .str _,.nilPtr,h | .str _,.ptr ..,h | .str _,.nilSlice _,h | .str _,.slice ..,h | .str _,.aP,h | .str _,.map _,h | .str _,.func ..,h | .str _,.nilFunc,h | .str _,.iface ..,h | .str _,.nilIface,h | .str _,.agg _,h | .str _,.tuple _,h | .str _,.sym ..,h | .str _,.any,h | .str _,.empty,h | .str _,.eG ..,h=>by simp [ti] at h
 | .nilPtr,.bool _,h | .nilPtr,.int ..,h | .nilPtr,.str _,h | .nilPtr,.ptr ..,h | .nilPtr,.nilSlice _,h | .nilPtr,.slice ..,h | .nilPtr,.aP,h | .nilPtr,.map _,h | .nilPtr,.func ..,h | .nilPtr,.nilFunc,h | .nilPtr,.iface ..,h | .nilPtr,.nilIface,h | .nilPtr,.agg _,h | .nilPtr,.tuple _,h | .nilPtr,.sym ..,h | .nilPtr,.any,h | .nilPtr,.empty,h | .nilPtr,.eG ..,h=>by simp [ti] at h
 | .ptr ..,.bool _,h | .ptr ..,.int ..,h | .ptr ..,.str _,h | .ptr ..,.nilPtr,h | .ptr ..,.nilSlice _,h | .ptr ..,.slice ..,h | .ptr ..,.aP,h | .ptr ..,.map _,h | .ptr ..,.func ..,h | .ptr ..,.nilFunc,h | .ptr ..,.iface ..,h | .ptr ..,.nilIface,h | .ptr ..,.agg _,h | .ptr ..,.tuple _,h | .ptr ..,.sym ..,h | .ptr ..,.any,h | .ptr ..,.empty,h | .ptr ..,.eG ..,h=>by simp [ti] at h
 | .nilSlice _,.bool _,h | .nilSlice _,.int ..,h | .nilSlice _,.str _,h | .nilSlice _,.nilPtr,h | .nilSlice _,.ptr ..,h | .nilSlice _,.slice ..,h | .nilSlice _,.aP,h | .nilSlice _,.map _,h | .nilSlice _,.func ..,h | .nilSlice _,.nilFunc,h | .nilSlice _,.iface ..,h | .nilSlice _,.nilIface,h | .nilSlice _,.agg _,h | .nilSlice _,.tuple _,h | .nilSlice _,.sym ..,h | .nilSlice _,.any,h | .nilSlice _,.empty,h | .nilSlice _,.eG ..,h=>by simp [ti] at h
 | .slice ..,.bool _,h | .slice ..,.int ..,h | .slice ..,.str _,h | .slice ..,.nilPtr,h | .slice ..,.ptr ..,h | .slice ..,.nilSlice _,h | .slice ..,.aP,h | .slice ..,.map _,h | .slice ..,.func ..,h | .slice ..,.nilFunc,h | .slice ..,.iface ..,h | .slice ..,.nilIface,h | .slice ..,.agg _,h | .slice ..,.tuple _,h | .slice ..,.sym ..,h | .slice ..,.any,h | .slice ..,.empty,h | .slice ..,.eG ..,h=>by simp [ti] at h
 | .aP,.bool _,h | .aP,.int ..,h | .aP,.str _,h | .aP,.nilPtr,h | .aP,.ptr ..,h | .aP,.nilSlice _,h | .aP,.slice ..,h | .aP,.map _,h | .aP,.func ..,h | .aP,.nilFunc,h | .aP,.iface ..,h | .aP,.nilIface,h | .aP,.agg _,h | .aP,.tuple _,h | .aP,.sym ..,h | .aP,.any,h | .aP,.empty,h | .aP,.eG ..,h=>by simp [ti] at h
 | .map _,.bool _,h | .map _,.int ..,h | .map _,.str _,h | .map _,.nilPtr,h | .map _,.ptr ..,h | .map _,.nilSlice _,h | .map _,.slice ..,h | .map _,.aP,h | .map _,.func ..,h | .map _,.nilFunc,h | .map _,.iface ..,h | .map _,.nilIface,h | .map _,.agg _,h | .map _,.tuple _,h | .map _,.sym ..,h | .map _,.any,h | .map _,.empty,h | .map _,.eG ..,h=>by simp [ti] at h
 | .func ..,.bool _,h | .func ..,.int ..,h | .func ..,.str _,h | .func ..,.nilPtr,h | .func ..,.ptr ..,h | .func ..,.nilSlice _,h | .func ..,.slice ..,h | .func ..,.aP,h | .func ..,.map _,h | .func ..,.nilFunc,h | .func ..,.iface ..,h | .func ..,.nilIface,h | .func ..,.agg _,h | .func ..,.tuple _,h | .func ..,.sym ..,h | .func ..,.any,h | .func ..,.empty,h | .func ..,.eG ..,h=>by simp [ti] at h
 | .nilFunc,.bool _,h | .nilFunc,.int ..,h | .nilFunc,.str _,h | .nilFunc,.nilPtr,h | .nilFunc,.ptr ..,h | .nilFunc,.nilSlice _,h | .nilFunc,.slice ..,h | .nilFunc,.aP,h | .nilFunc,.map _,h | .nilFunc,.func ..,h | .nilFunc,.iface ..,h | .nilFunc,.nilIface,h | .nilFunc,.agg _,h | .nilFunc,.tuple _,h | .nilFunc,.sym ..,h | .nilFunc,.any,h | .nilFunc,.empty,h | .nilFunc,.eG ..,h=>by simp [ti] at h
 | .iface ..,.bool _,h | .iface ..,.int ..,h | .iface ..,.str _,h | .iface ..,.nilPtr,h | .iface ..,.ptr ..,h | .iface ..,.nilSlice _,h | .iface ..,.slice ..,h | .iface ..,.aP,h | .iface ..,.map _,h | .iface ..,.func ..,h | .iface ..,.nilFunc,h | .iface ..,.nilIface,h | .iface ..,.agg _,h | .iface ..,.tuple _,h | .iface ..,.sym ..,h | .iface ..,.any,h | .iface ..,.empty,h | .iface ..,.eG ..,h=>by simp [ti] at h
 | .nilIface,.bool _,h | .nilIface,.int ..,h | .nilIface,.str _,h | .nilIface,.nilPtr,h | .nilIface,.ptr ..,h | .nilIface,.nilSlice _,h | .nilIface,.slice ..,h | .nilIface,.aP,h | .nilIface,.map _,h | .nilIface,.func ..,h | .nilIface,.nilFunc,h | .nilIface,.iface ..,h | .nilIface,.agg _,h | .nilIface,.tuple _,h | .nilIface,.sym ..,h | .nilIface,.any,h | .nilIface,.empty,h | .nilIface,.eG ..,h=>by simp [ti] at h
 | .agg _,.bool _,h | .agg _,.int ..,h | .agg _,.str _,h | .agg _,.nilPtr,h | .agg _,.ptr ..,h | .agg _,.nilSlice _,h | .agg _,.slice ..,h | .agg _,.aP,h | .agg _,.map _,h | .agg _,.func ..,h | .agg _,.nilFunc,h | .agg _,.iface ..,h | .agg _,.nilIface,h | .agg _,.tuple _,h | .agg _,.sym ..,h | .agg _,.any,h | .agg _,.empty,h | .agg _,.eG ..,h=>by simp [ti] at h
 | .tuple _,.bool _,h | .tuple _,.int ..,h | .tuple _,.str _,h | .tuple _,.nilPtr,h | .tuple _,.ptr ..,h | .tuple _,.nilSlice _,h | .tuple _,.slice ..,h | .tuple _,.aP,h | .tuple _,.map _,h | .tuple _,.func ..,h | .tuple _,.nilFunc,h | .tuple _,.iface ..,h | .tuple _,.nilIface,h | .tuple _,.agg _,h | .tuple _,.sym ..,h | .tuple _,.any,h | .tuple _,.empty,h | .tuple _,.eG ..,h=>by simp [ti] at h
 | .sym ..,.bool _,h | .sym ..,.int ..,h | .sym ..,.str _,h | .sym ..,.nilPtr,h | .sym ..,.ptr ..,h | .sym ..,.nilSlice _,h | .sym ..,.slice ..,h | .sym ..,.aP,h | .sym ..,.map _,h | .sym ..,.func ..,h | .sym ..,.nilFunc,h | .sym ..,.iface ..,h | .sym ..,.nilIface,h | .sym ..,.agg _,h | .sym ..,.tuple _,h | .sym ..,.any,h | .sym ..,.empty,h | .sym ..,.eG ..,h=>by simp [ti] at h
 | .any,.bool _,h | .any,.int ..,h | .any,.str _,h | .any,.nilPtr,h | .any,.ptr ..,h | .any,.nilSlice _,h | .any,.slice ..,h | .any,.aP,h | .any,.map _,h | .any,.func ..,h | .any,.nilFunc,h | .any,.iface ..,h | .any,.nilIface,h | .any,.agg _,h | .any,.tuple _,h | .any,.sym ..,h | .any,.empty,h | .any,.eG ..,h=>by simp [ti] at h
 | .empty,.bool _,h | .empty,.int ..,h | .empty,.str _,h | .empty,.nilPtr,h | .empty,.ptr ..,h | .empty,.nilSlice _,h | .empty,.slice ..,h | .empty,.aP,h | .empty,.map _,h | .empty,.func ..,h | .empty,.nilFunc,h | .empty,.iface ..,h | .empty,.nilIface,h | .empty,.agg _,h | .empty,.tuple _,h | .empty,.sym ..,h | .empty,.any,h | .empty,.eG ..,h=>by simp [ti] at h
 | .eG ..,.bool _,h | .eG ..,.int ..,h | .eG ..,.str _,h | .eG ..,.nilPtr,h | .eG ..,.ptr ..,h | .eG ..,.nilSlice _,h | .eG ..,.slice ..,h | .eG ..,.aP,h | .eG ..,.map _,h | .eG ..,.func ..,h | .eG ..,.nilFunc,h | .eG ..,.iface ..,h | .eG ..,.nilIface,h | .eG ..,.agg _,h | .eG ..,.tuple _,h | .eG ..,.sym ..,h | .eG ..,.any,h | .eG ..,.empty,h=>by simp [ti] at h
theorem jX:∀{a b:List V},wD a b=true->a=b
 | [],[],_=>rfl
 | a::x,b::y,h=>by
   simp only [wD,Bool.and_eq_true] at h;rw [Cm h.1,jX h.2]
 | [],_::_,h=>by simp [wD] at h
 | _::_,[],h=>by simp [wD] at h
end
def aV:List (DO×Nat×Nat)->Nat->Nat
 | _,0=>0
 | [],_+1=>0
 | d::r,j+1=>(if bT d.1 then 1 else 0)+aV r j
theorem jJ (a:A)(d:Option Lb)(v:V):(a.put d v).tmps=Cd a.tmps d v/\(a.put d v).defers=a.defers:=by cases d<;>exact ⟨rfl,rfl⟩
def KT (E:Env)(call:jF)(d:DO)(lo hi:Nat)(tm:T V)(v:V)(hp:Nat->H) (c e:Nat):Prop:=
 (dY tm d.guard=false/\v=undef/\(bT d=true->hp (c+1)=hp c))\/(dY tm d.guard=true/\match d.op with
  | .SD x=>v=x.ev tm
  | .p q=>q.eval E tm=some v
  | .r q=>∃Q:Q,q.px tm=some Q/\∀k,lo<=k->k<=hi->k<=e->Q.ask (hp k)=some v
  | .e q=>q.run tm (hp c)=some (v,hp (c+1))
  | .c q=>∃f,q.args E tm=some f/\call f.1 f.2 (hp c)=some (v,hp (c+1))
  | _=>False)
theorem OS {q:Q}{v:V}:∀{k:Nat} {hs:List H},nN q v k hs=true->∀j,j<k->∃g,hs[j]? =some g/\q.ask g=some v
 | 0,_,_,j,hj=>by omega
 | k+1,[],h,j,hj=>by simp [nN] at h
 | k+1,g::hs,h,j,hj=>by
   simp only [nN,Bool.and_eq_true] at h;cases j with
   | zero=>
     refine ⟨g,rfl,?_⟩;have:=h.1;split at this
     ·rename_i u hu;rw [hu,Cm this]
     ·cases this
   | succ j=>simpa using OS h.2 j (by omega)
theorem Gg {h:H}{n:Nat}:∀{ps:List kF},qE h n ps=true->∀q v hi,(q,v,hi)∈ps->n<=hi->q.ask h=some v
 | [],_,q,v,hi,hm,_=>by cases hm
 | (q',v',jB)::ps,hs,q,v,hi,hm,hn=>by
   simp only [qE,Bool.and_eq_true] at hs;rcases List.mem_cons.1 hm with e | hm
   ·cases e
    have:=hs.1;rw [show Nat.ble n jB=true from Nat.ble_eq_true_of_le hn] at this;simp only at this;split at this
    ·rename_i u hu;rw [hu,Cm this]
    ·cases this
   ·exact Gg hs.2 q v hi hm hn
structure Trace (E:Env)(call:jF)(r:List (DO×Nat×Nat))(n:Nat)(a:A)(hs:List H)(h:H)(ps:List kF)(a':A)(h':H)(v:Nat->V) (tm:Nat->T V) (hp:Nat->H):Prop where
 tm0:tm 0=a.tmps
 now:hp n=h
 before:∀j,j<n->hs[n - 1 - j]? =some (hp j)
 ops:∀j d lo hi,r[j]? =some (d,lo,hi)->KT E call d lo hi (tm j) (v j) hp (n+aV r j) (n+aV r r.length)/\tm (j+1)=Cd (tm j) d.dst (v j)
 Cn:∀q u hi,(q,u,hi)∈ps->∀k,n<k->k<=hi->k<=n+aV r r.length->q.ask (hp k)=some u
 last:a'.tmps=tm r.length/\h'=hp (n+aV r r.length)/\a'.defers=a.defers
def shift {α:Type}(x:α)(f:Nat->α):Nat->α
 | 0=>x
 | j+1=>f j
theorem Trace.cons {E:Env}{call:jF}{r:List (DO×Nat×Nat)}{d:DO}{lo hi:Nat}{n n':Nat}{a:A}{hs mf:List H}{h h1:H}{ps QI:List kF}{a':A}{h':H}{u:V}{v:Nat->V} {tm:Nat->T V} {hp:Nat->H}
  (t:Trace E call r n' (a.put d.dst u) mf h1 QI a' h' v tm hp) (hn:n'=n+(if bT d then 1 else 0)) (now:hp n=h) (before:∀j,j<n->hs[n - 1 - j]? =some (hp j))
  (op:KT E call d lo hi a.tmps u hp n (n+aV ((d,lo,hi)::r) (r.length+1)))
  (Cn:∀q u b,(q,u,b)∈ps->∀k,n<k->k<=b->k<=n+aV ((d,lo,hi)::r) (r.length+1)->q.ask (hp k)=some u):
  Trace E call ((d,lo,hi)::r) n a hs h ps a' h' (shift u v) (shift a.tmps tm) hp:=by
 have e:∀j,n'+aV r j=n+aV ((d,lo,hi)::r) (j+1):=λj=>by simp only [aV];omega
 refine ⟨rfl,now,before,λj d' MV jB hj=>?_,Cn,?_⟩
 ·cases j with
  | zero=>
    simp only [List.getElem?_cons_zero,Option.some.injEq,Prod.mk.injEq] at hj;obtain ⟨rfl,rfl,rfl⟩:=hj;have op':KT E call d lo hi (shift a.tmps tm 0) (shift u v 0) hp (n+0) (n+aV ((d,lo,hi)::r) (r.length+1)):=op;refine ⟨op',?_⟩;show tm 0=Cd a.tmps d.dst u
    rw [t.tm0,(jJ a d.dst u).1]
  | succ j=>
    have:=t.ops j d' MV jB (by simpa using hj);rw [e,e] at this;exact this
 ·obtain ⟨l1,l2,l3⟩:=t.last
  refine ⟨l1,?_,l3.trans (jJ a d.dst u).2⟩;rw [l2,e];rfl
theorem Ej {E:Env}{call:jF}:∀{r:List (DO×Nat×Nat)} {n:Nat} {a:A} {hs:List H} {h:H} {ps:List kF} {a':A} {h':H},hs.length=n->(∀q v b,(q,v,b)∈ps->n<=b->q.ask h=some v)->gj E call r a h n hs ps=some (a',h')->∃v tm hp,Trace E call r n a hs h ps a' h' v tm hp
 | [],n,a,hs,h,ps,a',h',hl,hps,hr=>by
   simp only [gj,Option.some.injEq,Prod.mk.injEq] at hr;obtain ⟨rfl,rfl⟩:=hr;refine ⟨λ_=>undef,λ_=>a.tmps,λj=>if j<n then (hs[n - 1 - j]?).getD h else h,rfl,by simp,λj hj=>?_,λj d lo hi hj=>by simp at hj,λq u hi hm k h1 h2 h3=>?_,rfl,by simp [aV],rfl⟩
   ·rw [if_pos hj]
    have:n - 1 - j<hs.length:=by omega
    rw [List.getElem?_eq_getElem this];rfl
   ·simp [aV] at h3;omega
 | (d,lo,hi)::r,n,a,hs,h,ps,a',h',hl,hps,hr=>by
   have pure:∀{u:V},bT d=false->(∀hp:Nat->H,hp n=h->(∀j,j<n->hs[n - 1 - j]? =some (hp j))->∀e,KT E call d lo hi a.tmps u hp n e)->gj E call r (a.put d.dst u) h n hs ps=some (a',h')->∃v tm hp,Trace E call ((d,lo,hi)::r) n a hs h ps a' h' v tm hp:=λ{u} he hf Co=>by
    obtain ⟨v,tm,hp,t⟩:=Ej hl hps Co;have ec:∀j,aV ((d,lo,hi)::r) (j+1)=aV r j:=λj=>by simp [aV,he]
    exact ⟨_,_,hp,t.cons (lo:=lo) (hi:=hi) (by simp [he]) t.now t.before (hf hp t.now t.before _) (by rw [ec];exact t.Cn)⟩
   have eff:∀{u:V} {h1:H},bT d=true->(∀hp:Nat->H,hp n=h->hp (n+1)=h1->∀e,KT E call d lo hi a.tmps u hp n e)->(∀q v b,(q,v,b)∈ps->n+1<=b->q.ask h1=some v)->gj E call r (a.put d.dst u) h1 (n+1) (h::hs) ps=some (a',h')->
     ∃v tm hp,Trace E call ((d,lo,hi)::r) n a hs h ps a' h' v tm hp:=λ{u h1} he hf Bx Co=>by
    obtain ⟨v,tm,hp,t⟩:=Ej (n:=n+1) (by simp [hl]) Bx Co;have b0:hp n=h:=by have:=t.before n (by omega);simpa using this.symm
    have bj:∀j,j<n->hs[n - 1 - j]? =some (hp j):=λj hj=>by
     have:=t.before j (by omega);rw [show n+1 - 1 - j=(n - 1 - j)+1 from by omega] at this;simpa using this
    have ec:∀j,n+aV ((d,lo,hi)::r) (j+1)=n+1+aV r j:=λj=>by simp [aV,he];omega
    refine ⟨_,_,hp,t.cons (lo:=lo) (hi:=hi) (by simp [he]) b0 bj (hf hp b0 t.now _) λq u' jB hm k h1' h2 h3=>?_⟩;rw [ec] at h3;rcases Nat.lt_or_ge (n+1) k with hk | hk
    ·exact t.Cn q u' jB hm k hk h2 h3
    ·have:k=n+1:=by omega
     subst this;rw [t.now];exact Bx q u' jB hm h2
   simp only [gj] at hr;split at hr
   ·rename_i hw
    split at hr
    ·rename_i he
     refine eff he (λhp p0 p1 e=>.inl ⟨hw,rfl,λ_=>?_⟩) (λq v jB hm hn=>?_) hr
     ·rw [p0,p1]
     ·exact hps q v jB hm (by omega)
    ·rename_i he
     exact pure he (λhp p0 pb e=>.inl ⟨hw,rfl,λh=>by rw [he] at h;cases h⟩) hr
   ·rename_i hw
    split at hr
    ·rename_i x kL
     exact pure (by obtain ⟨dst,op,g⟩:=d;simp only at kL;subst kL;rfl) (λhp p0 pb e=>.inr ⟨hw,by rw [kL]⟩) hr
    ·rename_i q kL
     simp only [ad] at hr;obtain ⟨u,hu,hr⟩:=hr;exact pure (by obtain ⟨dst,op,g⟩:=d;simp only at kL;subst kL;rfl) (λhp p0 pb e=>.inr ⟨hw,by rw [kL];exact hu⟩) hr
    ·rename_i q kL
     simp only [ad,ai] at hr;obtain ⟨Q',hq,u,hu,Bx,hr⟩:=hr;have he:bT d=false:=by obtain ⟨dst,op,g⟩:=d;simp only at kL;subst kL;rfl
     obtain ⟨v,tm,hp,t⟩:=Ej hl (λq v b hm hb=>by
      rcases List.mem_cons.1 hm with e | hm
      ·cases e;exact hu
      ·exact hps q v b hm hb) hr
     have ec:∀j,aV ((d,lo,hi)::r) (j+1)=aV r j:=λj=>by simp [aV,he]
     refine ⟨_,_,hp,t.cons (lo:=lo) (hi:=hi) (by simp [he]) t.now t.before (.inr ⟨hw,?_⟩) ?_⟩
     ·rw [kL]
      refine ⟨Q',hq,λk h1 h2 h3=>?_⟩;rw [ec] at h3;rcases Nat.lt_trichotomy k n with hk | hk | hk
      ·obtain ⟨g,g1,g2⟩:=OS Bx (n - 1 - k) (by omega)
       have:=t.before k hk;rw [g1] at this;cases this;exact g2
      ·subst hk;rw [t.now];exact hu
      ·exact t.Cn _ _ _ (List.mem_cons_self ..) k hk h2 h3
     ·rw [ec]
      exact λq u jB hm=>t.Cn q u jB (List.mem_cons_of_mem _ hm)
    ·rename_i q kL
     simp only [ad,ai] at hr;obtain ⟨⟨u,h1⟩,hu,Bx,hr⟩:=hr;exact eff (by obtain ⟨dst,op,g⟩:=d;simp only at kL;subst kL;rfl) (λhp p0 p1 e=>.inr ⟨hw,by rw [kL];show q.run a.tmps (hp n)=_;rw [p0,p1];exact hu⟩) (λq v jB hm hn=>Gg Bx q v jB hm hn) hr
    ·rename_i q kL
     simp only [ad,ai] at hr;obtain ⟨f,hf,⟨u,h1⟩,hu,Bx,hr⟩:=hr;exact eff (by obtain ⟨dst,op,g⟩:=d;simp only at kL;subst kL;rfl) (λhp p0 p1 e=>.inr ⟨hw,by rw [kL];exact ⟨f,hf,by rw [p0,p1];exact hu⟩⟩) (λq v jB hm hn=>Gg Bx q v jB hm hn) hr
    ·cases hr
    ·cases hr
end Go.Dx
namespace Go.Dx
open Go Go.RowKit
variable{j:Nat}
def jK (ah:List Nat)(i j:Nat):Prop:=((ah[j]?).getD 0).testBit i=true
theorem BD:∀(l:List Oper) (acc:List Nat),(bp l acc).length=acc.length+l.length
 | [],acc=>rfl
 | o::l,acc=>by simp only [bp,BD l,List.length_append,List.length_cons,List.length_nil];omega
theorem Cp:∀(l:List Oper) (acc:List Nat) (j:Nat),j<acc.length->(bp l acc)[j]? =acc[j]?
 | [],acc,j,_=>rfl
 | o::l,acc,j,h=>by
   rw [bp,Cp l _ j (by simp;omega),List.getElem?_append_left h]
theorem Gh:∀(l:List Oper) (acc:List Nat) (k:Nat) (o:Oper),l[k]? =some o->∃TW,(bp l acc)[acc.length+k]? =some (nA TW o.after.toList)/\TW.length=acc.length+k/\∀j,j<TW.length->TW[j]? =(bp l acc)[j]?
 | [],acc,k,o,h=>by simp at h
 | o'::l,acc,0,o,h=>by
   simp at h;subst h;refine ⟨acc,?_,rfl,λj a=>(Cp (o'::l) acc j a).symm⟩;rw [bp,Cp l _ _ (by simp)];simp
 | o'::l,acc,k+1,o,h=>by
   obtain ⟨TW,c,b,h3⟩:=Gh l (acc++[nA acc o'.after.toList]) k o (by simpa using h);refine ⟨TW,?_,by simp at b;omega,h3⟩;rw [bp,<-c]
   congr 1
   simp;omega
theorem HF {acc:List Nat}{i:Nat}:∀{es:List Edge},(nA acc es).testBit i=true->∃e∈es,Region.binds .any e=true/\(i=e.on\/((acc[e.on]?).getD 0).testBit i=true)
 | [],h=>by simp [nA] at h
 | e::es,h=>by
   have h':(match Region.binds .any e with
    | true=>Nat.lor (Nat.shiftLeft 1 e.on) ((acc[e.on]?).getD 0)
    | false=>0).testBit i=true\/(nA acc es).testBit i=true:=by
    have:((match Region.binds .any e with
     | true=>Nat.lor (Nat.shiftLeft 1 e.on) ((acc[e.on]?).getD 0)
     | false=>0) ||| (nA acc es)).testBit i=true:=h
    rw [Nat.testBit_or,Bool.or_eq_true] at this;exact this
   rcases h' with h' | h'
   ·cases hb:Region.binds .any e with
    | false=>rw [hb] at h';simp at h'
    | true=>
      rw [hb] at h';have:((1 <<<e.on) ||| ((acc[e.on]?).getD 0)).testBit i=true:=h';rw [Nat.testBit_or,Bool.or_eq_true] at this;refine ⟨e,List.mem_cons_self ..,hb,?_⟩;rcases this with this | this
      ·left
       rw [Nat.one_shiftLeft,Nat.testBit_two_pow] at this;simpa using (of_decide_eq_true this).symm
      ·exact .inr this
   ·obtain ⟨a,b,c⟩:=HF h'
    exact ⟨a,List.mem_cons_of_mem _ b,c⟩
theorem nf {ops:Array Oper}{i:Nat}(h:jK (bp ops.toList []) i j):∃o,ops[j]? =some o/\∃e∈o.after,Region.binds .any e=true/\(i=e.on\/jK (bp ops.toList []) i e.on):=by
 unfold jK at h;cases ho:ops[j]? with
 | none=>
   have g:ops.size<=j:=Array.getElem?_eq_none_iff.1 ho;have:(bp ops.toList [])[j]? =none:=by
    rw [List.getElem?_eq_none_iff,BD];simp;omega
   rw [this] at h;simp at h
 | some o=>
   obtain ⟨TW,b,f,h3⟩:=Gh ops.toList [] j o (by simpa using ho);simp only [List.length_nil,Nat.zero_add] at b f;rw [b] at h;obtain ⟨e,c,d,a⟩:=HF h;refine ⟨o,rfl,e,by simpa using c,d,a.imp id λa=>?_⟩;unfold jK
   by_cases bA:e.on<TW.length
   ·rw [<-h3 _ bA];exact a
   ·rw [List.getElem?_eq_none_iff.2 (by omega)] at a;simp at a
theorem tH {ops:Array Oper}(h:du ops=true){o:Oper}(a:ops[j]? =some o){e:Edge}(c:e∈o.after)(d:Region.binds .any e=true):e.on<j:=by
 unfold du at h;rw [List.all_eq_true] at h;have:=h j (List.mem_range.2 (Array.getElem?_eq_some_iff.1 a).1);have b:ops.toList[j]? =some o:=by simpa using a
 simp only [b,List.all_eq_true] at this;have:=this e (by simpa using c);rw [d] at this;simpa using this
def gq (ops:Array Oper)(S:Nat->Prop):Prop:=∀j o,ops[j]? =some o->S j->∀e∈o.after,Region.binds .any e=true->S e.on
theorem dm {ops:Array Oper}(f:du ops=true){S:Nat->Prop} (d:gq ops S):∀(j i:Nat),jK (bp ops.toList []) i j->S j->S i:=by
 intro j;induction j using Nat.strongRecOn with
 | _ j ih=>
   intro i h g;obtain ⟨o,b,e,c,a,h'⟩:=nf h;have hs:=d j o b g e c a;rcases h' with rfl | h'
   ·exact hs
   ·exact ih e.on (tH f b c a) i h' hs
theorem yl {ops:Array Oper}(b:du ops=true):∀(j i:Nat),jK (bp ops.toList []) i j->i<j:=by
 intro j;induction j using Nat.strongRecOn with
 | _ j ih=>
   intro i h;obtain ⟨o,d,e,f,c,h'⟩:=nf h;have a:=tH b d f c;rcases h' with rfl | h'
   ·exact a
   ·exact Nat.lt_trans (ih e.on a i h') a
theorem KU {ops:Array Oper}(h:Jb ops (bp ops.toList [])=true){i:Nat}(e:i<j){x y:Oper}(d:ops[i]? =some x)(hy:ops[j]? =some y):jK (bp ops.toList []) i j\/Oper.apart ops x y=true:=by
 unfold Jb at h;rw [List.all_eq_true] at h;have b:=h j (List.mem_range.2 (Array.getElem?_eq_some_iff.1 hy).1);rw [List.all_eq_true] at b;have c:=b i (List.mem_range.2 e);have MW:ops.toList[i]? =some x:=by simpa using d
 have a:ops.toList[j]? =some y:=by simpa using hy
 simp only [MW,a,Bool.or_eq_true] at c;exact c
theorem eO (f:Nat->Bool):∀l:List Nat,oQ f l=l.countP f
 | []=>rfl
 | i::l=>by
   simp only [oQ,List.countP_cons,eO f l];cases f i<;>simp
theorem j9:∀{l:List DO} {k e:Nat},e∈kV l k<->∃p d,l[p]? =some d/\bT d=true/\e=k+p
 | [],k,e=>by simp [kV]
 | d::l,k,e=>by
   have j:=j9 (l:=l) (k:=k+1) (e:=e);unfold kV;constructor
   ·intro h
    split at h
    ·rename_i f
     rcases List.mem_cons.1 h with rfl | h
     ·exact ⟨0,d,rfl,f,rfl⟩
     ·obtain ⟨p,d',a,b,h3⟩:=j.1 h
      exact ⟨p+1,d',by simpa using a,b,by omega⟩
    ·obtain ⟨p,d',a,b,h3⟩:=j.1 h
     exact ⟨p+1,d',by simpa using a,b,by omega⟩
   ·rintro ⟨p,d',a,b,h3⟩
    cases p with
    | zero=>simp at a;subst a;rw [b];simp [h3]
    | succ p=>
      have:=j.2 ⟨p,d',by simpa using a,b,by omega⟩;split
      ·exact List.mem_cons_of_mem _ this
      ·exact this
theorem OT {l:List DO}{k e:Nat}(h:e∈kV l k):k<=e:=by
 obtain ⟨p,d,_,_,rfl⟩:=j9.1 h;omega
theorem jL:∀(l:List DO) (k:Nat),(kV l k).Pairwise (· < ·)
 | [],k=>.nil
 | d::l,k=>by
   unfold kV;split
   ·refine .cons (λe a=>?_) (jL l (k+1))
    have:=OT a;omega
   ·exact jL l (k+1)
theorem pR {ops:Array Oper}(g:du ops=true){S:Nat->Prop} (f:gq ops S):∀{l:List Nat},jW (bp ops.toList []) l=true->l.Pairwise λa b=>S b->S a
 | [],_=>.nil
 | [a],_=>by simp
 | a::b::l,h=>by
   simp only [jW,Bool.and_eq_true] at h;have i:=pR g f h.2;refine .cons (λc e d=>?_) i;have SF:S b->S a:=λj=>dm g f b a h.1 j;rcases List.mem_cons.1 e with rfl | e
   ·exact SF d
   ·exact SF (List.rel_of_pairwise_cons i e d)
theorem uZ {ah effs:List Nat}:∀{l:List DO} {k j:Nat} {d:DO} {lo hi:Nat},(oR ah effs l k)[j]? =some (d,lo,hi)<->l[j]? =some d/\lo=oQ (λe=>((ah[k+j]?).getD 0).testBit e) effs/\hi=oQ (λe=>!((ah[e]?).getD 0).testBit (k+j)) effs
 | [],k,j,d,lo,hi=>by simp [oR]
 | d'::l,k,0,d,lo,hi=>by
   simp only [oR,List.getElem?_cons_zero,Option.some.injEq,Prod.mk.injEq,Nat.add_zero];constructor
   ·rintro ⟨rfl,rfl,rfl⟩;exact ⟨rfl,rfl,rfl⟩
   ·rintro ⟨rfl,rfl,rfl⟩;exact ⟨rfl,rfl,rfl⟩
 | d'::l,k,j+1,d,lo,hi=>by
   have:=uZ (ah:=ah) (effs:=effs) (l:=l) (k:=k+1) (j:=j) (d:=d) (lo:=lo) (hi:=hi);rw [show k+1+j=k+(j+1) from by omega] at this;simpa only [oR,List.getElem?_cons_succ] using this
theorem ft {ah effs:List Nat}:∀(l:List DO) (k:Nat),(oR ah effs l k).length=l.length
 | [],k=>rfl
 | d::l,k=>by simp [oR,ft l]
theorem u4 {ah effs:List Nat}:∀(l:List DO) (k j:Nat),aV (oR ah effs l k) j=(kV l k).countP λe=>decide (e<k+j)
 | [],k,j=>by cases j<;>simp [oR,aV,kV]
 | d::l,k,0=>by
   simp only [aV,Nat.add_zero]
   symm
   rw [List.countP_eq_zero];intro e a;have:=OT a;simp;omega
 | d::l,k,j+1=>by
   simp only [oR,aV,u4 l (k+1) j,kV];rw [show k+1+j=k+(j+1) from by omega];cases hd:bT d with
   | true=>
     simp only [if_true];rw [List.countP_cons];have:decide (k<k+(j+1))=true:=by simp
     simp only [this,if_true];omega
   | false=>simp
end Go.Dx
namespace Go.Dx
open Go Go.RowKit
def cv (q:Bool):DO->Bool
 | ⟨_,.e (.alloc _ _),_⟩=>true
 | ⟨_,.e (.cL _ _ _),_⟩=>true
 | ⟨_,.e (.dj _ _),_⟩=>q
 | _=>false
def tI (q:Bool):DO->Bool
 | ⟨_,.e (.alloc _ _),_⟩=>q
 | ⟨_,.e (.cL _ _ _),_⟩=>q
 | d=>q && !bT d
def FE:List DO->Bool->Nat->Bool
 | _,q,0=>q
 | [],q,_+1=>q
 | d::r,q,j+1=>FE r (tI q d) j
def cj:List DO->Bool->Nat->Nat
 | _,_,0=>0
 | [],_,_+1=>0
 | d::r,q,j+1=>(if cv q d then 1 else 0)+cj r (tI q d) j
def Ek (q:Bool)(d:DO)(k:Nat):DO:=match d,q with
 | ⟨dst,.e (.alloc t cs),g⟩,_=>⟨dst,.r (.fresh t cs (.t (pathOf k))),g⟩
 | ⟨dst,.e (.cL t cs n),g⟩,_=>⟨dst,.r (.freshS t cs n (.t (pathOf k))),g⟩
 | ⟨dst,.e (.dj e x),g⟩,true=>⟨dst,.r (.freshB e x (.t (pathOf k))),g⟩
 | d,_=>d
def madeOf (d:DO)(k:Nat):Made:=match d with
 | ⟨_,.e (.alloc t cs),_⟩=>(pathOf k,t,cs,.yes)
 | ⟨_,.e (.cL t cs _),_⟩=>(pathOf k,t,cs,.yes)
 | ⟨_,.e (.dj e _),_⟩=>(pathOf k,e,[],.marked)
 | _=>(pathOf k,0,[],.yes)
theorem TX (d:DO)(k:Nat):(madeOf d k).1=pathOf k:=by
 obtain ⟨a,op,g⟩:=d;cases op with
 | e q=>cases q<;>rfl
 | _=>rfl
theorem gu (d:DO)(r:List DO)(k:Nat)(q:Bool):bu (d::r) k q=(match cv q d with
  | true=>(Ek q d k::(bu r (k+1) (tI q d)).1,madeOf d k::(bu r (k+1) (tI q d)).2)
  | false=>(d::(bu r k (tI q d)).1,(bu r k (tI q d)).2)):=by
 obtain ⟨a,op,g⟩:=d;cases op with
 | e p=>cases p<;>first | rfl | (cases q<;>rfl)
 | _=>rfl
theorem nS {q:Bool}{d:DO}(h:cv q d=false)(k:Nat):Ek q d k=d:=by
 obtain ⟨a,op,g⟩:=d;cases op with
 | e p=>cases p<;>first | rfl | (cases h;done) | (cases q<;>first | rfl | cases h)
 | _=>rfl
theorem iM (q:Bool)(d:DO)(k:Nat):(Ek q d k).dst=d.dst/\(Ek q d k).guard=d.guard:=by
 obtain ⟨a,op,g⟩:=d;cases op with
 | e p=>cases p<;>first | exact ⟨rfl,rfl⟩ | (cases q<;>exact ⟨rfl,rfl⟩)
 | _=>exact ⟨rfl,rfl⟩
theorem kj:∀{l:List DO} {k j:Nat} {q:Bool} {d:DO},l[j]? =some d->(bu l k q).1[j]? =some (Ek (FE l q j) d (k+cj l q j))
 | [],k,j,q,d,h=>by simp at h
 | d'::l,k,0,q,d,h=>by
   simp at h;subst h;rw [gu];cases ha:cv q d' with
   | true=>simp [cj,FE]
   | false=>simp [cj,FE,nS ha]
 | d'::l,k,j+1,q,d,h=>by
   have h:l[j]? =some d:=by simpa using h
   rw [gu];cases ha:cv q d' with
   | true=>
     have:=kj (k:=k+1) (q:=tI q d') h;simp only [List.getElem?_cons_succ,this,cj,FE,ha,if_true]
     congr 2;omega
   | false=>
     have:=kj (k:=k) (q:=tI q d') h;simp [this,cj,FE,ha]
theorem ez:∀(l:List DO) (k:Nat) (q:Bool),(bu l k q).1.length=l.length
 | [],k,q=>rfl
 | d::l,k,q=>by
   rw [gu];cases cv q d<;>simp [ez l]
theorem pS:∀{l:List DO} {k p:Nat} {q:Bool} {x:Made},(bu l k q).2[p]? =some x->x.1=pathOf (k+p)
 | [],k,p,q,x,h=>by simp [bu] at h
 | d::l,k,p,q,x,h=>by
   rw [gu] at h;cases ha:cv q d with
   | true=>
     rw [ha] at h;cases p with
     | zero=>
       simp only [List.getElem?_cons_zero,Option.some.injEq] at h;subst h;exact TX d k
     | succ p=>
       have:=pS (l:=l) (k:=k+1) (p:=p) (x:=x) (by simpa using h);rw [this];congr 1;omega
   | false=>
     rw [ha] at h;exact pS h
theorem gS:∀{l:List DO} {k j:Nat} {q:Bool} {d:DO},l[j]? =some d->cv (FE l q j) d=true->cj l q j<(bu l k q).2.length
 | [],k,j,q,d,h,_=>by simp at h
 | d'::l,k,0,q,d,h,a=>by
   simp at h;subst h;have a:cv q d'=true:=a;rw [gu,a];simp [cj]
 | d'::l,k,j+1,q,d,h,a=>by
   have h:l[j]? =some d:=by simpa using h
   have a:cv (FE l (tI q d') j) d=true:=a;rw [gu];cases hb:cv q d' with
   | true=>have:=gS (k:=k+1) h a;simp [cj,hb];omega
   | false=>have:=gS (k:=k) h a;simp [cj,hb];omega
theorem iN:∀(l:List DO) (k:Nat) (q:Bool),(bu l k q).2.length<=l.length
 | [],k,q=>Nat.le_refl _
 | d::l,k,q=>by
   rw [gu];cases cv q d with
   | true=>have:=iN l (k+1) (tI q d);simp;omega
   | false=>have:=iN l k (tI q d);simp;omega
theorem dC:∀{l:List DO} {i j:Nat} {q:Bool} {d:DO},i<j->l[i]? =some d->cv (FE l q i) d=true->cj l q i<cj l q j
 | [],i,j,q,d,_,h,_=>by simp at h
 | d'::l,0,j+1,q,d,_,h,a=>by
   simp at h;subst h;have a:cv q d'=true:=a;simp [cj,a];omega
 | d'::l,i+1,j+1,q,d,zT,h,a=>by
   have:=dC (l:=l) (i:=i) (j:=j) (q:=tI q d') (by omega) (by simpa using h) a;simp [cj];omega
 | _::_,_,0,_,_,zT,_,_=>by omega
theorem Cq:∀(m:List Made) (k:Nat) (tm:T V) (h:H),(∀p x,m[p]? =some x->x.1=pathOf (k+p))->k+m.length<2 ^ 64->
  (∀t,t<k->bV (makeAll m tm h).1 (pathOf t)=bV tm (pathOf t))/\(∀p,p<m.length->∃L,val L=val h.next+p/\bV (makeAll m tm h).1 (pathOf (k+p)) = .ptr L 0)/\
  (∀l,val l<val h.next->(makeAll m tm h).2.get l=h.get l)/\val (makeAll m tm h).2.next=val h.next+m.length
 | [],k,tm,h,_,_=>⟨λ_ _=>rfl,λp a=>by simp at a,λ_ _=>rfl,rfl⟩
 | (q,t,cs,ow)::r,k,tm,h,hm,hk=>by
   simp only [List.length_cons] at hk;have d:q=pathOf k:=by have:=hm 0 _ rfl;simpa using this
   obtain ⟨c,j,n,f⟩:=Cq r (k+1) (tm.set q (some (.ptr h.next 0))) (h.add (.cells cs t 0 ow)) (λp x a=>by
    have:=hm (p+1) x (by simpa using a);rw [this];congr 1;omega) (by omega)
   have b:val (h.add (.cells cs t 0 ow)).next=val h.next+1:=jc _
   refine ⟨λg u=>?_,λp a=>?_,λl o=>?_,?_⟩
   ·show bV (makeAll r _ _).1 _=_
    rw [c g (by omega),ki];intro e;rw [d] at e;have:=fk (by omega) (by omega) e;omega
   ·cases p with
    | zero=>
      refine ⟨h.next,rfl,?_⟩;show bV (makeAll r _ _).1 _=_
      rw [Nat.add_zero,c k (by omega),d,jI]
    | succ p=>
      obtain ⟨L,i,s⟩:=j p (by simp at a;omega);refine ⟨L,by rw [i,b];omega,?_⟩;rw [show k+(p+1)=k+1+p from by omega];exact s
   ·show (makeAll r _ _).2.get l=_
    rw [n l (by rw [b];omega),H.ew];intro e;rw [e] at o;omega
   ·show val (makeAll r _ _).2.next=_
    rw [f,b];simp;omega
theorem BE {q:Lb}{cs:List V}:∀{m:List Made},(Ja q cs m).map (·.1)=m.map (·.1)
 | []=>rfl
 | (p,t,c,o)::r=>by
   simp only [Ja];split
   ·rfl
   ·simp only [List.map_cons,BE (m:=r)]
theorem nU {E:Env}:∀{l:List (DO×Nat×Nat)} {tm:T V} {h:H} {m f:List Made},Hu E l tm h m=some f->f.map (·.1)=m.map (·.1)
 | [],tm,h,m,f,a=>by simp only [Hu,Option.some.injEq] at a;rw [a]
 | (d,_,_)::r,tm,h,m,f,a=>by
   simp only [Hu] at a;split at a
   ·exact nU a
   ·split at a
    ·exact nU a
    ·simp only [ad] at a
     obtain ⟨v,_,a⟩:=a;exact nU a
    ·split at a
     ·simp only [Option.some.injEq] at a
      rw [<-a];exact BE
     ·cases a
    ·simp only [ad] at a
     obtain ⟨q,_,v,_,a⟩:=a;exact nU a
    ·simp only [Option.some.injEq] at a;rw [a]
theorem Nq {E:Env}{l:List (DO×Nat×Nat)}{tm:T V}{h:H}{m d:List Made}(a:DV E l m tm h=some d):d.map (·.1)=m.map (·.1):=by
 unfold DV at a;split at a
 ·exact nU a
 ·simp only [Option.some.injEq] at a;rw [a]
theorem OU (tm:T V)(d:Option Lb)(v:V)(q:Lb):bV (Cd tm d v) q=if d=some q then v else bV tm q:=by
 cases d with
 | none=>simp [Cd]
 | some d=>
   by_cases e:d=q
   ·subst e;simp [Cd,jI]
   ·simp [Cd,ki _ _ e,e]
theorem cS {C:CE}{ops:Array Oper}:∀{os:List Oper} {l:List DO},gm C ops os=some l->∀j:Nat,(∀o,os[j]? =some o->∃d:DO,l[j]? =some d/\gX C ops o=some d)/\l.length=os.length
 | [],l,h,j=>by simp only [gm,Option.some.injEq] at h;subst h;exact ⟨λo a=>by simp at a,rfl⟩
 | o::os,l,h,j=>by
   simp only [gm,ad,Option.some.injEq] at h;obtain ⟨d,c,ds,b,rfl⟩:=h;refine ⟨λe a=>?_,by have:=(cS b 0).2;simp [this]⟩;cases j with
   | zero=>simp at a;subst a;exact ⟨d,rfl,c⟩
   | succ j=>simpa using (cS b j).1 e (by simpa using a)
end Go.Dx
namespace Go.Dx
open Go Go.RowKit
variable{o:Oper}{j:Nat}
def mask (l:List DO)(tm0:T V)(v:Nat->V) (S:Nat->Bool):Nat->T V
 | 0=>tm0
 | i+1=>if S i then Cd (mask l tm0 v S i) ((l[i]?).bind (·.dst)) (v i) else mask l tm0 v S i
section
variable {C:CE} {ops:Array Oper} {l:List DO} {tm0:T V} {v:Nat->V} {S:Nat->Bool}
theorem jf (i:Nat)(q:Lb):bV (mask l tm0 v S (i+1)) q=if S i=true/\(l[i]?).bind (·.dst)=some q then v i else bV (mask l tm0 v S i) q:=by
 show bV (if S i then Cd (mask l tm0 v S i) ((l[i]?).bind (·.dst)) (v i) else mask l tm0 v S i) q=_
 cases h:S i with
 | true=>simp only [if_true];rw [OU];simp
 | false=>simp
theorem Gi (p:gm C ops ops.toList=some l){i:Nat}{q:Lb}(h:(l[i]?).bind (·.dst)=some q):∃(o:Oper) (t:Nat),ops[i]? =some o/\o.dst=some t/\q=pathOf t/\t<C.n:=by
 obtain ⟨k,r⟩:=cS p i;cases ho:ops[i]? with
 | none=>
   have j:ops.size<=i:=Array.getElem?_eq_none_iff.1 ho;rw [List.getElem?_eq_none_iff.2 (by rw [r];simpa using j)] at h;cases h
 | some o=>
   obtain ⟨d,f,e⟩:=k o (by simpa using ho);rw [f] at h;simp only [gX,ad,Option.some.injEq] at e;obtain ⟨b,n,g,s,rfl⟩:=e;have h:b=some q:=h;rcases KN n with ⟨c,a⟩ | ⟨t,c,a,m⟩
   ·rw [h] at a;cases a
   ·rw [h] at a;cases a
    exact ⟨o,t,rfl,c,rfl,m⟩
theorem qn {t:Nat}(h:.tmp t∈o.op.operands):t∈o.looksAt ops:=by
 unfold Oper.looksAt;exact List.mem_append_left _ (List.mem_filterMap.2 ⟨.tmp t,by simpa using h,rfl⟩)
structure qP (C:CE)(ops:Array Oper)(l:List DO):Prop where
 comp:gm C ops ops.toList=some l
 small:C.n<=65536
 eA:du ops=true
 apart:Jb ops (bp ops.toList [])=true
theorem Cr (F:qP C ops l)(n:gq ops (λi=>S i=true))   (c:ops[j]? =some o) (q:S j=false) (x:∀e∈o.after,Region.binds .any e=true->S e.on=true)
  {t:Nat} (E:t<C.n) (TY:t∈o.looksAt ops):bV (mask l tm0 v S ops.size) (pathOf t)=bV (mask l tm0 v (λ_=>true) j) (pathOf t):=by
 have A:j<ops.size:=(Array.getElem?_eq_some_iff.1 c).1;have m:∀i,jK (bp ops.toList []) i j->S i=true:=λi hi=>by
  obtain ⟨p,b,e,s,r,h'⟩:=nf hi;rw [c] at b;cases b;have hs:=x e s r;rcases h' with rfl | h'
  ·exact hs
  ·exact dm F.eA n e.on i h' hs
 have w:∀k,j+k<=ops.size->bV (mask l tm0 v S (j+k)) (pathOf t)=bV (mask l tm0 v S j) (pathOf t):=by
  intro k;induction k with
  | zero=>intro _;rfl
  | succ k ih=>
    intro D;rw [<-Nat.add_assoc,jf,if_neg,ih (by omega)];rintro ⟨g,z⟩;obtain ⟨p,y,b,TD,f,d⟩:=Gi F.comp z;have:=F.small;have e:=fk (by omega) (by omega) f;subst e;have B:j≠j+k:=λe=>by rw [<-e,q] at g;cases g
    rcases KU F.apart (i:=j) (j:=j+k) (by omega) c b with a | a
    ·have:=dm F.eA n (j+k) j a g
     rw [q] at this;cases this
    ·exact (Oper.apart_spec a).2.2 _ TD TY
 have u:∀i,i<=j->bV (mask l tm0 v S i) (pathOf t)=bV (mask l tm0 v (λ_=>true) i) (pathOf t):=by
  intro i;induction i with
  | zero=>intro _;rfl
  | succ i ih=>
    intro hi;rw [jf,jf,ih (by omega)]
    by_cases hd:(l[i]?).bind (·.dst)=some (pathOf t)
    ·obtain ⟨p,y,b,TD,f,d⟩:=Gi F.comp hd
     have:=F.small;have e:=fk (by omega) (by omega) f;subst e;have hs:S i=true:=by
      rcases KU F.apart (i:=i) (j:=j) (by omega) b c with a | a
      ·exact m i a
      ·exact absurd TY ((Oper.apart_spec a).1 _ TD)
     rw [if_pos ⟨hs,hd⟩,if_pos ⟨rfl,hd⟩]
    ·rw [if_neg (λh=>hd h.2),if_neg (λh=>hd h.2)]
 have:=w (ops.size - j) (by omega);rw [show j+(ops.size - j)=ops.size from by omega] at this;rw [this,u j (Nat.le_refl _)]
theorem ym (F:qP C ops l)(d:gq ops (λi=>S i=true))   (m:ops[j]? =some o) (c:S j=false) (q:Lb):
  bV (mask l tm0 v (λi=>S i||i==j) ops.size) q=bV (Cd (mask l tm0 v S ops.size) ((l[j]?).bind (·.dst)) (v j)) q:=by
 have w:j<ops.size:=(Array.getElem?_eq_some_iff.1 m).1;have g:∀i,i<=j->mask l tm0 v (λi=>S i||i==j) i=mask l tm0 v S i:=by
  intro i;induction i with
  | zero=>intro _;rfl
  | succ i ih=>
    intro hi;have a:(i==j)=false:=by simp;omega
    simp only [mask,a,Bool.or_false,ih (by omega)]
 have x:∀k,j+1+k<=ops.size->bV (mask l tm0 v (λi=>S i||i==j) (j+1+k)) q=if (l[j]?).bind (·.dst)=some q then v j else bV (mask l tm0 v S (j+1+k)) q:=by
  intro k;induction k with
  | zero=>
    intro _;rw [Nat.add_zero,jf,g j (Nat.le_refl _),jf];simp [c]
  | succ k ih=>
    intro B;rw [<-Nat.add_assoc,jf,jf,ih (by omega)];have a:(j+1+k==j)=false:=by simp;omega
    simp only [a,Bool.or_false]
    by_cases hd:(l[j]?).bind (·.dst)=some q
    ·rw [if_pos hd,if_pos hd,if_neg]
     rintro ⟨p,t⟩;obtain ⟨z,A,Iw,Ee,E,s⟩:=Gi F.comp hd;obtain ⟨D,y,n,h,u,f⟩:=Gi F.comp t;have:=F.small;have e:=fk (by omega) (by omega) (E.symm.trans u);subst e;rcases KU F.apart (i:=j) (j:=j+1+k) (by omega) Iw n with b | b
     ·have:=dm F.eA d (j+1+k) j b p
      rw [c] at this;cases this
     ·exact (Oper.apart_spec b).2.1 _ Ee h
    ·rw [if_neg hd,if_neg hd]
 have:=x (ops.size - (j+1)) (by omega);rw [show j+1+(ops.size - (j+1))=ops.size from by omega] at this;rw [this,OU]
theorem nh {S':Nat->Bool}:∀i,(∀k,k<i->S k=S' k)->mask l tm0 v S i=mask l tm0 v S' i
 | 0,_=>rfl
 | i+1,h=>by simp only [mask,h i (by omega),nh i λk a=>h k (by omega)]
end
end Go.Dx
