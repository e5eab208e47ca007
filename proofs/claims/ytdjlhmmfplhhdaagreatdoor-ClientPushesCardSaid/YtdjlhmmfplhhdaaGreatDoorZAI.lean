/-
  The client's laws. Part ZAI of the proof: The deterministic machine over labels against the model: code, calls.
-/
import Derived.Defers
import Derived.Test.YtdjlhmmfplhhdaaGreatDoorZAH
namespace Go.Dx
open Go Go.RowKit
variable{w w0:World}{a:Act}{a':A}{h h':H}{ρ:bD}{n:Nat}{xs:List Value}{tmps:Array Value}{tm:T V}{vs:List V}
def sV (P:Program)(c:Code)(Q:Exit->Act->World->Prop) (a:Act) (w:World):Prop:=∀(b:Frame) (k:List Item) (cs:List Frame),
 ∃e a' w',Q e a' w'/\Arrives P (lone (b.at a (.code c :: .inLoop c::k)) cs w) b k cs e a' w'
theorem sV.wp {P:Program}{c:Code}{Q:Exit->Act->World->Prop}   (h:sV P c Q a w):(Code.loop c).wp P Q a w:=λb k cs=>
 let ⟨e,a',w',q,r⟩:=h b k cs;⟨e,a',w',q,.of_steps (.one step_loop) r⟩
theorem sV.of {P:Program}{c:Code}{Q:Exit->Act->World->Prop}   (h:c.wp P (Exit.then (sV P c Q) Q) a w):sV P c Q a w:=by
 intro b k cs;obtain ⟨e,d,f,g,Iu⟩:=h b (.inLoop c::k) cs;cases e with
 | normal=>
   obtain ⟨m,i,j,o,n⟩:=g b k cs;exact ⟨m,i,j,o,.of_steps (Steps.trans Iu (.one step_inLoop)) n⟩
 | exit id=>exact ⟨_,d,f,g,.pass (x:=.inLoop c) rfl (λ_ _=>.inl (by simp)) Iu⟩
 | goto l=>exact ⟨_,d,f,g,.pass (x:=.inLoop c) rfl (λ_ _=>.inl (by simp)) Iu⟩
 | ret=>exact ⟨_,d,f,g,.pass (x:=.inLoop c) rfl (λ_ _=>.inl (by simp)) Iu⟩
 | panic ch=>exact ⟨_,d,f,g,.pass (x:=.inLoop c) rfl (λ_ _=>.inl (by simp)) Iu⟩
 | outgrown=>exact ⟨_,d,f,g,.pass (x:=.inLoop c) rfl (λ_ _=>.inl (by simp)) Iu⟩
def adv:Ex->Exit
 | .normal=>.normal
 | .exit id=>.exit id
 | .ret=>.ret
def TP (B:Nat)(w0:World)(n:Nat)(ρ:bD)(h:H)(e:Ex)(a':A)(h':H)(Q:Exit->Act->World->Prop):Prop:=∀a A' w',Step ρ a h h'->oW a n a' A'->aA B w0 a h' w'->Q (adv e) A' w'
abbrev Exec:=DC->A->H->Option (Ex×A×H)
structure Ck (P:Program)(G:Nat)(exec:Exec):Prop where
 code:∀{n:Nat} {c:Code} {a:A} {h:H} {e:Ex} {a':A} {h':H},exec (dF ⟨P,G,n⟩ c) a h=some (e,a',h')->∀{B:Nat} {w0:World} {ρ:bD} {w:World} {x:Act} {Q:Exit->Act->World->Prop},oW ρ n a x->gM ρ G->aA B w0 ρ h w->
  TP B w0 n ρ h e a' h' Q->c.wp P Q x w
 loop:∀{n:Nat} {c:Code} {a:A} {h:H} {e:Ex} {a':A} {h':H},exec (.loop (dF ⟨P,G,n⟩ c)) a h=some (e,a',h')->∀{B:Nat} {w0:World} {ρ:bD} {w:World} {x:Act} {Q:Exit->Act->World->Prop},oW ρ n a x->gM ρ G->aA B w0 ρ h w->
  TP B w0 n ρ h e a' h' Q->sV P c Q x w
def WG (P:Program)(G:Nat)(call:jF):Prop:=∀{n id:Nat} {ops:Array Oper} {l:List DO} {m:List Made} {b:List (DO×Nat×Nat)},gm ⟨P,G,n⟩ ops ops.toList=some l->jG ⟨P,G,n⟩ ops l = .draw m b->
 ∀{a a':A} {x:Act} {ρ:bD} {h h':H} {w:World} {B:Nat} {w0:World},oW ρ n a x->gM ρ G->aA B w0 ρ h w->∀{c:List Made},DV (dq P) b m a.tmps h=some c->
 gj (dq P) call b {tmps:=(makeAll c a.tmps h).1,defers:=a.defers} (makeAll c a.tmps h).2 0 [] []=some (a',h')->∀{Q:Exit->Act->World->Prop},TP B w0 n ρ h .normal a' h' Q->(Code.region id ops true).wp P Q x w
section
variable {P:Program} {G:Nat} {exec:Exec} {call:jF}
theorem TP.trans {B:Nat}{a:bD}{c:H}{e:Ex}{Q:Exit->Act->World->Prop} (p:TP B w0 n ρ h e a' h' Q) (s:Step ρ a h c):TP B w0 n a c e a' h' Q:=
 λb A' w' d=>p b A' w' (s.trans d)
theorem YR {C:CE}{c:Operand}{x:X}(g:ay C c=some x){a:A}{A':Act}(f:oW ρ C.n a A')(d:gM ρ C.G){b:Bool}(e:x.ev a.tmps = .bool b):A'.eval c = .bool b:=by
 have r:=aw f.tmps d g;rw [e] at r;generalize A'.eval c=y at r;cases r;rfl
theorem OQ (q:Ck P G exec){c:Code}{a:A}{e:Ex}
  (j:(ob (exec (dF ⟨P,G,n⟩ c) a h) λr=>match r.1 with
  | .normal=>exec (.loop (dF ⟨P,G,n⟩ c)) r.2.1 r.2.2
  | e=>some (e,r.2.1,r.2.2))=some (e,a',h')) {B:Nat}    {x:Act} {Q:Exit->Act->World->Prop} (m:oW ρ n a x) (s:gM ρ G) (R:aA B w0 ρ h w) (f:TP B w0 n ρ h e a' h' Q):sV P c Q x w:=by
 rw [ad] at j;obtain ⟨⟨l,a1,p⟩,o,h3⟩:=j;refine sV.of (q.code o m s R λb A1 k d BB R1=>?_);cases l with
 | normal=>exact q.loop h3 BB (s.mono (d.ext R)) R1 (f.trans d)
 | exit id=>simp only [Option.some.injEq,Prod.mk.injEq] at h3;obtain ⟨rfl,rfl,rfl⟩:=h3;exact f b A1 k d BB R1
 | ret=>simp only [Option.some.injEq,Prod.mk.injEq] at h3;obtain ⟨rfl,rfl,rfl⟩:=h3;exact f b A1 k d BB R1
theorem TQ (q:Ck P G exec)(A:nQ P G call)(YS:WG P G call):Ck P G (cM (dq P) call exec):=by
 refine ⟨λ{n c a h e a' h'} b {B w0 ρ w x Q} f j R d=>?_,λ{n c a h e a' h'} b {B w0 ρ w x Q} f j R d=>OQ q b f j R d⟩;cases c with
 | skip=>
   simp only [dF,cM,Option.some.injEq,Prod.mk.injEq] at b;obtain ⟨rfl,rfl,rfl⟩:=b;exact wp_skip (d ρ x w (Step.refl _ _) f R)
 | label l=>
   simp only [dF,cM,Option.some.injEq,Prod.mk.injEq] at b;obtain ⟨rfl,rfl,rfl⟩:=b;exact wp_label (d ρ x w (Step.refl _ _) f R)
 | region id ops draw=>
   simp only [dF] at b;split at b
   ·rename_i l v
    cases draw with
    | false=>
      simp only [cM,ad,Option.some.injEq,Prod.mk.injEq] at b;obtain ⟨⟨a1,u⟩,r,rfl,rfl,rfl⟩:=b;exact wp_region_list (Ge A v f j R r d)
    | true=>
      simp only at b;cases hd:jG ⟨P,G,n⟩ ops l with
      | draw m dl=>
        rw [hd] at b;simp only [cM,ad,Option.some.injEq,Prod.mk.injEq] at b;obtain ⟨D,z,⟨a1,u⟩,r,rfl,rfl,rfl⟩:=b;exact YS v hd f j R z r d
      | stuck=>rw [hd] at b;simp [cM] at b
      | _=>unfold jG at hd;simp only at hd;split at hd<;>cases hd
   ·simp [cM] at b
 | seq c1 c2=>
   simp only [dF,cM,ad] at b;obtain ⟨⟨t,a1,u⟩,r,h3⟩:=b;refine wp_seq (q.code r f j R λg A1 p o BB R1=>?_);cases t with
   | normal=>exact q.code h3 BB (j.mono (o.ext R)) R1 (d.trans o)
   | exit id=>simp only [Option.some.injEq,Prod.mk.injEq] at h3;obtain ⟨rfl,rfl,rfl⟩:=h3;exact d g A1 p o BB R1
   | ret=>simp only [Option.some.injEq,Prod.mk.injEq] at h3;obtain ⟨rfl,rfl,rfl⟩:=h3;exact d g A1 p o BB R1
 | cond c c1 c2=>
   simp only [dF] at b;split at b
   ·rename_i y hy
    simp only [cM] at b;split at b
    ·rename_i k
     exact wp_cond_true (YR (C:=⟨P,G,n⟩) hy f j k) (q.code b f j R d)
    ·rename_i k
     exact wp_cond_false (YR (C:=⟨P,G,n⟩) hy f j k) (q.code b f j R d)
    ·cases b
   ·simp [cM] at b
 | block id c=>
   simp only [dF,cM,ad] at b;obtain ⟨⟨t,a1,u⟩,r,h3⟩:=b;refine wp_block (q.code r f j R λg A1 p o BB R1=>?_);cases t with
   | normal=>simp only [Option.some.injEq,Prod.mk.injEq] at h3;obtain ⟨rfl,rfl,rfl⟩:=h3;exact d g A1 p o BB R1
   | exit i=>
     simp only [Option.some.injEq,Prod.mk.injEq] at h3;obtain ⟨s,rfl,rfl⟩:=h3;show if i=id then Q .normal A1 p else Q (.exit i) A1 p
     cases k:Nat.beq i id with
     | true=>
       simp only [k] at s;subst s;rw [if_pos (Nat.eq_of_beq_eq_true k)];exact d g A1 p o BB R1
     | false=>
       simp only [k] at s;subst s;rw [if_neg (λe=>by rw [e,Nat.beq_refl] at k;cases k)];exact d g A1 p o BB R1
   | ret=>simp only [Option.some.injEq,Prod.mk.injEq] at h3;obtain ⟨rfl,rfl,rfl⟩:=h3;exact d g A1 p o BB R1
 | loop c=>
   simp only [dF,cM] at b;exact (OQ q b f j R d).wp
 | exit id=>
   simp only [dF,cM,Option.some.injEq,Prod.mk.injEq] at b;obtain ⟨rfl,rfl,rfl⟩:=b;exact wp_exit (d ρ x w (Step.refl _ _) f R)
 | ret=>
   simp only [dF,cM,Option.some.injEq,Prod.mk.injEq] at b;obtain ⟨rfl,rfl,rfl⟩:=b;exact wp_ret (d ρ x w (Step.refl _ _) f R)
 | _=>simp [dF,cM] at b
theorem KO:∀(f n:Nat),n+1<2 ^ f->kR f (n+1)=inc (kR f n)
 | 0,n,h=>by simp at h
 | f+1,n,h=>by
   have z:∀g,kR g 0=[]:=λg=>by cases g<;>rfl
   by_cases h0:n=0
   ·subst h0
    show (if (0+1==0)=true then [] else ((0+1) % 2==1)::kR f ((0+1) / 2))=inc []
    simp [z,inc]
   ·have b:(n==0)=false:=by simpa using h0
    have e:(n+1==0)=false:=by simp
    have c:kR (f+1) n=(n % 2==1)::kR f (n / 2):=by simp [kR,b]
    have B8:kR (f+1) (n+1)=((n+1) % 2==1)::kR f ((n+1) / 2):=by simp [kR]
    rw [c,B8];rw [Nat.pow_succ] at h;rcases Nat.mod_two_eq_zero_or_one n with a | a
    ·have a1:(n+1) % 2=1:=by omega
     have a2:(n+1) / 2=n / 2:=by omega
     simp [a,a1,a2,inc]
    ·have a1:(n+1) % 2=0:=by omega
     have a2:(n+1) / 2=n / 2+1:=by omega
     have d:=KO f (n / 2) (by omega);simp [a,a1,a2,inc,d]
theorem WH (h:n+1<2 ^ 64):inc (pathOf n)=pathOf (n+1):=(KO 64 n h).symm
theorem KP:∀(vs:List V) (k:Nat) (t:T V) (j:Nat),k+vs.length<131072->j<131072->bV (gk vs (pathOf k) t) (pathOf j)=if k<=j then (match vs[j - k]? with | some v=>v | none=>bV t (pathOf j)) else bV t (pathOf j)
 | [],k,t,j,hk,hj=>by simp [gk]
 | v::vs,k,t,j,hk,hj=>by
   simp only [List.length_cons] at hk;rw [gk,WH (by omega),KP vs (k+1) _ j (by omega) hj]
   by_cases h1:k+1<=j
   ·rw [if_pos h1,if_pos (by omega)]
    have e:j - k=(j - (k+1))+1:=by omega
    rw [e,List.getElem?_cons_succ];rw [ki _ _ (λa=>by have:=fk (by omega) (by omega) a;omega)]
   ·rw [if_neg h1]
    by_cases h2:k=j
    ·subst h2
     rw [jI,if_pos (Nat.le_refl _)];simp
    ·rw [ki _ _ (λa=>h2 (fk (by omega) (by omega) a)),if_neg (by omega)]
theorem Ei {args:List V}(r:cZ ρ args xs)(c:n<=65536)(k:args.length<=n):jx ρ n (gk args [] .leaf) (xs.toArray++Array.replicate (n - xs.toArray.size) Go.undef):=by
 have b:=r.length;refine ⟨by simp;omega,c,λt j=>?_⟩;have g:([]:Lb)=pathOf 0:=rfl;have:=KP args 0 .leaf t (by omega) (by omega);rw [<-g] at this;rw [this,if_pos (Nat.zero_le _),Nat.sub_zero];have a:bV (T.leaf:T V) (pathOf t)=undef:=by unfold bV;rw [T.kW]
 cases h:args[t]? with
 | some v=>
   obtain ⟨y,hy,d⟩:=r.get h;have f:=(List.getElem?_eq_some_iff.1 hy).1;have e:(xs.toArray++Array.replicate (n - xs.toArray.size) Go.undef).getD t Go.undef=y:=by
    rw [Array.getD_eq_getD_getElem?,Array.getElem?_append_left (by simpa using f)];simp [hy]
   rw [e];exact d
 | none=>
   have i:args.length<=t:=List.getElem?_eq_none_iff.1 h;have e:(xs.toArray++Array.replicate (n - xs.toArray.size) Go.undef).getD t Go.undef=Go.undef:=by
    rw [Array.getD_eq_getD_getElem?,Array.getElem?_append_right (by simp;omega)];simp [Array.getElem?_replicate];split<;>rfl
   rw [e];simp only [a];exact .tuple .nil
def QD (tmps:Array Value):ResultVar->Sem Value
 | .tmp t=>pure (tmps.getD t Go.undef)
 | .cell a t=>do loadVar t (<-asAddr (tmps.getD a Go.undef))
theorem aaw {C:CE}{r:ResultVar}{d:Z'}(f:Jc C r=some d)(E:jx ρ C.n tm tmps){B:Nat}(R:aA B w0 ρ h w){v:V}(c:resultD h tm d=some v):
  ∃x,RV ρ v x/\(QD tmps r).run C.P w = .ok x w:=by
 cases r with
 | tmp t=>
   simp only [Jc,ai,Option.some.injEq] at f;obtain ⟨g,rfl⟩:=f;simp only [resultD,Option.some.injEq] at c;subst c;exact ⟨_,E.get t (by simpa using g),rfl⟩
 | cell a t=>
   simp only [Jc,ai,ad,Option.some.injEq] at f;obtain ⟨g,u,q,rfl⟩:=f;simp only [resultD] at c;split at c
   ·rename_i l off e
    have j:=E.get a (by simpa using g);rw [e] at j;obtain ⟨b,m,hy⟩:=dy j;simp only [Q.ask] at c;split at c
    ·rename_i vs y s k n
     obtain ⟨z,o,p⟩:=YO q (R.obj l b _ m n) c;refine ⟨z,o,?_⟩;unfold QD;simp only [hy,asAddr];simpa using p
    ·cases c
   ·cases c
theorem KQ {C:CE}{ρ:bD}{tm:T V}{tmps:Array Value}(b:jx ρ C.n tm tmps){B:Nat}{w0:World}{h:H}{w:World}(R:aA B w0 ρ h w):∀{a:List ResultVar} {ds:List Z'},qG C a=some ds->∀{vs:List V},dQ h tm ds=some vs->
  ∃xs:List Value,cZ ρ vs xs/\(a.mapM (QD tmps)).run C.P w = .ok xs w
 | [],ds,hd,vs,hv=>by
   simp only [qG,Option.some.injEq] at hd;subst hd;simp only [dQ,Option.some.injEq] at hv;subst hv;exact ⟨[],.nil,rfl⟩
 | r::a,ds,hd,vs,hv=>by
   simp only [qG,ad,Option.some.injEq] at hd;obtain ⟨d,e,k,j,rfl⟩:=hd;simp only [dQ,ad,Option.some.injEq] at hv;obtain ⟨v,h3,vs',h4,rfl⟩:=hv;obtain ⟨x,f,g⟩:=aaw e b R h3;obtain ⟨xs,i,c⟩:=KQ b R j h4;refine ⟨x::xs,.cons f i,?_⟩;rw [List.mapM_cons];simp only [Sem.run_bind,g,Result.andThen_ok,c,Sem.run_pure]
theorem agJ (r:cZ ρ vs xs):RV ρ (r8 vs) (if h:(⟨xs⟩:Array Value).size=1 then (⟨xs⟩:Array Value)[0] else .tuple ⟨xs⟩):=by
 cases r with
 | nil=>exact .tuple .nil
 | cons h hs=>
   cases hs with
   | nil=>exact h
   | cons h2 B9=>exact .tuple (.cons h (.cons h2 B9))
theorem uY {C:CE}{fn:Func}{ds:List Z'}(a:qG C fn.results.toList=some ds)(d:jx ρ C.n tm tmps){B:Nat}(R:aA B w0 ρ h w)(b:dQ h tm ds=some vs):
  ∃x,RV ρ (r8 vs) x/\(results fn tmps).run C.P w = .ok x w:=by
 obtain ⟨xs,c,f⟩:=KQ d R a b;refine ⟨_,agJ c,?_⟩;have e:results fn tmps=(do let vs<-fn.results.mapM (QD tmps);pure (if h:vs.size=1 then vs[0] else .tuple vs)):=rfl;rw [e,Sem.run_bind,KA _ _ _ f]
 rfl
end
end Go.Dx
namespace Go.Dx
open Go Go.RowKit
variable{fn:br}{func:Func}
def TR (P:Program)(f:FuncId)(xs:List Value)(w:World)(R:World->Prop):Prop:=
 (callFunc f ⟨xs⟩).run P w = .ok (.enter f ⟨xs⟩) w/\CallsD P f ⟨xs⟩ .returning w λe u' w'=>∃v,e = .returned v/\u' = .returning/\R w'
def Cl (P:Program)(G:Nat)(late:FuncId->List V->H->Option H):Prop:=∀{f:FuncId} {args:List V} {h h':H},late f args h=some h'->∀{B:Nat} {w0:World} {ρ:bD} {w:World} {xs:List Value},aA B w0 ρ h w->gM ρ G->cZ ρ args xs->
 TR P f xs w λw'=>∃a,Step ρ a h h'/\aA B w0 a h' w'
def TS (P:Program)(G:Nat)(fns:T br):Prop:=∀f fn,Qd fns f=some fn->∃func,P.funcs[f]? =some func/\qH P G func=some fn
section
variable {P:Program} {G:Nat} {exec:Exec} {call:jF} {vV:jF} {late jb:FuncId->List V->H->Option H} {fns:T br}
structure adw (P:Program)(G:Nat)(func:Func)(fn:br)(c:Code):Prop where
 body:func.body=some c
 small:func.ntmps<=65536
 name:(func.name == "runtime.NumGoroutine")=false
 ntmps:fn.ntmps=func.ntmps
 code:fn.code=dF ⟨P,G,func.ntmps⟩ c
 results:qG ⟨P,G,func.ntmps⟩ func.results.toList=some fn.results
theorem nR (h:qH P G func=some fn):∃c,adw P G func fn c:=by
 unfold qH at h;simp only [ai,ad,Option.some.injEq,Bool.and_eq_true,Bool.not_eq_true'] at h;obtain ⟨⟨⟨a,e⟩,h3⟩,c,h4,d,b,rfl⟩:=h;exact ⟨c,h4,Nat.le_of_ble_eq_true a,h3,rfl,rfl,b⟩
theorem iL {c:Code}(k:adw P G func fn c){f:FuncId}(b:P.funcs[f]? =some func)(xs:Array Value)(w:World):(callFunc f xs).run P w = .ok (.enter f xs) w:=by
 have a:¬func.name = "runtime.NumGoroutine":=λe=>by have:=k.name;rw [e] at this;simp at this
 unfold callFunc;simp [b,a,k.body]
theorem TT (m:Ck P G exec){c:Code}(k:adw P G func fn c){args:List V}{h:H}{e:Ex}{d:A}{h':H}(b:oM exec fn args h=some (e,d,h')){B:Nat}{w0:World}{ρ:bD}{w:World}{xs:List Value}
  (R:aA B w0 ρ h w) (j:gM ρ G) (l:cZ ρ args xs) {Q:Exit->Act->World->Prop} (i:TP B w0 func.ntmps ρ h e d h' Q):c.wp P Q {tmps:=(⟨xs⟩:Array Value)++Array.replicate (func.ntmps - (⟨xs⟩:Array Value).size) Go.undef,defers:=[]} w:=by
 unfold oM at b;rw [ai] at b;obtain ⟨a,f⟩:=b;have a:=Nat.le_of_ble_eq_true a;rw [k.ntmps] at a;rw [k.code] at f;exact m.code f ⟨Ei l k.small a,.nil⟩ j R i
theorem agK (A:Ck P G exec)(D:Cl P G jb)(QE:TS P G fns):Cl P G (Ts fns jb exec):=by
 intro f args h h' b B w0 ρ w xs R m q;unfold Ts at b;split at b
 ·rename_i Eg g
  cases b;exact D g R m q
 ·simp only [ad] at b
  obtain ⟨fn,Dm,⟨e,J,d⟩,j,b⟩:=b;obtain ⟨func,o,r⟩:=QE f fn Dm;obtain ⟨c,k⟩:=nR r;refine ⟨iL k o _ w,?_⟩;have l:J.defers=[]/\(∃vs,dQ d J.tmps fn.results=some vs)/\d=h'/\(e = .normal\/e = .ret):=by
   split at b
   ·cases b
   ·rename_i QF z
    simp only [ad,Option.some.injEq] at b;obtain ⟨vs,i,rfl⟩:=b;refine ⟨QF,⟨vs,i⟩,rfl,?_⟩;cases e with
    | normal=>exact .inl rfl
    | ret=>exact .inr rfl
    | exit id=>exact absurd rfl (z id)
   ·cases b
  obtain ⟨E,⟨vs,t⟩,rfl,F⟩:=l;have Q:=callsD_of_wp (P:=P) (f:=f) (fn:=func) (c:=c) (args:=⟨xs⟩) (u:=.returning) (w:=w) (R:=λe w'=>∃v,e = .returned v/\∃a,Step ρ a h d/\aA B w0 a d w') o k.body
   (TT A k j R m q λa A' w' s n R'=>by
    have QC:A'.defers=[]:=by
     have:=n.defers;rw [E] at this;generalize A'.defers=es at this;cases this;rfl
    obtain ⟨v,I,x⟩:=uY (C:=⟨P,G,func.ntmps⟩) k.results n.tmps R' t;rcases F with rfl | rfl<;>exact ⟨QC,v,x,v,rfl,a,s,R'⟩)
  exact Q.mono λe u' w' ⟨H,v,y,a,s,R'⟩=>⟨v,y,H,a,s,R'⟩
theorem TU (j:Cl P G late){func:Func}{fn:br}{c:Code}(k:adw P G func fn c){B:Nat}{w0:World}{tm:T V}{b:Array Value}{vs:List V}{h':H}{Rt:Ending->World->Prop}:
  ∀{ds:List (FuncId×List V)} {es:List Deferred} {ρ:bD} {h:H} {w:World},xU late ds h=some h'->v8 ρ ds es->jx ρ func.ntmps tm b->gM ρ G->aA B w0 ρ h w->dQ h' tm fn.results=some vs->
  (∀a w' x,Step ρ a h h'->RV a (r8 vs) x->aA B w0 a h' w'->Rt (.returned x) w')->Leaves P func b Rt es .returning w
 | [],es,ρ,h,w,d,hd,hT,hG,R,hv,hq=>by
   cases hd;simp only [xU,Option.some.injEq] at d;subst d;obtain ⟨x,o,p⟩:=uY (C:=⟨P,G,func.ntmps⟩) k.results hT R hv;exact ⟨x,p,hq ρ w x (Step.refl _ _) o R⟩
 | (f,args)::ds,es,ρ,h,w,d,hd,hT,hG,R,hv,hq=>by
   cases hd with
   | @cons _ e _ rZ h1 h2=>
     obtain ⟨xs,cap,i,m,q⟩:=h1;simp only [xU,ad] at d;obtain ⟨y,t,d⟩:=d;obtain ⟨n,F⟩:=j t R hG q;refine ⟨by simp,.func f,⟨cap⟩,f,⟨xs++cap⟩,i,?_,?_⟩
     ·rw [i,m]
      show (callFunc f ((⟨xs⟩:Array Value)++⟨cap⟩)).run P w=_
      have:((⟨xs⟩:Array Value)++⟨cap⟩)=⟨xs++cap⟩:=by simp
      rw [this];exact n
     ·refine F.mono λz u' w' ⟨v,MX,u,a,s,R'⟩=>?_
      subst MX;subst u;have E:=s.ext R;exact TU j k d (h2.mono E) (hT.mono E) (hG.mono E) R' hv λNj g x l=>hq Nj g x (s.trans l)
theorem DD (l:Ck P G exec)(TV:nQ P G vV)(E:Cl P G jb)(QE:TS P G fns):nQ P G (Tt fns vV jb exec):=by
 intro f args h v h' a B w0 ρ w xs R d p;unfold Tt at a;split at a
 ·rename_i r z
  cases a;exact TV z R d p
 ·simp only [ad] at a
  obtain ⟨fn,Dm,⟨e,o,C⟩,i,a⟩:=a;obtain ⟨func,n,u⟩:=QE f fn Dm;obtain ⟨c,k⟩:=nR u;have j:(∃vs,xU (Ts fns jb exec) o.defers C=some h'/\dQ h' o.tmps fn.results=some vs/\v=r8 vs)/\(e = .normal\/e = .ret):=by
   split at a
   ·cases a
   ·rename_i A
    simp only [ad,Option.some.injEq,Prod.mk.injEq] at a;obtain ⟨I,D,vs,g,rfl,rfl⟩:=a;refine ⟨⟨vs,D,g,rfl⟩,?_⟩;cases e with
    | normal=>exact .inl rfl
    | ret=>exact .inr rfl
    | exit id=>exact absurd rfl (A id)
  obtain ⟨⟨vs,F,y,rfl⟩,H⟩:=j;refine .inr ⟨iL k n _ w,?_⟩;refine calls_of_wp_defers (P:=P) (f:=f) (fn:=func) (c:=c) n k.body (TT l k i R d p λb A' w' s m R'=>?_);have L:Leaves P func A'.tmps (λe w'=>∃x,e = .returned x/\∃b,Step ρ b h h'/\RV b (r8 vs) x/\aA B w0 b h' w') A'.defers .returning w':=
   TU (agK l E QE) k F m.defers m.tmps (d.mono (s.ext R)) R' y λNj t x q MW R''=>⟨x,rfl,Nj,s.trans q,MW,R''⟩
  rcases H with rfl | rfl<;>exact L
theorem YT (YS:∀{call:jF},nQ P G call->WG P G call) (TV:nQ P G vV) (d:Cl P G jb) (QE:TS P G fns):∀n,Ck P G (acZ (dq P) fns vV jb n).exec/\nQ P G (acZ (dq P) fns vV jb n).call
 | 0=>by
   refine ⟨⟨?_,?_⟩,?_⟩
   ·intro n c a h e j h' b;cases b
   ·intro n c a h e j h' b;cases b
   ·intro f args h v h' b;cases b
 | n+1=>by
   obtain ⟨g,i⟩:=YT YS TV d QE n;exact ⟨TQ g i (YS i),DD g TV d QE⟩
end
end Go.Dx
namespace Go.Dx
open Go Go.RowKit
variable{ys:List Operand}{d:D}
def cY (E:Env)(tm tm':T V):D->Prop
 | .SD x=>x.ev tm=x.ev tm'
 | .p q=>q.eval E tm=q.eval E tm'
 | .r q=>q.px tm=q.px tm'
 | .e q=>∀h,q.run tm h=q.run tm' h
 | .c q=>q.args E tm=q.args E tm'
 | .defer q=>q.args E tm=q.args E tm'
 | .stuck=>True
section
variable {C:CE} {tm tm':T V} {E:Env}
def wa (C:CE)(tm tm':T V)(y:Operand):Prop:=∀x,ay C y=some x->x.ev tm=x.ev tm'
theorem tF {y:Operand}(h:∀t,y = .tmp t->t<C.n->bV tm (pathOf t)=bV tm' (pathOf t)):wa C tm tm' y:=by
 intro x a;cases y with
 | tmp t=>
   simp only [ay,ai,Option.some.injEq] at a;obtain ⟨b,rfl⟩:=a;exact h t rfl (by simpa using b)
 | const v=>simp only [ay,ad,Option.some.injEq] at a;obtain ⟨d,_,rfl⟩:=a;rfl
 | global g=>simp only [ay,ai,Option.some.injEq] at a;obtain ⟨_,rfl⟩:=a;rfl
 | func f=>simp only [ay,Option.some.injEq] at a;subst a;rfl
theorem tG:∀{ys:List Operand} {xs:List X},cG C ys=some xs->(∀y∈ys,wa C tm tm' y)->Wh tm xs=Wh tm' xs
 | [],xs,h,_=>by simp only [cG,Option.some.injEq] at h;subst h;rfl
 | y::ys,xs,h,H=>by
   simp only [cG,ad,Option.some.injEq] at h;obtain ⟨x,c,r,b,rfl⟩:=h;simp only [Wh,H y (List.mem_cons_self ..) x c,tG b λz a=>H z (List.mem_cons_of_mem _ a)]
theorem Jg {x:X}(h:cG C ys=some [x])(H:∀y∈ys,wa C tm tm' y):x.ev tm=x.ev tm':=by
 have:=tG h H;simp only [Wh,List.cons.injEq,and_true] at this;exact this
theorem Ah {x u:X}(h:cG C ys=some [x,u])(H:∀y∈ys,wa C tm tm' y):x.ev tm=x.ev tm'/\u.ev tm=u.ev tm':=by
 have:=tG h H;simp only [Wh,List.cons.injEq,and_true] at this;exact this
theorem KR {y:Option Operand}{x:Option X}(h:gW C y=some x)(H:∀z,y=some z->wa C tm tm' z):SE tm x=SE tm' x:=by
 cases y with
 | none=>simp only [gW,Option.some.injEq] at h;subst h;rfl
 | some y=>
   simp only [gW,ad,Option.some.injEq] at h;obtain ⟨d,a,rfl⟩:=h;simp only [SE,H y rfl d a]
theorem Gf {b:Nat->Option (Nat×Nat)}:∀{ps:List (Nat×Operand)} {l:List (Nat×Nat×X)},fM C b ps=some l->(∀p∈ps,wa C tm tm' p.2)->∀a,oP tm l a=oP tm' l a
 | [],l,h,_,a=>by simp only [fM,Option.some.injEq] at h;subst h;rfl
 | (i,y)::ps,l,h,H,a=>by
   simp only [fM,ad,Option.some.injEq] at h;obtain ⟨p,j,d,f,ds,QC,rfl⟩:=h;have e:=H (i,y) (List.mem_cons_self ..) d f;simp only [oP,e]
   congr 1
   cases aX a p.1 (d.ev tm').cells with
   | none=>rfl
   | some c=>exact Gf QC (λq g=>H q (List.mem_cons_of_mem _ g)) c
theorem yj {size:Nat}:∀{ps:List (Nat×Operand)} {l:List (Nat×X)},eN C ps=some l->(∀p∈ps,wa C tm tm' p.2)->∀a,eb tm size l a=eb tm' size l a
 | [],l,h,_,a=>by simp only [eN,Option.some.injEq] at h;subst h;rfl
 | (i,y)::ps,l,h,H,a=>by
   simp only [eN,ad,Option.some.injEq] at h;obtain ⟨d,f,ds,QC,rfl⟩:=h;have e:=H (i,y) (List.mem_cons_self ..) d f;simp only [eb,e]
   congr 1
   cases aX a (i*size) (d.ev tm').cells with
   | none=>rfl
   | some c=>exact yj QC (λq b=>H q (List.mem_cons_of_mem _ b)) c
theorem QG {s t:TypeId}{x:X}(e:x.ev tm=x.ev tm')(h:iH C s t x=some d):cY E tm tm' d:=by
 unfold iH at h;split at h
 ·cases h;simp only [cY,PD.eval,e]
 ·cases h;simp only [cY,PD.eval,e]
 ·cases h;simp only [cY,PD.eval,e]
 ·split at h
  ·cases h;intro h;simp only [ED.run,e]
  ·cases h
 ·split at h
  ·simp only [ai,Option.some.injEq] at h
   obtain ⟨_,rfl⟩:=h;intro h;simp only [ED.run,e]
  ·cases h
 ·split at h
  ·cases h;simp only [cY,RD.px,e]
  ·cases h
 ·split at h
  ·cases h;simp only [cY,RD.px,e]
  ·cases h
 ·split at h
  ·cases h;simp only [cY,RD.px,e]
  ·cases h
 ·cases h
theorem QH {b:Builtin}{tl:List TypeId}{xs:List X}(f:cG C ys=some xs)(H:∀y∈ys,wa C tm tm' y) (h:iG C b tl xs=some d):cY E tm tm' d:=by
 unfold iG at h;split at h
 ·have e:=Jg f H
  split at h
  ·cases h;simp only [cY,PD.eval,e]
  ·cases h;simp only [cY,PD.eval,e]
  ·cases h;simp only [cY,PD.eval]
  ·cases h;simp only [cY,RD.px,e]
  ·cases h
 ·have e:=Jg f H
  split at h
  ·cases h;simp only [cY,PD.eval,e]
  ·cases h
 ·obtain ⟨a,c⟩:=Ah f H;cases h;simp only [cY,PD.eval,a,c]
 ·obtain ⟨a,c⟩:=Ah f H;cases h;simp only [cY,PD.eval,a,c]
 ·have e:=Jg f H;cases h;simp only [cY,PD.eval,e]
 ·obtain ⟨a,c⟩:=Ah f H
  split at h
  ·split at h
   ·cases h;intro h;simp only [ED.run,a,c]
   ·cases h
  ·cases h
 ·obtain ⟨a,c⟩:=Ah f H
  split at h
  ·simp only [ad,ai] at h
   obtain ⟨_,_,_,_,_,_,_,h⟩:=h;split at h
   ·cases h;intro h;simp only [ED.run,a,c]
   ·cases h;intro h;simp only [ED.run,a,c]
   ·cases h;intro h;simp only [ED.run,a,c]
   ·cases h
  ·cases h
 ·obtain ⟨a,c⟩:=Ah f H
  split at h
  ·simp only [ad,Option.some.injEq] at h
   obtain ⟨size,hs,rfl⟩:=h;intro h;simp only [ED.run,a,c]
  ·cases h
 ·have e:=Jg f H
  split at h
  ·cases h;intro h;simp only [ED.run,e]
  ·cases h
 ·obtain ⟨a,c⟩:=Ah f H
  split at h
  ·cases h;intro h;simp only [ED.run,a,c]
  ·cases h
 ·cases h
theorem OR {c:Call}{q:CD}(h:nO C c=some q)(H:∀y∈c.operands,wa C tm tm' y):q.args E tm=q.args E tm':=by
 simp only [nO,ad] at h;obtain ⟨i,has,h⟩:=h;have e:=tG has λy hy=>H y (by simp only [Call.operands,Array.mem_append];right;simpa using hy);cases hc:c.callee with
 | value fx=>
   have d:fx∈c.operands:=by simp [Call.operands,hc]
   have key:∀{x:X},ay C fx=some x->q = .value x i->q.args E tm=q.args E tm':=λ{x} a f=>by
    subst f;simp only [CD.args,H _ d x a,e]
   cases fx with
   | func g=>simp only [hc,Option.some.injEq] at h;subst h;simp only [CD.args,e]
   | tmp t=>simp only [hc,ad,Option.some.injEq] at h;obtain ⟨x,a,h⟩:=h;exact key a h.symm
   | const v=>simp only [hc,ad,Option.some.injEq] at h;obtain ⟨x,a,h⟩:=h;exact key a h.symm
   | global g=>simp only [hc,ad,Option.some.injEq] at h;obtain ⟨x,a,h⟩:=h;exact key a h.symm
 | invoke r name=>
   have d:r∈c.operands:=by simp [Call.operands,hc]
   simp only [hc,ad,Option.some.injEq] at h;obtain ⟨x,a,rfl⟩:=h;simp only [CD.args,H _ d x a,e]
 | builtin b=>simp only [hc] at h;cases h
theorem Jh {o:Op}(h:aq C o=some d)(H:∀y∈o.operands,wa C tm tm' y):cY E tm tm' d:=by
 cases o with
 | move y=>simp only [aq,ad,Option.some.injEq] at h;obtain ⟨x,g,rfl⟩:=h;exact H y (by simp [Op.operands]) x g
 | assign y=>simp only [aq,ad,Option.some.injEq] at h;obtain ⟨x,g,rfl⟩:=h;exact H y (by simp [Op.operands]) x g
 | pick c a b=>
   simp only [aq,ad,Option.some.injEq] at h;obtain ⟨x,g,y,hy,z,v,rfl⟩:=h;simp only [cY,PD.eval,H c (by simp [Op.operands]) x g,H a (by simp [Op.operands]) y hy,H b (by simp [Op.operands]) z v]
 | build t ps=>
   have H':∀p∈ps.toList,wa C tm tm' p.2:=λp O=>H p.2 (by simp only [Op.operands,List.mem_toArray,List.mem_map];exact ⟨p,O,rfl⟩);simp only [aq,ad] at h;obtain ⟨z,v,h⟩:=h;split at h
   ·simp only [ad,Option.some.injEq] at h
    obtain ⟨pl,O,l,F,rfl⟩:=h;simp only [cY,PD.eval,Gf F H']
   ·simp only [ad,Option.some.injEq] at h
    obtain ⟨n,D,l,F,rfl⟩:=h;simp only [cY,PD.eval,Gf F H']
   ·cases h
 | nilCheck y=>simp only [aq,ad,Option.some.injEq] at h;obtain ⟨x,g,rfl⟩:=h;simp only [cY,PD.eval,H y (by simp [Op.operands]) x g]
 | binOp op t y z u=>simp only [aq,ad,Option.some.injEq] at h;obtain ⟨x,g,J,I,rfl⟩:=h;simp only [cY,PD.eval,H y (by simp [Op.operands]) x g,H z (by simp [Op.operands]) J I]
 | unOp op t y=>simp only [aq,ad,Option.some.injEq] at h;obtain ⟨x,g,rfl⟩:=h;simp only [cY,PD.eval,H y (by simp [Op.operands]) x g]
 | convert s t y=>simp only [aq,ad] at h;obtain ⟨x,g,h⟩:=h;exact QG (H y (by simp [Op.operands]) x g) h
 | makeInterface t y=>
   simp only [aq] at h;split at h
   ·cases h
   ·simp only [ad,Option.some.injEq] at h
    obtain ⟨x,g,rfl⟩:=h;simp only [cY,PD.eval,H y (by simp [Op.operands]) x g]
   ·cases h
 | makeFunc f a b=>
   cases f with
   | func f=>
     simp only [aq,ad,Option.some.injEq] at h;obtain ⟨x,g,J,I,rfl⟩:=h;have A:=tG g λy hy=>H y (by simp only [Op.operands,Array.mem_append];left;simpa using hy);have w:=tG I λy hy=>H y (by simp only [Op.operands,Array.mem_append];right;simpa using hy);simp only [cY,PD.eval,A,w]
   | _=>simp [aq] at h
 | slice t y lo hi mx=>
   simp only [aq,ad] at h;obtain ⟨x,g,l,F,Z,Ir,m,B,h⟩:=h;have e:=H y (by simp [Op.operands]) x g;have A:=KR F λz v=>H z (by subst v;simp [Op.operands]);have w:=KR Ir λz v=>H z (by subst v;simp [Op.operands]);have R:=KR B λz v=>H z (by subst v;simp [Op.operands]);split at h
   ·split at h
    ·cases h;simp only [cY,PD.eval,e,A,w]
    ·cases h
   ·simp only [ad,ai,Option.some.injEq] at h
    obtain ⟨n,D,V,rfl⟩:=h;simp only [cY,PD.eval,e,A,w,R]
   ·simp only [ad,ai,Option.some.injEq] at h
    obtain ⟨size,D,V,rfl⟩:=h;simp only [cY,PD.eval,e,A,w,R]
   ·cases h
 | fieldAddr t y f=>
   simp only [aq] at h;split at h
   ·simp only [ad,ai,Option.some.injEq] at h
    obtain ⟨X,W,n,D,h0,x,g,rfl⟩:=h;simp only [cY,PD.eval,H y (by simp [Op.operands]) x g]
   ·cases h
 | field t y f=>
   simp only [aq] at h;split at h
   ·simp only [ad,Option.some.injEq] at h
    obtain ⟨X,W,Q,S,x,g,rfl⟩:=h;simp only [cY,PD.eval,H y (by simp [Op.operands]) x g]
   ·cases h
 | indexAddr t y i=>
   simp only [aq,ad] at h;obtain ⟨x,g,j,M,h⟩:=h;have A:=H y (by simp [Op.operands]) x g;have w:=H i (by simp [Op.operands]) j M;split at h
   ·simp only [ad,Option.some.injEq] at h
    obtain ⟨n,D,rfl⟩:=h;simp only [cY,PD.eval,A,w]
   ·simp only [ad,Option.some.injEq] at h
    obtain ⟨size,D,rfl⟩:=h;simp only [cY,PD.eval,A,w]
   ·cases h
 | index t y i=>
   simp only [aq,ad] at h;obtain ⟨x,g,j,M,h⟩:=h;have A:=H y (by simp [Op.operands]) x g;have w:=H i (by simp [Op.operands]) j M;split at h
   ·cases h;simp only [cY,PD.eval,A,w]
   ·simp only [ad,Option.some.injEq] at h
    obtain ⟨size,D,Q,S,rfl⟩:=h;simp only [cY,PD.eval,A,w]
   ·cases h
 | typeAssert y xt t ok=>
   simp only [aq,ad] at h;obtain ⟨x,g,z,v,h⟩:=h;have e:=H y (by simp [Op.operands]) x g;split at h
   ·cases h;simp only [cY,PD.eval,e]
   ·cases h;simp only [cY,PD.eval,e]
   ·cases h
 | entry y=>simp only [aq,ad,Option.some.injEq] at h;obtain ⟨x,g,rfl⟩:=h;simp only [cY,RD.px,H y (by simp [Op.operands]) x g]
 | extract y i=>simp only [aq,ad,Option.some.injEq] at h;obtain ⟨x,g,rfl⟩:=h;simp only [cY,PD.eval,H y (by simp [Op.operands]) x g]
 | load t y=>simp only [aq,ad,Option.some.injEq] at h;obtain ⟨Q,S,x,g,rfl⟩:=h;simp only [cY,RD.px,H y (by simp [Op.operands]) x g]
 | lookup t m k ok=>
   simp only [aq,ad] at h;obtain ⟨x,g,j,M,h⟩:=h;split at h
   ·simp only [ad,Option.some.injEq] at h
    obtain ⟨z,v,rfl⟩:=h;simp only [cY,RD.px,H m (by simp [Op.operands]) x g,H k (by simp [Op.operands]) j M]
   ·cases h
 | alloc t=>simp only [aq,ad,Option.some.injEq] at h;obtain ⟨z,v,rfl⟩:=h;intro h;rfl
 | box t y=>simp only [aq,ad,Option.some.injEq] at h;obtain ⟨x,g,rfl⟩:=h;intro h;simp only [ED.run,H y (by simp [Op.operands]) x g]
 | buildSlice t n ps=>
   have H':∀p∈ps.toList,wa C tm tm' p.2:=λp O=>H p.2 (by simp only [Op.operands,List.mem_toArray,List.mem_map];exact ⟨p,O,rfl⟩);simp only [aq] at h;split at h
   ·simp only [ad,ai,Option.some.injEq] at h
    obtain ⟨size,hs,z,v,_,l,F,rfl⟩:=h;intro h;cases U:fj size l (aH z.cells n) with
    | some cs=>rfl
    | none=>simp only [ED.run,yj F H']
   ·cases h
 | store t a y=>simp only [aq,ad,Option.some.injEq] at h;obtain ⟨n,D,x,g,J,I,rfl⟩:=h;intro h;simp only [ED.run,H a (by simp [Op.operands]) x g,H y (by simp [Op.operands]) J I]
 | makeMap t r=>
   cases r with
   | none=>simp only [aq,Option.some.injEq] at h;subst h;intro h;rfl
   | some r=>simp [aq] at h
 | makeSlice t n c=>
   simp only [aq] at h;split at h
   ·simp only [ad,Option.some.injEq] at h
    obtain ⟨size,hs,bytes,Y,z,v,x,g,J,I,rfl⟩:=h;intro h;simp only [ED.run,H n (by simp [Op.operands]) x g,H c (by simp [Op.operands]) J I]
   ·cases h
 | mapUpdate t m k x=>
   simp only [aq] at h;split at h
   ·simp only [ad,Option.some.injEq] at h
    obtain ⟨G,B,N,K,L,g,rfl⟩:=h;intro h;simp only [ED.run,H m (by simp [Op.operands]) G B,H k (by simp [Op.operands]) N K,H x (by simp [Op.operands]) L g]
   ·cases h
 | insert t m k x=>
   simp only [aq] at h;split at h
   ·simp only [ad,Option.some.injEq] at h
    obtain ⟨G,B,N,K,L,g,rfl⟩:=h;intro h;simp only [ED.run,H m (by simp [Op.operands]) G B,H k (by simp [Op.operands]) N K,H x (by simp [Op.operands]) L g]
   ·cases h
 | mapEntry t m k=>
   simp only [aq] at h;split at h
   ·simp only [ad,Option.some.injEq] at h
    obtain ⟨z,v,G,B,N,K,rfl⟩:=h;intro h;simp only [ED.run,H m (by simp [Op.operands]) G B,H k (by simp [Op.operands]) N K]
   ·cases h
 | entryStore t m s x=>
   simp only [aq,ad,Option.some.injEq] at h;obtain ⟨G,B,T,hs,L,g,rfl⟩:=h;intro h;simp only [ED.run,H m (by simp [Op.operands]) G B,H s (by simp [Op.operands]) T hs,H x (by simp [Op.operands]) L g]
 | range t y=>
   simp only [aq,ad] at h;obtain ⟨x,g,h⟩:=h;have e:=H y (by simp [Op.operands]) x g;split at h
   ·cases h;intro h;simp only [ED.run,e]
   ·cases h;intro h;simp only [ED.run,e]
   ·cases h
 | next y s=>
   cases s with
   | false=>simp only [aq,ad,Option.some.injEq] at h;obtain ⟨x,g,rfl⟩:=h;intro h;simp only [ED.run,H y (by simp [Op.operands]) x g]
   | true=>simp [aq] at h
 | call c=>
   simp only [aq] at h;split at h
   ·rename_i b U
    simp only [ad] at h;obtain ⟨xs,QB,h⟩:=h;exact QH QB (λy hy=>H y (by simp only [Op.operands,Call.operands,Array.mem_append];right;simpa using hy)) h
   ·simp only [ad,Option.some.injEq] at h
    obtain ⟨q,P,rfl⟩:=h;exact OR P H
 | defer c=>
   simp only [aq] at h;split at h
   ·simp only [ad,Option.some.injEq] at h
    obtain ⟨q,P,rfl⟩:=h;exact OR P H
   ·cases h
 | _=>simp [aq] at h
end
end Go.Dx
