/-
  The sequencer's laws. Part ZAI of the proof: The deterministic machine over labels against the model: code, calls.
-/
import Derived.Defers
import Derived.Test.YteajeefphbjnmaaGreatDoorZAH
namespace Go.Dx
open Go Go.RowKit
def sk (P:Program)(c:Code)(Q:Exit->Act->World->Prop) (a:Act) (w:World):Prop:=∀(b:Frame) (k:List Item) (cs:List Frame),
 ∃e a' w',Q e a' w'/\Arrives P (lone (b.at a (.code c :: .inLoop c::k)) cs w) b k cs e a' w'
theorem sk.wp {P:Program}{c:Code}{Q:Exit->Act->World->Prop} {a:Act} {w:World} (h:sk P c Q a w):(Code.loop c).wp P Q a w:=λb k cs=>
 let ⟨e,a',w',q,r⟩:=h b k cs;⟨e,a',w',q,.of_steps (.one step_loop) r⟩
theorem sk.of {P:Program}{c:Code}{Q:Exit->Act->World->Prop} {a:Act} {w:World} (h:c.wp P (Exit.then (sk P c Q) Q) a w):sk P c Q a w:=by
 intro b k cs;obtain ⟨e,a₁,w₁,hq,HR⟩:=h b (.inLoop c::k) cs;cases e with
 | normal=>
   obtain ⟨e₂,a₂,w₂,ani,afA⟩:=hq b k cs;exact ⟨e₂,a₂,w₂,ani,.of_steps (Steps.trans HR (.one step_inLoop)) afA⟩
 | exit id=>exact ⟨_,a₁,w₁,hq,.pass (x:=.inLoop c) rfl (λ_ _=>.inl (by simp)) HR⟩
 | goto l=>exact ⟨_,a₁,w₁,hq,.pass (x:=.inLoop c) rfl (λ_ _=>.inl (by simp)) HR⟩
 | ret=>exact ⟨_,a₁,w₁,hq,.pass (x:=.inLoop c) rfl (λ_ _=>.inl (by simp)) HR⟩
 | panic ch=>exact ⟨_,a₁,w₁,hq,.pass (x:=.inLoop c) rfl (λ_ _=>.inl (by simp)) HR⟩
 | outgrown=>exact ⟨_,a₁,w₁,hq,.pass (x:=.inLoop c) rfl (λ_ _=>.inl (by simp)) HR⟩
def acr:Ex->Exit
 | .normal=>.normal
 | .exit id=>.exit id
 | .ret=>.ret
def Sv (B:Nat)(w0:World)(n:Nat)(ρ:bE)(h:H)(e:Ex)(a':A)(h':H)(Q:Exit->Act->World->Prop):Prop:=∀ρ' A' w',Step ρ ρ' h h'->oj ρ' n a' A'->aA B w0 ρ' h' w'->Q (acr e) A' w'
abbrev Exec:=DC->A->H->Option (Ex×A×H)
structure B4 (P:Program)(G:Nat)(exec:Exec):Prop where
 code:∀{n:Nat} {c:Code} {a:A} {h:H} {e:Ex} {a':A} {h':H},exec (dy ⟨P,G,n⟩ c) a h=some (e,a',h')->∀{B:Nat} {w0:World} {ρ:bE} {w:World} {x:Act} {Q:Exit->Act->World->Prop},oj ρ n a x->gv ρ G->aA B w0 ρ h w->
  Sv B w0 n ρ h e a' h' Q->c.wp P Q x w
 loop:∀{n:Nat} {c:Code} {a:A} {h:H} {e:Ex} {a':A} {h':H},exec (.loop (dy ⟨P,G,n⟩ c)) a h=some (e,a',h')->∀{B:Nat} {w0:World} {ρ:bE} {w:World} {x:Act} {Q:Exit->Act->World->Prop},oj ρ n a x->gv ρ G->aA B w0 ρ h w->
  Sv B w0 n ρ h e a' h' Q->sk P c Q x w
def Vl (P:Program)(G:Nat)(call:je):Prop:=∀{n id:Nat} {ops:Array Oper} {l:List DO} {m:List Made} {dl:List (DO×Nat×Nat)},fZ ⟨P,G,n⟩ ops ops.toList=some l->jf ⟨P,G,n⟩ ops l = .draw m dl->
 ∀{a a':A} {x:Act} {ρ:bE} {h h':H} {w:World} {B:Nat} {w0:World},oj ρ n a x->gv ρ G->aA B w0 ρ h w->∀{m':List Made},Dw (dz P) dl m a.tmps h=some m'->
 fW (dz P) call dl {tmps:=(makeAll m' a.tmps h).1,defers:=a.defers} (makeAll m' a.tmps h).2 0 [] []=some (a',h')->∀{Q:Exit->Act->World->Prop},Sv B w0 n ρ h .normal a' h' Q->(Code.region id ops true).wp P Q x w
section
variable {P:Program} {G:Nat} {exec:Exec} {call:je}
theorem Sv.trans {B:Nat}{w0:World}{n:Nat}{ρ ρ1:bE}{h h1 h':H}{e:Ex}{a':A}{Q:Exit->Act->World->Prop} (p:Sv B w0 n ρ h e a' h' Q) (s:Step ρ ρ1 h h1):Sv B w0 n ρ1 h1 e a' h' Q:=
 λρ' A' w' s'=>p ρ' A' w' (s.trans s')
theorem XH {C:CE}{c:Operand}{x:X}(hx:aw C c=some x){ρ:bE}{a:A}{A':Act}(hA:oj ρ C.n a A')(hG:gv ρ C.G){b:Bool}(e:x.ev a.tmps = .bool b):A'.eval c = .bool b:=by
 have r:=au hA.tmps hG hx;rw [e] at r;generalize A'.eval c=y at r;cases r;rfl
theorem N1 (hE:B4 P G exec){n:Nat}{c:Code}{a:A}{h:H}{e:Ex}{a':A}{h':H}
  (hr:(ob (exec (dy ⟨P,G,n⟩ c) a h) λr=>match r.1 with
  | .normal=>exec (.loop (dy ⟨P,G,n⟩ c)) r.2.1 r.2.2
  | e=>some (e,r.2.1,r.2.2))=some (e,a',h')) {B:Nat} {w0:World} {ρ:bE} {w:World} {x:Act} {Q:Exit->Act->World->Prop} (hA:oj ρ n a x) (hG:gv ρ G) (R:aA B w0 ρ h w) (hQ:Sv B w0 n ρ h e a' h' Q):sk P c Q x w:=by
 rw [ad] at hr;obtain ⟨⟨e1,a1,h1⟩,h2,h3⟩:=hr;refine sk.of (hE.code h2 hA hG R λρ1 A1 w1 s1 AU R1=>?_);cases e1 with
 | normal=>exact hE.loop h3 AU (hG.mono (s1.ext R)) R1 (hQ.trans s1)
 | exit id=>simp only [Option.some.injEq,Prod.mk.injEq] at h3;obtain ⟨rfl,rfl,rfl⟩:=h3;exact hQ ρ1 A1 w1 s1 AU R1
 | ret=>simp only [Option.some.injEq,Prod.mk.injEq] at h3;obtain ⟨rfl,rfl,rfl⟩:=h3;exact hQ ρ1 A1 w1 s1 AU R1
theorem Sw (hE:B4 P G exec)(gw:nq P G call)(XI:Vl P G call):B4 P G (cJ (dz P) call exec):=by
 refine ⟨λ{n c a h e a' h'} hr {B w0 ρ w x Q} hA hG R hQ=>?_,λ{n c a h e a' h'} hr {B w0 ρ w x Q} hA hG R hQ=>N1 hE hr hA hG R hQ⟩;cases c with
 | skip=>
   simp only [dy,cJ,Option.some.injEq,Prod.mk.injEq] at hr;obtain ⟨rfl,rfl,rfl⟩:=hr;exact wp_skip (hQ ρ x w (Step.refl _ _) hA R)
 | label l=>
   simp only [dy,cJ,Option.some.injEq,Prod.mk.injEq] at hr;obtain ⟨rfl,rfl,rfl⟩:=hr;exact wp_label (hQ ρ x w (Step.refl _ _) hA R)
 | region id ops draw=>
   simp only [dy] at hr;split at hr
   ·rename_i l hl
    cases draw with
    | false=>
      simp only [cJ,ad,Option.some.injEq,Prod.mk.injEq] at hr;obtain ⟨⟨a1,h1⟩,h2,rfl,rfl,rfl⟩:=hr;exact wp_region_list (FE gw hl hA hG R h2 hQ)
    | true=>
      simp only at hr;cases hd:jf ⟨P,G,n⟩ ops l with
      | draw m dl=>
        rw [hd] at hr;simp only [cJ,ad,Option.some.injEq,Prod.mk.injEq] at hr;obtain ⟨m',dY,⟨a1,h1⟩,h2,rfl,rfl,rfl⟩:=hr;exact XI hl hd hA hG R dY h2 hQ
      | stuck=>rw [hd] at hr;simp [cJ] at hr
      | _=>unfold jf at hd;simp only at hd;split at hd<;>cases hd
   ·simp [cJ] at hr
 | seq c1 c2=>
   simp only [dy,cJ,ad] at hr;obtain ⟨⟨e1,a1,h1⟩,h2,h3⟩:=hr;refine wp_seq (hE.code h2 hA hG R λρ1 A1 w1 s1 AU R1=>?_);cases e1 with
   | normal=>exact hE.code h3 AU (hG.mono (s1.ext R)) R1 (hQ.trans s1)
   | exit id=>simp only [Option.some.injEq,Prod.mk.injEq] at h3;obtain ⟨rfl,rfl,rfl⟩:=h3;exact hQ ρ1 A1 w1 s1 AU R1
   | ret=>simp only [Option.some.injEq,Prod.mk.injEq] at h3;obtain ⟨rfl,rfl,rfl⟩:=h3;exact hQ ρ1 A1 w1 s1 AU R1
 | cond c c1 c2=>
   simp only [dy] at hr;split at hr
   ·rename_i y hy
    simp only [cJ] at hr;split at hr
    ·rename_i hb
     exact wp_cond_true (XH (C:=⟨P,G,n⟩) hy hA hG hb) (hE.code hr hA hG R hQ)
    ·rename_i hb
     exact wp_cond_false (XH (C:=⟨P,G,n⟩) hy hA hG hb) (hE.code hr hA hG R hQ)
    ·cases hr
   ·simp [cJ] at hr
 | block id c=>
   simp only [dy,cJ,ad] at hr;obtain ⟨⟨e1,a1,h1⟩,h2,h3⟩:=hr;refine wp_block (hE.code h2 hA hG R λρ1 A1 w1 s1 AU R1=>?_);cases e1 with
   | normal=>simp only [Option.some.injEq,Prod.mk.injEq] at h3;obtain ⟨rfl,rfl,rfl⟩:=h3;exact hQ ρ1 A1 w1 s1 AU R1
   | exit i=>
     simp only [Option.some.injEq,Prod.mk.injEq] at h3;obtain ⟨he,rfl,rfl⟩:=h3;show if i=id then Q .normal A1 w1 else Q (.exit i) A1 w1
     cases hb:Nat.beq i id with
     | true=>
       simp only [hb] at he;subst he;rw [if_pos (Nat.eq_of_beq_eq_true hb)];exact hQ ρ1 A1 w1 s1 AU R1
     | false=>
       simp only [hb] at he;subst he;rw [if_neg (λe=>by rw [e,Nat.beq_refl] at hb;cases hb)];exact hQ ρ1 A1 w1 s1 AU R1
   | ret=>simp only [Option.some.injEq,Prod.mk.injEq] at h3;obtain ⟨rfl,rfl,rfl⟩:=h3;exact hQ ρ1 A1 w1 s1 AU R1
 | loop c=>
   simp only [dy,cJ] at hr;exact (N1 hE hr hA hG R hQ).wp
 | exit id=>
   simp only [dy,cJ,Option.some.injEq,Prod.mk.injEq] at hr;obtain ⟨rfl,rfl,rfl⟩:=hr;exact wp_exit (hQ ρ x w (Step.refl _ _) hA R)
 | ret=>
   simp only [dy,cJ,Option.some.injEq,Prod.mk.injEq] at hr;obtain ⟨rfl,rfl,rfl⟩:=hr;exact wp_ret (hQ ρ x w (Step.refl _ _) hA R)
 | _=>simp [dy,cJ] at hr
theorem J7:∀(f n:Nat),n+1<2 ^ f->km f (n+1)=inc (km f n)
 | 0,n,h=>by simp at h
 | f+1,n,h=>by
   have z:∀g,km g 0=[]:=λg=>by cases g<;>rfl
   by_cases h0:n=0
   ·subst h0
    show (if (0+1==0)=true then [] else ((0+1) % 2==1)::km f ((0+1) / 2))=inc []
    simp [z,inc]
   ·have e1:(n==0)=false:=by simpa using h0
    have e2:(n+1==0)=false:=by simp
    have hn:km (f+1) n=(n % 2==1)::km f (n / 2):=by simp [km,e1]
    have Bj:km (f+1) (n+1)=((n+1) % 2==1)::km f ((n+1) / 2):=by simp [km]
    rw [hn,Bj];rw [Nat.pow_succ] at h;rcases Nat.mod_two_eq_zero_or_one n with h2 | h2
    ·have a1:(n+1) % 2=1:=by omega
     have a2:(n+1) / 2=n / 2:=by omega
     simp [h2,a1,a2,inc]
    ·have a1:(n+1) % 2=0:=by omega
     have a2:(n+1) / 2=n / 2+1:=by omega
     have ih:=J7 f (n / 2) (by omega);simp [h2,a1,a2,inc,ih]
theorem Vm {n:Nat}(h:n+1<2 ^ 64):inc (pathOf n)=pathOf (n+1):=(J7 64 n h).symm
theorem J8:∀(vs:List V) (k:Nat) (t:T V) (j:Nat),k+vs.length<131072->j<131072->bS (fY vs (pathOf k) t) (pathOf j)=if k<=j then (match vs[j - k]? with | some v=>v | none=>bS t (pathOf j)) else bS t (pathOf j)
 | [],k,t,j,hk,hj=>by simp [fY]
 | v::vs,k,t,j,hk,hj=>by
   simp only [List.length_cons] at hk;rw [fY,Vm (by omega),J8 vs (k+1) _ j (by omega) hj]
   by_cases h1:k+1<=j
   ·rw [if_pos h1,if_pos (by omega)]
    have e:j - k=(j - (k+1))+1:=by omega
    rw [e,List.getElem?_cons_succ];rw [jR _ _ (λe'=>by have:=eX (by omega) (by omega) e';omega)]
   ·rw [if_neg h1]
    by_cases h2:k=j
    ·subst h2
     rw [jj,if_pos (Nat.le_refl _)];simp
    ·rw [jR _ _ (λe'=>h2 (eX (by omega) (by omega) e')),if_neg (by omega)]
theorem DJ {ρ:bE}{args:List V}{xs:List Value}(r:cU ρ args xs){n:Nat}(hn:n<=65536)(hl:args.length<=n):iU ρ n (fY args [] .leaf) (xs.toArray++Array.replicate (n - xs.toArray.size) Go.undef):=by
 have hlen:=r.length;refine ⟨by simp;omega,hn,λt ht=>?_⟩;have e0:([]:Lb)=pathOf 0:=rfl;have:=J8 args 0 .leaf t (by omega) (by omega);rw [<-e0] at this;rw [this,if_pos (Nat.zero_le _),Nat.sub_zero];have anj:bS (T.leaf:T V) (pathOf t)=undef:=by unfold bS;rw [T.kz]
 cases h:args[t]? with
 | some v=>
   obtain ⟨y,hy,ry⟩:=r.get h;have bA:=(List.getElem?_eq_some_iff.1 hy).1;have e:(xs.toArray++Array.replicate (n - xs.toArray.size) Go.undef).getD t Go.undef=y:=by
    rw [Array.getD_eq_getD_getElem?,Array.getElem?_append_left (by simpa using bA)];simp [hy]
   rw [e];exact ry
 | none=>
   have jb:args.length<=t:=List.getElem?_eq_none_iff.1 h;have e:(xs.toArray++Array.replicate (n - xs.toArray.size) Go.undef).getD t Go.undef=Go.undef:=by
    rw [Array.getD_eq_getD_getElem?,Array.getElem?_append_right (by simp;omega)];simp [Array.getElem?_replicate];split<;>rfl
   rw [e];simp only [anj];exact .tuple .nil
def PJ (tmps:Array Value):ResultVar->Sem Value
 | .tmp t=>pure (tmps.getD t Go.undef)
 | .cell a t=>do loadVar t (<-asAddr (tmps.getD a Go.undef))
theorem Zd {C:CE}{r:ResultVar}{d:YU}(hd:Iz C r=some d){ρ:bE}{tm:T V}{tmps:Array Value}(hT:iU ρ C.n tm tmps){B:Nat}{w0:World}{h:H}{w:World}(R:aA B w0 ρ h w){v:V}(hv:resultD h tm d=some v):
  ∃x,RV ρ v x/\(PJ tmps r).run C.P w = .ok x w:=by
 cases r with
 | tmp t=>
   simp only [Iz,ag,Option.some.injEq] at hd;obtain ⟨h1,rfl⟩:=hd;simp only [resultD,Option.some.injEq] at hv;subst hv;exact ⟨_,hT.get t (by simpa using h1),rfl⟩
 | cell a t=>
   simp only [Iz,ag,ad,Option.some.injEq] at hd;obtain ⟨h1,rd,uI,rfl⟩:=hd;simp only [resultD] at hv;split at hv
   ·rename_i l off e
    have ra:=hT.get a (by simpa using h1);rw [e] at ra;obtain ⟨b,hb,hy⟩:=dP ra;simp only [Q.ask] at hv;split at hv
    ·rename_i vs el fz own hg
     obtain ⟨z,z1,z2⟩:=XE uI (R.obj l b _ hb hg) hv;refine ⟨z,z1,?_⟩;unfold PJ;simp only [hy,asAddr];simpa using z2
    ·cases hv
   ·cases hv
theorem J9 {C:CE}{ρ:bE}{tm:T V}{tmps:Array Value}(hT:iU ρ C.n tm tmps){B:Nat}{w0:World}{h:H}{w:World}(R:aA B w0 ρ h w):∀{rs:List ResultVar} {ds:List YU},qf C rs=some ds->∀{vs:List V},dK h tm ds=some vs->
  ∃xs:List Value,cU ρ vs xs/\(rs.mapM (PJ tmps)).run C.P w = .ok xs w
 | [],ds,hd,vs,hv=>by
   simp only [qf,Option.some.injEq] at hd;subst hd;simp only [dK,Option.some.injEq] at hv;subst hv;exact ⟨[],.nil,rfl⟩
 | r::rs,ds,hd,vs,hv=>by
   simp only [qf,ad,Option.some.injEq] at hd;obtain ⟨d,h1,ds',h2,rfl⟩:=hd;simp only [dK,ad,Option.some.injEq] at hv;obtain ⟨v,h3,vs',h4,rfl⟩:=hv;obtain ⟨x,x1,x2⟩:=Zd h1 hT R h3;obtain ⟨xs,y1,y2⟩:=J9 hT R h2 h4;refine ⟨x::xs,.cons x1 y1,?_⟩;rw [List.mapM_cons];simp only [Sem.run_bind,x2,Result.andThen_ok,y2,Sem.run_pure]
theorem afB {ρ:bE}{vs:List V}{xs:List Value}(r:cU ρ vs xs):RV ρ (rF vs) (if h:(⟨xs⟩:Array Value).size=1 then (⟨xs⟩:Array Value)[0] else .tuple ⟨xs⟩):=by
 cases r with
 | nil=>exact .tuple .nil
 | cons h hs=>
   cases hs with
   | nil=>exact h
   | cons h2 yZ=>exact .tuple (.cons h (.cons h2 yZ))
theorem uN {C:CE}{fn:Func}{ds:List YU}(hd:qf C fn.results.toList=some ds){ρ:bE}{tm:T V}{tmps:Array Value}(hT:iU ρ C.n tm tmps){B:Nat}{w0:World}{h:H}{w:World}(R:aA B w0 ρ h w){vs:List V}(hv:dK h tm ds=some vs):
  ∃x,RV ρ (rF vs) x/\(results fn tmps).run C.P w = .ok x w:=by
 obtain ⟨xs,x1,x2⟩:=J9 hT R hd hv;refine ⟨_,afB x1,?_⟩;have e:results fn tmps=(do let vs<-fn.results.mapM (PJ tmps);pure (if h:vs.size=1 then vs[0] else .tuple vs)):=rfl;rw [e,Sem.run_bind,JV _ _ _ x2]
 rfl
end
end Go.Dx
namespace Go.Dx
open Go Go.RowKit
def Sx (P:Program)(f:FuncId)(xs:List Value)(w:World)(R:World->Prop):Prop:=
 (callFunc f ⟨xs⟩).run P w = .ok (.enter f ⟨xs⟩) w/\CallsD P f ⟨xs⟩ .returning w λe u' w'=>∃v,e = .returned v/\u' = .returning/\R w'
def B5 (P:Program)(G:Nat)(late:FuncId->List V->H->Option H):Prop:=∀{f:FuncId} {args:List V} {h h':H},late f args h=some h'->∀{B:Nat} {w0:World} {ρ:bE} {w:World} {xs:List Value},aA B w0 ρ h w->gv ρ G->cU ρ args xs->
 Sx P f xs w λw'=>∃ρ',Step ρ ρ' h h'/\aA B w0 ρ' h' w'
def Sy (P:Program)(G:Nat)(fns:T bC):Prop:=∀f fn,Pf fns f=some fn->∃func,P.funcs[f]? =some func/\qg P G func=some fn
section
variable {P:Program} {G:Nat} {exec:Exec} {call:je} {vQ:je} {late iF:FuncId->List V->H->Option H} {fns:T bC}
structure acs (P:Program)(G:Nat)(func:Func)(fn:bC)(c:Code):Prop where
 body:func.body=some c
 small:func.ntmps<=65536
 name:(func.name == "runtime.NumGoroutine")=false
 ntmps:fn.ntmps=func.ntmps
 code:fn.code=dy ⟨P,G,func.ntmps⟩ c
 results:qf ⟨P,G,func.ntmps⟩ func.results.toList=some fn.results
theorem nt {func:Func}{fn:bC}(h:qg P G func=some fn):∃c,acs P G func fn c:=by
 unfold qg at h;simp only [ag,ad,Option.some.injEq,Bool.and_eq_true,Bool.not_eq_true'] at h;obtain ⟨⟨⟨h1,h2⟩,h3⟩,c,h4,rs,h5,rfl⟩:=h;exact ⟨c,h4,Nat.le_of_ble_eq_true h1,h3,rfl,rfl,h5⟩
theorem ie {func:Func}{fn:bC}{c:Code}(k:acs P G func fn c){f:FuncId}(hf:P.funcs[f]? =some func)(xs:Array Value)(w:World):(callFunc f xs).run P w = .ok (.enter f xs) w:=by
 have hn:¬func.name = "runtime.NumGoroutine":=λe=>by have:=k.name;rw [e] at this;simp at this
 unfold callFunc;simp [hf,hn,k.body]
theorem Sz (hE:B4 P G exec){func:Func}{fn:bC}{c:Code}(k:acs P G func fn c){args:List V}{h:H}{e:Ex}{a':A}{h':H}(hr:mj exec fn args h=some (e,a',h')){B:Nat}{w0:World}{ρ:bE}{w:World}{xs:List Value}
  (R:aA B w0 ρ h w) (hG:gv ρ G) (hx:cU ρ args xs) {Q:Exit->Act->World->Prop} (hQ:Sv B w0 func.ntmps ρ h e a' h' Q):c.wp P Q {tmps:=(⟨xs⟩:Array Value)++Array.replicate (func.ntmps - (⟨xs⟩:Array Value).size) Go.undef,defers:=[]} w:=by
 unfold mj at hr;rw [ag] at hr;obtain ⟨h1,h2⟩:=hr;have h1:=Nat.le_of_ble_eq_true h1;rw [k.ntmps] at h1;rw [k.code] at h2;exact hE.code h2 ⟨DJ hx k.small h1,.nil⟩ hG R hQ
theorem afC (hE:B4 P G exec)(hd:B5 P G iF)(PL:Sy P G fns):B5 P G (RX fns iF exec):=by
 intro f args h h' hr B w0 ρ w xs R hG hx;unfold RX at hr;split at hr
 ·rename_i DG hdo
  cases hr;exact hd hdo R hG hx
 ·simp only [ad] at hr
  obtain ⟨fn,qW,⟨e,a',h1⟩,hen,hr⟩:=hr;obtain ⟨func,hf,hc⟩:=PL f fn qW;obtain ⟨c,k⟩:=nt hc;refine ⟨ie k hf _ w,?_⟩;have fin:a'.defers=[]/\(∃vs,dK h1 a'.tmps fn.results=some vs)/\h1=h'/\(e = .normal\/e = .ret):=by
   split at hr
   ·cases hr
   ·rename_i PN dj
    simp only [ad,Option.some.injEq] at hr;obtain ⟨vs,hvs,rfl⟩:=hr;refine ⟨PN,⟨vs,hvs⟩,rfl,?_⟩;cases e with
    | normal=>exact .inl rfl
    | ret=>exact .inr rfl
    | exit id=>exact absurd rfl (dj id)
   ·cases hr
  obtain ⟨f1,⟨vs,f2⟩,rfl,f4⟩:=fin;have Q:=callsD_of_wp (P:=P) (f:=f) (fn:=func) (c:=c) (args:=⟨xs⟩) (u:=.returning) (w:=w) (R:=λe w'=>∃v,e = .returned v/\∃ρ',Step ρ ρ' h h1/\aA B w0 ρ' h1 w') hf k.body
   (Sz hE k hen R hG hx λρ' A' w' s hA R'=>by
    have PI:A'.defers=[]:=by
     have:=hA.defers;rw [f1] at this;generalize A'.defers=es at this;cases this;rfl
    obtain ⟨v,v1,v2⟩:=uN (C:=⟨P,G,func.ntmps⟩) k.results hA.tmps R' f2;rcases f4 with rfl | rfl<;>exact ⟨PI,v,v2,v,rfl,ρ',s,R'⟩)
  exact Q.mono λe u' w' ⟨hu,v,hv,ρ',s,R'⟩=>⟨v,hv,hu,ρ',s,R'⟩
theorem SB (hl:B5 P G late){func:Func}{fn:bC}{c:Code}(k:acs P G func fn c){B:Nat}{w0:World}{tm:T V}{tmps:Array Value}{vs:List V}{h':H}{Rt:Ending->World->Prop}:
  ∀{ds:List (FuncId×List V)} {es:List Deferred} {ρ:bE} {h:H} {w:World},xE late ds h=some h'->vV ρ ds es->iU ρ func.ntmps tm tmps->gv ρ G->aA B w0 ρ h w->dK h' tm fn.results=some vs->
  (∀ρ' w' x,Step ρ ρ' h h'->RV ρ' (rF vs) x->aA B w0 ρ' h' w'->Rt (.returned x) w')->Leaves P func tmps Rt es .returning w
 | [],es,ρ,h,w,hr,hd,hT,hG,R,hv,hq=>by
   cases hd;simp only [xE,Option.some.injEq] at hr;subst hr;obtain ⟨x,x1,x2⟩:=uN (C:=⟨P,G,func.ntmps⟩) k.results hT R hv;exact ⟨x,x2,hq ρ w x (Step.refl _ _) x1 R⟩
 | (f,args)::ds,es,ρ,h,w,hr,hd,hT,hG,R,hv,hq=>by
   cases hd with
   | @cons _ e _ se h1 h2=>
     obtain ⟨xs,cap,t1,t2,t3⟩:=h1;simp only [xE,ad] at hr;obtain ⟨h1',xv,hr⟩:=hr;obtain ⟨g1,g2⟩:=hl xv R hG t3;refine ⟨by simp,.func f,⟨cap⟩,f,⟨xs++cap⟩,t1,?_,?_⟩
     ·rw [t1,t2]
      show (callFunc f ((⟨xs⟩:Array Value)++⟨cap⟩)).run P w=_
      have:((⟨xs⟩:Array Value)++⟨cap⟩)=⟨xs++cap⟩:=by simp
      rw [this];exact g1
     ·refine g2.mono λe' u' w' ⟨v,Me,hu,ρ',s,R'⟩=>?_
      subst Me;subst hu;have E:=s.ext R;exact SB hl k hr (h2.mono E) (hT.mono E) (hG.mono E) R' hv λMr w'' x s'=>hq Mr w'' x (s.trans s')
theorem ID (hE:B4 P G exec)(SC:nq P G vQ)(hd:B5 P G iF)(PL:Sy P G fns):nq P G (RZ fns vQ iF exec):=by
 intro f args h v h' hr B w0 ρ w xs R hG hx;unfold RZ at hr;split at hr
 ·rename_i r ho
  cases hr;exact SC ho R hG hx
 ·simp only [ad] at hr
  obtain ⟨fn,qW,⟨e,a',h1⟩,hen,hr⟩:=hr;obtain ⟨func,hf,hc⟩:=PL f fn qW;obtain ⟨c,k⟩:=nt hc;have fin:(∃vs,xE (RX fns iF exec) a'.defers h1=some h'/\dK h' a'.tmps fn.results=some vs/\v=rF vs)/\(e = .normal\/e = .ret):=by
   split at hr
   ·cases hr
   ·rename_i dj
    simp only [ad,Option.some.injEq,Prod.mk.injEq] at hr;obtain ⟨h2,hl,vs,hvs,rfl,rfl⟩:=hr;refine ⟨⟨vs,hl,hvs,rfl⟩,?_⟩;cases e with
    | normal=>exact .inl rfl
    | ret=>exact .inr rfl
    | exit id=>exact absurd rfl (dj id)
  obtain ⟨⟨vs,f1,f2,rfl⟩,f4⟩:=fin;refine .inr ⟨ie k hf _ w,?_⟩;refine calls_of_wp_defers (P:=P) (f:=f) (fn:=func) (c:=c) hf k.body (Sz hE k hen R hG hx λρ' A' w' s hA R'=>?_);have L:Leaves P func A'.tmps (λe w'=>∃x,e = .returned x/\∃ρ',Step ρ ρ' h h'/\RV ρ' (rF vs) x/\aA B w0 ρ' h' w') A'.defers .returning w':=
   SB (afC hE hd PL) k f1 hA.defers hA.tmps (hG.mono (s.ext R)) R' f2 λMr w'' x s' Df R''=>⟨x,rfl,Mr,s.trans s',Df,R''⟩
  rcases f4 with rfl | rfl<;>exact L
theorem XJ (XI:∀{call:je},nq P G call->Vl P G call) (SC:nq P G vQ) (hd:B5 P G iF) (PL:Sy P G fns):∀n,B4 P G (abV (dz P) fns vQ iF n).exec/\nq P G (abV (dz P) fns vQ iF n).call
 | 0=>by
   refine ⟨⟨?_,?_⟩,?_⟩
   ·intro n c a h e a' h' hr;cases hr
   ·intro n c a h e a' h' hr;cases hr
   ·intro f args h v h' hr;cases hr
 | n+1=>by
   obtain ⟨h1,h2⟩:=XJ XI SC hd PL n;exact ⟨Sw h1 h2 (XI h2),ID h1 SC hd PL⟩
end
end Go.Dx
namespace Go.Dx
open Go Go.RowKit
def cS (E:Env)(tm tm':T V):D->Prop
 | .Rm x=>x.ev tm=x.ev tm'
 | .p q=>q.eval E tm=q.eval E tm'
 | .r q=>q.oO tm=q.oO tm'
 | .e q=>∀h,q.run tm h=q.run tm' h
 | .c q=>q.args E tm=q.args E tm'
 | .defer q=>q.args E tm=q.args E tm'
 | .stuck=>True
section
variable {C:CE} {tm tm':T V} {E:Env}
def vW (C:CE)(tm tm':T V)(y:Operand):Prop:=∀x,aw C y=some x->x.ev tm=x.ev tm'
theorem s6 {y:Operand}(h:∀t,y = .tmp t->t<C.n->bS tm (pathOf t)=bS tm' (pathOf t)):vW C tm tm' y:=by
 intro x hx;cases y with
 | tmp t=>
   simp only [aw,ag,Option.some.injEq] at hx;obtain ⟨h1,rfl⟩:=hx;exact h t rfl (by simpa using h1)
 | const v=>simp only [aw,ad,Option.some.injEq] at hx;obtain ⟨d,_,rfl⟩:=hx;rfl
 | global g=>simp only [aw,ag,Option.some.injEq] at hx;obtain ⟨_,rfl⟩:=hx;rfl
 | func f=>simp only [aw,Option.some.injEq] at hx;subst hx;rfl
theorem s7:∀{ys:List Operand} {xs:List X},cD C ys=some xs->(∀y∈ys,vW C tm tm' y)->UX tm xs=UX tm' xs
 | [],xs,h,_=>by simp only [cD,Option.some.injEq] at h;subst h;rfl
 | y::ys,xs,h,H=>by
   simp only [cD,ad,Option.some.injEq] at h;obtain ⟨x,hx,r,hr,rfl⟩:=h;simp only [UX,H y (List.mem_cons_self ..) x hx,s7 hr λz hz=>H z (List.mem_cons_of_mem _ hz)]
theorem IE {ys:List Operand}{x:X}(h:cD C ys=some [x])(H:∀y∈ys,vW C tm tm' y):x.ev tm=x.ev tm':=by
 have:=s7 h H;simp only [UX,List.cons.injEq,and_true] at this;exact this
theorem zp {ys:List Operand}{x u:X}(h:cD C ys=some [x,u])(H:∀y∈ys,vW C tm tm' y):x.ev tm=x.ev tm'/\u.ev tm=u.ev tm':=by
 have:=s7 h H;simp only [UX,List.cons.injEq,and_true] at this;exact this
theorem J' {y:Option Operand}{x:Option X}(h:gJ C y=some x)(H:∀z,y=some z->vW C tm tm' z):Rn tm x=Rn tm' x:=by
 cases y with
 | none=>simp only [gJ,Option.some.injEq] at h;subst h;rfl
 | some y=>
   simp only [gJ,ad,Option.some.injEq] at h;obtain ⟨d,hd,rfl⟩:=h;simp only [Rn,H y rfl d hd]
theorem FF {place:Nat->Option (Nat×Nat)}:∀{ps:List (Nat×Operand)} {l:List (Nat×Nat×X)},fB C place ps=some l->(∀p∈ps,vW C tm tm' p.2)->∀cells,nY tm l cells=nY tm' l cells
 | [],l,h,_,cells=>by simp only [fB,Option.some.injEq] at h;subst h;rfl
 | (i,y)::ps,l,h,H,cells=>by
   simp only [fB,ad,Option.some.injEq] at h;obtain ⟨p,hp,d,hd,ds,PI,rfl⟩:=h;have e:=H (i,y) (List.mem_cons_self ..) d hd;simp only [nY,e]
   congr 1
   cases aX cells p.1 (d.ev tm').cells with
   | none=>rfl
   | some c=>exact FF PI (λq hq=>H q (List.mem_cons_of_mem _ hq)) c
theorem xQ {size:Nat}:∀{ps:List (Nat×Operand)} {l:List (Nat×X)},eF C ps=some l->(∀p∈ps,vW C tm tm' p.2)->∀cells,dV tm size l cells=dV tm' size l cells
 | [],l,h,_,cells=>by simp only [eF,Option.some.injEq] at h;subst h;rfl
 | (i,y)::ps,l,h,H,cells=>by
   simp only [eF,ad,Option.some.injEq] at h;obtain ⟨d,hd,ds,PI,rfl⟩:=h;have e:=H (i,y) (List.mem_cons_self ..) d hd;simp only [dV,e]
   congr 1
   cases aX cells (i*size) (d.ev tm').cells with
   | none=>rfl
   | some c=>exact xQ PI (λq hq=>H q (List.mem_cons_of_mem _ hq)) c
theorem PO {s t:TypeId}{x:X}{d:D}(e:x.ev tm=x.ev tm')(h:ib C s t x=some d):cS E tm tm' d:=by
 unfold ib at h;split at h
 ·cases h;simp only [cS,PD.eval,e]
 ·cases h;simp only [cS,PD.eval,e]
 ·cases h;simp only [cS,PD.eval,e]
 ·split at h
  ·cases h;intro h;simp only [ED.run,e]
  ·cases h
 ·split at h
  ·simp only [ag,Option.some.injEq] at h
   obtain ⟨_,rfl⟩:=h;intro h;simp only [ED.run,e]
  ·cases h
 ·split at h
  ·cases h;simp only [cS,RD.oO,e]
  ·cases h
 ·split at h
  ·cases h;simp only [cS,RD.oO,e]
  ·cases h
 ·split at h
  ·cases h;simp only [cS,RD.oO,e]
  ·cases h
 ·cases h
theorem PQ {b:Builtin}{ys:List Operand}{tl:List TypeId}{xs:List X}{d:D}(hx:cD C ys=some xs)(H:∀y∈ys,vW C tm tm' y) (h:ia C b tl xs=some d):cS E tm tm' d:=by
 unfold ia at h;split at h
 ·have e:=IE hx H
  split at h
  ·cases h;simp only [cS,PD.eval,e]
  ·cases h;simp only [cS,PD.eval,e]
  ·cases h;simp only [cS,PD.eval]
  ·cases h;simp only [cS,RD.oO,e]
  ·cases h
 ·have e:=IE hx H
  split at h
  ·cases h;simp only [cS,PD.eval,e]
  ·cases h
 ·obtain ⟨e1,e2⟩:=zp hx H;cases h;simp only [cS,PD.eval,e1,e2]
 ·obtain ⟨e1,e2⟩:=zp hx H;cases h;simp only [cS,PD.eval,e1,e2]
 ·have e:=IE hx H;cases h;simp only [cS,PD.eval,e]
 ·obtain ⟨e1,e2⟩:=zp hx H
  split at h
  ·split at h
   ·cases h;intro h;simp only [ED.run,e1,e2]
   ·cases h
  ·cases h
 ·obtain ⟨e1,e2⟩:=zp hx H
  split at h
  ·simp only [ad,ag] at h
   obtain ⟨_,_,_,_,_,_,_,h⟩:=h;split at h
   ·cases h;intro h;simp only [ED.run,e1,e2]
   ·cases h;intro h;simp only [ED.run,e1,e2]
   ·cases h;intro h;simp only [ED.run,e1,e2]
   ·cases h
  ·cases h
 ·obtain ⟨e1,e2⟩:=zp hx H
  split at h
  ·simp only [ad,Option.some.injEq] at h
   obtain ⟨size,hs,rfl⟩:=h;intro h;simp only [ED.run,e1,e2]
  ·cases h
 ·have e:=IE hx H
  split at h
  ·cases h;intro h;simp only [ED.run,e]
  ·cases h
 ·obtain ⟨e1,e2⟩:=zp hx H
  split at h
  ·cases h;intro h;simp only [ED.run,e1,e2]
  ·cases h
 ·cases h
theorem N2 {c:Call}{q:CD}(h:nk C c=some q)(H:∀y∈c.operands,vW C tm tm' y):q.args E tm=q.args E tm':=by
 simp only [nk,ad] at h;obtain ⟨aGn,has,h⟩:=h;have e:=s7 has λy hy=>H y (by simp only [Call.operands,Array.mem_append];right;simpa using hy);cases hc:c.callee with
 | value fx=>
   have hm:fx∈c.operands:=by simp [Call.operands,hc]
   have key:∀{x:X},aw C fx=some x->q = .value x aGn->q.args E tm=q.args E tm':=λ{x} hx hqe=>by
    subst hqe;simp only [CD.args,H _ hm x hx,e]
   cases fx with
   | func g=>simp only [hc,Option.some.injEq] at h;subst h;simp only [CD.args,e]
   | tmp t=>simp only [hc,ad,Option.some.injEq] at h;obtain ⟨x,hx,h⟩:=h;exact key hx h.symm
   | const v=>simp only [hc,ad,Option.some.injEq] at h;obtain ⟨x,hx,h⟩:=h;exact key hx h.symm
   | global g=>simp only [hc,ad,Option.some.injEq] at h;obtain ⟨x,hx,h⟩:=h;exact key hx h.symm
 | invoke r name=>
   have hm:r∈c.operands:=by simp [Call.operands,hc]
   simp only [hc,ad,Option.some.injEq] at h;obtain ⟨x,hx,rfl⟩:=h;simp only [CD.args,H _ hm x hx,e]
 | builtin b=>simp only [hc] at h;cases h
theorem IF {o:Op}{d:D}(h:aj C o=some d)(H:∀y∈o.operands,vW C tm tm' y):cS E tm tm' d:=by
 cases o with
 | move y=>simp only [aj,ad,Option.some.injEq] at h;obtain ⟨x,hx,rfl⟩:=h;exact H y (by simp [Op.operands]) x hx
 | assign y=>simp only [aj,ad,Option.some.injEq] at h;obtain ⟨x,hx,rfl⟩:=h;exact H y (by simp [Op.operands]) x hx
 | pick c a b=>
   simp only [aj,ad,Option.some.injEq] at h;obtain ⟨x,hx,y,hy,z,hz,rfl⟩:=h;simp only [cS,PD.eval,H c (by simp [Op.operands]) x hx,H a (by simp [Op.operands]) y hy,H b (by simp [Op.operands]) z hz]
 | build t ps=>
   have H':∀p∈ps.toList,vW C tm tm' p.2:=λp hp=>H p.2 (by simp only [Op.operands,List.mem_toArray,List.mem_map];exact ⟨p,hp,rfl⟩);simp only [aj,ad] at h;obtain ⟨z,hz,h⟩:=h;split at h
   ·simp only [ad,Option.some.injEq] at h
    obtain ⟨pl,hp,l,hl,rfl⟩:=h;simp only [cS,PD.eval,FF hl H']
   ·simp only [ad,Option.some.injEq] at h
    obtain ⟨n,hn,l,hl,rfl⟩:=h;simp only [cS,PD.eval,FF hl H']
   ·cases h
 | nilCheck y=>simp only [aj,ad,Option.some.injEq] at h;obtain ⟨x,hx,rfl⟩:=h;simp only [cS,PD.eval,H y (by simp [Op.operands]) x hx]
 | binOp op t y z u=>simp only [aj,ad,Option.some.injEq] at h;obtain ⟨x,hx,x2,lH,rfl⟩:=h;simp only [cS,PD.eval,H y (by simp [Op.operands]) x hx,H z (by simp [Op.operands]) x2 lH]
 | unOp op t y=>simp only [aj,ad,Option.some.injEq] at h;obtain ⟨x,hx,rfl⟩:=h;simp only [cS,PD.eval,H y (by simp [Op.operands]) x hx]
 | convert s t y=>simp only [aj,ad] at h;obtain ⟨x,hx,h⟩:=h;exact PO (H y (by simp [Op.operands]) x hx) h
 | makeInterface t y=>
   simp only [aj] at h;split at h
   ·cases h
   ·simp only [ad,Option.some.injEq] at h
    obtain ⟨x,hx,rfl⟩:=h;simp only [cS,PD.eval,H y (by simp [Op.operands]) x hx]
   ·cases h
 | makeFunc f a b=>
   cases f with
   | func f=>
     simp only [aj,ad,Option.some.injEq] at h;obtain ⟨x,hx,x2,lH,rfl⟩:=h;have e1:=s7 hx λy hy=>H y (by simp only [Op.operands,Array.mem_append];left;simpa using hy);have e2:=s7 lH λy hy=>H y (by simp only [Op.operands,Array.mem_append];right;simpa using hy);simp only [cS,PD.eval,e1,e2]
   | _=>simp [aj] at h
 | slice t y lo hi mx=>
   simp only [aj,ad] at h;obtain ⟨x,hx,l,hl,hh,HP,m,hm,h⟩:=h;have e:=H y (by simp [Op.operands]) x hx;have e1:=J' hl λz hz=>H z (by subst hz;simp [Op.operands]);have e2:=J' HP λz hz=>H z (by subst hz;simp [Op.operands]);have e3:=J' hm λz hz=>H z (by subst hz;simp [Op.operands]);split at h
   ·split at h
    ·cases h;simp only [cS,PD.eval,e,e1,e2]
    ·cases h
   ·simp only [ad,ag,Option.some.injEq] at h
    obtain ⟨n,hn,hd,rfl⟩:=h;simp only [cS,PD.eval,e,e1,e2,e3]
   ·simp only [ad,ag,Option.some.injEq] at h
    obtain ⟨size,hn,hd,rfl⟩:=h;simp only [cS,PD.eval,e,e1,e2,e3]
   ·cases h
 | fieldAddr t y f=>
   simp only [aj] at h;split at h
   ·simp only [ad,ag,Option.some.injEq] at h
    obtain ⟨fd,hf,n,hn,h0,x,hx,rfl⟩:=h;simp only [cS,PD.eval,H y (by simp [Op.operands]) x hx]
   ·cases h
 | field t y f=>
   simp only [aj] at h;split at h
   ·simp only [ad,Option.some.injEq] at h
    obtain ⟨fd,hf,rd,uI,x,hx,rfl⟩:=h;simp only [cS,PD.eval,H y (by simp [Op.operands]) x hx]
   ·cases h
 | indexAddr t y i=>
   simp only [aj,ad] at h;obtain ⟨x,hx,j,hj,h⟩:=h;have e1:=H y (by simp [Op.operands]) x hx;have e2:=H i (by simp [Op.operands]) j hj;split at h
   ·simp only [ad,Option.some.injEq] at h
    obtain ⟨n,hn,rfl⟩:=h;simp only [cS,PD.eval,e1,e2]
   ·simp only [ad,Option.some.injEq] at h
    obtain ⟨size,hn,rfl⟩:=h;simp only [cS,PD.eval,e1,e2]
   ·cases h
 | index t y i=>
   simp only [aj,ad] at h;obtain ⟨x,hx,j,hj,h⟩:=h;have e1:=H y (by simp [Op.operands]) x hx;have e2:=H i (by simp [Op.operands]) j hj;split at h
   ·cases h;simp only [cS,PD.eval,e1,e2]
   ·simp only [ad,Option.some.injEq] at h
    obtain ⟨size,hn,rd,uI,rfl⟩:=h;simp only [cS,PD.eval,e1,e2]
   ·cases h
 | typeAssert y xt t ok=>
   simp only [aj,ad] at h;obtain ⟨x,hx,z,hz,h⟩:=h;have e:=H y (by simp [Op.operands]) x hx;split at h
   ·cases h;simp only [cS,PD.eval,e]
   ·cases h;simp only [cS,PD.eval,e]
   ·cases h
 | entry y=>simp only [aj,ad,Option.some.injEq] at h;obtain ⟨x,hx,rfl⟩:=h;simp only [cS,RD.oO,H y (by simp [Op.operands]) x hx]
 | extract y i=>simp only [aj,ad,Option.some.injEq] at h;obtain ⟨x,hx,rfl⟩:=h;simp only [cS,PD.eval,H y (by simp [Op.operands]) x hx]
 | load t y=>simp only [aj,ad,Option.some.injEq] at h;obtain ⟨rd,uI,x,hx,rfl⟩:=h;simp only [cS,RD.oO,H y (by simp [Op.operands]) x hx]
 | lookup t m k ok=>
   simp only [aj,ad] at h;obtain ⟨x,hx,j,hj,h⟩:=h;split at h
   ·simp only [ad,Option.some.injEq] at h
    obtain ⟨z,hz,rfl⟩:=h;simp only [cS,RD.oO,H m (by simp [Op.operands]) x hx,H k (by simp [Op.operands]) j hj]
   ·cases h
 | alloc t=>simp only [aj,ad,Option.some.injEq] at h;obtain ⟨z,hz,rfl⟩:=h;intro h;rfl
 | box t y=>simp only [aj,ad,Option.some.injEq] at h;obtain ⟨x,hx,rfl⟩:=h;intro h;simp only [ED.run,H y (by simp [Op.operands]) x hx]
 | buildSlice t n ps=>
   have H':∀p∈ps.toList,vW C tm tm' p.2:=λp hp=>H p.2 (by simp only [Op.operands,List.mem_toArray,List.mem_map];exact ⟨p,hp,rfl⟩);simp only [aj] at h;split at h
   ·simp only [ad,ag,Option.some.injEq] at h
    obtain ⟨size,hs,z,hz,_,l,hl,rfl⟩:=h;intro h;cases hc:eW size l (aG z.cells n) with
    | some cs=>rfl
    | none=>simp only [ED.run,xQ hl H']
   ·cases h
 | store t a y=>simp only [aj,ad,Option.some.injEq] at h;obtain ⟨n,hn,x,hx,x2,lH,rfl⟩:=h;intro h;simp only [ED.run,H a (by simp [Op.operands]) x hx,H y (by simp [Op.operands]) x2 lH]
 | makeMap t r=>
   cases r with
   | none=>simp only [aj,Option.some.injEq] at h;subst h;intro h;rfl
   | some r=>simp [aj] at h
 | makeSlice t n c=>
   simp only [aj] at h;split at h
   ·simp only [ad,Option.some.injEq] at h
    obtain ⟨size,hs,bytes,hb,z,hz,x,hx,x2,lH,rfl⟩:=h;intro h;simp only [ED.run,H n (by simp [Op.operands]) x hx,H c (by simp [Op.operands]) x2 lH]
   ·cases h
 | mapUpdate t m k x=>
   simp only [aj] at h;split at h
   ·simp only [ad,Option.some.injEq] at h
    obtain ⟨m',hm,k',hk,x',hx,rfl⟩:=h;intro h;simp only [ED.run,H m (by simp [Op.operands]) m' hm,H k (by simp [Op.operands]) k' hk,H x (by simp [Op.operands]) x' hx]
   ·cases h
 | insert t m k x=>
   simp only [aj] at h;split at h
   ·simp only [ad,Option.some.injEq] at h
    obtain ⟨m',hm,k',hk,x',hx,rfl⟩:=h;intro h;simp only [ED.run,H m (by simp [Op.operands]) m' hm,H k (by simp [Op.operands]) k' hk,H x (by simp [Op.operands]) x' hx]
   ·cases h
 | mapEntry t m k=>
   simp only [aj] at h;split at h
   ·simp only [ad,Option.some.injEq] at h
    obtain ⟨z,hz,m',hm,k',hk,rfl⟩:=h;intro h;simp only [ED.run,H m (by simp [Op.operands]) m' hm,H k (by simp [Op.operands]) k' hk]
   ·cases h
 | entryStore t m s x=>
   simp only [aj,ad,Option.some.injEq] at h;obtain ⟨m',hm,s',hs,x',hx,rfl⟩:=h;intro h;simp only [ED.run,H m (by simp [Op.operands]) m' hm,H s (by simp [Op.operands]) s' hs,H x (by simp [Op.operands]) x' hx]
 | range t y=>
   simp only [aj,ad] at h;obtain ⟨x,hx,h⟩:=h;have e:=H y (by simp [Op.operands]) x hx;split at h
   ·cases h;intro h;simp only [ED.run,e]
   ·cases h;intro h;simp only [ED.run,e]
   ·cases h
 | next y s=>
   cases s with
   | false=>simp only [aj,ad,Option.some.injEq] at h;obtain ⟨x,hx,rfl⟩:=h;intro h;simp only [ED.run,H y (by simp [Op.operands]) x hx]
   | true=>simp [aj] at h
 | call c=>
   simp only [aj] at h;split at h
   ·rename_i b hc
    simp only [ad] at h;obtain ⟨xs,PH,h⟩:=h;exact PQ PH (λy hy=>H y (by simp only [Op.operands,Call.operands,Array.mem_append];right;simpa using hy)) h
   ·simp only [ad,Option.some.injEq] at h
    obtain ⟨q,hq,rfl⟩:=h;exact N2 hq H
 | defer c=>
   simp only [aj] at h;split at h
   ·simp only [ad,Option.some.injEq] at h
    obtain ⟨q,hq,rfl⟩:=h;exact N2 hq H
   ·cases h
 | _=>simp [aj] at h
end
end Go.Dx
