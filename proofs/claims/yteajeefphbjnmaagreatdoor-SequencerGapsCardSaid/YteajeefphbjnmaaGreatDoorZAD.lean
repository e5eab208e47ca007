/-
  The sequencer's laws. Part ZAD of the proof: The deterministic machine over labels against the model: comparisons.
-/
import Derived.Test.YteajeefphbjnmaaGreatDoorZAC
namespace Go.Dx
open Go Go.RowKit
section
variable {P:Program} {ρ:bE} {w:World}
theorem ab4 {a b:Nat}:Nat.beq a b=(a==b):=by rw [Bool.eq_iff_iff,Nat.beq_eq,beq_iff_eq]
theorem ab5 (d:Nat){t e:TypeId}{n:Nat}(hu:P.underlying t=some (.pointer e))(hs:cd P e=some (n+1))(b o p:Nat):
  (Op.equalIn (d+1) t (.pointer (some ⟨b,o,none⟩)) (.pointer (some ⟨b,p,none⟩))).run P w = .ok (o==p) w:=by
 have e1:((⟨b,o,none⟩:Addr)==⟨b,p,none⟩)=(o==p):=by
  rw [Bool.eq_iff_iff,beq_iff_eq,beq_iff_eq];simp
 simp [Op.equalIn,run_underlying hu,cA hs,sameAddr,e1]
theorem YV {t:TypeId}(h:oc P t≠.no):∃i,P.info? t=some i/\i.comparable=true/\
  ((oc P t = .int/\∃k,P.underlying t=some (.int k))\/(oc P t = .str/\P.underlying t=some .string)\/(oc P t = .bool/\P.underlying t=some .bool)):=by
 unfold oc at h ⊢;cases hi:P.info? t with
 | none=>simp [hi] at h
 | some i=>
   simp only [hi] at h ⊢;cases hc:i.comparable with
   | false=>simp [hc] at h
   | true=>
     simp only [hc] at h ⊢;refine ⟨i,rfl,hc,?_⟩;cases hu:P.underlying t with
     | none=>simp [hu] at h
     | some d=>cases d<;>simp [hu] at h ⊢
theorem YW (d:Nat){t:TypeId}{v u:V}{x y:Value}{b:Bool}(hv:RV ρ v x)(hu:RV ρ u y)(h:gY (oc P t) v u=some b):
  ∃i,P.info? t=some i/\i.comparable=true/\(Op.equalIn (d+1) t x y).run P w = .ok b w:=by
 have hp:oc P t≠.no:=λe=>by rw [e] at h;simp [gY] at h
 obtain ⟨i,hi,hc,hk⟩:=YV hp;refine ⟨i,hi,hc,?_⟩;rcases pN hv hu h with ⟨e,c,d',rfl,rfl,rfl⟩ | ⟨e,k,c,d',rfl,rfl,rfl⟩ | ⟨e,s,t',rfl,rfl,rfl⟩
 ·rcases hk with ⟨e',_⟩ | ⟨e',_⟩ | ⟨_,hk⟩
  ·rw [e'] at e;cases e
  ·rw [e'] at e;cases e
  ·simp [Op.equalIn,run_underlying hk]
 ·rcases hk with ⟨_,j,hk⟩ | ⟨e',_⟩ | ⟨e',_⟩
  ·simp [Op.equalIn,run_underlying hk]
  ·rw [e'] at e;cases e
  ·rw [e'] at e;cases e
 ·rcases hk with ⟨e',_⟩ | ⟨_,hk⟩ | ⟨e',_⟩
  ·rw [e'] at e;cases e
  ·simp [Op.equalIn,run_underlying hk]
  ·rw [e'] at e;cases e
theorem U2 (n:Nat){t a:TypeId}{ms:Array (String×TypeId)}{i:TypeInfo}{x y:Value}(ht:P.underlying t=some (.interface ms))(hi:P.info? a=some i)(hc:i.comparable=true):
  (Op.equalIn (n+1) t (.iface a x) (.iface a y)).run P w=(Op.equalIn n a x y).run P w:=by
 simp [Op.equalIn,run_underlying ht,typeInfo,hi,hc]
def og (P:Program)(op:BinOp)(t:TypeId)(ox oy:Operand)(x y:Value)(r:Bool):Prop:=
 ∀w n,10<=n->(eqGuard op t ox oy x y).run P w = .ok () w/\(Op.equalIn n t x y).run P w = .ok r w
theorem YX {t:TypeId}{ox oy:Operand}{v u:V}{x y:Value}{r:Bool}(op:BinOp)(ht:P.underlying t=some .bool)(hv:RV ρ v x)(hu:RV ρ u y)(h:Fs v u=some r):og P op t ox oy x y r:=by
 have hU:=run_underlying ht;cases hv<;>first | (simp [Fs] at h;done) | skip
 cases hu<;>first | (simp [Fs] at h;done) | skip
 simp only [Fs,Option.some.injEq] at h;subst h;exact λw n hn=>⟨by unfold eqGuard;cases op<;>simp,by obtain ⟨d,rfl⟩:∃d,n=d+2:=⟨n - 2,by omega⟩;rw [JR];simp only [Op.equalIn,Sem.run_bind,hU,Result.andThen_ok];rfl⟩
theorem ab6 {t e:TypeId}{n:Nat}{ox oy:Operand}{v u:V}{x y:Value}{r:Bool}(op:BinOp)(ht:P.underlying t=some (.pointer e))(hs:cd P e=some (n+1))(hv:RV ρ v x)(hu:RV ρ u y)
  (h:xD v u=some r):og P op t ox oy x y r:=by
 have hU:=run_underlying ht;cases hv<;>first | (simp [xD] at h;done) | skip
 ·cases hu<;>first | (simp [xD] at h;done) | skip
  ·simp only [xD,Option.some.injEq] at h;subst h
   exact λw n hn=>⟨by unfold eqGuard;cases op<;>simp,by obtain ⟨d,rfl⟩:∃d,n=d+2:=⟨n - 2,by omega⟩;simp only [Op.equalIn,Sem.run_bind,hU,Result.andThen_ok];rfl⟩
  ·simp only [xD,Option.some.injEq] at h;subst h
   exact λw n hn=>⟨by unfold eqGuard;cases op<;>simp,by obtain ⟨d,rfl⟩:∃d,n=d+2:=⟨n - 2,by omega⟩;simp only [Op.equalIn,Sem.run_bind,hU,Result.andThen_ok];rfl⟩
 ·cases hu<;>first | (simp [xD] at h;done) | skip
  ·simp only [xD,Option.some.injEq] at h;subst h
   exact λw n hn=>⟨by unfold eqGuard;cases op<;>simp,by obtain ⟨d,rfl⟩:∃d,n=d+2:=⟨n - 2,by omega⟩;simp only [Op.equalIn,Sem.run_bind,hU,Result.andThen_ok];rfl⟩
  ·rename_i l b o hb m c p hc
   simp only [xD,ag,Option.some.injEq] at h;obtain ⟨hl,h⟩:=h;have:=jg hl;subst this;rw [hb] at hc;cases hc;refine λw n hn=>⟨by unfold eqGuard;cases op<;>simp,?_⟩;obtain ⟨d,rfl⟩:∃d,n=d+1:=⟨n - 1,by omega⟩;rw [ab5 d ht hs,<-h,ab4]
   congr 1
   rw [Bool.eq_iff_iff,beq_iff_eq,beq_iff_eq];omega
theorem U3 {t:TypeId}{ms:Array (String×TypeId)}{ox oy:Operand}{v u:V}{x y:Value}{r:Bool}(op:BinOp)(ht:P.underlying t=some (.interface ms))(hv:RV ρ v x)(hu:RV ρ u y)
  (h:mP (oc P) (xG ox||xG oy) v u=some r):og P op t ox oy x y r:=by
 have hU:=run_underlying ht;cases hv<;>first | (simp [mP] at h;done) | skip
 ·cases hu<;>first | (simp [mP] at h;done) | skip
  ·rename_i a v x hx b u y hy
   simp only [mP] at h;refine λw n hn=>⟨by unfold eqGuard;cases op<;>simp,?_⟩;obtain ⟨d,rfl⟩:∃d,n=d+2:=⟨n - 2,by omega⟩;split at h
   ·rename_i hb
    have:a≠b:=by intro e;subst e;rw [Nat.beq_refl] at hb;cases hb
    cases h;simp only [Op.equalIn,Sem.run_bind,hU,Result.andThen_ok,if_pos this];rfl
   ·rename_i hb
    have:a=b:=Nat.eq_of_beq_eq_true hb;subst this;obtain ⟨i,hi,hc,hk⟩:=YW (w:=w) d hx hy h;rw [U2 (d+1) ht hi hc];exact hk
  ·simp only [mP,Option.some.injEq] at h;subst h
   exact λw n hn=>⟨by unfold eqGuard;cases op<;>simp,by obtain ⟨d,rfl⟩:∃d,n=d+2:=⟨n - 2,by omega⟩;simp only [Op.equalIn,Sem.run_bind,hU,Result.andThen_ok];rfl⟩
 ·cases hu<;>first | (simp [mP] at h;done) | skip
  ·simp only [mP,Option.some.injEq] at h;subst h
   exact λw n hn=>⟨by unfold eqGuard;cases op<;>simp,by obtain ⟨d,rfl⟩:∃d,n=d+2:=⟨n - 2,by omega⟩;simp only [Op.equalIn,Sem.run_bind,hU,Result.andThen_ok];rfl⟩
  ·simp only [mP,ag,Option.some.injEq] at h
   obtain ⟨hl,h⟩:=h;subst h;refine λw n hn=>⟨?_,by obtain ⟨d,rfl⟩:∃d,n=d+2:=⟨n - 2,by omega⟩;simp only [Op.equalIn,Sem.run_bind,hU,Result.andThen_ok];rfl⟩;unfold eqGuard;cases ox<;>cases oy<;>cases op<;>simp [xG] at hl ⊢
theorem Mn {t e:TypeId}(d:Nat)(ht:P.underlying t=some (.slice e))(n m n' m':Nat)(w:World):(Op.equalIn (d+2) t (.slice none n m) (.slice none n' m')).run P w = .ok true w:=by
 simp only [Op.equalIn,Sem.run_bind,run_underlying ht,Result.andThen_ok];rfl
theorem Mp {t e:TypeId}(d:Nat)(ht:P.underlying t=some (.slice e))(a:Addr)(n m n' m':Nat)(w:World):(Op.equalIn (d+2) t (.slice none n m) (.slice (some a) n' m')).run P w = .ok false w:=by
 simp only [Op.equalIn,Sem.run_bind,run_underlying ht,Result.andThen_ok];rfl
theorem Mq {t e:TypeId}(d:Nat)(ht:P.underlying t=some (.slice e))(a:Addr)(n m n' m':Nat)(w:World):(Op.equalIn (d+2) t (.slice (some a) n m) (.slice none n' m')).run P w = .ok false w:=by
 simp only [Op.equalIn,Sem.run_bind,run_underlying ht,Result.andThen_ok];rfl
theorem U4 {t e:TypeId}{ox oy:Operand}{v u:V}{x y:Value}{r:Bool}(op:BinOp)(ht:P.underlying t=some (.slice e))(hv:RV ρ v x)(hu:RV ρ u y)(h:Iw v u=some r):og P op t ox oy x y r:=by
 have key:∀{a a':Option Addr} {n m n' m':Nat} {r:Bool},(∀w d,(Op.equalIn (d+2) t (.slice a n m) (.slice a' n' m')).run P w = .ok r w)->og P op t ox oy (.slice a n m) (.slice a' n' m') r:=λhk w n hn=>
  ⟨by unfold eqGuard;cases op<;>simp,by obtain ⟨d,rfl⟩:∃d,n=d+2:=⟨n - 2,by omega⟩;exact hk w d⟩
 have nn:∀{n m n' m':Nat},og P op t ox oy (.slice none n m) (.slice none n' m') true:=key λw d=>Mn d ht _ _ _ _ w;have ns:∀{a:Addr} {n m n' m':Nat},og P op t ox oy (.slice none n m) (.slice (some a) n' m') false:=key λw d=>Mp d ht _ _ _ _ _ w;have sn:∀{a:Addr} {n m n' m':Nat},og P op t ox oy (.slice (some a) n m) (.slice none n' m') false:=key λw d=>Mq d ht _ _ _ _ _ w;unfold Iw at h;split at h<;>first | (cases h;done) | skip
 all_goals (cases h;cases hv<;>(cases hu<;>first | exact nn | exact ns | exact sn))
theorem ab7 {t k e:TypeId}{ox oy:Operand}{v u:V}{x y:Value}{r:Bool}(op:BinOp)(ht:P.underlying t=some (.map k e))(hv:RV ρ v x)(hu:RV ρ u y)(h:NG v u=some r):og P op t ox oy x y r:=by
 have hU:=run_underlying ht;cases hv<;>first | (simp [NG] at h;done) | skip
 all_goals (cases hu<;>first | (simp [NG] at h;done) | skip)
 all_goals (simp only [NG,Option.some.injEq] at h;subst h;exact λw n hn=>⟨by unfold eqGuard;cases op<;>simp,by obtain ⟨d,rfl⟩:∃d,n=d+2:=⟨n - 2,by omega⟩;simp only [Op.equalIn,Sem.run_bind,hU,Result.andThen_ok];rfl⟩)
theorem YY {t:TypeId}{a b:Array TypeId}{c:Bool}{ox oy:Operand}{v u:V}{x y:Value}{r:Bool}(op:BinOp)(ht:P.underlying t=some (.func a b c))(hv:RV ρ v x)(hu:RV ρ u y)(h:Fu v u=some r):
  og P op t ox oy x y r:=by
 have hU:=run_underlying ht;cases hv<;>first | (simp [Fu] at h;done) | skip
 all_goals (cases hu<;>first | (simp [Fu] at h;done) | skip)
 all_goals (simp only [Fu,Option.some.injEq] at h;subst h;exact λw n hn=>⟨by unfold eqGuard;cases op<;>simp,by obtain ⟨d,rfl⟩:∃d,n=d+2:=⟨n - 2,by omega⟩;simp only [Op.equalIn,Sem.run_bind,hU,Result.andThen_ok];rfl⟩)
theorem xJ:∀{a b:List PK} {x y:List V} {r:Bool},du (a++b) x y=some r->∃x1 x2 y1 y2 p q,x=x1++x2/\y=y1++y2/\x1.length=a.length/\y1.length=a.length/\du a x1 y1=some p/\du b x2 y2=some q/\r=(p&&q)
 | [],b,x,y,r,h=>⟨[],x,[],y,true,r,rfl,rfl,rfl,rfl,rfl,h,rfl⟩
 | k::a,b,[],y,r,h=>by cases y<;>simp [du] at h
 | k::a,b,u::x,[],r,h=>by simp [du] at h
 | k::a,b,u::x,v::y,r,h=>by
   simp only [List.cons_append,du,ad,Option.some.injEq] at h;obtain ⟨p,hp,q,hq,rfl⟩:=h;obtain ⟨x1,x2,y1,y2,p',q',rfl,rfl,l1,l2,h1,h2,rfl⟩:=xJ hq;refine ⟨u::x1,x2,v::y1,y2,(match p with | true=>p' | false=>false),q',rfl,rfl,by simp [l1],by simp [l2],by simp only [du,hp,h1,ob];cases p<;>rfl,h2,?_⟩;cases p<;>rfl
theorem Fz:∀(a b:List V),takeN a.length (a++b)=some a
 | [],b=>by cases b<;>rfl
 | x::a,b=>by simp only [List.length_cons,List.cons_append,takeN,Fz a b,ob]
def Pk (P:Program)(ρ:bE)(d:Nat)(t:TypeId)(ks:List PK):Prop:=∃rd,NJ P t=some rd/\
 ((rd = .one/\∀{v u:V} {x y:Value} {r:Bool} (n:Nat) (w:World),RV ρ v x->RV ρ u y->du ks [v] [u]=some r->(Op.equalIn (n+d) t x y).run P w = .ok r w)\/
  (rd≠.one/\∀{cs es:List V} {xs ys:List Value} {r:Bool} (n:Nat) (w:World),cU ρ cs xs->cU ρ es ys->du ks cs es=some r->(Op.equalIn (n+d) t (.agg ⟨xs⟩) (.agg ⟨ys⟩)).run P w = .ok r w))
theorem G4 {d:Nat}(ih:∀{t ks},gu P d t=some ks->Pk P ρ d t ks):∀{fs:List Field} {at_:Nat} {ks:List PK},gu.qe P (gu P d) at_ fs=some ks->∀{cs es:List V} {xs ys:List Value} {r:Bool} (n:Nat) (w:World),
  cU ρ cs xs->cU ρ es ys->du ks (bB at_ cs) (bB at_ es)=some r->(Op.eqFields (n+d) ⟨xs⟩ ⟨ys⟩ fs).run P w = .ok r w
 | [],at_,ks,hk,cs,es,xs,ys,r,n,w,hx,hy,h=>by
   simp only [gu.qe,Option.some.injEq] at hk;subst hk;have:r=true:=by
    cases h1:bB at_ cs with
    | nil=>cases h2:bB at_ es with
      | nil=>rw [h1,h2] at h;simp only [du,Option.some.injEq] at h;exact h.symm
      | cons _ _=>rw [h1,h2] at h;simp [du] at h
    | cons _ _=>rw [h1] at h;simp [du] at h
   subst this;simp [Op.eqFields]
 | f::fs,at_,ks,hk,cs,es,xs,ys,r,n,w,hx,hy,h=>by
   simp only [gu.qe,ad,ag,Option.some.injEq,Bool.and_eq_true] at hk;obtain ⟨a,ha,m,hm,⟨⟨ho,hl⟩,si⟩,rest,hr,rfl⟩:=hk;have ho:=Nat.eq_of_beq_eq_true ho;have hl:=Nat.eq_of_beq_eq_true hl;have si:f.name≠ "_":=by simpa using si
   subst ho;subst hl;obtain ⟨x1,x2,y1,y2,p,q,e1,e2,l1,l2,h1,h2,rfl⟩:=xJ h;have d1:bB (f.offset+a.length) cs=x2:=by rw [dq] at e1 ⊢;rw [<-List.drop_drop,e1,<-l1,List.drop_left]
   have d2:bB (f.offset+a.length) es=y2:=by rw [dq] at e2 ⊢;rw [<-List.drop_drop,e2,<-l2,List.drop_left]
   have tail:=G4 ih hr n w hx hy (by rw [d1,d2];exact h2);obtain ⟨rd,uI,hp⟩:=ih ha;have key:∃x y,(part f.type ⟨xs⟩ f.offset).run P w = .ok x w/\(part f.type ⟨ys⟩ f.offset).run P w = .ok y w/\(Op.equalIn (n+d) f.type x y).run P w = .ok p w:=by
    rcases hp with ⟨rfl,hp⟩ | ⟨dj,hp⟩
    ·have a1:a.length=1:=by
      rcases Ph uI with ⟨_,_⟩ | ⟨n,e,_⟩
      ·rw [gu.eq_def] at ha
       cases d with
       | zero=>simp at ha
       | succ d=>
         simp only at ha;split at ha
         ·cases ha;rfl
         ·cases ha;rfl
         ·cases ha;rfl
         ·rename_i po hu
          simp only [NJ,hu,ad] at uI;obtain ⟨_,_,e⟩:=uI;cases e
         ·cases ha
      ·cases e
     obtain ⟨v,rfl⟩:∃v,x1=[v]:=List.length_eq_one_iff.1 (by omega);obtain ⟨u,rfl⟩:∃u,y1=[u]:=List.length_eq_one_iff.1 (by omega);obtain ⟨x,r1,p1⟩:=zj uI hx (off:=f.offset) (v:=v) (by simp [dI,e1]);obtain ⟨y,r2,p2⟩:=zj uI hy (off:=f.offset) (v:=u) (by simp [dI,e2]);exact ⟨x,y,p1 w,p2 w,hp n w r1 r2 h1⟩
    ·rcases Ph uI with ⟨e,_⟩ | ⟨m,rfl,dY,_⟩
     ·exact absurd e dj
     ·rw [hm] at dY;cases dY
      have t1:rowFrom cs f.offset a.length=some x1:=by unfold rowFrom;rw [e1,<-l1];exact Fz x1 x2
      have t2:rowFrom es f.offset a.length=some y1:=by unfold rowFrom;rw [e2,<-l2];exact Fz y1 y2
      obtain ⟨x,r1,p1⟩:=zj uI hx (off:=f.offset) (v:=.agg x1) (by simp only [dI,t1,ob]);obtain ⟨y,r2,p2⟩:=zj uI hy (off:=f.offset) (v:=.agg y1) (by simp only [dI,t2,ob]);cases r1 with | agg r1=>cases r2 with | agg r2=>
      exact ⟨_,_,p1 w,p2 w,hp n w r1 r2 h1⟩
   obtain ⟨x,y,p1,p2,p3⟩:=key;simp only [Op.eqFields,if_pos si,Sem.run_bind,p1,p2,p3,Result.andThen_ok];cases p
   ·simp
   ·simpa using tail
theorem G5:∀{d:Nat} {t:TypeId} {ks:List PK},gu P d t=some ks->Pk P ρ d t ks
 | 0,t,ks,h=>by simp [gu] at h
 | d+1,t,ks,h=>by
   have flat:∀{pk:PK},ks=[pk]->NJ P t=some .one->(∀v u x y b n w,RV ρ v x->RV ρ u y->gY pk v u=some b->(Op.equalIn (n+1) t x y).run P w = .ok b w)->Pk P ρ (d+1) t ks:=λ{pk} e uI hk=>by
    subst e;refine ⟨.one,uI,.inl ⟨rfl,λ{v u x y r} n w r1 r2 he=>?_⟩⟩;simp only [du,ad,Option.some.injEq] at he;obtain ⟨b,hb,q,rfl,rfl⟩:=he;have:=hk v u x y b (n+d) w r1 r2 hb;cases b<;>exact this
   unfold gu at h;split at h
   ·rename_i hu
    cases h;refine flat rfl (by simp [NJ,hu]) λv u x y b n w r1 r2 hb=>?_;rcases pN r1 r2 hb with ⟨_,c,c',rfl,rfl,rfl⟩ | ⟨e,_⟩ | ⟨e,_⟩
    ·simp [Op.equalIn,run_underlying hu]
    ·cases e
    ·cases e
   ·rename_i k hu
    cases h;refine flat rfl (by simp [NJ,hu]) λv u x y b n w r1 r2 hb=>?_;rcases pN r1 r2 hb with ⟨e,_⟩ | ⟨_,k,c,c',rfl,rfl,rfl⟩ | ⟨e,_⟩
    ·cases e
    ·simp [Op.equalIn,run_underlying hu]
    ·cases e
   ·rename_i hu
    cases h;refine flat rfl (by simp [NJ,hu]) λv u x y b n w r1 r2 hb=>?_;rcases pN r1 r2 hb with ⟨e,_⟩ | ⟨e,_⟩ | ⟨_,s,s',rfl,rfl,rfl⟩
    ·cases e
    ·cases e
    ·simp [Op.equalIn,run_underlying hu]
   ·rename_i fs hu
    simp only [ag] at h;obtain ⟨zl,h⟩:=h;simp only [Bool.and_eq_true,Bool.not_eq_true'] at zl;obtain ⟨zl,ft⟩:=zl;have hfo:P.fieldsOf t=fs:=by simp [Program.fieldsOf,hu]
    have uI:∃n,NJ P t=some (.many n)\/True:=⟨0,.inr trivial⟩;cases hz:cd P t with
    | none=>rw [hz] at ft;cases ft
    | some m=>
      refine ⟨.many m,by simp [NJ,hu,hz,ob],.inr ⟨by simp,λ{cs es xs ys r} n w r1 r2 he=>?_⟩⟩;rw [show n+(d+1)=(n+d)+1 from rfl,run_equalIn_struct (P:=P) w (n+d) t ⟨xs⟩ ⟨ys⟩ (by rw [hfo];exact hu) (by simpa using zl),hfo];exact G4 (λh=>G5 h) h n w r1 r2 (by simpa [bB] using he)
   ·cases h
theorem ab8 {t:TypeId}{fs:Array Field}{ks:List PK}{ox oy:Operand}{v u:V}{x y:Value}{r:Bool}(op:BinOp)(ht:P.underlying t=some (.struct fs))(hk:gu P 8 t=some ks)(hm:P.eqGuardType P.depth t=false)
  (hv:RV ρ v x) (hu:RV ρ u y) (h:RC ks v u=some r):og P op t ox oy x y r:=by
 unfold RC at h;split at h
 ·cases hv with | agg r1=>cases hu with | agg r2=>
  obtain ⟨rd,uI,hp⟩:=G5 (ρ:=ρ) hk;have dj:rd≠.one:=by
   intro e;subst e;simp only [NJ,ht,ad] at uI;obtain ⟨_,_,e⟩:=uI;cases e
  rcases hp with ⟨e,_⟩ | ⟨_,hp⟩
  ·exact absurd e dj
  ·exact λw n hn=>⟨run_eqGuard_agg w op t ox oy _ _ hm,by
    obtain ⟨d,rfl⟩:∃d,n=d+8:=⟨n - 8,by omega⟩;exact hp d w r1 r2 h⟩
 ·cases h
theorem XD {t:TypeId}{ox oy:Operand}{v u:V}{x y:Value}{r:Bool}(op:BinOp)(hv:RV ρ v x)(hu:RV ρ u y)(h:Je (oc P) (JG P t ox oy) v u=some r):og P op t ox oy x y r:=by
 unfold JG at h;split at h
 ·rename_i ht;exact YX op ht hv hu h
 ·rename_i e ht
  split at h
  ·simp [Je] at h
  ·rename_i n dj hs
   cases n with
   | zero=>exact absurd rfl dj
   | succ n=>exact ab6 op ht hs hv hu h
  ·simp [Je] at h
 ·rename_i ht;exact U3 op ht hv hu h
 ·rename_i ht;exact U4 op ht hv hu h
 ·rename_i ht;exact ab7 op ht hv hu h
 ·rename_i ht;exact YY op ht hv hu h
 ·rename_i fs ht
  split at h
  ·rename_i ks hk
   simp only [ag] at hk;exact ab8 op ht hk.2 (by simpa using hk.1) hv hu h
  ·simp [Je] at h
 ·simp [Je] at h
theorem U5 {pl:TypeId->PK} {k:EK} {v u:V} {b:Bool} (h:Je pl k v u=some b):od v=true/\od u=true:=by
 unfold Je at h;split at h
 ·unfold Fs at h;split at h<;>first | exact ⟨rfl,rfl⟩ | cases h
 ·unfold xD at h;split at h<;>first | exact ⟨rfl,rfl⟩ | cases h
 ·unfold mP at h;split at h<;>first | exact ⟨rfl,rfl⟩ | cases h
 ·unfold Iw at h;split at h<;>first | exact ⟨rfl,rfl⟩ | cases h
 ·unfold NG at h;split at h<;>first | exact ⟨rfl,rfl⟩ | cases h
 ·unfold Fu at h;split at h<;>first | exact ⟨rfl,rfl⟩ | cases h
 ·unfold RC at h;split at h<;>first | exact ⟨rfl,rfl⟩ | cases h
 ·cases h
theorem R9 {op:BinOp}{a lo hi m:Int}{r:V}(h1:lo<=m)(h2:m<=hi)(h:JC op a lo hi=some r):ct op .i64 a m=some r:=by
 unfold JC at h;cases op<;>simp only [reduceCtorEq] at h
 all_goals
  simp only [ct];split at h
  ·rename_i hc
   cases h;rw [cn] at hc;simp only [cn,Option.some.injEq,V.bool.injEq];simp at hc ⊢;omega
  ·rename_i hc
   simp only [ag,Option.some.injEq] at h;obtain ⟨h3,rfl⟩:=h;rw [cn] at h3;simp only [cn,Option.some.injEq,V.bool.injEq];simp at h3 ⊢;omega
theorem ab9 {t:TypeId}{ox oy:Operand}{v u r:V}{x y:Value}{op:BinOp}(hv:RV ρ v x)(hu:RV ρ u y)(h:binOp (oc P) op (JG P t ox oy) v u=some r):
  vR P ρ r (do eqGuard op t ox oy x y;Go.binOp op t x y):=by
 have ints:∀k a j b,x = .int k a->y = .int j b->∀w,(eqGuard op t ox oy x y).run P w = .ok () w:=λk a j b e e' w=>by
  subst e;subst e';unfold eqGuard;cases op<;>simp
 have strs:∀a b,x = .string a->y = .string b->∀w,(eqGuard op t ox oy x y).run P w = .ok () w:=λa b e e' w=>by
  subst e;subst e';unfold eqGuard;cases op<;>simp
 have fin:∀{s:Sem Value},vR P ρ r s->(∀w,(eqGuard op t ox oy x y).run P w = .ok () w)->s=Go.binOp op t x y->vR P ρ r (do eqGuard op t ox oy x y;Go.binOp op t x y):=λ⟨z,hz,hr⟩ hg e=>
  ⟨z,hz,λw=>by rw [Sem.run_bind,hg w,Result.andThen_ok,<-e];exact hr w⟩
 unfold binOp at h;split at h
 ·rename_i j a k b
  cases hv;cases hu;have hg:=ints _ _ _ _ rfl rfl;cases op
  case shl=>exact fin (JQ h t) hg rfl
  case shr=>exact fin (JQ h t) hg rfl
  all_goals
   simp only [ag,BX] at h;obtain ⟨rfl,h⟩:=h;exact fin (np h (by simp) (by simp) t) hg rfl
 ·rename_i a b
  cases hv with | str s=>cases hu with | str u=>
  exact fin (ab3 h t) (strs _ _ rfl rfl) rfl
 ·rename_i a lo hi
  cases hv;cases hu with | lG g1 g2=>
  have hg:=ints _ _ _ _ rfl rfl;have h:=R9 g1 g2 h;cases op<;>first | (cases h;done) | exact fin (np h (by simp) (by simp) t) hg rfl
 ·rename_i lo hi a
  cases hu;cases hv with | lG g1 g2=>
  have hg:=ints _ _ _ _ rfl rfl;cases op<;>simp only [reduceCtorEq] at h
  all_goals
   have h:=R9 g1 g2 h;exact fin (np (by rw [<-h];rfl) (by simp) (by simp) t) hg rfl
 ·rename_i hni CT _ _
  have big:∀a b,Op.equal t a b=Op.equalIn 10000 t a b:=λ_ _=>rfl;have hp:od v=true/\od u=true:=by
   cases op<;>simp only [ad,reduceCtorEq] at h<;>(obtain ⟨b,h,_⟩:=h;exact U5 h)
  have shape:(∀k a j b,¬(x = .int k a/\y = .int j b))/\(∀a b,¬(x = .string a/\y = .string b)):=by
   refine ⟨λk a j b ⟨e,e'⟩=>?_,λa b ⟨e,e'⟩=>?_⟩
   ·subst e;subst e';exact hni _ _ _ _ (abW hv hp.1) (abW hu hp.2)
   ·subst e;subst e';exact CT _ _ (NL hv hp.1) (NL hu hp.2)
  have afq:(∀k a,x≠.float k a)/\(∀k a b,x≠.complex k a b):=⟨λk a e=>(by subst e;exact abX hv hp.1),λk a b e=>(by subst e;exact UZ hv hp.1)⟩;cases op<;>simp only [ad,reduceCtorEq] at h
  case eql=>
   obtain ⟨b,h,h2⟩:=h;cases h2;refine ⟨_,.bool b,λw=>?_⟩;obtain ⟨h1,h2⟩:=XD .eql hv hu h w 10000 (by omega);have e:Go.binOp .eql t x y=(do pure (.bool (<-Op.equal t x y))):=by
    cases x<;>cases y<;>first | rfl | (exact absurd ⟨rfl,rfl⟩ (shape.1 _ _ _ _)) | (exact absurd ⟨rfl,rfl⟩ (shape.2 _ _)) | (exact absurd rfl (afq.1 _ _)) | (exact absurd rfl (afq.2 _ _ _))
   rw [e,big];simp only [Sem.run_bind,h1,Result.andThen_ok,h2];rfl
  case neq=>
   obtain ⟨b,h,h2⟩:=h;cases h2;refine ⟨_,.bool (!b),λw=>?_⟩;obtain ⟨h1,h2⟩:=XD .neq hv hu h w 10000 (by omega);have e:Go.binOp .neq t x y=(do pure (.bool (!(<-Op.equal t x y)))):=by
    cases x<;>cases y<;>first | rfl | (exact absurd ⟨rfl,rfl⟩ (shape.1 _ _ _ _)) | (exact absurd ⟨rfl,rfl⟩ (shape.2 _ _)) | (exact absurd rfl (afq.1 _ _)) | (exact absurd rfl (afq.2 _ _ _))
   rw [e,big];simp only [Sem.run_bind,h1,Result.andThen_ok,h2];rfl
end
end Go.Dx
