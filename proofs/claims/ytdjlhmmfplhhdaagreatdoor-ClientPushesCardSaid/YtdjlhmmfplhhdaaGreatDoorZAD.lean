/-
  The client's laws. Part ZAD of the proof: The deterministic machine over labels against the model: comparisons.
-/
import Derived.Test.YtdjlhmmfplhhdaaGreatDoorZAC
namespace Go.Dx
open Go Go.RowKit
variable{n:Nat}{y:Value}{v u:V}{ms:Array (String×TypeId)}{ox oy:Operand}{op:BinOp}
section
variable {P:Program} {ρ:bD} {w:World}
theorem ac7 {a b:Nat}:Nat.beq a b=(a==b):=by rw [Bool.eq_iff_iff,Nat.beq_eq,beq_iff_eq]
theorem ac8 (d:Nat){t e:TypeId}(c:P.underlying t=some (.pointer e))(hs:cg P e=some (n+1))(b o p:Nat):
  (Op.equalIn (d+1) t (.pointer (some ⟨b,o,none⟩)) (.pointer (some ⟨b,p,none⟩))).run P w = .ok (o==p) w:=by
 have a:((⟨b,o,none⟩:Addr)==⟨b,p,none⟩)=(o==p):=by
  rw [Bool.eq_iff_iff,beq_iff_eq,beq_iff_eq];simp
 simp [Op.equalIn,run_underlying c,cC hs,sameAddr,a]
theorem aac {t:TypeId}(h:kP P t≠.no):∃i,P.info? t=some i/\i.comparable=true/\
  ((kP P t = .int/\∃k,P.underlying t=some (.int k))\/(kP P t = .str/\P.underlying t=some .string)\/(kP P t = .bool/\P.underlying t=some .bool)):=by
 unfold kP at h ⊢;cases hi:P.info? t with
 | none=>simp [hi] at h
 | some i=>
   simp only [hi] at h ⊢;cases hc:i.comparable with
   | false=>simp [hc] at h
   | true=>
     simp only [hc] at h ⊢;refine ⟨i,rfl,hc,?_⟩;cases hu:P.underlying t with
     | none=>simp [hu] at h
     | some d=>cases d<;>simp [hu] at h ⊢
theorem aad (d:Nat){t:TypeId}{x:Value}{b:Bool}(l:RV ρ v x)(m:RV ρ u y)(h:gh (kP P t) v u=some b):
  ∃i,P.info? t=some i/\i.comparable=true/\(Op.equalIn (d+1) t x y).run P w = .ok b w:=by
 have n:kP P t≠.no:=λe=>by rw [e] at h;simp [gh] at h
 obtain ⟨i,hi,g,f⟩:=aac n;refine ⟨i,hi,g,?_⟩;rcases ql l m h with ⟨e,c,d',rfl,rfl,rfl⟩ | ⟨e,k,c,d',rfl,rfl,rfl⟩ | ⟨e,s,o,rfl,rfl,rfl⟩
 ·rcases f with ⟨a,_⟩ | ⟨a,_⟩ | ⟨_,f⟩
  ·rw [a] at e;cases e
  ·rw [a] at e;cases e
  ·simp [Op.equalIn,run_underlying f]
 ·rcases f with ⟨_,j,f⟩ | ⟨a,_⟩ | ⟨a,_⟩
  ·simp [Op.equalIn,run_underlying f]
  ·rw [a] at e;cases e
  ·rw [a] at e;cases e
 ·rcases f with ⟨a,_⟩ | ⟨_,f⟩ | ⟨a,_⟩
  ·rw [a] at e;cases e
  ·simp [Op.equalIn,run_underlying f]
  ·rw [a] at e;cases e
theorem Wm (n:Nat){t a:TypeId}{i:TypeInfo}{x:Value}(c:P.underlying t=some (.interface ms))(hi:P.info? a=some i)(b:i.comparable=true):
  (Op.equalIn (n+1) t (.iface a x) (.iface a y)).run P w=(Op.equalIn n a x y).run P w:=by
 simp [Op.equalIn,run_underlying c,typeInfo,hi,b]
def oT (P:Program)(op:BinOp)(t:TypeId)(ox oy:Operand)(x y:Value)(r:Bool):Prop:=
 ∀w n,10<=n->(eqGuard op t ox oy x y).run P w = .ok () w/\(Op.equalIn n t x y).run P w = .ok r w
theorem aae {t:TypeId}{x:Value}{r:Bool}(op:BinOp)(b:P.underlying t=some .bool)(a:RV ρ v x)(e:RV ρ u y)(h:FY v u=some r):oT P op t ox oy x y r:=by
 have c:=run_underlying b;cases a<;>first | (simp [FY] at h;done) | skip
 cases e<;>first | (simp [FY] at h;done) | skip
 simp only [FY,Option.some.injEq] at h;subst h;exact λw n f=>⟨by unfold eqGuard;cases op<;>simp,by obtain ⟨d,rfl⟩:∃d,n=d+2:=⟨n - 2,by omega⟩;rw [Kv];simp only [Op.equalIn,Sem.run_bind,c,Result.andThen_ok];rfl⟩
theorem ac9 {t e:TypeId}{x:Value}{r:Bool}(op:BinOp)(i:P.underlying t=some (.pointer e))(hs:cg P e=some (n+1))(k:RV ρ v x)(j:RV ρ u y)
  (h:xT v u=some r):oT P op t ox oy x y r:=by
 have f:=run_underlying i;cases k<;>first | (simp [xT] at h;done) | skip
 ·cases j<;>first | (simp [xT] at h;done) | skip
  ·simp only [xT,Option.some.injEq] at h;subst h
   exact λw n a=>⟨by unfold eqGuard;cases op<;>simp,by obtain ⟨d,rfl⟩:∃d,n=d+2:=⟨n - 2,by omega⟩;simp only [Op.equalIn,Sem.run_bind,f,Result.andThen_ok];rfl⟩
  ·simp only [xT,Option.some.injEq] at h;subst h
   exact λw n a=>⟨by unfold eqGuard;cases op<;>simp,by obtain ⟨d,rfl⟩:∃d,n=d+2:=⟨n - 2,by omega⟩;simp only [Op.equalIn,Sem.run_bind,f,Result.andThen_ok];rfl⟩
 ·cases j<;>first | (simp [xT] at h;done) | skip
  ·simp only [xT,Option.some.injEq] at h;subst h
   exact λw n a=>⟨by unfold eqGuard;cases op<;>simp,by obtain ⟨d,rfl⟩:∃d,n=d+2:=⟨n - 2,by omega⟩;simp only [Op.equalIn,Sem.run_bind,f,Result.andThen_ok];rfl⟩
  ·rename_i l b o q m c p g
   simp only [xT,ai,Option.some.injEq] at h;obtain ⟨s,h⟩:=h;have:=gL s;subst this;rw [q] at g;cases g;refine λw n a=>⟨by unfold eqGuard;cases op<;>simp,?_⟩;obtain ⟨d,rfl⟩:∃d,n=d+1:=⟨n - 1,by omega⟩;rw [ac8 d i hs,<-h,ac7]
   congr 1
   rw [Bool.eq_iff_iff,beq_iff_eq,beq_iff_eq];omega
theorem Wn {t:TypeId}{x:Value}{r:Bool}(op:BinOp)(j:P.underlying t=some (.interface ms))(o:RV ρ v x)(k:RV ρ u y)
  (h:kQ (kP P) (xW ox||xW oy) v u=some r):oT P op t ox oy x y r:=by
 have f:=run_underlying j;cases o<;>first | (simp [kQ] at h;done) | skip
 ·cases k<;>first | (simp [kQ] at h;done) | skip
  ·rename_i a v x p b u y hy
   simp only [kQ] at h;refine λw n g=>⟨by unfold eqGuard;cases op<;>simp,?_⟩;obtain ⟨d,rfl⟩:∃d,n=d+2:=⟨n - 2,by omega⟩;split at h
   ·rename_i c
    have:a≠b:=by intro e;subst e;rw [Nat.beq_refl] at c;cases c
    cases h;simp only [Op.equalIn,Sem.run_bind,f,Result.andThen_ok,if_pos this];rfl
   ·rename_i c
    have:a=b:=Nat.eq_of_beq_eq_true c;subst this;obtain ⟨i,hi,m,l⟩:=aad (w:=w) d p hy h;rw [Wm (d+1) j hi m];exact l
  ·simp only [kQ,Option.some.injEq] at h;subst h
   exact λw n g=>⟨by unfold eqGuard;cases op<;>simp,by obtain ⟨d,rfl⟩:∃d,n=d+2:=⟨n - 2,by omega⟩;simp only [Op.equalIn,Sem.run_bind,f,Result.andThen_ok];rfl⟩
 ·cases k<;>first | (simp [kQ] at h;done) | skip
  ·simp only [kQ,Option.some.injEq] at h;subst h
   exact λw n g=>⟨by unfold eqGuard;cases op<;>simp,by obtain ⟨d,rfl⟩:∃d,n=d+2:=⟨n - 2,by omega⟩;simp only [Op.equalIn,Sem.run_bind,f,Result.andThen_ok];rfl⟩
  ·simp only [kQ,ai,Option.some.injEq] at h
   obtain ⟨q,h⟩:=h;subst h;refine λw n g=>⟨?_,by obtain ⟨d,rfl⟩:∃d,n=d+2:=⟨n - 2,by omega⟩;simp only [Op.equalIn,Sem.run_bind,f,Result.andThen_ok];rfl⟩;unfold eqGuard;cases ox<;>cases oy<;>cases op<;>simp [xW] at q ⊢
theorem Ng {t e:TypeId}(d:Nat)(c:P.underlying t=some (.slice e))(n m a b:Nat)(w:World):(Op.equalIn (d+2) t (.slice none n m) (.slice none a b)).run P w = .ok true w:=by
 simp only [Op.equalIn,Sem.run_bind,run_underlying c,Result.andThen_ok];rfl
theorem Nh {t e:TypeId}(d:Nat)(f:P.underlying t=some (.slice e))(a:Addr)(n m b c:Nat)(w:World):(Op.equalIn (d+2) t (.slice none n m) (.slice (some a) b c)).run P w = .ok false w:=by
 simp only [Op.equalIn,Sem.run_bind,run_underlying f,Result.andThen_ok];rfl
theorem Ni {t e:TypeId}(d:Nat)(f:P.underlying t=some (.slice e))(a:Addr)(n m b c:Nat)(w:World):(Op.equalIn (d+2) t (.slice (some a) n m) (.slice none b c)).run P w = .ok false w:=by
 simp only [Op.equalIn,Sem.run_bind,run_underlying f,Result.andThen_ok];rfl
theorem Wo {t e:TypeId}{x:Value}{r:Bool}(op:BinOp)(f:P.underlying t=some (.slice e))(k:RV ρ v x)(o:RV ρ u y)(h:I9 v u=some r):oT P op t ox oy x y r:=by
 have key:∀{a g:Option Addr} {n m c b:Nat} {r:Bool},(∀w d,(Op.equalIn (d+2) t (.slice a n m) (.slice g c b)).run P w = .ok r w)->oT P op t ox oy (.slice a n m) (.slice g c b) r:=λi w n p=>
  ⟨by unfold eqGuard;cases op<;>simp,by obtain ⟨d,rfl⟩:∃d,n=d+2:=⟨n - 2,by omega⟩;exact i w d⟩
 have l:∀{n m c b:Nat},oT P op t ox oy (.slice none n m) (.slice none c b) true:=key λw d=>Ng d f _ _ _ _ w;have ns:∀{a:Addr} {n m c b:Nat},oT P op t ox oy (.slice none n m) (.slice (some a) c b) false:=key λw d=>Nh d f _ _ _ _ _ w;have j:∀{a:Addr} {n m c b:Nat},oT P op t ox oy (.slice (some a) n m) (.slice none c b) false:=key λw d=>Ni d f _ _ _ _ _ w;unfold I9 at h;split at h<;>first | (cases h;done) | skip
 all_goals (cases h;cases k<;>(cases o<;>first | exact l | exact ns | exact j))
theorem ac' {t k e:TypeId}{x:Value}{r:Bool}(op:BinOp)(b:P.underlying t=some (.map k e))(a:RV ρ v x)(f:RV ρ u y)(h:Ov v u=some r):oT P op t ox oy x y r:=by
 have c:=run_underlying b;cases a<;>first | (simp [Ov] at h;done) | skip
 all_goals (cases f<;>first | (simp [Ov] at h;done) | skip)
 all_goals (simp only [Ov,Option.some.injEq] at h;subst h;exact λw n g=>⟨by unfold eqGuard;cases op<;>simp,by obtain ⟨d,rfl⟩:∃d,n=d+2:=⟨n - 2,by omega⟩;simp only [Op.equalIn,Sem.run_bind,c,Result.andThen_ok];rfl⟩)
theorem aaf {t:TypeId}{a b:Array TypeId}{c:Bool}{x:Value}{r:Bool}(op:BinOp)(f:P.underlying t=some (.func a b c))(e:RV ρ v x)(i:RV ρ u y)(h:FZ v u=some r):
  oT P op t ox oy x y r:=by
 have g:=run_underlying f;cases e<;>first | (simp [FZ] at h;done) | skip
 all_goals (cases i<;>first | (simp [FZ] at h;done) | skip)
 all_goals (simp only [FZ,Option.some.injEq] at h;subst h;exact λw n j=>⟨by unfold eqGuard;cases op<;>simp,by obtain ⟨d,rfl⟩:∃d,n=d+2:=⟨n - 2,by omega⟩;simp only [Op.equalIn,Sem.run_bind,g,Result.andThen_ok];rfl⟩)
theorem xZ:∀{a b:List PK} {x y:List V} {r:Bool},de (a++b) x y=some r->∃w f d e p q,x=w++f/\y=d++e/\w.length=a.length/\d.length=a.length/\de a w d=some p/\de b f e=some q/\r=(p&&q)
 | [],b,x,y,r,h=>⟨[],x,[],y,true,r,rfl,rfl,rfl,rfl,rfl,h,rfl⟩
 | k::a,b,[],y,r,h=>by cases y<;>simp [de] at h
 | k::a,b,u::x,[],r,h=>by simp [de] at h
 | k::a,b,u::x,v::y,r,h=>by
   simp only [List.cons_append,de,ad,Option.some.injEq] at h;obtain ⟨p,s,q,j,rfl⟩:=h;obtain ⟨w,f,d,e,g,l,rfl,rfl,i,n,m,o,rfl⟩:=xZ j;refine ⟨u::w,f,v::d,e,(match p with | true=>g | false=>false),l,rfl,rfl,by simp [i],by simp [n],by simp only [de,s,m,ob];cases p<;>rfl,o,?_⟩;cases p<;>rfl
theorem F9:∀(a b:List V),takeN a.length (a++b)=some a
 | [],b=>by cases b<;>rfl
 | x::a,b=>by simp only [List.length_cons,List.cons_append,takeN,F9 a b,ob]
def Qi (P:Program)(ρ:bD)(d:Nat)(t:TypeId)(ks:List PK):Prop:=∃a,Oy P t=some a/\
 ((a = .one/\∀{v u:V} {x y:Value} {r:Bool} (n:Nat) (w:World),RV ρ v x->RV ρ u y->de ks [v] [u]=some r->(Op.equalIn (n+d) t x y).run P w = .ok r w)\/
  (a≠.one/\∀{cs es:List V} {xs ys:List Value} {r:Bool} (n:Nat) (w:World),cZ ρ cs xs->cZ ρ es ys->de ks cs es=some r->(Op.equalIn (n+d) t (.agg ⟨xs⟩) (.agg ⟨ys⟩)).run P w = .ok r w))
theorem Hx {d:Nat}(I:∀{t ks},gK P d t=some ks->Qi P ρ d t ks):∀{fs:List Field} {at_:Nat} {ks:List PK},gK.qF P (gK P d) at_ fs=some ks->∀{cs es:List V} {xs ys:List Value} {r:Bool} (n:Nat) (w:World),
  cZ ρ cs xs->cZ ρ es ys->de ks (bz at_ cs) (bz at_ es)=some r->(Op.eqFields (n+d) ⟨xs⟩ ⟨ys⟩ fs).run P w = .ok r w
 | [],at_,ks,hk,cs,es,xs,ys,r,n,w,hx,hy,h=>by
   simp only [gK.qF,Option.some.injEq] at hk;subst hk;have:r=true:=by
    cases g:bz at_ cs with
    | nil=>cases A:bz at_ es with
      | nil=>rw [g,A] at h;simp only [de,Option.some.injEq] at h;exact h.symm
      | cons _ _=>rw [g,A] at h;simp [de] at h
    | cons _ _=>rw [g] at h;simp [de] at h
   subst this;simp [Op.eqFields]
 | f::fs,at_,ks,hk,cs,es,xs,ys,r,n,w,hx,hy,h=>by
   simp only [gK.qF,ad,ai,Option.some.injEq,Bool.and_eq_true] at hk;obtain ⟨a,b,m,T,⟨⟨D,F⟩,E⟩,rest,R,rfl⟩:=hk;have D:=Nat.eq_of_beq_eq_true D;have F:=Nat.eq_of_beq_eq_true F;have E:f.name≠ "_":=by simpa using E
   subst D;subst F;obtain ⟨s,G,C,L,p,q,B,z,H,J,g,A,rfl⟩:=xZ h;have Q:bz (f.offset+a.length) cs=G:=by rw [dM] at B ⊢;rw [<-List.drop_drop,B,<-H,List.drop_left]
   have S:bz (f.offset+a.length) es=L:=by rw [dM] at z ⊢;rw [<-List.drop_drop,z,<-J,List.drop_left]
   have tail:=Hx I R n w hx hy (by rw [Q,S];exact A);obtain ⟨X,c,o⟩:=I b;have key:∃x y,(part f.type ⟨xs⟩ f.offset).run P w = .ok x w/\(part f.type ⟨ys⟩ f.offset).run P w = .ok y w/\(Op.equalIn (n+d) f.type x y).run P w = .ok p w:=by
    rcases o with ⟨rfl,o⟩ | ⟨N,o⟩
    ·have a1:a.length=1:=by
      rcases Qg c with ⟨_,_⟩ | ⟨n,e,_⟩
      ·rw [gK.eq_def] at b
       cases d with
       | zero=>simp at b
       | succ d=>
         simp only at b;split at b
         ·cases b;rfl
         ·cases b;rfl
         ·cases b;rfl
         ·rename_i Y W
          simp only [Oy,W,ad] at c;obtain ⟨_,_,e⟩:=c;cases e
         ·cases b
      ·cases e
     obtain ⟨v,rfl⟩:∃v,s=[v]:=List.length_eq_one_iff.1 (by omega);obtain ⟨u,rfl⟩:∃u,C=[u]:=List.length_eq_one_iff.1 (by omega);obtain ⟨x,k,i⟩:=Ae c hx (off:=f.offset) (v:=v) (by simp [dB,B]);obtain ⟨y,l,j⟩:=Ae c hy (off:=f.offset) (v:=u) (by simp [dB,z]);exact ⟨x,y,i w,j w,o n w k l g⟩
    ·rcases Qg c with ⟨e,_⟩ | ⟨m,rfl,K,_⟩
     ·exact absurd e N
     ·rw [T] at K;cases K
      have O:rowFrom cs f.offset a.length=some s:=by unfold rowFrom;rw [B,<-H];exact F9 s G
      have U:rowFrom es f.offset a.length=some C:=by unfold rowFrom;rw [z,<-J];exact F9 C L
      obtain ⟨x,k,i⟩:=Ae c hx (off:=f.offset) (v:=.agg s) (by simp only [dB,O,ob]);obtain ⟨y,l,j⟩:=Ae c hy (off:=f.offset) (v:=.agg C) (by simp only [dB,U,ob]);cases k with | agg k=>cases l with | agg l=>
      exact ⟨_,_,i w,j w,o n w k l g⟩
   obtain ⟨x,y,i,j,M⟩:=key;simp only [Op.eqFields,if_pos E,Sem.run_bind,i,j,M,Result.andThen_ok];cases p
   ·simp
   ·simpa using tail
theorem Hy:∀{d:Nat} {t:TypeId} {ks:List PK},gK P d t=some ks->Qi P ρ d t ks
 | 0,t,ks,h=>by simp [gK] at h
 | d+1,t,ks,h=>by
   have flat:∀{l:PK},ks=[l]->Oy P t=some .one->(∀v u x y b n w,RV ρ v x->RV ρ u y->gh l v u=some b->(Op.equalIn (n+1) t x y).run P w = .ok b w)->Qi P ρ (d+1) t ks:=λ{l} e p z=>by
    subst e;refine ⟨.one,p,.inl ⟨rfl,λ{v u x y r} n w g f j=>?_⟩⟩;simp only [de,ad,Option.some.injEq] at j;obtain ⟨b,i,q,rfl,rfl⟩:=j;have:=z v u x y b (n+d) w g f i;cases b<;>exact this
   unfold gK at h;split at h
   ·rename_i a
    cases h;refine flat rfl (by simp [Oy,a]) λv u x y b n w g f i=>?_;rcases ql g f i with ⟨_,c,A,rfl,rfl,rfl⟩ | ⟨e,_⟩ | ⟨e,_⟩
    ·simp [Op.equalIn,run_underlying a]
    ·cases e
    ·cases e
   ·rename_i k a
    cases h;refine flat rfl (by simp [Oy,a]) λv u x y b n w g f i=>?_;rcases ql g f i with ⟨e,_⟩ | ⟨_,k,c,A,rfl,rfl,rfl⟩ | ⟨e,_⟩
    ·cases e
    ·simp [Op.equalIn,run_underlying a]
    ·cases e
   ·rename_i a
    cases h;refine flat rfl (by simp [Oy,a]) λv u x y b n w g f i=>?_;rcases ql g f i with ⟨e,_⟩ | ⟨e,_⟩ | ⟨_,s,B,rfl,rfl,rfl⟩
    ·cases e
    ·cases e
    ·simp [Op.equalIn,run_underlying a]
   ·rename_i fs a
    simp only [ai] at h;obtain ⟨Bx,h⟩:=h;simp only [Bool.and_eq_true,Bool.not_eq_true'] at Bx;obtain ⟨Bx,o⟩:=Bx;have MU:P.fieldsOf t=fs:=by simp [Program.fieldsOf,a]
    have p:∃n,Oy P t=some (.many n)\/True:=⟨0,.inr trivial⟩;cases hz:cg P t with
    | none=>rw [hz] at o;cases o
    | some m=>
      refine ⟨.many m,by simp [Oy,a,hz,ob],.inr ⟨by simp,λ{cs es xs ys r} n w g f j=>?_⟩⟩;rw [show n+(d+1)=(n+d)+1 from rfl,run_equalIn_struct (P:=P) w (n+d) t ⟨xs⟩ ⟨ys⟩ (by rw [MU];exact a) (by simpa using Bx),MU];exact Hx (λh=>Hy h) h n w g f (by simpa [bz] using j)
   ·cases h
theorem ada {t:TypeId}{fs:Array Field}{ks:List PK}{x:Value}{r:Bool}(op:BinOp)(i:P.underlying t=some (.struct fs))(c:gK P 8 t=some ks)(j:P.eqGuardType P.depth t=false)
  (f:RV ρ v x) (l:RV ρ u y) (h:Ke ks v u=some r):oT P op t ox oy x y r:=by
 unfold Ke at h;split at h
 ·cases f with | agg r1=>cases l with | agg r2=>
  obtain ⟨g,b,a⟩:=Hy (ρ:=ρ) c;have k:g≠.one:=by
   intro e;subst e;simp only [Oy,i,ad] at b;obtain ⟨_,_,e⟩:=b;cases e
  rcases a with ⟨e,_⟩ | ⟨_,a⟩
  ·exact absurd e k
  ·exact λw n m=>⟨run_eqGuard_agg w op t ox oy _ _ j,by
    obtain ⟨d,rfl⟩:∃d,n=d+8:=⟨n - 8,by omega⟩;exact a d w r1 r2 h⟩
 ·cases h
theorem YM {t:TypeId}{x:Value}{r:Bool}(op:BinOp)(b:RV ρ v x)(c:RV ρ u y)(h:DA (kP P) (Kk P t ox oy) v u=some r):oT P op t ox oy x y r:=by
 unfold Kk at h;split at h
 ·rename_i a;exact aae op a b c h
 ·rename_i e a
  split at h
  ·simp [DA] at h
  ·rename_i n f hs
   cases n with
   | zero=>exact absurd rfl f
   | succ n=>exact ac9 op a hs b c h
  ·simp [DA] at h
 ·rename_i a;exact Wn op a b c h
 ·rename_i a;exact Wo op a b c h
 ·rename_i a;exact ac' op a b c h
 ·rename_i a;exact aaf op a b c h
 ·rename_i fs a
  split at h
  ·rename_i ks d
   simp only [ai] at d;exact ada op a d.2 (by simpa using d.1) b c h
  ·simp [DA] at h
 ·simp [DA] at h
theorem Wp {a:TypeId->PK} {k:EK}  {b:Bool} (h:DA a k v u=some b):oS v=true/\oS u=true:=by
 unfold DA at h;split at h
 ·unfold FY at h;split at h<;>first | exact ⟨rfl,rfl⟩ | cases h
 ·unfold xT at h;split at h<;>first | exact ⟨rfl,rfl⟩ | cases h
 ·unfold kQ at h;split at h<;>first | exact ⟨rfl,rfl⟩ | cases h
 ·unfold I9 at h;split at h<;>first | exact ⟨rfl,rfl⟩ | cases h
 ·unfold Ov at h;split at h<;>first | exact ⟨rfl,rfl⟩ | cases h
 ·unfold FZ at h;split at h<;>first | exact ⟨rfl,rfl⟩ | cases h
 ·unfold Ke at h;split at h<;>first | exact ⟨rfl,rfl⟩ | cases h
 ·cases h
theorem Tw {a lo hi m:Int}{r:V}(d:lo<=m)(c:m<=hi)(h:Kg op a lo hi=some r):ct op .i64 a m=some r:=by
 unfold Kg at h;cases op<;>simp only [reduceCtorEq] at h
 all_goals
  simp only [ct];split at h
  ·rename_i b
   cases h;rw [cR] at b;simp only [cR,Option.some.injEq,V.bool.injEq];simp at b ⊢;omega
  ·rename_i b
   simp only [ai,Option.some.injEq] at h;obtain ⟨h3,rfl⟩:=h;rw [cR] at h3;simp only [cR,Option.some.injEq,V.bool.injEq];simp at h3 ⊢;omega
theorem adb {t:TypeId}{r:V}{x:Value}(f:RV ρ v x)(l:RV ρ u y)(h:binOp (kP P) op (Kk P t ox oy) v u=some r):
  vW P ρ r (do eqGuard op t ox oy x y;Go.binOp op t x y):=by
 have d:∀k a j b,x = .int k a->y = .int j b->∀w,(eqGuard op t ox oy x y).run P w = .ok () w:=λk a j b e n w=>by
  subst e;subst n;unfold eqGuard;cases op<;>simp
 have p:∀a b,x = .string a->y = .string b->∀w,(eqGuard op t ox oy x y).run P w = .ok () w:=λa b e n w=>by
  subst e;subst n;unfold eqGuard;cases op<;>simp
 have c:∀{s:Sem Value},vW P ρ r s->(∀w,(eqGuard op t ox oy x y).run P w = .ok () w)->s=Go.binOp op t x y->vW P ρ r (do eqGuard op t ox oy x y;Go.binOp op t x y):=λ⟨z,B,C⟩ g e=>
  ⟨z,B,λw=>by rw [Sem.run_bind,g w,Result.andThen_ok,<-e];exact C w⟩
 unfold binOp at h;split at h
 ·rename_i j a k b
  cases f;cases l;have g:=d _ _ _ _ rfl rfl;cases op
  case shl=>exact c (Ku h t) g rfl
  case shr=>exact c (Ku h t) g rfl
  all_goals
   simp only [ai,Cf] at h;obtain ⟨rfl,h⟩:=h;exact c (nP h (by simp) (by simp) t) g rfl
 ·rename_i a b
  cases f with | str s=>cases l with | str u=>
  exact c (ac6 h t) (p _ _ rfl rfl) rfl
 ·rename_i a lo hi
  cases f;cases l with | eG g1 g2=>
  have g:=d _ _ _ _ rfl rfl;have h:=Tw g1 g2 h;cases op<;>first | (cases h;done) | exact c (nP h (by simp) (by simp) t) g rfl
 ·rename_i lo hi a
  cases l;cases f with | eG g1 g2=>
  have g:=d _ _ _ _ rfl rfl;cases op<;>simp only [reduceCtorEq] at h
  all_goals
   have h:=Tw g1 g2 h;exact c (nP (by rw [<-h];rfl) (by simp) (by simp) t) g rfl
 ·rename_i q Ds _ _
  have big:∀a b,Op.equal t a b=Op.equalIn 10000 t a b:=λ_ _=>rfl;have o:oS v=true/\oS u=true:=by
   cases op<;>simp only [ad,reduceCtorEq] at h<;>(obtain ⟨b,h,_⟩:=h;exact Wp h)
  have shape:(∀k a j b,¬(x = .int k a/\y = .int j b))/\(∀a b,¬(x = .string a/\y = .string b)):=by
   refine ⟨λk a j b ⟨e,n⟩=>?_,λa b ⟨e,n⟩=>?_⟩
   ·subst e;subst n;exact q _ _ _ _ (ac0 f o.1) (ac0 l o.2)
   ·subst e;subst n;exact Ds _ _ (OA f o.1) (OA l o.2)
  have E:(∀k a,x≠.float k a)/\(∀k a b,x≠.complex k a b):=⟨λk a e=>(by subst e;exact ac1 f o.1),λk a b e=>(by subst e;exact Wj f o.1)⟩;cases op<;>simp only [ad,reduceCtorEq] at h
  case eql=>
   obtain ⟨b,h,m⟩:=h;cases m;refine ⟨_,.bool b,λw=>?_⟩;obtain ⟨A,m⟩:=YM .eql f l h w 10000 (by omega);have e:Go.binOp .eql t x y=(do pure (.bool (<-Op.equal t x y))):=by
    cases x<;>cases y<;>first | rfl | (exact absurd ⟨rfl,rfl⟩ (shape.1 _ _ _ _)) | (exact absurd ⟨rfl,rfl⟩ (shape.2 _ _)) | (exact absurd rfl (E.1 _ _)) | (exact absurd rfl (E.2 _ _ _))
   rw [e,big];simp only [Sem.run_bind,A,Result.andThen_ok,m];rfl
  case neq=>
   obtain ⟨b,h,m⟩:=h;cases m;refine ⟨_,.bool (!b),λw=>?_⟩;obtain ⟨A,m⟩:=YM .neq f l h w 10000 (by omega);have e:Go.binOp .neq t x y=(do pure (.bool (!(<-Op.equal t x y)))):=by
    cases x<;>cases y<;>first | rfl | (exact absurd ⟨rfl,rfl⟩ (shape.1 _ _ _ _)) | (exact absurd ⟨rfl,rfl⟩ (shape.2 _ _)) | (exact absurd rfl (E.1 _ _)) | (exact absurd rfl (E.2 _ _ _))
   rw [e,big];simp only [Sem.run_bind,A,Result.andThen_ok,m];rfl
end
end Go.Dx
