/-
  The client's laws. Part ZAY of the proof: blotter/jsonx: quoted, order.
-/
import Derived.Test.YtdjlhmmfplhhdaaGreatDoorZAV
import Derived.Test.YtdjlhmmfplhhdaaGreatDoorZAX
import Derived.Test.YtdjlhmmfplhhdaaGreatDoorZAQ
namespace K
open Go Go.Dx Go.RowKit Go.Proofs
set_option maxRecDepth 100000
variable{b0 bv:V}{l:Lb}{h0 h h':H}
structure De (h0 h:H)(l:Lb)(b0 bv:V):Prop where
 mod:Mod h0 h (l::ag b0)
 grow:Grow h0 b0 bv
theorem De.refl (h:H)(l:Lb)(bv:V):De h h l bv bv:=⟨Mod.refl _ _,λ_x a=>.inr a⟩
theorem De.more (a:De h0 h l b0 bv)(m:Mod h h' []):De h0 h' l b0 bv:=
 ⟨(a.mod.trans m).mono λx o _ b=>by simpa using b,a.grow⟩
theorem De.trans {f:V}{t:List Nat}(a:De h0 h l b0 bv)(b:De h h' l bv f)(j:N3 h l bv t):De h0 h' l b0 f:=by
 obtain ⟨o,i⟩:=j.live;refine ⟨a.mod.fr b.mod λx c=>?_,λx c=>?_⟩
 ·rcases List.mem_cons.1 c with rfl | c
  ·exact .inr (List.mem_cons_self ..)
  ·exact (a.grow x c).imp id λe=>List.mem_cons_of_mem _ e
 ·rcases b.grow x c with e | e
  ·cases e0:h0.get x with
   | none=>exact .inl rfl
   | some o0=>
     by_cases d:x∈l::ag b0
     ·rcases List.mem_cons.1 d with rfl | d
      ·rw [i] at e;cases e
      ·exact .inr d
     ·rw [a.mod.get e0 d] at e;cases e
  ·exact a.grow x e
theorem De.get (a:De h0 h l b0 bv){x:Lb}{o:Dx.Obj}(e:h0.get x=some o)(c:x≠l)(b:x∉ag b0):h.get x=some o:=a.mod.get e (by simp only [List.mem_cons,not_or];exact ⟨c,b⟩)
theorem alA:∀c,c<256->AE Nat.land .u8 (Int.ofNat c) 15=Int.ofNat (c % 16):=by decide +kernel
theorem Pv {t s:List Nat}(hw:Wf h)(hB:N3 h l bv t)(ht:t.length<=150000000)(hs:bt s){Q:V->H->Prop} (hq:∀N4 v h',N3 h' l N4 v->t.length<v.length->v.length<=t.length+6*s.length+2->De h h' l bv N4->Wf h'->Q (.tuple []) h'):CW pf G0 yH [.ptr l 0,.str s] h Q:=by
 have xM:=hs.1;refine LP.enter (by kernel_rfl) ?_;cbv;refine iu hw hB (by omega) (by omega) (by decide) λK h1 w Uj ar aK=>?_;have to1:De h h1 l bv K:=⟨ar,Uj⟩;cbv;refine .fr aK (by omega) λsv h2 B9 F av aO=>?_;have R:=w.mono av;have Y:=to1.more av;cbv;refine .of B9 λn fg hn=>?_;have vX:l∉ag sv:=by obtain ⟨o,ho⟩:=w.live;exact F.VT ho
 have P:∀x,x∈ag sv->x∉ag K:=λx O C=>by obtain ⟨c,e⟩:=w.own.row C;rw [F x O] at e;cases e
 cbv;refine .inv [p0,p1,p9,YB,p11] (λm' aB h'=>∃(i:Int) (N4:V) (v:List Nat),aB=[.ptr l 0,.str s,sv,.int .i64 n,.int .i64 i]/\0<=i/\i.toNat<=s.length/\m'=s.length - i.toNat/\N3 h' l N4 v/\t.length<v.length/\v.length<=t.length+6*i.toNat+1/\De h h' l bv N4/\De h2 h' l K N4/\Wf h') [_,_,_,_,_] rfl _ ⟨0,K,t++[34],rfl,by omega,by simp,rfl,R,by simp,by simp,Y,De.refl _ _ _,aO⟩ ?_;rintro m' _ h3 ⟨i,L,t3,rfl,iB,hi,eF,N7,acO,av',d,f,E⟩;cbv;refine .lt (λbA=>?_) λjl=>?_
 ·obtain ⟨c,M⟩:∃c,s[i.toNat]? =some c:=⟨_,List.getElem?_eq_getElem (by omega)⟩
  have LU:=hs.2 c (List.mem_of_getElem? M);have U:Sl h3 1 sv s.length (ae s):=B9.mono f.mod λx O C=>by
   rcases List.mem_cons.1 C with rfl | C
   ·exact vX O
   ·exact P x O C
  cbv;refine .byte U iB M λq off he=>?_;cbv;refine .byte he λy BV hy=>?_;cbv;refine .eq (λe1=>?_) λe1=>?_
  ·cbv;refine iu E N7 (by omega) (by omega) (by decide) λb4 h4 Zk IY D A=>?_
   cbv;refine iu A Zk (by simp;omega) BV (by omega) λg u N8 Ap r p=>?_;have a:De h3 u l L g:=De.trans ⟨D,IY⟩ ⟨r,Ap⟩ Zk;cbv;refine .add (by omega) (by omega) λj Z=>?_;cbv;exact ⟨rfl,s.length - j.toNat,by omega,j,g,_,rfl,by omega,by omega,rfl,N8,by simp;omega,by simp;omega,d.trans a N7,f.trans a N7,p⟩
  cbv;refine .eq (λe2=>?_) λe2=>?_
  ·cbv;refine iu E N7 (by omega) (by omega) (by decide) λb4 h4 Zk IY D A=>?_
   cbv;refine iu A Zk (by simp;omega) BV (by omega) λg u N8 Ap r p=>?_;have a:De h3 u l L g:=De.trans ⟨D,IY⟩ ⟨r,Ap⟩ Zk;cbv;refine .add (by omega) (by omega) λj Z=>?_;cbv;exact ⟨rfl,s.length - j.toNat,by omega,j,g,_,rfl,by omega,by omega,rfl,N8,by simp;omega,by simp;omega,d.trans a N7,f.trans a N7,p⟩
  cbv;refine .lt (λe3=>?_) λe3=>?_
  ·cbv;refine Zf E N7 (by omega) (by simp) (λc M=>by simp at M;omega) λnn b4 h4 Zk IY D A=>?_
   cbv;refine .shr 16 (by omega) (by omega) (by decide) rfl λz hz=>?_;have G:∀k:Nat,k<16->∃x,[48,49,50,51,52,53,54,55,56,57,97,98,99,100,101,102][k]? =some x/\x<256:=λk hk=>by
    have:=List.getElem?_eq_getElem (l:=[48,49,50,51,52,53,54,55,56,57,97,98,99,100,101,102]) (i:=k) (by simpa using hk);have dA:∀b∈[48,49,50,51,52,53,54,55,56,57,97,98,99,100,101,102],b<256:=by decide
    exact ⟨_,this,dA _ (List.mem_of_getElem? this)⟩
   obtain ⟨x1,uH,aEo⟩:=G z.toNat (by omega);cbv;refine .of (by omega) uH λy1 W ON=>?_;cbv;refine iu A Zk (by simp;omega) W (by omega) λg u N8 Ap r p=>?_;cbv;refine .akQ λN sT=>?_;have B:N=Int.ofNat (c % 16):=by
    have ey:y=Int.ofNat c:=by
     subst hy;obtain ⟨m,rfl⟩:=Int.eq_ofNat_of_zero_le BV;simp
    rw [sT,ey];exact alA c LU
   clear sT;have J:0<=N/\N.toNat<16:=by rw [B];refine ⟨Int.natCast_nonneg _,?_⟩;show c % 16<16;omega
   clear B;obtain ⟨x2,ke,aEp⟩:=G N.toNat J.2;cbv;refine .of J.1 ke λy2 S SG=>?_;cbv;refine iu p N8 (by simp;omega) S (by omega) λb6 h6 X H4 bR cz=>?_;have I:De h3 h6 l L b6:=(De.trans ⟨D,IY⟩ ⟨r,Ap⟩ Zk).trans ⟨bR,H4⟩ N8;cbv;refine .add (by omega) (by omega) λj Z=>?_;cbv;exact ⟨rfl,s.length - j.toNat,by omega,j,b6,_,rfl,by omega,by omega,rfl,X,by simp;omega,by simp;omega,d.trans I N7,f.trans I N7,cz⟩
  ·cbv;refine iu E N7 (by omega) BV (by omega) λg u N8 Ap r p=>?_
   have a:De h3 u l L g:=⟨r,Ap⟩;cbv;refine .add (by omega) (by omega) λj Z=>?_;cbv;exact ⟨rfl,s.length - j.toNat,by omega,j,g,_,rfl,by omega,by omega,rfl,N8,by simp;omega,by simp;omega,d.trans a N7,f.trans a N7,p⟩
 ·cbv;refine iu E N7 (by omega) (by omega) (by decide) λg u N8 Ap r p=>?_
  cbv;exact hq g _ u N8 (by simp;omega) (by simp;omega) (d.trans ⟨r,Ap⟩ N7) p
end K
namespace K
open Go Go.Dx Go.RowKit Go.Proofs
set_option maxRecDepth 100000
variable{h:H}{l:List (List Nat)}{nv:V}{lb:Lb}
theorem awb:bG Tryz.prog 308 Extern.BytealgCompare.compare:=⟨⟨_,Tryz.func308,by kernel_rfl,by kernel_rfl,by kernel_rfl,by kernel_rfl⟩⟩
theorem XO {a b:List Nat}{Q:V->H->Prop} (c:∀r:Int,Q (.int .i64 r) h):CW pf G0 sG [.str a,.str b] h Q:=by
 refine Fa.enter (by kernel_rfl) ?_;cbv;refine lY.enter (by kernel_rfl) ?_;cbv;obtain ⟨r,d⟩:∃r,r=Jj a b:=⟨_,rfl⟩;refine CW.ext (v:=.int .i64 r) (h':=h) (HK awb) (by rw [d];rfl) ?_;cbv;exact c r
def ints:List Int->List V
 | []=>[]
 | i::r=>.int .i64 i::ints r
theorem zE:∀l,(ints l).length=l.length
 | []=>rfl
 | _::r=>by simp [ints,zE r]
theorem Ib:∀a b,ints (a++b)=ints a++ints b
 | [],_=>rfl
 | _::r,b=>by simp [ints,Ib r b]
theorem Mh:∀{l:List Int} {i:Nat} {x:Int},l[i]? =some x->(ints l)[i]? =some (.int .i64 x)
 | [],i,x,h=>by simp at h
 | y::l,0,x,h=>by simp at h;subst h;rfl
 | y::l,i+1,x,h=>by simpa [ints] using Mh (l:=l) (i:=i) (x:=x) (by simpa using h)
theorem ints_set:∀(l:List Int) (i:Nat) (x:Int),i<l.length->aX (ints l) i [.int .i64 x]=some (ints (l.set i x))
 | [],i,x,h=>by simp at h
 | y::l,0,x,h=>by simp [ints,aX,ob]
 | y::l,i+1,x,h=>by simp only [ints,aX,ints_set l i x (by simpa using h),ob,List.set_cons_succ]
theorem abu {x y:Int}(a:h.get lb=some (.cells [nv] 127 0 .yes))(o:Ro h 1 nv l.length (strs l))(d:0<=x)(c:x.toNat<l.length)(BV:0<=y)(hy:y.toNat<l.length){Q:V->H->Prop} (f:∀r:Int,Q (.int .i64 r) h):
  CW pf G0 wu [.int .i64 x,.int .i64 y,.ptr lb 0] h Q:=by
 obtain ⟨m,i⟩:∃s,l[x.toNat]? =some s:=⟨_,List.getElem?_eq_getElem c⟩;obtain ⟨j,B9⟩:∃s,l[y.toNat]? =some s:=⟨_,List.getElem?_eq_getElem hy⟩;refine IP.enter (by kernel_rfl) ?_;cbv;refine .of follows 4 ?_;cbv;refine .of a rfl ?_;cbv;refine .of o.sl d rfl c (eZ i) λq off g=>?_;cbv;refine .fR g 0 rfl ?_;cbv;refine .of a rfl ?_;cbv;refine .of o.sl BV rfl hy (eZ B9) λk n e=>?_;cbv;refine .fR e 0 rfl ?_;cbv;refine XO λr=>?_;cbv;refine .nil ?_;cbv;exact f r
theorem abv {sv:V}{xs:List Int}{b:Int}(hw:Wf h)(hb:h.get lb=some (.cells [nv] 127 0 .yes))(hr:Ro h 1 nv l.length (strs l))(ho:aG h 3 1 sv xs.length (ints xs))(hn:b.toNat=xs.length)(fC:0<=b)(rN:xs.length<=100)(c:∀x∈xs,0<=x/\x.toNat<l.length) (A:lb∉ag sv) {Q:V->H->Prop}
  (hq:∀ys h',ys.length=xs.length->(∀x∈ys,0<=x/\x.toNat<l.length)->aG h' 3 1 sv ys.length (ints ys)->Mod h h' (ag sv)->Wf h'->Q (.tuple []) h'):
  CW pf G0 eH [sv,.int .i64 0,.int .i64 b,.func 222 [] [.ptr lb 0]] h Q:=by
 refine kI.enter (by kernel_rfl) ?_;cbv;refine .add (by omega) (by omega) λi0 iB=>?_;cbv;refine .inv [p0,p1,p2,p3,p8] (λy R h'=>∃(i:Int) (ys:List Int),R=[sv,.int .i64 0,.int .i64 b,.func 222 [] [.ptr lb 0],.int .i64 i]/\1<=i/\i<=1000/\y=1000 - i.toNat/\ys.length=xs.length/\(∀x∈ys,0<=x/\x.toNat<l.length)/\aG h' 3 1 sv ys.length (ints ys)/\Mod h h' (ag sv)/\Wf h') [_,_,_,_,_] rfl _ ⟨i0,xs,rfl,by omega,by omega,rfl,rfl,c,ho,Mod.refl _ _,hw⟩ ?_;rintro y _ h1 ⟨i,ys,rfl,Je,Ip,eF,MS,hy,Iw,ar,aK⟩;cbv;refine .lt (λbA=>?_) λjl=>?_
 ·cbv
  refine .inv [p0,p1,p2,p3,p8,p9] (λy R h'=>∃(j:Int) (zs:List Int),R=[sv,.int .i64 0,.int .i64 b,.func 222 [] [.ptr lb 0],.int .i64 i,.int .i64 j]/\0<=j/\j<=i/\y=j.toNat/\zs.length=xs.length/\(∀x∈zs,0<=x/\x.toNat<l.length)/\aG h' 3 1 sv zs.length (ints zs)/\Mod h h' (ag sv)/\Wf h') [_,_,_,_,_,_] rfl _ ⟨i,ys,rfl,by omega,by omega,rfl,MS,hy,Iw,ar,aK⟩ ?_;rintro m2 _ h2 ⟨j,zs,rfl,YD,Dp,acN,m,q,d,u,X⟩;have dh:=u.get hb A;have rL:=hr.mono u;cbv;refine .of follows 6 ?_;cbv;refine .gt (λg=>?_) λg=>?_
  ·obtain ⟨f,Is⟩:∃z,zs[j.toNat]? =some z:=⟨_,List.getElem?_eq_getElem (by omega)⟩
   have F:=q f (List.mem_of_getElem? Is);cbv;refine .own d (by omega) (by omega) λq1 aqp sU Uj O=>?_;have w:∀k:Nat,∀z,zs[k]? =some z->dB .one (ints zs) (k*1)=some (.int .i64 z):=λk z hk=>by
    show (bz (k*1) (ints zs)).head? =_
    rw [List.head?_eq_getElem?,qj,Nat.add_zero,Nat.mul_one];exact Mh hk
   cbv;refine .of Uj (by rw [O];exact w _ _ Is) ?_;cbv;refine .sub (by omega) (by omega) λM hj1=>?_;obtain ⟨n,D⟩:∃z,zs[M.toNat]? =some z:=⟨_,List.getElem?_eq_getElem (by omega)⟩;have gZ:=q n (List.mem_of_getElem? D);cbv;refine .own d (by omega) (by omega) λq2 xO iC Iy S=>?_;cbv;refine .of Iy (by rw [S];exact w _ _ D) ?_;cbv;refine ⟨222,[],[.ptr lb 0],rfl,?_⟩;refine abu dh rL F.1 F.2 gZ.1 gZ.2 λr=>?_;cbv;refine .nil ?_;cbv;refine .lt (λe1=>?_) λe1=>?_
   ·cbv;refine .of follows 6 ?_
    cbv;refine .sub (by omega) (by omega) λj2 JG=>?_;cbv;refine .sub (by omega) (by omega) λj3 Wc=>?_;have L:j2=M:=by omega
    have E:j3=M:=by omega
    subst L E;clear JG Wc;cbv;refine .own d (by omega) (by omega) λq3 FQ hq3 O9 Z=>?_;cbv;refine .of O9 (by rw [Z];exact w _ _ D) ?_;cbv;refine .own d (by omega) (by omega) λq4 ahp hq4 IY K=>?_;cbv;refine .of IY (by rw [K];exact w _ _ Is) ?_;cbv;refine .own d (by omega) (by omega) λq5 aEq v Ap P=>?_;have J:=ints_set zs j.toNat n (by omega);cbv;refine .one (vs':=ints (zs.set j.toNat n)) X Ap rfl rfl (by simp) (by rw [P,Nat.mul_one];exact J) λh3 H4 aI aS=>?_;have Na:Mod h2 h3 (ag sv):=aI.mono λx o _ c=>by simp at c;subst c;exact v
    have jv:=d.stored v H4 (by rw [zE,zE,List.length_set]);rw [show zs.length=(zs.set j.toNat n).length from by rw [List.length_set]] at jv;have W:∀x∈zs.set j.toNat n,0<=x/\x.toNat<l.length:=λx c=>(List.mem_or_eq_of_mem_set c).elim (q x) λe=>by rw [e];exact gZ
    have B:(zs.set j.toNat n).length=xs.length:=by rw [List.length_set,m]
    generalize zs.set j.toNat n=a at*;cbv;refine .nil ?_;cbv;refine .own jv (by omega) (by omega) λq7 aEr t G C=>?_;have Y:=ints_set a j3.toNat f (by omega);cbv;refine .one (vs':=ints (a.set j3.toNat f)) aS G rfl rfl (by simp) (by rw [C,Nat.mul_one];exact Y) λh4 SI aL aW=>?_;have alD:Mod h3 h4 (ag sv):=aL.mono λx o _ c=>by simp at c;subst c;exact t
    have ju:=jv.stored t SI (by rw [zE,zE,List.length_set]);rw [show a.length=(a.set j3.toNat f).length from by rw [List.length_set]] at ju;have U:∀x∈a.set j3.toNat f,0<=x/\x.toNat<l.length:=λx c=>(List.mem_or_eq_of_mem_set c).elim (W x) λe=>by rw [e];exact F
    have T:(a.set j3.toNat f).length=xs.length:=by rw [List.length_set,B]
    generalize a.set j3.toNat f=N at*;cbv;refine .nil ?_;cbv;refine .sub (by omega) (by omega) λj5 hj5=>?_;cbv;exact ⟨rfl,j5.toNat,by omega,j5,N,rfl,by omega,by omega,rfl,T,U,ju,((u.trans Na).trans alD).mono (λx o _ c=>by simpa using c),aW⟩
   ·cbv;refine .add (by omega) (by omega) λs Ip=>?_
    cbv;exact ⟨rfl,1000 - s.toNat,by omega,s,zs,rfl,by omega,by omega,rfl,m,q,d,u,X⟩
  ·cbv;refine .nil ?_
   cbv;refine .add (by omega) (by omega) λs Ip=>?_;cbv;exact ⟨rfl,1000 - s.toNat,by omega,s,zs,rfl,by omega,by omega,rfl,m,q,d,u,X⟩
 ·cbv;exact hq ys h1 MS hy Iw ar aK
theorem ae0 (I:Wf h)(v:Ro h 1 nv l.length (strs l))(U:l.length<=12){Q:V->H->Prop} (K:∀a ys h',ys.length=l.length->(∀x∈ys,0<=x/\x.toNat<l.length)->aG h' 3 1 a ys.length (ints ys)->Fr h a->Mod h h' []->Wf h'->Q a h'):
  CW pf G0 BP [nv] h Q:=by
 refine NR.enter (by kernel_rfl) ?_;cbv;refine .flat v.sl.flat ?_;cbv;refine .of I λlb S E gi C J=>?_;cbv;refine .of E rfl ?_;cbv;refine .of (v.mono C).sl λn R P=>?_;cbv;refine .inv [p1,p3,p6,p7] (λg s h'=>∃(i:Int) (a:V) (ys:List Int),s=[.ptr lb 0,a,.int .i64 n,.int .i64 i]/\0<=i/\i.toNat<=l.length/\g=l.length - i.toNat/\ys.length=i.toNat/\(∀x∈ys,0<=x/\x.toNat<l.length)/\aG h' 3 1 a ys.length (ints ys)/\Fr h a/\lb∉ag a/\h'.get lb=some (.cells [nv] 127 0 .yes)/\Mod h h' []/\Wf h') [_,_,_,_] rfl _ ⟨0,.nilSlice 0,[],rfl,by omega,by simp,rfl,rfl,by simp,.nil,Fr.Ff _ _,by simp [ag],E,C,J⟩ ?_;rintro g _ N ⟨i,a,ys,rfl,iB,hi,eF,MS,hy,mh,JE,b,F,av,D⟩;cbv;refine .lt (λZ=>?_) λjl=>?_
 ·cbv;refine .flat rfl ?_
  cbv;refine .of D λT h3 L J9 u M=>?_;cbv;refine .own M (mh.mono u) (m:=1) (new:=[.int .i64 i]) (by simp only [cW,L];rfl) rfl rfl (by unfold bg;omega) (by decide) λq h4 p IY f w=>?_;rw [show ints ys++[V.int .i64 i]=ints (ys++[i]) from by rw [Ib];rfl,show ys.length+1=(ys++[i]).length from by simp] at p;have B:Mod h h3 []:=(av.trans u).mono λx o _ c=>by simp at c
  have A:=u.get F;cbv;refine .add (by omega) (by omega) λj hj=>?_;cbv;exact ⟨rfl,l.length - j.toNat,by omega,j,q,ys++[i],rfl,by omega,by omega,rfl,by simp;omega,(λx c=>(List.mem_append.1 c).elim (hy x) λe=>by simp at e;subst e;omega),p,IY.fr B (by simp) JE,IY.dp A b,f.get A b,B.fr f (λx c=>.inl (JE x c)),w⟩
 ·cbv
  refine xo.enter (by kernel_rfl) ?_;cbv;refine .of mh.sl λk zQ W=>?_;cbv;refine .u64 (by omega) (by omega) ?_;cbv;refine IN.enter (by kernel_rfl) ?_;cbv;refine UG (by omega) (by omega) λz O y=>?_;clear y;cbv;refine qf.enter (by kernel_rfl) ?_;cbv;refine .inv [p0,p1,p2,p3,p4] (λg s h'=>h'=N/\s=[a,.int .i64 0,.int .i64 k,.int .i64 z,.func 222 [] [.ptr lb 0]]/\g=0) [_,_,_,_,_] rfl 0 ⟨rfl,rfl,rfl⟩ ?_;rintro Y _ h3 ⟨rfl,rfl,rfl⟩;cbv;refine .sub (by omega) (by omega) λd X=>?_;cbv;refine .Ue (by omega) ?_;cbv;refine abv D F (v.mono av) mh (by omega) (by omega) (by omega) hy b λzs h4 G y p f w=>?_;cbv;exact K a zs h4 (by omega) y p JE (av.fr f λx c=>.inl (JE x c)) w
end K
namespace K
open Go Go.Dx Go.RowKit Go.Proofs
set_option maxRecDepth 100000
theorem ae1 (u:Nat):1<=(Bp u).length:=by rw [Fj];split<;>simp
theorem ahz {n:Int}(h:i64 n):1<=(dec n).length/\(dec n).length<=40/\∀b∈dec n,b<256:=by
 obtain ⟨e,f⟩:=h;have c:∀u:Nat,u<=9223372036854775808->(Bp u).length<=19:=λu d=>zB 18 u (by omega);have a:∀b∈dec n,b<256:=λb a=>by
  unfold dec at a;obtain ⟨u,_,rfl⟩:=List.mem_map.1 a;exact u.toNat_lt
 refine ⟨?_,?_,a⟩
 ·by_cases hn:n<0
  ·unfold dec Lib.itoa;rw [if_pos hn];simp
  ·rw [Fk (by omega)];exact ae1 _
 ·by_cases hn:n<0
  ·have:=c n.natAbs (by omega)
   unfold dec Lib.itoa;rw [if_pos hn];unfold Bp at this;simp only [List.map_cons,List.length_cons];omega
  ·rw [Fk (by omega)]
   have:=c n.toNat (by omega);omega
mutual
def XP:Js->Nat
 | .mk k _ t _ its=>60+6*t.length+12*(400+if k=5 then Fo its else 0)
def Fo:List Js->Nat
 | []=>0
 | x::r=>max (XP x) (Fo r)
end
theorem Zl:∀{its:List Js} {i:Nat} {x:Js},its[i]? =some x->XP x<=Fo its
 | [],i,x,h=>by simp at h
 | y::r,0,x,h=>by simp at h;subst h;simp only [Fo];omega
 | y::r,i+1,x,h=>by have:=Zl (its:=r) (i:=i) (x:=x) (by simpa using h);simp only [Fo];omega
theorem alF (n:Nat):∀{t:Js} {h:H} {cs:List V} {l:Lb} {bv:V} {x:List Nat},sizeOf t<n->Wf h->oL h t cs->Lay t->N3 h l bv x->x.length+XP t<=100000000->∀{Q:V->H->Prop},(∀N4 x' h',N3 h' l N4 x'->x.length<x'.length->x'.length<=x.length+XP t->De h h' l bv N4->Wf h'->Q (.tuple []) h')->CW pf G0 HW [.ptr l 0,.agg cs] h Q:=by
 induction n with
 | zero=>intro t h cs l bv x hn;omega
 | succ n ih=>
   intro t h cs l bv x hn hw hj hl hB fL Q hq;cases hj with
   | @mk k i tx ns its nv iv rows ht Ds NV VR h5' xy hi hr=>
   obtain ⟨jm,hjm⟩:∃jm,jm=if k=5 then Fo its else 0:=⟨_,rfl⟩
   have hjs:XP (.mk k i tx ns its)=60+6*tx.length+12*(400+jm):=by simp only [XP,hjm]
   refine UC.enter (by kernel_rfl) ?_;cbv;refine .agg ?_;cbv;refine .of hw λlb h1 cw gi ar aK=>?_;have hB1:=hB.mono ar;have to1:De h h1 l bv bv:=(De.refl h l bv).more ar;have alG:lb≠l:=λe=>by subst e;obtain ⟨o,ho⟩:=hB.live;rw [gi] at ho;cases ho
   have alH:lb∉ag bv:=λhm=>by obtain ⟨c,e⟩:=hB.own.row hm;rw [gi] at e;cases e
   cbv;refine .of cw rfl ?_;cases hl with
   | int aho=>
     obtain ⟨d1,d2,d3⟩:=ahz aho;cbv;refine .cK (by omega) ?_;cbv;refine .cK (by omega) ?_;cbv;refine .nH (by omega) ?_;cbv;refine .of cw rfl ?_;cbv;refine RC aho.1 aho.2 ?_;generalize dec i=di at d1 d2 d3;cbv;refine Zf aK hB1 (by omega) (by omega) d3 λnn b2 h2 hB2 Iy av aO=>?_;cbv;exact hq b2 _ h2 hB2 (by simp;omega) (by simp;omega) (to1.trans ⟨av,Iy⟩ hB1) aO
   | text=>
     cbv;refine .cK (by omega) ?_;cbv;refine .cK (by omega) ?_;cbv;refine .cK (by omega) ?_;cbv;refine .nH (by omega) ?_;cbv;refine .of cw rfl ?_;cbv;refine Pv aK hB1 (by omega) ht λb2 x2 h2 hB2 gb hu2 to2 aO=>?_;cbv;exact hq b2 _ h2 hB2 gb (by omega) (to1.trans to2 hB1) aO
   | obj hll Pg hln Jp=>
     rw [if_pos rfl] at hjm;obtain ⟨C,hC⟩:∃C,C=400+Fo its:=⟨_,rfl⟩;cbv;refine .cK (by omega) ?_;cbv;refine .cK (by omega) ?_;cbv;refine .cK (by omega) ?_;cbv;refine .cK (by omega) ?_;cbv;refine .cK (by omega) ?_;cbv;refine .of cw rfl ?_;cbv;refine ae0 aK (xy.mono ar) Pg λov ys h2 MS hy mh JE av aO=>?_;have hB2:=hB1.mono av;have to2:=to1.more av;have dh:=av.get cw;have nol:l∉ag ov:=by obtain ⟨o,ho⟩:=hB1.live;exact JE.VT ho
     have nob:∀z,z∈ag ov->z∉ag bv:=λz hz hm=>by obtain ⟨c,e⟩:=hB1.own.row hm;rw [JE z hz] at e;cases e
     cbv;refine .of mh.sl λm hm0 hmn=>?_;cbv;refine .inv [p0,p3,SB,Yz,p14] (λm' aB h'=>∃(j:Int) (N4:V) (x':List Nat),aB=[.ptr l 0,.ptr lb 0,ov,.int .i64 m,.int .i64 j]/\0<=j/\j.toNat<=ys.length/\m'=ys.length - j.toNat/\N3 h' l N4 x'/\x.length<=x'.length/\x'.length<=x.length+j.toNat*C/\De h2 h' l bv N4/\Wf h') [_,_,_,_,_] rfl _ ⟨0,bv,x,rfl,by omega,by simp,rfl,hB2,by omega,by omega,De.refl _ _ _,aO⟩ ?_;rintro m' _ h3 ⟨j,b3,x3,rfl,YD,hj,eF,N7,atb,av',to3,aS⟩;have hjC:j.toNat*C<=12*C:=Nat.mul_le_mul_right _ (by omega);have gZ:=to3.get dh alG alH;have hn3:Ro h3 1 nv ns.length (strs ns):=(xy.mono ar).mono av |>.mono to3.mod;have Pw:=((hi.mono ar).mono av).mono to3.mod;cbv;refine .lt (λbA=>?_) λjl=>?_
     ·obtain ⟨y,ON⟩:∃y,ys[j.toNat]? =some y:=⟨_,List.getElem?_eq_getElem (by omega)⟩
      have hyb:=hy y (List.mem_of_getElem? ON);have jv:Sl h3 1 ov ys.length (ints ys):=mh.sl.mono to3.mod λz hz hm=>by
       rcases List.mem_cons.1 hm with rfl | hm
       ·exact nol hz
       ·exact nob z hz hm
      have uU:rowFrom (ints ys) (j.toNat*1) 1=some [.int .i64 y]:=by
       rw [Nat.mul_one];unfold rowFrom;have:=Mh ON;rw [<-Nat.add_zero j.toNat,<-qj] at this;generalize bz j.toNat (ints ys)=zs at this ⊢;cases zs with
       | nil=>simp at this
       | cons z zs=>simp at this;subst this;rfl
      cbv;refine .of jv YD rfl (by omega) uU λq off he=>?_;cbv;refine .fR he 0 rfl ?_;cbv;refine .of λmn aEv=>?_;have YN:∃c,[123,44][mn.toNat]? =some c/\c<256:=by
       have:mn.toNat=0\/mn.toNat=1:=by omega
       rcases this with e | e<;>rw [e]<;>exact ⟨_,rfl,by decide⟩
      obtain ⟨c1,YN,aEw⟩:=YN;cbv;refine .of (by omega) YN λy1 aem ao5=>?_;cbv;refine iu aS N7 (by omega) aem (by omega) λb4 h4 Zk IY aL aW=>?_;have to4:De h3 h4 l b3 b4:=⟨aL,IY⟩;have aqu:=to3.trans to4 N7;have dH:=aqu.get dh alG alH;obtain ⟨nm,nu⟩:∃nm,ns[y.toNat]? =some nm:=⟨_,List.getElem?_eq_getElem (by omega)⟩;have awl:=Ds nm (List.mem_of_getElem? nu);have aEy:=hln nm (List.mem_of_getElem? nu);cbv;refine .of dH rfl ?_;cbv;refine .of (hn3.mono aL).sl hyb.1 rfl (by omega) (eZ nu) λq2 xO uE=>?_;cbv;refine .fR uE 0 rfl ?_;cbv;refine Pv aW Zk (by simp;omega) awl λb5 x5 h5 N8 Bn hu5 to5 bK=>?_;simp only [List.length_append,List.length_cons,List.length_nil] at Bn hu5;have awm:=aqu.trans to5 Zk;cbv;refine iu bK N8 (by omega) (by omega) (by decide) λb6 h6 hB6 H4 bR cz=>?_;have to6:De h5 h6 l b5 b6:=⟨bR,H4⟩;have ahA:=awm.trans to6 N8;have VL:=ahA.get dh alG alH;have hi6:=((hi.mono ar).mono av).mono ahA.mod;obtain ⟨tz,htz⟩:∃t,its[y.toNat]? =some t:=⟨_,List.getElem?_eq_getElem (by omega)⟩;have hjm:=Zl htz;have aEz:j.toNat*C+C<=12*C:=by rw [<-Nat.succ_mul];exact Nat.mul_le_mul_right _ (by omega)
      obtain ⟨ecs,Gr,hre⟩:=(((hr.mono ar).mono av).mono ahA.mod).get htz;have alq:=Js.Jo (k:=5) (i:=i) (t:=tx) (ns:=ns) htz;obtain ⟨a1,a2,a3,a4,a5,rfl⟩:=Gr.five;cbv;refine .of VL rfl ?_;cbv;refine .of hi6.sl hyb.1 rfl (by omega) hre λq3 FQ xJ=>?_;cbv;refine .jC xJ rfl ?_;cbv;refine ih (by omega) cz Gr (Jp tz (List.mem_of_getElem? htz)) hB6 (by simp;omega) λb7 x7 h7 hB7 tf hu7 to7 eJ=>?_;simp only [List.length_append,List.length_cons,List.length_nil] at tf hu7;cbv;refine .add (by omega) (by omega) λj2 JG=>?_;have aED:j2.toNat*C=j.toNat*C+C:=by rw [show j2.toNat=j.toNat+1 by omega,Nat.succ_mul]
      cbv;exact ⟨rfl,ys.length - j2.toNat,by omega,j2,b7,x7,rfl,by omega,by omega,rfl,hB7,by omega,by omega,ahA.trans to7 hB6,eJ⟩
     ·cbv;refine .of gZ rfl ?_
      cbv;refine .of Pw.sl λe he0 he=>?_;cbv;refine .eq (λe1=>?_) λe1=>?_
      ·cbv;refine iu aS N7 (by omega) (by omega) (by decide) λb4 h4 Zk IY aL aW=>?_
       cbv;refine iu aW Zk (by simp;omega) (by omega) (by decide) λb5 h5 N8 Ap bf bK=>?_;cbv;exact hq b5 _ h5 N8 (by simp;omega) (by simp;omega) (to2.trans (to3.trans (De.trans ⟨aL,IY⟩ ⟨bf,Ap⟩ Zk) N7) hB2) bK
      ·cbv;refine iu aS N7 (by omega) (by omega) (by decide) λb5 h5 N8 Ap bf bK=>?_
       cbv;exact hq b5 _ h5 N8 (by simp;omega) (by simp;omega) (to2.trans (to3.trans ⟨bf,Ap⟩ N7) hB2) bK
theorem zF {t:Js}{h:H}{cs:List V}(hw:Wf h)(hj:oL h t cs)(hl:Lay t)(fL:XP t<=90000000){Q:V->H->Prop} (hq:∀s (e:Int) h',s.length<=65536->(∀b∈s,b<256)->Mod h h' []->Wf h'->Q (.tuple [.str s,.int .i64 e]) h'):CW pf G0 BJ [.agg cs] h Q:=by
 have fK:=hj.aZ;obtain ⟨a1,a2,a3,a4,a5,rfl⟩:=hj.five;refine NK.enter (by kernel_rfl) ?_;cbv;refine .agg ?_;cbv;refine .of hw λlb h1 cw gi ar aK=>?_;cbv;refine .of cw rfl ?_;cbv;refine NO.enter (by kernel_rfl) ?_;cbv;refine .agg ?_;cbv;refine .of aK λlc h2 HQ hfc av aO=>?_;cbv;refine .of HQ rfl ?_;have JG:=(hj.mono ar).mono av;cbv;refine aeN (sizeOf t+1) (by omega) aO JG hl (by omega) (by omega) λe h3 aI aS=>?_;have aN:Mod h h3 []:=((ar.trans av).trans aI).mono λx o _ hx=>by simp at hx
 cbv;refine .ne (λe1=>?_) λe1=>?_
 ·cbv;refine .of aS λl h4 xD NU aL aW=>?_
  have VJ:h.get l=none:=aj aN (by simp) NU;have hB:N3 h4 l (.nilSlice 0) []:=⟨.inl xD,.nil,by simp [ag],by simp⟩;have aC:Mod h h4 []:=(aN.trans aL).mono λx o _ hx=>by simp at hx
  have dH:=aL.get (aI.get (av.get cw));cbv;refine .of dH rfl ?_;cbv;refine alF (sizeOf t+1) (by omega) aW ((JG.mono aI).mono aL) hl hB (by simp;omega) λb5 x5 h5 N8 Bn hu5 to5 bK=>?_;have aT:Mod h h5 []:=aC.fr to5.mod λx hx=>by simp [ag] at hx;subst hx;exact .inl VJ
  cbv;refine alu N8 λk zQ hk=>?_;cbv;refine .gt (λg=>?_) λg=>?_
  ·cbv;exact hq _ _ h5 (by simp) (by simp) aT bK
  ·have awn:Fr h b5:=λx hx=>by
    cases e0:h.get x with
    | none=>rfl
    | some o=>
      rcases to5.grow x hx with e2 | e2
      ·rw [aC.get e0] at e2;cases e2
      ·simp [ag] at e2
   cbv;refine abd bK N8 (by simp at Bn;omega) (by omega) λh6 bR cz=>?_;cbv;exact hq _ _ h6 (by omega) N8.GZ (aT.fr bR λx hx=>.inl (awn x hx)) cz
 ·cbv;exact hq _ _ h3 (by simp) (by simp) aN aS
end K
namespace Go.Dx
open Go Go.RowKit
structure I3 (pf:Unit->Program) (G n:Nat) (d:DC) (a:A) (h:H) (Q:Ex->A->H->Prop) (Pn:A->V->H->Prop):Prop where
 out:∀c,dF ⟨pf (),G,n⟩ c=d->Sm pf G n c a h Q Pn
section
variable {pf:Unit->Program} {G n:Nat} {d d1 d2:DC} {a:A} {h:H} {Q:Ex->A->H->Prop} {Pn:A->V->H->Prop}
theorem I3.of (k:VQ pf G n d a h Q Pn):I3 pf G n d a h Q Pn:=⟨λ_ b=>Li b k⟩
theorem N9 {C:CE}{c:Code}(h:dF C c = .seq d1 d2):∃a b,c = .seq a b/\dF C a=d1/\dF C b=d2:=by
 cases c with
 | seq a b=>simp only [dF,DC.seq.injEq] at h;exact ⟨a,b,rfl,h.1,h.2⟩
 | region id ops draw=>
   simp only [dF] at h;split at h
   ·split at h
    ·unfold jG at h
     simp only at h;split at h<;>cases h
    ·cases h
   ·cases h
 | cond x y z=>
   simp only [dF] at h;split at h<;>cases h
 | _=>cases h
theorem I3.seq (k:I3 pf G n d1 a h (aiQ (λa h=>I3 pf G n d2 a h Q Pn) Q) Pn):I3 pf G n (.seq d1 d2) a h Q Pn:=by
 refine ⟨λc d=>?_⟩;obtain ⟨f,b,rfl,g,i⟩:=N9 d;refine .seq ((k.out f g).mono λe j h' q=>?_);cases e with
 | normal=>exact I3.out q b i
 | exit id=>exact q
 | ret=>exact q
theorem I3.weak (ps:List Lb){j:List V}(e:ps.map (λp=>a.tmps.get p)=j.map some) (k:I3 pf G n d {tmps:=gU ps j,defers:=a.defers} h Q Pn):I3 pf G n d a h Q Pn:=
 ⟨λc f=>(k.out c f).weak (u9 e)⟩
theorem bI.oM {f:FuncId}{fn:br}(c:bI pf G f fn){args:List V}{Q:V->H->Prop} (g:Nat.ble args.length fn.ntmps=true)
  (a:I3 pf G fn.ntmps fn.code {tmps:=gk args [] .leaf,defers:=[]} h (tw pf G fn.results Q) λ_ _ _=>False):CW pf G f args h Q:=by
 obtain ⟨func,d,i⟩:=c.out;exact CX.adY d i g (λ_ _ _ q=>q.elim) λe b=>a.out e b
end
end Go.Dx
namespace K
open Go Go.Dx Go.RowKit Go.Proofs
set_option maxRecDepth 100000
variable{h:H}{s:List Nat}
theorem _root_.Go.Dx.CX.awo {pf:Unit->Program} {G:Nat} {f:FuncId}   {Q Pn:V->H->Prop} (k:(∀b∈s,b<256)->CX pf G f [.str s] h Q Pn):CX pf G f [.str s] h Q Pn:=by
 refine ⟨λ{B w0 ρ w xs} R e d=>?_⟩;have a:∀b∈s,b<256:=by
  cases d with
  | cons r t=>
    generalize c:V.str s=v at r;cases r with
    | str t=>
      cases c;intro b a;unfold au at a;obtain ⟨u,_,rfl⟩:=List.mem_map.1 a;exact u.toNat_lt
    | _=>cases c
 exact (k a).out R e d
def ja:DC->DC
 | .seq _ d=>d
 | d=>d
noncomputable def alJ:DC:=ja (ja (ja (ja (ja BS.code))))
noncomputable def aqv:DC:=ja alJ
theorem dU {a y:Int}{Q:V->H->Prop} (b:Q (.iface bW (.agg [.int .i64 a,.int .i64 y])) h):CW pf G0 wh [.int .i64 a,.int .i64 y] h Q:=by
 refine II.enter (by kernel_rfl) ?_;cbv;refine .flat rfl ?_;cbv;refine .flat rfl ?_;cbv;exact b
theorem kD (hs:s.length<=10000000){Q:V->H->Prop} (a:∀r,r=[105,47]++s->Q (.str r) h):CW pf G0 qT [.str s] h Q:=by
 refine CL.enter (by kernel_rfl) ?_;cbv;refine .cat (by simp;omega) λr b=>?_;cbv;exact a r b
theorem jS {t:List Nat}(hs:s.length<=10000000)(j:t.length<=10000000){Q:V->H->Prop} (g:∀r:List Nat,r.length=s.length+t.length+3->Q (.str r) h):CW pf G0 oo [.str s,.str t] h Q:=by
 refine zl.enter (by kernel_rfl) ?_;cbv;refine .cat (by simp;omega) λr d=>?_;have Zh:r.length=s.length+2:=by rw [d];simp
 clear d;cbv;refine .cat (by simp;omega) λf b=>?_;have i:f.length=s.length+3:=by rw [b];simp;omega
 clear b;cbv;refine .cat (by omega) λk c=>?_;have a:k.length=s.length+t.length+3:=by rw [c];simp;omega
 clear c;cbv;exact g k a
theorem zG {t:List Nat}(hs:s.length<=10000000)(j:t.length<=10000000){Q:V->H->Prop} (g:∀r:List Nat,r.length=s.length+t.length+3->Q (.str r) h):CW pf G0 qU [.str s,.str t] h Q:=by
 refine CM.enter (by kernel_rfl) ?_;cbv;refine .cat (by simp;omega) λr d=>?_;have Zh:r.length=s.length+2:=by rw [d];simp
 clear d;cbv;refine .cat (by simp;omega) λf b=>?_;have i:f.length=s.length+3:=by rw [b];simp;omega
 clear b;cbv;refine .cat (by omega) λk c=>?_;have a:k.length=s.length+t.length+3:=by rw [c];simp;omega
 clear c;cbv;exact g k a
theorem rE {k v:List Nat}(j:Wf h){Q:V->H->Prop} (g:∀a h',aG h' dS 3 a 1 [.str k,.bool false,.str v]->Loc h h' a->Q a h'):CW pf G0 BM [.str k,.str v] h Q:=by
 refine NN.enter (by kernel_rfl) ?_;cbv;refine .flat rfl ?_;cbv;refine .flat rfl ?_;cbv;refine .agg ?_;cbv;refine .of j λl b m f i e=>?_;have c:aG b dS 3 (.slice l 0 1 (.exact 1)) 1 [.str k,.bool false,.str v]:=.exact m rfl;have lo:Loc h b (.slice l 0 1 (.exact 1)):=⟨i,λx d=>by simp [ag] at d;subst d;exact f,e⟩;generalize V.slice l 0 1 (.exact 1)=a at c lo;cbv;exact g a b c lo
end K
namespace K
open Go Go.Dx Go.RowKit Go.Proofs
set_option maxRecDepth 100000
variable{h:H}
def iT (c:Int):Int×Int×Int:=
 if c<128 then (1,128,191) else if 194<=c/\c<=223 then (2,128,191) else if c=224 then (3,160,191) else if c=237 then (3,128,159) else if 225<=c/\c<=239 then (3,128,191)
 else if c=240 then (4,144,191) else if c=244 then (4,128,143) else if 241<=c/\c<=243 then (4,128,191) else (0,0,0)
theorem U5 {c:Int}{Q:V->H->Prop} (b:∀n lo hi:Int,(n,lo,hi)=iT c->0<=n->n<=4->Q (.tuple [.int .i64 n,.int .u8 lo,.int .u8 hi]) h):CW pf G0 yI [.int .u8 c] h Q:=by
 refine H2.enter (by kernel_rfl) ?_;cbv;refine .lt (λe=>?_) λe=>?_
 ·have a:((1:Int),(128:Int),(191:Int))=iT c:=by unfold iT;rw [if_pos e]
  cbv;exact b _ _ _ a (by omega) (by omega)
 cbv;refine .ge (λl=>?_) λl=>?_
 ·cbv;refine .le (λq=>?_) λq=>?_
  ·have a:((2:Int),(128:Int),(191:Int))=iT c:=by unfold iT;rw [if_neg (by omega),if_pos (by omega)]
   cbv;exact b _ _ _ a (by omega) (by omega)
  have g:¬(194<=c/\c<=223):=by omega
  cbv;refine .eq (λd=>?_) λd=>?_
  ·have a:((3:Int),(160:Int),(191:Int))=iT c:=by unfold iT;rw [if_neg (by omega),if_neg g,if_pos d]
   cbv;exact b _ _ _ a (by omega) (by omega)
  cbv;refine .eq (λf=>?_) λf=>?_
  ·have a:((3:Int),(128:Int),(159:Int))=iT c:=by unfold iT;rw [if_neg (by omega),if_neg g,if_neg d,if_pos f]
   cbv;exact b _ _ _ a (by omega) (by omega)
  cbv;refine .ge (λp=>?_) λp=>?_
  ·cbv;refine .le (λm=>?_) λm=>?_
   ·have a:((3:Int),(128:Int),(191:Int))=iT c:=by unfold iT;rw [if_neg (by omega),if_neg g,if_neg d,if_neg f,if_pos (by omega)]
    cbv;exact b _ _ _ a (by omega) (by omega)
   have k:¬(225<=c/\c<=239):=by omega
   cbv;refine .eq (λi=>?_) λi=>?_
   ·have a:((4:Int),(144:Int),(191:Int))=iT c:=by unfold iT;rw [if_neg (by omega),if_neg g,if_neg d,if_neg f,if_neg k,if_pos i]
    cbv;exact b _ _ _ a (by omega) (by omega)
   cbv;refine .eq (λj=>?_) λj=>?_
   ·have a:((4:Int),(128:Int),(143:Int))=iT c:=by unfold iT;rw [if_neg (by omega),if_neg g,if_neg d,if_neg f,if_neg k,if_neg i,if_pos j]
    cbv;exact b _ _ _ a (by omega) (by omega)
   cbv;refine .AB (by omega) ?_;cbv;refine .le (λo=>?_) λo=>?_
   ·have a:((4:Int),(128:Int),(191:Int))=iT c:=by unfold iT;rw [if_neg (by omega),if_neg g,if_neg d,if_neg f,if_neg k,if_neg i,if_neg j,if_pos (by omega)]
    cbv;exact b _ _ _ a (by omega) (by omega)
   ·have a:((0:Int),(0:Int),(0:Int))=iT c:=by unfold iT;rw [if_neg (by omega),if_neg g,if_neg d,if_neg f,if_neg k,if_neg i,if_neg j,if_neg (by omega)]
    cbv;exact b _ _ _ a (by omega) (by omega)
  ·omega
 ·have a:((0:Int),(0:Int),(0:Int))=iT c:=by unfold iT;rw [if_neg (by omega),if_neg (by omega),if_neg (by omega),if_neg (by omega),if_neg (by omega),if_neg (by omega),if_neg (by omega),if_neg (by omega)]
  cbv;refine .cK (by omega) ?_;cbv;refine .cK (by omega) ?_;cbv;refine .qQ (by omega) ?_;cbv;refine .cK (by omega) ?_;cbv;refine .cK (by omega) ?_;cbv;refine .qQ (by omega) ?_;cbv;exact b _ _ _ a (by omega) (by omega)
def RJ (t:List Nat)(i:Nat)(lo hi:Int)(j:Nat):Prop:=∃c:Nat,t[i+j]? =some c/\if j=1 then lo<=(c:Int)/\(c:Int)<=hi else 128<=c/\c<=191
inductive iU (t:List Nat):Nat->Prop
 | done {i:Nat} (h:t.length<=i):iU t i
 | step {i c:Nat} {w lo hi:Int} (hc:t[i]? =some c) (hl:(w,lo,hi)=iT (c:Int)) (hw:w≠0) (hn:w.toNat<=t.length - i) (ht:∀j,1<=j->j<w.toNat->RJ t i lo hi j) (hr:iU t (i+w.toNat)):iU t i
theorem iU.inv {t:List Nat}{i c:Nat}{w lo hi:Int}(g:iU t i)(a:t[i]? =some c)(b:(w,lo,hi)=iT (c:Int)):w≠0/\w.toNat<=t.length - i/\(∀j,1<=j->j<w.toNat->RJ t i lo hi j)/\iU t (i+w.toNat):=by
 cases g with
 | done h=>rw [List.getElem?_eq_none h] at a;cases a
 | step FA qK hw hn ht hr=>
   rw [a] at FA;cases FA;rw [<-b] at qK;cases qK;exact ⟨hw,hn,ht,hr⟩
theorem RL {v:V}{n:Nat}{t:List Nat}(hs:Sl h 1 v n (ae t))(hn:n<=10000000){Q:V->H->Prop} (bN:iU t 0->Q (.int .i64 (-1)) h) (D:¬iU t 0->∀r:Int,0<=r->Q (.int .i64 r) h):CW pf G0 vf [v] h Q:=by
 have l:=hs.len;rw [bq,Nat.mul_one] at l;refine E9.enter (by kernel_rfl) ?_;cbv;refine .inv [p0,p3] (λB K h'=>h=h'/\∃i,K=[v,.int .i64 i]/\0<=i/\i.toNat<=n/\B=n - i.toNat/\(iU t 0<->iU t i.toNat)) [_,_] rfl _ ⟨rfl,0,rfl,by omega,by simp,rfl,by simp⟩ ?_;rintro B _ h' ⟨rfl,i,rfl,p,hi,eF,E⟩;cbv;refine .of hs λk zQ hk=>?_;cbv;refine .lt (λbA=>?_) λjl=>?_
 ·obtain ⟨c,s⟩:∃c,t[i.toNat]? =some c:=⟨_,List.getElem?_eq_getElem (by omega)⟩
  cbv;refine .byte hs p s λq off Y=>?_;cbv;refine .byte Y λy BV hy=>?_;have N:y=(c:Int):=by omega
  cbv;refine U5 λw lo C z Yx aW=>?_;rw [N] at z;have inv:=λg:iU t 0=>(E.1 g).inv s z;cbv;refine .eq (λe=>?_) λe=>?_
  ·cbv;exact D (λg=>(inv g).1 e) i p
  cbv;refine .of hs λk2 FO uF=>?_;cbv;refine .sub (by omega) (by omega) λd hd=>?_;cbv;refine .gt (λe2=>?_) λe2=>?_
  ·cbv;exact D (λg=>by have:=(inv g).2.1;omega) i p
  cbv;refine .inv [p0,p3,p4,p5,p6,p7] (λB K f=>h=f/\∃j m Ip,K=[v,.int .i64 i,.int .i64 w,.int .u8 m,.int .u8 Ip,.int .i64 j]/\1<=j/\j<=w/\B=w.toNat - j.toNat/\(j=1->m=lo/\Ip=C)/\(j≠1->m=128/\Ip=191)/\∀x:Nat,1<=x->x<j.toNat->RJ t i.toNat lo C x) [_,_,_,_,_,_] rfl _ ⟨rfl,1,lo,C,rfl,by omega,by omega,rfl,λ_=>⟨rfl,rfl⟩,λe=>absurd rfl e,λx u f=>by simp at f;omega⟩ ?_;rintro m2 _ f ⟨rfl,j,m,Ip,rfl,YD,hj,av,T,U,R⟩;cbv;refine .lt (λM'=>?_) λZZ=>?_
  ·cbv;refine .add (by omega) (by omega) λa ha=>?_
   obtain ⟨L,HQ⟩:∃c,t[a.toNat]? =some c:=⟨_,List.getElem?_eq_getElem (by omega)⟩;have o:t[i.toNat+j.toNat]? =some L:=by rw [<-HQ];congr 1;omega
   cbv;refine .byte hs (by omega) HQ λA xO uE=>?_;cbv;refine .byte uE λM Z SG=>?_;have X:M=(L:Int):=by omega
   have bad:(M<m\/Ip<M)->¬iU t 0:=λWb g=>by
    obtain ⟨c3,h3,h4⟩:=(inv g).2.2.1 j.toNat (by omega) (by omega);rw [o] at h3;cases h3
    by_cases e1:j.toNat=1
    ·rw [if_pos e1] at h4
     obtain ⟨I,A⟩:=T (by omega);omega
    ·rw [if_neg e1] at h4
     obtain ⟨I,A⟩:=U (by omega);omega
   cbv;refine .lt (λP=>?_) λP=>?_
   ·cbv;exact D (bad (.inl P)) i p
   cbv;refine .gt (λS=>?_) λS=>?_
   ·cbv;exact D (bad (.inr S)) i p
   have J:RJ t i.toNat lo C j.toNat:=⟨L,o,by
    by_cases e1:j.toNat=1
    ·rw [if_pos e1]
     obtain ⟨I,A⟩:=T (by omega);omega
    ·rw [if_neg e1]
     obtain ⟨I,A⟩:=U (by omega);omega⟩
   cbv;refine .add (by omega) (by omega) λb W=>?_;cbv;exact ⟨rfl,w.toNat - b.toNat,by omega,rfl,b,128,191,rfl,by omega,by omega,rfl,λe=>absurd e (by omega),λ_=>⟨rfl,rfl⟩,λx u f=>by
    by_cases e1:x=j.toNat
    ·rw [e1];exact J
    ·exact R x u (by omega)⟩
  ·have F:iU t i.toNat<->iU t (i.toNat+w.toNat):=⟨λg=>(g.inv s z).2.2.2,λg=>.step s z e (by omega) (λx u f=>R x u (by omega)) g⟩
   cbv;refine .add (by omega) (by omega) λb W=>?_;have G:b.toNat=i.toNat+w.toNat:=by omega
   have O:iU t 0<->iU t b.toNat:=by rw [G];exact E.trans F
   cbv;exact ⟨rfl,n - b.toNat,by omega,rfl,b,rfl,by omega,by omega,rfl,O⟩
 ·cbv;exact bN (E.2 (.done (by omega)))
end K
namespace K
open Go Go.Dx Go.RowKit Go.Proofs
set_option maxRecDepth 100000
variable{h:H}{wb:Bool}{aE name:List Nat}{lb:Lb}
structure RM (s:List Nat):Prop where
 some:s≠[]
 tr:s.length<=512
 good:iU s 0
theorem qv {s:List Nat}(b:Wf h){Q:V->H->Prop} (a:∀h',¬RM s->Mod h h' []->Wf h'->Q (.bool false) h') (j:∀h',RM s->Mod h h' []->Wf h'->Q (.bool true) h'):CW pf G0 yF [.str s] h Q:=by
 refine LN.enter (by kernel_rfl) ?_;cbv;refine .sne (λe=>?_) λe=>?_
 ·cbv;exact a h (λt=>t.some e) (Mod.refl _ _) b
 ·cbv;refine .of λn l o=>?_
  cbv;refine .le (λi=>?_) λi=>?_
  ·cbv;refine .of b (by omega) λm d k f c=>?_
   cbv;refine RL k (by omega) (λg=>?_) λg r p=>?_
   ·cbv;refine .QP (by omega) ?_
    cbv;exact j d ⟨e,by omega,g⟩ f c
   ·cbv;refine .DF (by omega) ?_
    cbv;exact a d (λt=>g t.good) f c
  ·cbv;exact a h (λt=>by have:=t.tr;omega) (Mod.refl _ _) b
def ajj:List Nat:=[111,112,101,110]
def Zm:List Nat:=[99,108,111,115,101,100]
def td (kind:Int)(a:Bool)(name:List Nat):Prop:=if kind=4 then name=[]\/isName name else if a=true then isName name else name=[]
def jk (kind:Int)(wb:Bool)(text:List Nat):Prop:=if kind=3 then text=ajj\/text=Zm else if wb=true then RM text else text=[]
def N' (kind:Int):Bool:=decide (kind=5\/kind=6\/kind=7\/kind=8\/kind=9)
def Oa (kind:Int):Bool:=decide (kind=1\/kind=2\/kind=5\/kind=6)
structure abw (kind:Int)(aE name text:List Nat):Prop where
 known:1<=kind/\kind<=10
 aE:isName aE
 name:td kind (N' kind) name
 text:jk kind (Oa kind) text
theorem alL {kind:Int}{text:List Nat}(c:Wf h)(d:h.get lb=some (.cells [.int .i64 kind,.str aE,.str name,.str text] 30 0 .yes)){Q:V->H->Prop} (l:∀(r:Int) h',¬jk kind wb text->0<=r->Mod h h' []->Wf h'->Q (.int .i64 r) h') (e:∀h',jk kind wb text->Mod h h' []->Wf h'->Q (.int .i64 (-1)) h'):
  I3 pf G0 86 aqv {tmps:=gU [p1,p4] [.ptr lb 0,.bool wb],defers:=[]} h (tw pf G0 [.tmp p2] Q) λ_ _ _=>False:=by
 refine .of ?_;cbv;refine .of d rfl ?_;cbv;refine .eq (λf=>?_) λf=>?_
 ·have a:jk kind wb text<->(text=ajj\/text=Zm):=by unfold jk;rw [if_pos f]
  cbv;refine .of d rfl ?_;cbv;refine .sne (λb=>?_) λb=>?_
  ·cbv;exact e h (a.2 (.inl b)) (Mod.refl _ _) c
  cbv;refine .of d rfl ?_;cbv;refine .sne (λg=>?_) λg=>?_
  ·cbv;exact e h (a.2 (.inr g)) (Mod.refl _ _) c
  ·cbv;exact l 3 h (λw=>(a.1 w).elim b g) (by omega) (Mod.refl _ _) c
 ·cases wb
  ·have a:jk kind false text<->text=[]:=by unfold jk;rw [if_neg f];simp
   cbv;refine .of d rfl ?_;cbv;refine .sne (λb=>?_) λb=>?_
   ·cbv;exact e h (a.2 b) (Mod.refl _ _) c
   ·cbv;exact l 3 h (λw=>b (a.1 w)) (by omega) (Mod.refl _ _) c
  ·have a:jk kind true text<->RM text:=by unfold jk;rw [if_neg f];simp
   cbv;refine .of d rfl ?_;cbv;refine qv c (λm j i k=>?_) λm j i k=>?_
   ·cbv;exact l 3 m (λw=>j (a.1 w)) (by omega) i k
   ·cbv;exact e m (a.2 j) i k
theorem alM {kind:Int}{text:List Nat}{e:Bool}(k:Wf h)(I:name.length<=9223372036854775807)(i:h.get lb=some (.cells [.int .i64 kind,.str aE,.str name,.str text] 30 0 .yes)){Q:V->H->Prop} (j:∀(r:Int) h',¬(td kind e name/\jk kind wb text)->0<=r->Mod h h' []->Wf h'->Q (.int .i64 r) h') (F:∀h',td kind e name->jk kind wb text->Mod h h' []->Wf h'->Q (.int .i64 (-1)) h'):
  I3 pf G0 86 alJ {tmps:=gU [p1,p3,p4] [.ptr lb 0,.bool e,.bool wb],defers:=[]} h (tw pf G0 [.tmp p2] Q) λ_ _ _=>False:=by
 refine .seq (.of ?_);have go:∀{n:H} (a:A),Mod h n []->Wf n->td kind e name->([p1,p4].map λp=>a.tmps.get p)=[V.ptr lb 0,.bool wb].map some->a.defers=[]->I3 pf G0 86 aqv a n (tw pf G0 [.tmp p2] Q) λ_ _ _=>False:=λa s C B z D=>by
  obtain ⟨tm,J⟩:=a;cases D;exact .weak [p1,p4] z (alL C (s.get i) (λr h' g E v t=>j r h' (λq=>g q.2) E ((s.trans v).mono λx o _ u=>by simp at u) t) λh' G v t=>F h' B G ((s.trans v).mono λx o _ u=>by simp at u) t)
 have y:¬isName []:=λq=>q.2.1 rfl;cbv;refine .of i rfl ?_;cbv;refine .eq (λm=>?_) λm=>?_
 ·have f:td kind e name<->(name=[]\/isName name):=by unfold td;rw [if_pos m]
  cbv;refine .of i rfl ?_;cbv;refine .sne (λl=>?_) λl=>?_
  ·cbv;exact go _ (Mod.refl _ _) k (f.2 (.inl l)) rfl rfl
  ·cbv;refine .of i rfl ?_
   cbv;refine dW k (by omega) (λh3 d K c=>?_) λh3 d K c=>?_
   ·cbv;exact go _ K c (f.2 (.inr d)) rfl rfl
   ·cbv;exact j 2 h3 (λq=>(f.1 q.1).elim l d) (by omega) K c
 ·have f:td kind e name<->if e=true then isName name else name=[]:=by unfold td;rw [if_neg m]
  cbv;refine .of i rfl ?_;cbv;refine dW k (by omega) (λh3 d K c=>?_) λh3 d K c=>?_
  ·cases e
   ·cbv;exact j 2 h3 (λq=>by have:=f.1 q.1;simp at this;rw [this] at d;exact y d) (by omega) K c
   ·cbv;exact go _ K c (f.2 (by simpa using d)) rfl rfl
  ·cases e
   ·cbv;refine .of (K.get i) rfl ?_
    cbv;refine .sne (λw=>?_) λw=>?_
    ·cbv;exact go _ K c (f.2 (by simpa using w)) rfl rfl
    ·cbv;exact j 2 h3 (λq=>by have:=f.1 q.1;simp at this;exact w this) (by omega) K c
   ·cbv;exact j 2 h3 (λq=>by have:=f.1 q.1;simp at this;exact d this) (by omega) K c
theorem U6 {kind:Int}{text:List Nat}(K:Wf h)(hi:aE.length<=9223372036854775807)(G:name.length<=9223372036854775807){Q:V->H->Prop} (t:∀(r:Int) h',¬abw kind aE name text->0<=r->Mod h h' []->Wf h'->Q (.int .i64 r) h') (N:∀h',abw kind aE name text->Mod h h' []->Wf h'->Q (.int .i64 (-1)) h'):
  CW pf G0 BI [.agg [.int .i64 kind,.str aE,.str name,.str text]] h Q:=by
 refine NJ.oM (by kernel_rfl) ?_;refine .seq (.of ?_);cbv;refine .agg ?_;cbv;refine .of K λlb E s R U w=>?_;cbv;refine .seq (.of ?_);cbv;refine .of s rfl ?_;cbv;refine .lt (λC=>?_) λC=>?_
 ·cbv;exact t _ E (λm=>by have:=m.known;omega) (by omega) U w
 cbv;refine .of s rfl ?_;cbv;refine .gt (λB=>?_) λB=>?_
 ·cbv;exact t _ E (λm=>by have:=m.known;omega) (by omega) U w
 cbv;refine .seq (.of ?_);cbv;refine .of s rfl ?_;cbv;refine dW w (by omega) (λe AA f z=>?_) λe AA f z=>?_
 ·have n:Mod h e []:=(U.trans f).mono λx o _ b=>by simp at b
  have F:=f.get s;have go:∀(a:A) (v wb:Bool),v=N' kind->wb=Oa kind->([p1,p3,p4].map λp=>a.tmps.get p)=[V.ptr lb 0,.bool v,.bool wb].map some->a.defers=[]->I3 pf G0 86 alJ a e (tw pf G0 [.tmp p2] Q) λ_ _ _=>False:=λa v wb C B I L=>by
   obtain ⟨tm,P⟩:=a;cases L;subst C B;exact .weak [p1,p3,p4] I (alM z G F (λr h' g M D y=>t r h' (λm=>g ⟨m.name,m.text⟩) M ((n.trans D).mono λx o _ b=>by simp at b) y) λh' J O D y=>N h' ⟨by omega,AA,J,O⟩ ((n.trans D).mono λx o _ b=>by simp at b) y)
  cbv;refine .seq (.of ?_);cbv;refine .seq (.of ?_);cbv;refine .of F rfl ?_;cbv;refine .eq (λd=>?_) λd=>?_
  ·cbv;exact go _ _ _ (by simp [N',d]) (by simp [Oa,d]) rfl rfl
  cbv;refine .eq (λc=>?_) λc=>?_
  ·cbv;exact go _ _ _ (by simp [N',c]) (by simp [Oa,c]) rfl rfl
  cbv;refine .eq (λj=>?_) λj=>?_
  ·cbv;exact go _ _ _ (by simp [N',j]) (by simp [Oa,j]) rfl rfl
  cbv;refine .eq (λq=>?_) λq=>?_
  ·cbv;exact go _ _ _ (by simp [N',q]) (by simp [Oa,q]) rfl rfl
  cbv;refine .eq (λl=>?_) λl=>?_
  ·cbv;exact go _ _ _ (by simp [N',l]) (by simp [Oa,l]) rfl rfl
  cbv;refine .eq (λk=>?_) λk=>?_
  ·cbv;exact go _ _ _ (by simp [N',k]) (by simp [Oa,k]) rfl rfl
  cbv;refine .eq (λu=>?_) λu=>?_
  ·cbv;exact go _ _ _ (by simp [N',u]) (by simp [Oa,u]) rfl rfl
  ·cbv;exact go _ _ _ (by simp [N',d,c,j,q,l]) (by simp [Oa,k,u,d,c]) rfl rfl
 ·have n:Mod h e []:=(U.trans f).mono λx o _ b=>by simp at b
  cbv;exact t _ e (λm=>AA m.aE) (by omega) n z
theorem abw.Bt {kind:Int}{text:List Nat}(m:abw kind aE name text):aE.length<=24/\name.length<=24/\text.length<=512:=by
 refine ⟨m.aE.2.2,?_,?_⟩
 ·have:=m.name
  unfold td at this;split at this
  ·rcases this with e | e
   ·rw [e];simp
   ·exact e.2.2
  ·split at this
   ·exact this.2.2
   ·rw [this];simp
 ·have h:=m.text
  unfold jk at h;split at h
  ·rcases h with h | h<;>rw [h]<;>decide
  ·split at h
   ·exact h.tr
   ·rw [h];simp
end K
