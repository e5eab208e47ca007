/-
  The client's laws. Part ZAR of the proof: blotter/wire: numbers, texts, frames as bytes.
-/
import Derived.Test.YtdjlhmmfplhhdaaGreatDoorZAQ
import Derived.Test.YtdjlhmmfplhhdaaGreatDoorZAP
import Derived.Test.YtdjlhmmfplhhdaaGreatDoorZAL
namespace K
open Go Go.Dx Go.RowKit
set_option maxRecDepth 100000
variable{h:H}{cs:List V}{m n:Nat}{l:List Nat}
def bl (x:Nat):Nat:=if x=0 then 0 else x.log2+1
def beN:Nat->Nat->List Nat
 | 0,_=>[]
 | k+1,x=>(x / 256 ^ k % 256)::beN k x
theorem CS:∀k x,(beN k x).length=k
 | 0,_=>rfl
 | k+1,x=>by simp [beN,CS k x]
def CT (x:Nat):Nat:=(bl x+7) / 8
def c8 (x:Nat):List Nat:=if x<=247 then [x] else (247+CT x)::beN (CT x) x
theorem BU {x:Nat}(h:x<=18446744073709551615):bl x<=64:=by
 unfold bl;split
 ·omega
 ·rename_i h0
  have:x.log2<64:=(Nat.log2_lt h0).2 (by omega);omega
theorem cJ {x:Nat}(h:x<=18446744073709551615):1<=(c8 x).length/\(c8 x).length<=9:=by
 unfold c8;split
 ·simp
 ·have:=BU h
  simp [CS,CT];omega
theorem rl {x s:Nat}(h:2 ^ s<=x):bl x=bl (x / 2 ^ s)+s:=by
 have d:0<2 ^ s:=Nat.two_pow_pos s;have h0:x≠0:=by omega
 have c:x / 2 ^ s≠0:=by have:=Nat.div_pos h d;omega
 unfold bl;rw [if_neg h0,if_neg c];have:x.log2=(x / 2 ^ s).log2+s:=by
  rw [Nat.log2_eq_iff h0];obtain ⟨a,b⟩:=(Nat.log2_eq_iff c).1 (rfl:(x / 2 ^ s).log2=_);have e:x / 2 ^ s*2 ^ s<=x:=Nat.div_mul_le_self x _;have f:x<(x / 2 ^ s+1)*2 ^ s:=(Nat.div_lt_iff_lt_mul d).1 (Nat.lt_succ_self _);constructor
  ·rw [Nat.pow_add];exact Nat.le_trans (Nat.mul_le_mul_right _ a) e
  ·rw [show (x / 2 ^ s).log2+s+1=(x / 2 ^ s).log2+1+s from by omega,Nat.pow_add]
   exact Nat.lt_of_lt_of_le f (Nat.mul_le_mul_right _ b)
 omega
def len8:List Nat:=[0,1,2,2,3,3,3,3,4,4,4,4,4,4,4,4,5,5,5,5,5,5,5,5,5,5,5,5,5,5,5,5,6,6,6,6,6,6,6,6,6,6,6,6,6,6,6,6,6,6,6,6,6,6,6,6,6,6,6,6,6,6,6,6]++List.replicate 64 7++List.replicate 128 8
theorem aha:∀x,x<256->len8[x]? =some (bl x):=by decide +kernel
theorem bl8 {x:Nat}(h:x<=255):bl x<=8:=by
 unfold bl;split
 ·omega
 ·rename_i h0
  have:x.log2<8:=(Nat.log2_lt h0).2 (by omega);omega
theorem UG {x:Int}(h0:0<=x)(A:x<=18446744073709551615){Q:V->H->Prop} (e:∀n:Int,0<=n->n.toNat=bl x.toNat->Q (.int .i64 n) h):CW pf G0 sA [.int .u64 x] h Q:=by
 refine E5.enter (by kernel_rfl) ?_;have b:∀{y:Int} {n0:Int} {K:V->Prop},0<=y->y<=255->(∀c:Int,0<=c->c.toNat=bl y.toNat->K (.int .u8 c))->agX (.str len8) (.int .u8 y) K:=λBV ON t=>.of BV (aha _ (by omega)) t;cbv;refine .ge (λp=>?_) (λp=>?_)
 ·cbv;refine .shr 4294967296 (by omega) (by decide) (by decide) rfl λf z=>?_
  have B:bl x.toNat=bl f.toNat+32:=by rw [show f.toNat=x.toNat / 4294967296 by omega];exact rl (s:=32) (by omega)
  cbv;refine .ge (λa1=>?_) (λa1=>?_)
  ·cbv;refine .shr 65536 (by omega) (by decide) (by decide) rfl λd w=>?_
   have q:bl f.toNat=bl d.toNat+16:=by rw [show d.toNat=f.toNat / 65536 by omega];exact rl (s:=16) (by omega)
   cbv;refine .add (by omega) (by omega) λv u=>?_;cbv;refine .ge (λa2=>?_) (λa2=>?_)
   ·cbv;refine .shr 256 (by omega) (by decide) (by decide) rfl λa l=>?_
    have o:bl d.toNat=bl a.toNat+8:=by rw [show a.toNat=d.toNat / 256 by omega];exact rl (s:=8) (by omega)
    cbv;refine .add (by omega) (by omega) λm k=>?_;have:=BU (x:=a.toNat) (by omega);have Jl:bl a.toNat<=8:=bl8 (by omega);cbv;refine .u8 (by omega) (by omega) ?_;cbv;refine b (n0:=0) (by omega) (by omega) λc j g=>?_;cbv;refine .i64 (by omega) (by omega) ?_;cbv;refine .add (by omega) (by omega) λr i=>?_;cbv;refine e _ (by omega) (by omega)
   ·
    have:=BU (x:=d.toNat) (by omega);have Jl:bl d.toNat<=8:=bl8 (by omega);cbv;refine .u8 (by omega) (by omega) ?_;cbv;refine b (n0:=0) (by omega) (by omega) λc j g=>?_;cbv;refine .i64 (by omega) (by omega) ?_;cbv;refine .add (by omega) (by omega) λr i=>?_;cbv;refine e _ (by omega) (by omega)
  ·
   cbv;refine .ge (λa2=>?_) (λa2=>?_)
   ·cbv;refine .shr 256 (by omega) (by decide) (by decide) rfl λa l=>?_
    have o:bl f.toNat=bl a.toNat+8:=by rw [show a.toNat=f.toNat / 256 by omega];exact rl (s:=8) (by omega)
    cbv;refine .add (by omega) (by omega) λm k=>?_;have:=BU (x:=a.toNat) (by omega);have Jl:bl a.toNat<=8:=bl8 (by omega);cbv;refine .u8 (by omega) (by omega) ?_;cbv;refine b (n0:=0) (by omega) (by omega) λc j g=>?_;cbv;refine .i64 (by omega) (by omega) ?_;cbv;refine .add (by omega) (by omega) λr i=>?_;cbv;refine e _ (by omega) (by omega)
   ·
    have:=BU (x:=f.toNat) (by omega);have Jl:bl f.toNat<=8:=bl8 (by omega);cbv;refine .u8 (by omega) (by omega) ?_;cbv;refine b (n0:=0) (by omega) (by omega) λc j g=>?_;cbv;refine .i64 (by omega) (by omega) ?_;cbv;refine .add (by omega) (by omega) λr i=>?_;cbv;refine e _ (by omega) (by omega)
 ·
  cbv;refine .ge (λa1=>?_) (λa1=>?_)
  ·cbv;refine .shr 65536 (by omega) (by decide) (by decide) rfl λd w=>?_
   have q:bl x.toNat=bl d.toNat+16:=by rw [show d.toNat=x.toNat / 65536 by omega];exact rl (s:=16) (by omega)
   cbv;refine .add (by omega) (by omega) λv u=>?_;cbv;refine .ge (λa2=>?_) (λa2=>?_)
   ·cbv;refine .shr 256 (by omega) (by decide) (by decide) rfl λa l=>?_
    have o:bl d.toNat=bl a.toNat+8:=by rw [show a.toNat=d.toNat / 256 by omega];exact rl (s:=8) (by omega)
    cbv;refine .add (by omega) (by omega) λm k=>?_;have:=BU (x:=a.toNat) (by omega);have Jl:bl a.toNat<=8:=bl8 (by omega);cbv;refine .u8 (by omega) (by omega) ?_;cbv;refine b (n0:=0) (by omega) (by omega) λc j g=>?_;cbv;refine .i64 (by omega) (by omega) ?_;cbv;refine .add (by omega) (by omega) λr i=>?_;cbv;refine e _ (by omega) (by omega)
   ·
    have:=BU (x:=d.toNat) (by omega);have Jl:bl d.toNat<=8:=bl8 (by omega);cbv;refine .u8 (by omega) (by omega) ?_;cbv;refine b (n0:=0) (by omega) (by omega) λc j g=>?_;cbv;refine .i64 (by omega) (by omega) ?_;cbv;refine .add (by omega) (by omega) λr i=>?_;cbv;refine e _ (by omega) (by omega)
  ·
   cbv;refine .ge (λa2=>?_) (λa2=>?_)
   ·cbv;refine .shr 256 (by omega) (by decide) (by decide) rfl λa l=>?_
    have o:bl x.toNat=bl a.toNat+8:=by rw [show a.toNat=x.toNat / 256 by omega];exact rl (s:=8) (by omega)
    cbv;refine .add (by omega) (by omega) λm k=>?_;have:=BU (x:=a.toNat) (by omega);have Jl:bl a.toNat<=8:=bl8 (by omega);cbv;refine .u8 (by omega) (by omega) ?_;cbv;refine b (n0:=0) (by omega) (by omega) λc j g=>?_;cbv;refine .i64 (by omega) (by omega) ?_;cbv;refine .add (by omega) (by omega) λr i=>?_;cbv;refine e _ (by omega) (by omega)
   ·
    have:=BU (x:=x.toNat) (by omega);have Jl:bl x.toNat<=8:=bl8 (by omega);cbv;refine .u8 (by omega) (by omega) ?_;cbv;refine b (n0:=0) (by omega) (by omega) λc j g=>?_;cbv;refine .i64 (by omega) (by omega) ?_;cbv;refine .add (by omega) (by omega) λr i=>?_;cbv;refine e _ (by omega) (by omega)
theorem kA {b:V}{n:Int}(G:Wf h)(F:Sl h 1 b m cs)(L:aZ cs=true)(Y:m<=10000000)(O:-9223372036854775808<=n)(B8:n<=9223372036854775807){Q:V->H->Prop}
  (B:∀v h',aG h' 5 1 v (m+(c8 n.toNat).length) (cs++ae (c8 n.toNat))->Loc h h' v->Q v h'):CW pf G0 BK [b,.int .i64 n] h Q:=by
 refine NL.enter (by kernel_rfl) ?_;cbv;refine .copy G F L (by omega) (by decide) λv P ho lo=>?_;cbv;refine .of λx T=>?_;cbv;refine .u64 (by omega) (by omega) ?_;have f:x.toNat=n.toNat:=by omega
 cbv;refine .le (λu=>?_) (λYV=>?_)
 ·cbv;refine .u8 (by omega) (by omega) ?_
  cbv;refine .flat rfl ?_;cbv;refine .of lo.wf λl E j C a p=>?_;cbv;refine .one (lo.al a p) (ho.mono a) j rfl rfl (by omega) (by decide) λt h3 d o _=>?_;cbv;refine B _ _ ?_ o;have e:c8 n.toNat=[x.toNat]:=by unfold c8;rw [if_pos (by omega),f]
  rw [e];have q:V.int .u8 x = .int .u8 (Int.ofNat x.toNat):=by rw [show Int.ofNat x.toNat=x from Int.toNat_of_nonneg (by omega)]
  rw [q] at d;exact d
 ·cbv;refine UG (by omega) (by omega) λlen VJ j=>?_
  have u:=BU (x:=x.toNat) (by omega);cbv;refine .add (by omega) (by omega) λy hy=>?_;cbv;refine .quo (by omega) (by omega) (by omega) λk R=>?_;have A:k.toNat=CT n.toNat:=by unfold CT;rw [<-f,<-j];omega
  have I:0<=k/\k<=8:=by omega
  cbv;refine .add (by omega) (by omega) λz W=>?_;cbv;refine .u8 (by omega) (by omega) ?_;cbv;refine .flat rfl ?_;cbv;refine .of lo.wf λl E K C a p=>?_;cbv;refine .one (lo.al a p) (ho.mono a) K rfl rfl (by omega) (by decide) λt h3 d o _=>?_;cbv;refine .sub (by omega) (by omega) λi hi=>?_;cbv;refine .inv [p5,p6,p8] (λD J h'=>∃v i done,J=[v,.int .u64 x,.int .i64 i]/\-1<=i/\i<=7/\D=(i+1).toNat/\done++beN (i+1).toNat x.toNat=c8 n.toNat/\aG h' 5 1 v (m+done.length) (cs++ae done)/\Loc h h' v)
   [_,_,_] rfl _ ⟨t,i,[z.toNat],rfl,by omega,by omega,rfl,?_,?_,o⟩ ?_
  ·unfold c8
   rw [if_neg (by omega),<-A,f,show (i+1).toNat=k.toNat by omega,show z.toNat=247+k.toNat by omega];rfl
  ·have q:V.int .u8 z = .int .u8 (Int.ofNat z.toNat):=by rw [show Int.ofNat z.toNat=z from Int.toNat_of_nonneg (by omega)]
   rw [q] at d;exact d
  ·rintro D _ h' ⟨v,i,done,rfl,Je,Ip,U,w,ho,lo⟩
   have M:done.length<=9:=by
    have:=congrArg List.length w;have:=(cJ (x:=n.toNat) (by omega)).2;simp at *;omega
   cbv;refine .ge (λX=>?_) (λS=>?_)
   ·cbv;refine .mul (by omega) (by omega) λs hs=>?_
    cbv;refine .atU (by omega) (by omega) (by show _<=64;omega) λy BV hy=>?_;cbv;refine .u8m λc N=>?_;cbv;refine .flat rfl ?_;cbv;refine .of lo.wf λl E j C a p=>?_;cbv;refine .one (lo.al a p) (ho.mono a) j rfl rfl (by omega) (by decide) λt h3 d o _=>?_;cbv;refine .sub (by omega) (by omega) λr Z=>?_;cbv;refine ⟨rfl,(r+1).toNat,?_,t,r,done++[c.toNat],rfl,by omega,by omega,rfl,?_,?_,o⟩
    ·omega
    ·rw [<-w,show (i+1).toNat=(r+1).toNat+1 by omega,List.append_assoc]
     congr 1
     show c.toNat::_=_
     rw [beN]
     congr 1
     have:256 ^ (r+1).toNat=2 ^ s.toNat:=by
      rw [show s.toNat=8*(r+1).toNat by omega,Nat.pow_mul]
     rw [this,<-hy];omega
    ·have q:V.int .u8 c = .int .u8 (Int.ofNat c.toNat):=by rw [show Int.ofNat c.toNat=c from Int.toNat_of_nonneg (by omega)]
     rw [q] at d;rw [aM,<-List.append_assoc,List.length_append,<-Nat.add_assoc];exact d
   ·cbv
    refine B _ _ ?_ lo;rw [<-w,show (i+1).toNat=0 by omega,beN,List.append_nil];exact ho
theorem GY {b:V}{s:List Nat}(k:Wf h)(g:Sl h 1 b m cs)(c:aZ cs=true)(i:m<=10000000)(hs:s.length<=1000000){Q:V->H->Prop}
  (d:∀v h',aG h' 5 1 v (m+(c8 s.length++s).length) (cs++ae (c8 s.length++s))->Loc h h' v->Q v h'):CW pf G0 HV [b,.str s] h Q:=by
 refine UB.enter (by kernel_rfl) ?_;cbv;refine .of λn h0 f=>?_;cbv;refine kA k g c i (by omega) (by omega) λv o a lo=>?_;rw [f] at a;have:=cJ (x:=s.length) (by omega);cbv;refine .text lo a (by omega) λl p e j _=>?_;cbv;refine d _ _ ?_ j;rw [aM,<-List.append_assoc,List.length_append,<-Nat.add_assoc];exact e
def aee (c:Int):Int:=AE Nat.xor .u32 (c / 2) (AE Nat.land .u32 2197175160 (bU .u32 (0 - AE Nat.land .u32 c 1)))
def Jm:Nat->Int->Int
 | 0,c=>c
 | n+1,c=>Jm n (aee c)
def UH:List Nat->Int->Int
 | [],c=>c
 | b::r,c=>UH r (Jm 8 (AE Nat.xor .u32 c (b:Int)))
def crc (l:List Nat):Int:=AE Nat.xor .u32 (allOnes .u32) (UH l 4294967295)
def u32 (c:Int):Prop:=0<=c/\c<=4294967295
theorem u32_xor (x y:Int):u32 (AE Nat.xor .u32 x y):=ad0 ad1 x y
theorem Y8 (l:List Nat):u32 (crc l):=u32_xor _ _
theorem aef {b:V}(m:Sl h 1 b n (ae l))(hl:l.length<=1000000)(IT:∀x∈l,x<256) {Q:V->H->Prop} (L:∀c,c=crc l->Q (.int .u32 c) h):CW pf G0 Lz [b] h Q:=by
 have W:n=l.length:=by have:=m.len;rw [bq] at this;omega
 refine Xo.enter (by kernel_rfl) ?_;cbv;refine .of m λn fg Y=>?_;cbv;refine .inv [p3,p6,p7,p8] (λI s h'=>∃c i,s=[.int .u32 c,b,.int .i64 n,.int .i64 i]/\0<=i/\i.toNat<=l.length/\I=l.length - i.toNat/\u32 c/\UH (l.drop i.toNat) c=UH l 4294967295/\h'=h) [_,_,_,_] rfl _
  ⟨4294967295,0,rfl,by omega,by simp,rfl,by unfold u32;omega,by simp,rfl⟩ ?_
 rintro I _ h' ⟨c,i,rfl,U,hi,eF,X,TN,rfl⟩;cbv;refine .lt (λbA=>?_) (λjl=>?_)
 ·obtain ⟨x,C⟩:∃x,l[i.toNat]? =some x:=⟨_,List.getElem?_eq_getElem (by omega)⟩
  have P:=IT x (List.mem_of_getElem? C);have o:l.drop i.toNat=x::l.drop (i.toNat+1):=by
   obtain ⟨N,g⟩:=List.getElem?_eq_some_iff.1 C;rw [List.drop_eq_getElem_cons N,g]
  rw [o] at TN;cbv;refine .byte m U C λq off O=>?_;cbv;refine .byte O λy BV hy=>?_;cbv;refine .u32 (by omega) (by omega) ?_;cbv;refine .ag1 λz YN=>?_;have f:y=(x:Int):=by omega
  have w:UH (l.drop (i.toNat+1)) (Jm 8 z)=UH l 4294967295:=by rw [YN,f];exact TN
  have p:u32 z:=by rw [YN];exact u32_xor _ _
  clear TN YN f;cbv;refine .inv [p3,p6,p7,p8,p16] (λF s g=>∃c j,s=[.int .u32 c,b,.int .i64 n,.int .i64 i,.int .i64 j]/\0<=j/\j<=8/\F=8 - j.toNat/\u32 c/\UH (l.drop (i.toNat+1)) (Jm (8 - j.toNat) c)=UH l 4294967295/\g=h') [_,_,_,_,_] rfl _
   ⟨z,0,rfl,by omega,by omega,rfl,p,w,rfl⟩ ?_
  rintro F _ g ⟨G,j,rfl,YD,hj,Z,e,d,rfl⟩;have B:=e;obtain ⟨A,M⟩:=B;cbv;refine .lt (λM'=>?_) (λZZ=>?_)
  ·cbv;refine .shr 2 A (by decide) (by decide) rfl λa R=>?_
   cbv;refine .akQ λa1 t=>?_;cbv;refine .atT λa2 k=>?_;cbv;refine .akQ λa3 v=>?_;cbv;refine .ag1 λJ E=>?_;have K:J=aee G:=by rw [E,R,v,k,t];rfl
   cbv;refine .add (by omega) (by omega) λu T=>?_;cbv;refine ⟨rfl,8 - u.toNat,by omega,J,u,rfl,by omega,by omega,rfl,by rw [K];exact u32_xor _ _,?_,rfl⟩;rw [K,<-d,show 8 - j.toNat=(8 - u.toNat)+1 by omega];rfl
  ·cbv;refine .add (by omega) (by omega) λi' jB=>?_
   cbv;refine ⟨rfl,l.length - i'.toNat,by omega,G,i',rfl,by omega,by omega,rfl,e,?_,rfl⟩;rw [<-d,show i'.toNat=i.toNat+1 by omega,show 8 - j.toNat=0 by omega];rfl
 ·cbv;refine .ag1 λr S=>?_
  cbv;refine L _ ?_;rw [S,crc,<-TN,List.drop_eq_nil_of_le (by omega)];rfl
def UI (x:Nat):List Nat:=[x / 16777216,x / 65536 % 256,x / 256 % 256,x % 256]
theorem Xq {x:Int}(h0:0<=x)(h:x.toNat=n):V.int .u8 x = .int .u8 (Int.ofNat n):=by
 rw [<-h,show Int.ofNat x.toNat=x from Int.toNat_of_nonneg h0]
theorem aaP (c:Wf h){x:Int}(q:u32 x){Q:V->H->Prop} (e:∀w h',w=ae (UI x.toNat)->Mod h h' []->Wf h'->Q (.agg w) h'):CW pf G0 HY [.int .u32 x] h Q:=by
 obtain ⟨h0,g⟩:=q;refine UE.enter (by kernel_rfl) ?_;cbv;refine .of c λl g m k E d=>?_;cbv;refine .shr 16777216 h0 (by decide) (by decide) rfl λa1 B=>?_;cbv;refine .u8m λa y=>?_;cbv;refine .shr 65536 h0 (by decide) (by decide) rfl λa2 z=>?_;cbv;refine .u8m λr s=>?_;cbv;refine .shr 256 h0 (by decide) (by decide) rfl λu v=>?_;cbv;refine .u8m λf t=>?_;cbv;refine .u8m λo C=>?_;cbv;refine .flat rfl ?_;cbv;refine .flat rfl ?_;cbv;refine .flat rfl ?_;cbv;refine .flat rfl ?_;cbv;refine .of d m rfl rfl rfl rfl rfl rfl λA j b p=>?_;cbv;refine .of j rfl ?_;cbv;rw [Xq (x:=a) (n:=x.toNat / 16777216) (by omega) (by omega),Xq (x:=r) (n:=x.toNat / 65536 % 256) (by omega) (by omega),Xq (x:=f) (n:=x.toNat / 256 % 256) (by omega) (by omega),Xq (x:=o) (n:=x.toNat % 256) (by omega) (by omega)];exact e _ _ rfl (E.fr b (by simp [k])) p
def hd3 (n:Nat):List Nat:=[n / 65536,n / 256 % 256,n % 256]
def frame (l:List Nat):List Nat:=hd3 l.length++l++UI (crc (hd3 l.length++l)).toNat
theorem Xr (I:Wf h){b:V}{n0:Nat}(hb:Sl h 1 b n0 (ae l))(hl:l.length<=10000000)(IT:∀x∈l,x<256) {Q:V->H->Prop}
  (JB:65536<l.length->Q (.tuple [.nilSlice 0,.int .i64 4]) h)
  (K:l.length<=65536->∀v h',aG h' 5 1 v (frame l).length (ae (frame l))->Loc h h' v->Q (.tuple [v,.int .i64 0]) h'):CW pf G0 EH [b] h Q:=by
 have Y:n0=l.length:=by have:=hb.len;rw [bq] at this;omega
 refine Rk.enter (by kernel_rfl) ?_;cbv;refine .of hb λn u Z=>?_;cbv;refine .gt (λYV=>?_) (λN=>?_)
 ·cbv;exact JB (by omega)
 ·cbv;refine .shr 65536 u (by decide) (by decide) rfl λa1 e1=>?_
  cbv;refine .u8m λE f1=>?_;cbv;refine .shr 256 u (by decide) (by decide) rfl λa2 e2=>?_;cbv;refine .u8m λU f2=>?_;cbv;refine .u8m λL f3=>?_;cbv;refine .flat rfl ?_;cbv;refine .flat rfl ?_;cbv;refine .flat rfl ?_;cbv;refine .of I λq h1 B P y J=>?_;rw [Xq (x:=E) (n:=l.length / 65536) (by omega) (by omega),Xq (x:=U) (n:=l.length / 256 % 256) (by omega) (by omega),Xq (x:=L) (n:=l.length % 256) (by omega) (by omega)] at B;have cw:=hb.mono y;cbv;refine .loc (h0:=h) ⟨y,by simp [Fr,ag,P],J⟩ (aG.exact (n:=3) (cs:=ae (hd3 l.length)) B rfl) cw.elems (by rw [bq];omega) (aD l) (by omega) (by decide) λv h2 mh rI av=>?_;rw [<-aM] at mh;have k:∀x∈hd3 l.length++l,x<256:=by
   intro x f;rcases List.mem_append.1 f with f | f
   ·simp [hd3] at f;omega
   ·exact IT x f
  have t:(hd3 l.length++l).length=3+l.length:=by simp [hd3];omega
  cbv;refine aef mh.sl (by omega) k λc s=>?_;cbv;refine aaP rI.wf (by rw [s];exact Y8 _) λw h3 d C S=>?_;have a:w.length=4:=by rw [d];rfl
  cbv;refine .of S λq4 h4 r NU M T=>?_;cbv;refine .of (cs:=w) T r rfl a rfl rfl (by rw [d];exact aD _) (HP a) λF j R O=>?_;have Rl:Mod h2 F []:=(C.trans M).fr R (by
   intro W A;simp only [List.mem_singleton] at A;subst A;cases e:h2.get W with
   | none=>exact .inl rfl
   | some o=>have:=C.get e;rw [NU] at this;cases this)
  cbv;refine .loc (rI.al Rl O) (mh.mono Rl) (m:=4) (new:=w) (by simp only [cW,j];rw [dG (n:=4*1) a];rfl) a (by rw [d];exact aD _) (by omega) (by decide) λv6 h6 p G _=>?_;cbv;refine K (by omega) _ _ ?_ G;rw [d,<-aM] at p;rw [show (frame l).length=3+n0+4 by simp [frame,hd3,UI];omega];rw [s] at p;exact p
end K
namespace K
open Go Go.Dx Go.RowKit
set_option maxRecDepth 100000
variable{cs:List V}{n size:Nat}{v:V}{h:H}{f:FuncId}
def s7 (e:TypeId)(size bytes:Nat):br:=⟨8,(W.S (W.O [W.mv p2 (W.c (.nilSlice 0))])
 (W.S (W.S (W.O [W.mv p3 (W.t p0),W.bn p4 .eql .slice (W.t p3) (W.c (.nilSlice 0))])
 (W.I (W.t p4) (W.S (W.O [W.mv p2 (W.c (.nilSlice 0))])
 .ret) .skip))
 (W.S (W.O [W.e p5 (.cL e [] 0),W.mv p6 (W.t p0),W.e p7 (.append e size bytes (W.t p5) (W.t p6)),W.mv p2 (W.t p7)])
 .ret))),[(.tmp p2)]⟩
theorem eP {e:TypeId}{bytes:Nat}(c:bI pf G0 f (s7 e size bytes))(i:Wf h)(hs:Sl h size v n cs)(m:aZ cs=true)(p:4*n*bytes<=1099511627776)(h0:0<size){Q:V->H->Prop}
  (b:∀a h',aG h' e size a n cs->Loc h h' a->Q a h'):CW pf G0 f [v] h Q:=by
 refine c.enter rfl ?_;unfold s7;cbv;refine .at3 hs (λc t o j=>?_) ?_
 ·subst o j
  cbv;exact b _ _ .nil (Loc.nil i 0)
 ·cbv;refine .of i λl w s r g k=>?_
  cbv;refine .loc (h0:=h) ⟨g,by simp [Fr,ag,r],k⟩ (aG.exact (n:=0) (cs:=[]) s (by simp)) (hs.mono g).elems hs.len m (by rw [Nat.zero_add];exact p) h0 λu x d q _=>?_;cbv;rw [Nat.zero_add,List.nil_append] at d;exact b _ _ d q
theorem rn {e:TypeId}{bytes:Nat}(c:bI pf G0 f (s7 e size bytes))(o:Wf h)(hs:Sl h size v n cs)(i:aZ cs=true)(k:4*n*bytes<=1099511627776)(h0:0<size){Q:V->H->Prop}
  (j:∀g h',Ro h' size g n cs->Mod h h' []->Wf h'->Q g h'):CW pf G0 f [v] h Q:=by
 refine .qp (eP c o hs i k h0 λg h' m lo=>?_);obtain ⟨q,a,b,c,d⟩:=m.freeze lo.wf;exact ⟨q,a,j _ _ b (lo.mod.fr c λl p=>.inl (lo.fr l p)) d⟩
theorem nk:bI pf G0 AF (s7 5 1 1):=⟨_,Go.Proofs.Tryz.func144,by kernel_rfl⟩
theorem zr:bI pf G0 Nv (s7 5 1 1):=⟨_,Go.Proofs.Tryz.func127,by kernel_rfl⟩
end K
namespace Go.Dx
open Go Go.RowKit
variable{h:H}
theorem aA.akW {B:Nat}{w0:World}{ρ:bD}{w w':World}(R:aA B w0 ρ h w)(g:Below w.heap.size w w'):aA B w0 ρ h w':=
 ⟨λl b o a c=>(R.obj l b o a c).jH (j8.refl _) (g.block _ (R.obj l b o a c).lt),R.lt,R.base,R.inj,R.own,Nat.le_trans R.size g.size,R.below.trans (g.mono R.size)⟩
theorem CW.text {pf:Unit->Program} {G:Nat} {f:FuncId} {args:List V}  {Q:V->H->Prop} {func:Func} {c:Code} (a:(pf ()).funcs[f]? =some func) (i:func.body=some c) (g:(func.name == "runtime.NumGoroutine")=false)
  (b:∀{B:Nat} {w0:World} {ρ:bD} {w:World} {xs:List Value},aA B w0 ρ h w->GB (pf ()) B w0 ρ G->cZ ρ args xs->Calls (pf ()) f ⟨xs⟩ w λe w'=>∃t,e = .returned (.string t)/\Below w.heap.size w w'/\Q (.str (au t)) h):CW pf G f args h Q:=
 .mk λ{_B _w0 ρ _w _xs} R d k=>Good.fQ a i g ((b R d k).mono λ_e _w' ⟨t,l,j,q⟩=>⟨_,l,_,h,ρ,q,Step.refl _ _,.str t,R.akW j⟩)
end Go.Dx
namespace Go.Dx
open Go Go.RowKit
theorem CW.ext {pf:Unit->Program} {G:Nat} {f:FuncId} {k:Ext} {args:List V} {h h':H} {v:V} {Q:V->H->Prop} (x:km (pf ()) G f k) (c:fJ (pf ()) k args h=some (v,h')) (q:Q v h'):CW pf G f args h Q:=
 .mk λR j d=>(x c R j.rel d).mono λ_ _ ⟨a,r⟩=>⟨v,h',a,q,r⟩
theorem u7.row {h:H}{l:Lb}{off:Nat}{vs:List V}{e:TypeId}{b:Nat}{a:Own}{K:V->Prop} (c:h.get l=some (.cells vs e b a)) (d:off<vs.length) (k:K (.ptr l off)):u7 h (.row l off) K:=
 ⟨_,by simp only [Q.ask,c,show Nat.blt off vs.length=true from by simpa using d,bO],k⟩
end Go.Dx
namespace K
open Go Go.Dx Go.RowKit Go.Proofs
set_option maxRecDepth 100000
variable{h:H}{f:FuncId}{l:Lb}{a:Int}{cs:List V}
theorem aoY:bG Tryz.prog 172 (λ_=>do mark .disable;pure Extern.Race.none_):=⟨⟨_,Tryz.func172,by kernel_rfl,by kernel_rfl,by kernel_rfl,by kernel_rfl⟩⟩
theorem aul:bG Tryz.prog 173 (Extern.Atomic.casT (.int .i32)):=⟨⟨_,Tryz.func173,by kernel_rfl,by kernel_rfl,by kernel_rfl,by kernel_rfl⟩⟩
theorem aoZ:bG Tryz.prog 174 (λ_=>do mark .enable;pure Extern.Race.none_):=⟨⟨_,Tryz.func174,by kernel_rfl,by kernel_rfl,by kernel_rfl,by kernel_rfl⟩⟩
theorem aum:bG Tryz.prog 175 (Extern.Race.marked .acquire):=⟨⟨_,Tryz.func175,by kernel_rfl,by kernel_rfl,by kernel_rfl,by kernel_rfl⟩⟩
theorem aun:bG Tryz.prog 177 (Extern.Race.marked .releaseMerge):=⟨⟨_,Tryz.func177,by kernel_rfl,by kernel_rfl,by kernel_rfl,by kernel_rfl⟩⟩
theorem auo:bG Tryz.prog 178 (Extern.Atomic.update (Op.intArith .add) .i32 true):=⟨⟨_,Tryz.func178,by kernel_rfl,by kernel_rfl,by kernel_rfl,by kernel_rfl⟩⟩
theorem Rm (x:km (pf ()) G0 f .nop){Q:V->H->Prop} (q:Q (.tuple []) h):CW pf G0 f [] h Q:=.ext x rfl q
theorem Y9 {off:Nat}(x:km (pf ()) G0 f .mark){Q:V->H->Prop} (q:Q (.tuple []) h):CW pf G0 f [.ptr l off] h Q:=.ext x rfl q
theorem akX {t:TypeId}{b:Int}(x:km (pf ()) G0 f .YY)(d:Wf h)(c:h.get l=some (.cells (.int .i32 a::cs) t 0 .yes)){Q:V->H->Prop} (q:∀h',h'.get l=some (.cells (.int .i32 b::cs) t 0 .yes)->Mod h h' [l]->Wf h'->Q (.bool true) h'):CW pf G0 f [.ptr l 0,.int .i32 a,.int .i32 b] h Q:=by
 obtain ⟨g,i,h3⟩:=H.eD d c rfl (.cells (.int .i32 b::cs) t 0 .yes);refine .ext x ?_ (q _ g i h3);have e:aX (.int .i32 a::cs) 0 [V.int .i32 b]=some (.int .i32 b::cs):=by simp [aX,ob]
 simp only [fJ,cellAt,Dx.Q.ask,c,dB,bz,List.head?_cons,cE,bO,eu,Own.may,Nat.ble,aZ,cf,Bool.and_self,e,ob];simp
theorem akY {t:TypeId}{b c:Int}(x:km (pf ()) G0 f .YZ)(j:Wf h)(d:h.get l=some (.cells (.int .i32 a::cs) t 0 .yes))(g:bU .i32 (a+b)=c){Q:V->H->Prop} (q:∀h',h'.get l=some (.cells (.int .i32 c::cs) t 0 .yes)->Mod h h' [l]->Wf h'->Q (.int .i32 c) h'):CW pf G0 f [.ptr l 0,.int .i32 b] h Q:=by
 subst g;obtain ⟨i,k,h3⟩:=H.eD j d rfl (.cells (.int .i32 (bU .i32 (a+b))::cs) t 0 .yes);refine .ext x ?_ (q _ i k h3);have e:aX (.int .i32 a::cs) 0 [V.int .i32 (bU .i32 (a+b))]=some (.int .i32 (bU .i32 (a+b))::cs):=by simp [aX,ob]
 simp only [fJ,cellAt,Dx.Q.ask,d,dB,bz,List.head?_cons,bO,eu,Own.may,Nat.ble,aZ,cf,Bool.and_self,e,ob]
theorem CU {t:TypeId}(e:Wf h)(f:h.get l=some (.cells (.int .i32 0::cs) t 0 .yes)){Q:V->H->Prop} (q:∀h',h'.get l=some (.cells (.int .i32 1::cs) t 0 .yes)->Mod h h' [l]->Wf h'->Q (.tuple []) h'):CW pf G0 sq [.ptr l 0] h Q:=by
 refine EX.enter (by kernel_rfl) ?_;cbv;refine rj.enter (by kernel_rfl) ?_;cbv;refine Rm (Ai aoY) ?_;cbv;refine akX (OY aul) e f λc a d b=>?_;cbv;refine Rm (Ai aoZ) ?_;cbv;refine .row a (by simp) ?_;cbv;refine Y9 (En aum) ?_;cbv;exact q c a d b
theorem cq {t:TypeId}(f:Wf h)(a:h.get l=some (.cells (.int .i32 1::cs) t 0 .yes)){K:H->Prop} (q:∀h',h'.get l=some (.cells (.int .i32 0::cs) t 0 .yes)->Mod h h' [l]->Wf h'->K h'):LW pf G0 pz [.ptr l 0] h K:=by
 refine A7.late (by kernel_rfl) ?_;cbv;refine pe.enter (by kernel_rfl) ?_;cbv;refine .of a rfl ?_;cbv;refine .row a (by simp) ?_;cbv;refine Y9 (En aun) ?_;cbv;refine Rm (Ai aoY) ?_;cbv;refine akY (OW auo) f a (show bU .i32 (1 + -1)=0 from rfl) λc e d b=>?_;cbv;refine .iz rfl ?_;cbv;refine Rm (Ai aoZ) ?_;cbv;exact q c e d b
end K
namespace K
open Go Go.Dx Go.RowKit
set_option maxRecDepth 100000
variable{s:List Nat}{h:H}
theorem _root_.Go.Dx.SbN.of {e:TypeId}{K:V->H->Prop} (b:Wf h) (hs:s.length<=9223372036854775807) (a:∀v h',Sl h' 1 v s.length (ae s)->Mod h h' []->Wf h'->K v h'):SbN h e (.str s) K:=by
 obtain ⟨a1,a2,d,c⟩:=H.add_mod b (.cells (ae s) e 0 .marked);exact ⟨s,rfl,hs,a _ _ (.row a1 (dG (by rw [bq];simp))) d c⟩
def kO (c:Nat):Prop:=c=46\/c=45\/c=95\/(48<=c/\c<=57)\/(97<=c/\c<=122)\/(65<=c/\c<=90)
def isName (s:List Nat):Prop:=(∀c,c∈s->kO c)/\s≠[]/\s.length<=24
theorem dW (w:Wf h)(hs:s.length<=9223372036854775807){Q:V->H->Prop} (J:∀h',isName s->Mod h h' []->Wf h'->Q (.bool true) h') (o:∀h',¬isName s->Mod h h' []->Wf h'->Q (.bool false) h'):CW pf G0 yD [.str s] h Q:=by
 refine LK.enter (by kernel_rfl) ?_;cbv;refine .of w hs λA C Y E z=>?_;cbv;refine .of Y λn M d=>?_;cbv;refine .inv [p0,p6,p7,p8] (λt B h'=>∃i,B=[.str s,A,.int .i64 n,.int .i64 i]/\0<=i/\i.toNat<=s.length/\t=s.length - i.toNat/\(∀c,c∈s.take i.toNat->kO c)/\Mod C h' []/\Wf h') [_,_,_,_] rfl _
  ⟨0,rfl,by omega,by simp,rfl,by simp,Mod.refl _ _,z⟩ ?_
 rintro t _ h' ⟨i,rfl,L,hi,S,l,f,b⟩;have m:Mod h h' []:=E.fr f (by simp);cbv;refine .lt (λP=>?_) (λU=>?_)
 ·obtain ⟨x,g⟩:∃x,s[i.toNat]? =some x:=⟨_,List.getElem?_eq_getElem (by omega)⟩
  have DH:=List.mem_of_getElem? g;cbv;refine .byte (Y.mono f (by simp)) L g λq off F=>?_;cbv;refine .byte F λy BV hy=>?_;cbv;refine .ne (λe=>?_) λT=>?_
  ·cbv;refine .add (by omega) (by omega) λj p=>?_
   cbv;refine ⟨rfl,s.length - j.toNat,by omega,j,rfl,by omega,by omega,rfl,λc a=>?_,f,b⟩;rw [show j.toNat=i.toNat+1 by omega,List.take_add_one,g] at a;rcases List.mem_append.1 a with a | a
   ·exact l c a
   ·simp at a;subst a;unfold kO;omega
  cbv;refine .ne (λe=>?_) λR=>?_
  ·cbv;refine .add (by omega) (by omega) λj p=>?_
   cbv;refine ⟨rfl,s.length - j.toNat,by omega,j,rfl,by omega,by omega,rfl,λc a=>?_,f,b⟩;rw [show j.toNat=i.toNat+1 by omega,List.take_add_one,g] at a;rcases List.mem_append.1 a with a | a
   ·exact l c a
   ·simp at a;subst a;unfold kO;omega
  cbv;refine .ne (λe=>?_) λO=>?_
  ·cbv;refine .add (by omega) (by omega) λj p=>?_
   cbv;refine ⟨rfl,s.length - j.toNat,by omega,j,rfl,by omega,by omega,rfl,λc a=>?_,f,b⟩;rw [show j.toNat=i.toNat+1 by omega,List.take_add_one,g] at a;rcases List.mem_append.1 a with a | a
   ·exact l c a
   ·simp at a;subst a;unfold kO;omega
  cbv;refine .lt (λa1=>?_) λa1=>?_
  ·cbv;refine .QP (by omega) ?_
   cbv;refine .QP (by omega) ?_;cbv;refine o h' (λd=>?_) m b;have:=d.1 x DH;unfold kO at this;omega
  ·cbv;refine .gt (λa2=>?_) λa2=>?_
   ·cbv;refine .lt (λu=>?_) λu=>?_
    ·cbv;refine .lt (λI=>?_) λI=>?_
     ·cbv
      refine o h' (λd=>?_) m b;have:=d.1 x DH;unfold kO at this;omega
     ·cbv;refine .gt (λG=>?_) λG=>?_
      ·cbv
       refine o h' (λd=>?_) m b;have:=d.1 x DH;unfold kO at this;omega
      ·cbv;refine .add (by omega) (by omega) λj p=>?_
       cbv;refine ⟨rfl,s.length - j.toNat,by omega,j,rfl,by omega,by omega,rfl,λc a=>?_,f,b⟩;rw [show j.toNat=i.toNat+1 by omega,List.take_add_one,g] at a;rcases List.mem_append.1 a with a | a
       ·exact l c a
       ·simp at a;subst a;unfold kO;omega
    ·cbv;refine .gt (λK=>?_) λK=>?_
     ·cbv;refine .DF (by omega) ?_
      cbv;refine .ZQ (by omega) ?_;cbv;refine o h' (λd=>?_) m b;have:=d.1 x DH;unfold kO at this;omega
     ·cbv;refine .add (by omega) (by omega) λj p=>?_
      cbv;refine ⟨rfl,s.length - j.toNat,by omega,j,rfl,by omega,by omega,rfl,λc a=>?_,f,b⟩;rw [show j.toNat=i.toNat+1 by omega,List.take_add_one,g] at a;rcases List.mem_append.1 a with a | a
      ·exact l c a
      ·simp at a;subst a;unfold kO;omega
   ·cbv;refine .add (by omega) (by omega) λj p=>?_
    cbv;refine ⟨rfl,s.length - j.toNat,by omega,j,rfl,by omega,by omega,rfl,λc a=>?_,f,b⟩;rw [show j.toNat=i.toNat+1 by omega,List.take_add_one,g] at a;rcases List.mem_append.1 a with a | a
    ·exact l c a
    ·simp at a;subst a;unfold kO;omega
 ·have v:s.take i.toNat=s:=List.take_of_length_le (by omega)
  rw [v] at l;cbv;refine .sne (λe=>?_) λe=>?_
  ·cbv;exact o h' (λd=>d.2.1 e) m b
  ·cbv;refine .of λk W N=>?_
   cbv;refine .le (λD=>?_) λYV=>?_
   ·cbv;exact J h' ⟨l,e,by omega⟩ m b
   ·cbv;exact o h' (λd=>by have:=d.2.2;omega) m b
end K
namespace K
open Go Go.Dx Go.RowKit
set_option maxRecDepth 100000
inductive Js where
 | mk (kind num:Int) (text:List Nat) (names:List (List Nat)) (items:List Js)
def strs:List (List Nat)->List V
 | []=>[]
 | s::r=>.str s::strs r
theorem eC:∀l,(strs l).length=l.length
 | []=>rfl
 | _::r=>by simp [strs,eC r]
theorem CV:∀l,aZ (strs l)=true
 | []=>rfl
 | _::r=>by simp [strs,aZ,cf,CV r]
theorem kB:∀a b,strs (a++b)=strs a++strs b
 | [],_=>rfl
 | _::r,b=>by simp [strs,kB r b]
def bt (t:List Nat):Prop:=t.length<=300000/\∀b∈t,b<256
theorem bt.nil:bt []:=⟨by simp,by simp⟩
mutual
inductive oL (h:H):Js->List V->Prop
 | mk {k i:Int} {t:List Nat} {ns:List (List Nat)} {its:List Js} {nv iv:V} {rows:List V} (ht:bt t) (Ds:∀s∈ns,bt s) (NV:ns.length<=100000) (VR:its.length<=100000) (h5:k=5->ns.length=its.length) (hn:Ro h 1 nv ns.length (strs ns)) (hi:Ro h 5 iv its.length rows) (hr:pj h its rows):oL h (.mk k i t ns its) [.int .i64 k,.int .i64 i,.str t,nv,iv]
inductive pj (h:H):List Js->List V->Prop
 | nil:pj h [] []
 | cons {t:Js} {r:List Js} {a b:List V} (ha:oL h t a) (hb:pj h r b):pj h (t::r) (a++b)
end
mutual
theorem oL.mono {h h':H}{F:List Lb}(m:Mod h h' F){t:Js}{cs:List V}(j:oL h t cs):oL h' t cs:=match j with
 | .mk ht Ds NV VR h5 hn hi hr=>.mk ht Ds NV VR h5 (hn.mono m) (hi.mono m) (pj.mono m hr)
theorem pj.mono {h h':H}{F:List Lb}(m:Mod h h' F){t:List Js}{cs:List V}(j:pj h t cs):pj h' t cs:=match j with
 | .nil=>.nil
 | .cons ha hb=>.cons (oL.mono m ha) (pj.mono m hb)
end
theorem oL.aZ {h:H}{t:Js}{cs:List V}(j:oL h t cs):Dx.aZ cs=true:=by
 cases j with
 | mk ht Ds NV VR h5 hn hi hr=>show (true&&(true&&(true&&(cf _&&(cf _&&true)))))=true;rw [hn.flat,hi.flat];rfl
theorem pj.snoc {h:H}{t:Js}{cs:List V}(j:oL h t cs):∀{l:List Js} {ds:List V},pj h l ds->pj h (l++[t]) (ds++cs)
 | _,_,.nil=>by have:=pj.cons j .nil;simpa using this
 | _,_,.cons ha hb=>by have:=pj.cons ha (pj.snoc j hb);simpa using this
theorem pj.get {h:H}:∀{l:List Js} {ds:List V},pj h l ds->∀{i:Nat} {t:Js},l[i]? =some t->∃cs,oL h t cs/\rowFrom ds (i*5) 5=some cs
 | _,_,.nil,i,t,e=>by simp at e
 | _,_,.cons (t:=t0) (a:=a) (b:=b) ha hb,0,t,e=>by
   simp at e;subst e;cases ha with
   | mk ht Ds NV VR h5 hn hi hr=>exact ⟨_,.mk ht Ds NV VR h5 hn hi hr,by simp [rowFrom,bz,takeN,ob]⟩
 | _,_,.cons (a:=a) (b:=b) ha hb,i+1,t,e=>by
   obtain ⟨cs,h1,h2⟩:=hb.get (by simpa using e);refine ⟨cs,h1,?_⟩;cases ha with
   | mk ht Ds NV VR h5 hn hi hr=>
     rw [show (i+1)*5=i*5+1+1+1+1+1 by omega];simpa [rowFrom,bz] using h2
theorem oL.zero (h:H)(k i:Int){t:List Nat}(ht:bt t):oL h (.mk k i t [] []) [.int .i64 k,.int .i64 i,.str t,.nilSlice 0,.nilSlice 0]:=.mk ht (by simp) (by simp) (by simp) (λ_=>rfl) .nil .nil .nil
end K
namespace K
open Go Go.Dx Go.RowKit Go.Proofs
set_option maxRecDepth 100000
variable{f:FuncId}{Pn:V->H->Prop}{h:H}{s:List Nat}
theorem _root_.Go.Dx.bI.enters {pf:Unit->Program} {G:Nat}  {fn:br} (c:bI pf G f fn) (xs:Array Value) (w:World):(callFunc f xs).run (pf ()) w = .ok (.enter f xs) w:=
 let ⟨_,h1,h2⟩:=c.out;let ⟨_,k⟩:=nR h2;iL k h1 xs w
theorem _root_.Go.Dx.CX.H3 {pf:Unit->Program} {G:Nat}  {args:List V}  {Q:V->H->Prop} (c:CW pf G f args h Q):CX pf G f args h Q Pn:=c.mono λ_ _ q=>q
structure mj (h:H)(p:Lb)(s:List Nat)(i:Int):Prop where
 get:h.get p=some (.cells [.str s,.int .i64 i] yK 0 .yes)
 lo:0<=i
 hi:i.toNat<=s.length
 small:s.length<=65536
 GZ:∀b∈s,b<256
def Y' (v:V):Prop:=∃a w,v = .iface bW (.agg [.int .i64 a,.int .i64 w])
theorem mj.at {p:Lb}{i:Int}(a:mj h p s i){x c:Nat}(e:s[x]? =some c):c<256:=a.GZ c (List.mem_of_getElem? e)
theorem mj.mono {h':H}{p:Lb}{i:Int}{F:List Lb}(a:mj h p s i)(m:Mod h h' F)(n:p∉F:=by simp):mj h' p s i:=⟨m.get a.get n,a.lo,a.hi,a.small,a.GZ⟩
theorem Xs (b:Nat)(w:World)(i y:Int)(h0:w.cell? ⟨b,1,none⟩=some (.int .i64 i)):Calls Tryz.prog fH #[.pointer (some ⟨b,0,none⟩),.int .i64 y] w λe w'=>e = .panicked [{v:=.iface bW (.agg #[.int .i64 i,.int .i64 y]),recovered:=false}]/\w'=w:=by
 go_enter Tryz.func214,Tryz.ntmps214
 go_wp2
 have e:(Instr.panic (.iface bW (.agg #[.int .i64 i,.int .i64 y]))).run Tryz.prog w = .halt (.panic (.iface bW (.agg #[.int .i64 i,.int .i64 y]))) w:=rfl;rw [e];exact ⟨rfl,rfl,rfl⟩
theorem fW {p:Lb}{i y:Int}(m:mj h p s i){Q:V->H->Prop} (k:∀v,Y' v->Pn v h):CX pf G0 fH [.ptr p 0,.int .i64 y] h Q Pn:=by
 refine ⟨λ{B w0 ρ w xs} R n QB=>?_⟩;cases QB with
 | cons r t=>
   cases t with
   | cons r2 t=>
     cases t;cases r2;cases r with
     | ptr hl=>
       rename_i b c;obtain ⟨x,a,g⟩:=(R.obj p b _ c m.get:dE ρ b _ _ _ _ w).cell 1 (.int .i64 i) rfl;cases g;have d:b.base=0:=(R.base p b c).1;simp only [cQ] at a;have key:Calls (pf ()) fH ⟨[.pointer (some ⟨b.block,b.base+0,none⟩),.int .i64 y]⟩ w λe w'=>e = .panicked [{v:=.iface bW (.agg #[.int .i64 i,.int .i64 y]),recovered:=false}]/\w'=w:=by
        rw [d] at a ⊢;exact Xs b.block w i y a
       have rel:RV ρ (.iface bW (.agg [.int .i64 i,.int .i64 y])) (.iface bW (.agg #[.int .i64 i,.int .i64 y])):=.iface _ (.agg (.cons (.int _ _) (.cons (.int _ _) .nil)));have f:=Bd.enters ⟨[.pointer (some ⟨b.block,b.base+0,none⟩),.int .i64 y]⟩ w;have q:=k _ ⟨i,y,rfl⟩;refine .inr ⟨f,key.mono λe w' j=>?_⟩;obtain ⟨l,rfl⟩:=j;exact .inr ⟨_,l,_,h,ρ,q,Step.refl _ _,rel,R⟩
theorem vG {p:Lb}{i:Int}(a:mj h p s i){Q:V->H->Prop} (g:∀x c,i.toNat<s.length->s[i.toNat]? =some c->0<=x->x.toNat=c->Q (.int .u8 x) h) (k:∀v,Y' v->Pn v h):CX pf G0 pE [.ptr p 0] h Q Pn:=by
 have HB:=a.lo;have Ir:=a.hi;have o:=a.small;refine Bf.oZ (by kernel_rfl) ?_;cbv;refine .of follows 3 ?_;cbv;refine .of a.get rfl ?_;cbv;refine .of a.get rfl ?_;cbv;refine .of λn l m=>?_;cbv;refine .eq (λe=>?_) λe=>?_
 ·cbv;refine fW a λv j=>?_
  cbv;exact k v j
 ·obtain ⟨c,b⟩:∃c,s[i.toNat]? =some c:=⟨_,List.getElem?_eq_getElem (by omega)⟩
  cbv;refine .of follows 3 ?_;cbv;refine .of a.get rfl ?_;cbv;refine .of a.get rfl ?_;cbv;refine .of HB b λx d f=>?_;cbv;exact g x c (by omega) b d f
end K
namespace K
open Go Go.Dx Go.RowKit Go.Proofs
set_option maxRecDepth 100000
variable{s:List Nat}{h:H}{v:V}{Pn:V->H->Prop}
theorem Xt:bG Tryz.prog 317 Extern.BytealgIndexByte.indexByte:=⟨⟨_,Tryz.func317,by kernel_rfl,by kernel_rfl,by kernel_rfl,by kernel_rfl⟩⟩
theorem _root_.Go.Dx.SbN.fr {e:TypeId}{K:V->H->Prop} (d:Wf h) (hs:s.length<=9223372036854775807) (b:∀v h',Sl h' 1 v s.length (ae s)->Fr h v->Mod h h' []->Wf h'->K v h'):SbN h e (.str s) K:=by
 obtain ⟨a1,a2,f,c⟩:=H.add_mod d (.cells (ae s) e 0 .marked);exact ⟨s,rfl,hs,b _ _ (.row a1 (dG (by rw [bq];simp))) (λl a=>by simp only [ag,List.mem_singleton] at a;subst a;exact a2) f c⟩
theorem _root_.Go.Dx.Fr.ne (f:Fr h v){p:Lb}{o:Dx.Obj}(e:h.get p=some o):∀l,l∈ag v->l∉[p]:=λl b a=>by
 simp only [List.mem_singleton] at a;subst a;rw [f l b] at e;cases e
theorem zt:∀(t:List Nat),(∀b∈t,b<256)->ny (ae t)=some t
 | [],_=>rfl
 | b::r,h=>by
   have c:=zt r λx d=>h x (List.mem_cons_of_mem _ d);have a:Nat.blt b 256=true:=by simpa using h b (List.mem_cons_self ..)
   simp only [ae,ny,c,ob]
   first | rfl | (simp only [a,bO];rfl) | simp [a,bO]
theorem _root_.Go.Dx.BsN.of {n:Nat}{t:List Nat}{K:V->Prop} (s:Sl h 1 v n (ae t)) (d:∀b∈t,b<256) (a:K (.str t)):BsN h v K:=by
 have key:=zt t d;generalize ae t=cs at s key;cases s with
 | nil c=>cases key;exact ⟨_,rfl,a⟩
 | empty=>cases key;exact ⟨_,rfl,a⟩
 | row hg hr=>
   rw [Nat.mul_one] at hr;exact ⟨_,by simp only [Q.ask,hg,hr,ob,key],a⟩
theorem _root_.Go.Dx.BsN.one {l:Lb}{y:Int}{e:TypeId}{f:Nat}{a:Own}{K:V->Prop} (j:h.get l=some (.cells [.int .u8 y] e f a)) (h0:0<=y) (g:y.toNat<256) (d:∀c,c=y.toNat->K (.str [c])):BsN h (.slice l 0 1 (.exact 1)) K:=by
 obtain ⟨n,rfl⟩:=Int.eq_ofNat_of_zero_le h0;exact .of (t:=[n]) (n:=1) (.row j rfl) (λb i=>by simp at i g;omega) (d n (by simp))
theorem BW (c:Nat):∀(s:List Nat) (i:Nat),(fP c s i = -1/\∀b∈s,b≠c)\/(∃j:Nat,fP c s i=((i+j:Nat):Int)/\s[j]? =some c)
 | [],i=>.inl ⟨rfl,λ_ h=>by cases h⟩
 | b::r,i=>by
   simp only [fP];cases hb:Nat.beq b c with
   | true=>exact .inr ⟨0,rfl,by simp [Nat.eq_of_beq_eq_true hb]⟩
   | false=>
     rcases BW c r (i+1) with ⟨a,d⟩ | ⟨j,a,d⟩
     ·refine .inl ⟨a,λx f=>?_⟩
      rcases List.mem_cons.1 f with rfl | f
      ·exact λe=>by subst e;rw [Nat.beq_refl] at hb;cases hb
      ·exact d x f
     ·exact .inr ⟨j+1,by show fP c r (i+1)=_;rw [a];congr 1;omega,by simpa using d⟩
theorem cP {c:Int}(h0:0<=c)(a:c.toNat<256){Q:V->H->Prop} (f:(∀b∈s,b≠c.toNat)->Q (.int .i64 (-1)) h) (e:∀r:Int,0<=r->s[r.toNat]? =some c.toNat->Q (.int .i64 r) h):CW pf G0 pI [.str s,.int .u8 c] h Q:=by
 refine Bj.enter (by kernel_rfl) ?_;cbv;refine lZ.enter (by kernel_rfl) ?_;cbv;obtain ⟨n,rfl⟩:=Int.eq_ofNat_of_zero_le h0;have a:n<256:=by simpa using a
 have f:(∀b∈s,b≠n)->Q (.int .i64 (-1)) h:=f;have e:∀r:Int,0<=r->s[r.toNat]? =some n->Q (.int .i64 r) h:=e;refine CW.ext (v:=.int .i64 (fP n s 0)) (h':=h) (BG Xt) (by show bO (Nat.blt n 256) (some (V.int .i64 (fP n s 0),h))=_;rw [show Nat.blt n 256=true from by simpa using a];rfl) ?_;rcases BW n s 0 with ⟨d,g⟩ | ⟨j,d,g⟩
 ·rw [d];cbv;exact f g
 ·rw [d,Nat.zero_add]
  have q:=e (j:Int) (by omega) g;generalize (j:Int)=r at q ⊢;cbv;exact q
theorem zu {p:Lb}{of:List Nat}{i:Int}(y:Wf h)(a:mj h p s i){Q:V->H->Prop} (l:∀x c h',i.toNat<s.length->s[i.toNat]? =some c->0<=x->x.toNat=c->c∈of->mj h' p s (i+1)->Mod h h' [p]->Wf h'->Q (.int .u8 x) h') (g:∀v,Y' v->Pn v h):CX pf G0 qZ [.ptr p 0,.str of] h Q Pn:=by
 have HB:=a.lo;have Ir:=a.hi;have w:=a.small;refine CP.oZ (by kernel_rfl) ?_;cbv;refine vG a (λx c u f e b=>?_) λv d=>?_
 ·cbv;refine .H3 <| cP e (b▸a.at f) (λA=>?_) λr k o=>?_
  ·cbv;refine .QP (by omega) ?_
   cbv;refine fW a λv d=>?_;cbv;exact g v d
  ·cbv;refine .DF (by omega) ?_
   cbv;refine .of a.get rfl ?_;cbv;refine .add (by omega) (by omega) λj n=>?_;cbv;refine .of y a.get rfl rfl rfl rfl rfl rfl λz m t q=>?_;subst n;cbv;exact l x c z u f e b (b▸List.mem_of_getElem? o) ⟨m,by omega,by omega,w,a.GZ⟩ t q
 ·cbv;exact g v d
theorem oD {p:Lb}{i:Int}(z:Wf h)(a:mj h p s i){Q:V->H->Prop} (m:∀j h',i<=j->mj h' p s j->Mod h h' [p]->Wf h'->Q (.tuple []) h'):CW pf G0 mN [.ptr p 0] h Q:=by
 have HB:=a.lo;have Ir:=a.hi;have y:=a.small;refine xm.enter (by kernel_rfl) ?_;cbv;refine .inv [p0] (λt A h'=>A=[.ptr p 0]/\∃j,i<=j/\mj h' p s j/\t=s.length - j.toNat/\Mod h h' [p]/\Wf h') [_] rfl _ ⟨rfl,i,by omega,a,rfl,Mod.refl _ _,z⟩ ?_;rintro t _ q ⟨rfl,j,u,Bl,N,d,b⟩;have f:=Bl.lo;have D:=Bl.hi;cbv;refine .of follows 4 ?_;cbv;refine .of Bl.get rfl ?_;cbv;refine .of Bl.get rfl ?_;cbv;refine .of λn J w=>?_;cbv;refine .lt (λe=>?_) λe=>?_
 ·obtain ⟨c,g⟩:∃c,s[j.toNat]? =some c:=⟨_,List.getElem?_eq_getElem (by omega)⟩
  cbv;refine .of Bl.get rfl ?_;cbv;refine .of Bl.get rfl ?_;cbv;refine .of f g λx G v=>?_;cbv;refine cP G (v▸Bl.at g) (λw=>?_) λr F L=>?_
  ·cbv;refine .nil ?_
   cbv;refine .qQ (by omega) ?_;cbv;exact m j q u Bl d b
  ·cbv;refine .nil ?_
   cbv;refine .AB (by omega) ?_;cbv;refine .of Bl.get rfl ?_;cbv;refine .add (by omega) (by omega) λk K=>?_;cbv;refine .of b Bl.get rfl rfl rfl rfl rfl rfl λM B I E=>?_;cbv;exact ⟨rfl,s.length - k.toNat,by omega,rfl,k,by omega,⟨B,by omega,by omega,y,a.GZ⟩,rfl,(d.trans I).mono (λl o _ C=>by simpa using C),E⟩
 ·cbv;refine .nil ?_
  cbv;exact m j q u Bl d b
theorem Rn {p:Lb}{of:List Nat}{i:Int}(G:Wf h)(d:mj h p s i)(F:of.length<=1000)(g:∀b∈of,b<256) {Q:V->H->Prop} (K:∀j h',i<=j->mj h' p s j->Mod h h' [p]->Wf h'->Q (.tuple []) h') (P:∀v h',Y' v->Mod h h' [p]->Wf h'->Pn v h'):CX pf G0 pH [.ptr p 0,.str of] h Q Pn:=by
 have HB:=d.lo;have Ir:=d.hi;have Y:=d.small;refine Bi.oZ (by kernel_rfl) ?_;cbv;refine .fr G (by omega) λJ M hb dN ar I=>?_;cbv;refine .of hb λn Z X=>?_;cbv;refine .inv [p0,p7,p8,p9] (λA L h'=>∃k j,L=[.ptr p 0,J,.int .i64 n,.int .i64 k]/\0<=k/\k.toNat<=of.length/\A=of.length - k.toNat/\i<=j/\mj h' p s j/\Mod h h' [p]/\Mod M h' [p]/\Wf h') [_,_,_,_] rfl _ ⟨0,i,rfl,by omega,by simp,rfl,by omega,d.mono ar,ar.mono (by simp),Mod.refl _ _,I⟩ ?_;rintro A _ R ⟨k,j,rfl,U,hk,eF,W,w,m,fI,B⟩;cbv;refine .lt (λe=>?_) λe=>?_
 ·obtain ⟨c,r⟩:∃c,of[k.toNat]? =some c:=⟨_,List.getElem?_eq_getElem (by omega)⟩
  cbv;refine .byte (hb.mono fI (dN.ne d.get)) U r λq off N=>?_;cbv;refine .byte N λy BV hy=>?_;cbv;refine .flat rfl ?_;cbv;refine .of B λl h3 a J9 f C=>?_;cbv;refine .one a BV (hy▸g c (List.mem_of_getElem? r)) λc2 HQ=>?_;cbv;refine zu C (w.mono f) (λx1 c1 h4 _ _ _ _ _ T u S=>?_) λv E=>?_
  ·cbv;refine .add (by omega) (by omega) λk2 uF=>?_
   cbv;exact ⟨rfl,of.length - k2.toNat,by omega,k2,j+1,rfl,by omega,by omega,rfl,by omega,T,((m.trans f).trans u).mono (λl o _ a=>by simpa using a),((fI.trans f).trans u).mono (λl o _ a=>by simpa using a),S⟩
  ·cbv;exact P v h3 E ((m.trans f).mono (λl o _ a=>by simpa using a)) C
 ·cbv;exact K j R W w m B
end K
