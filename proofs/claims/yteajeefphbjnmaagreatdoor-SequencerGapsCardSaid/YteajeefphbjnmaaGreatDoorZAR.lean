/-
  The sequencer's laws. Part ZAR of the proof: blotter/wire: numbers, texts, frames as bytes.
-/
import Derived.Test.YteajeefphbjnmaaGreatDoorZAQ
import Derived.Test.YteajeefphbjnmaaGreatDoorZAP
import Derived.Test.YteajeefphbjnmaaGreatDoorZAL
namespace K
open Go Go.Dx Go.RowKit
set_option maxRecDepth 100000
def bl (x:Nat):Nat:=if x=0 then 0 else x.log2+1
def beN:Nat->Nat->List Nat
 | 0,_=>[]
 | k+1,x=>(x / 256 ^ k % 256)::beN k x
theorem Cx:∀k x,(beN k x).length=k
 | 0,_=>rfl
 | k+1,x=>by simp [beN,Cx k x]
def Cy (x:Nat):Nat:=(bl x+7) / 8
def cV (x:Nat):List Nat:=if x<=247 then [x] else (247+Cy x)::beN (Cy x) x
theorem Be {x:Nat}(h:x<=18446744073709551615):bl x<=64:=by
 unfold bl;split
 ·omega
 ·rename_i h0
  have:x.log2<64:=(Nat.log2_lt h0).2 (by omega);omega
theorem cF {x:Nat}(h:x<=18446744073709551615):1<=(cV x).length/\(cV x).length<=9:=by
 unfold cV;split
 ·simp
 ·have:=Be h
  simp [Cx,Cy];omega
theorem qL {x s:Nat}(h:2 ^ s<=x):bl x=bl (x / 2 ^ s)+s:=by
 have hp:0<2 ^ s:=Nat.two_pow_pos s;have h0:x≠0:=by omega
 have h1:x / 2 ^ s≠0:=by have:=Nat.div_pos h hp;omega
 unfold bl;rw [if_neg h0,if_neg h1];have:x.log2=(x / 2 ^ s).log2+s:=by
  rw [Nat.log2_eq_iff h0];obtain ⟨a,b⟩:=(Nat.log2_eq_iff h1).1 (rfl:(x / 2 ^ s).log2=_);have e:x / 2 ^ s*2 ^ s<=x:=Nat.div_mul_le_self x _;have f:x<(x / 2 ^ s+1)*2 ^ s:=(Nat.div_lt_iff_lt_mul hp).1 (Nat.lt_succ_self _);constructor
  ·rw [Nat.pow_add];exact Nat.le_trans (Nat.mul_le_mul_right _ a) e
  ·rw [show (x / 2 ^ s).log2+s+1=(x / 2 ^ s).log2+1+s from by omega,Nat.pow_add]
   exact Nat.lt_of_lt_of_le f (Nat.mul_le_mul_right _ b)
 omega
def len8:List Nat:=[0,1,2,2,3,3,3,3,4,4,4,4,4,4,4,4,5,5,5,5,5,5,5,5,5,5,5,5,5,5,5,5,6,6,6,6,6,6,6,6,6,6,6,6,6,6,6,6,6,6,6,6,6,6,6,6,6,6,6,6,6,6,6,6]++List.replicate 64 7++List.replicate 128 8
theorem af4:∀x,x<256->len8[x]? =some (bl x):=by decide +kernel
theorem bl8 {x:Nat}(h:x<=255):bl x<=8:=by
 unfold bl;split
 ·omega
 ·rename_i h0
  have:x.log2<8:=(Nat.log2_lt h0).2 (by omega);omega
theorem Ts {h:H}{x:Int}(h0:0<=x)(h1:x<=18446744073709551615){Q:V->H->Prop} (hq:∀n:Int,0<=n->n.toNat=bl x.toNat->Q (.int .i64 n) h):CW pf G0 rX [.int .u64 x] h Q:=by
 refine EG.enter (by kernel_rfl) ?_;have fin:∀{y:Int} {n0:Int} {K:V->Prop},0<=y->y<=255->(∀c:Int,0<=c->c.toNat=bl y.toNat->K (.int .u8 c))->afQ (.str len8) (.int .u8 y) K:=λCU NW hk=>.of CU (af4 _ (by omega)) hk;cbv;refine .ge (λa0=>?_) (λa0=>?_)
 ·cbv;refine .shr 4294967296 (by omega) (by decide) (by decide) rfl λy0 e0=>?_
  have t0:bl x.toNat=bl y0.toNat+32:=by rw [show y0.toNat=x.toNat / 4294967296 by omega];exact qL (s:=32) (by omega)
  cbv;refine .ge (λa1=>?_) (λa1=>?_)
  ·cbv;refine .shr 65536 (by omega) (by decide) (by decide) rfl λy1 e1=>?_
   have t1:bl y0.toNat=bl y1.toNat+16:=by rw [show y1.toNat=y0.toNat / 65536 by omega];exact qL (s:=16) (by omega)
   cbv;refine .add (by omega) (by omega) λn1 g1=>?_;cbv;refine .ge (λa2=>?_) (λa2=>?_)
   ·cbv;refine .shr 256 (by omega) (by decide) (by decide) rfl λy2 e2=>?_
    have t2:bl y1.toNat=bl y2.toNat+8:=by rw [show y2.toNat=y1.toNat / 256 by omega];exact qL (s:=8) (by omega)
    cbv;refine .add (by omega) (by omega) λn2 g2=>?_;have:=Be (x:=y2.toNat) (by omega);have II:bl y2.toNat<=8:=bl8 (by omega);cbv;refine .u8 (by omega) (by omega) ?_;cbv;refine fin (n0:=0) (by omega) (by omega) λc c0 hc=>?_;cbv;refine .i64 (by omega) (by omega) ?_;cbv;refine .add (by omega) (by omega) λr hr=>?_;cbv;refine hq _ (by omega) (by omega)
   ·
    have:=Be (x:=y1.toNat) (by omega);have II:bl y1.toNat<=8:=bl8 (by omega);cbv;refine .u8 (by omega) (by omega) ?_;cbv;refine fin (n0:=0) (by omega) (by omega) λc c0 hc=>?_;cbv;refine .i64 (by omega) (by omega) ?_;cbv;refine .add (by omega) (by omega) λr hr=>?_;cbv;refine hq _ (by omega) (by omega)
  ·
   cbv;refine .ge (λa2=>?_) (λa2=>?_)
   ·cbv;refine .shr 256 (by omega) (by decide) (by decide) rfl λy2 e2=>?_
    have t2:bl y0.toNat=bl y2.toNat+8:=by rw [show y2.toNat=y0.toNat / 256 by omega];exact qL (s:=8) (by omega)
    cbv;refine .add (by omega) (by omega) λn2 g2=>?_;have:=Be (x:=y2.toNat) (by omega);have II:bl y2.toNat<=8:=bl8 (by omega);cbv;refine .u8 (by omega) (by omega) ?_;cbv;refine fin (n0:=0) (by omega) (by omega) λc c0 hc=>?_;cbv;refine .i64 (by omega) (by omega) ?_;cbv;refine .add (by omega) (by omega) λr hr=>?_;cbv;refine hq _ (by omega) (by omega)
   ·
    have:=Be (x:=y0.toNat) (by omega);have II:bl y0.toNat<=8:=bl8 (by omega);cbv;refine .u8 (by omega) (by omega) ?_;cbv;refine fin (n0:=0) (by omega) (by omega) λc c0 hc=>?_;cbv;refine .i64 (by omega) (by omega) ?_;cbv;refine .add (by omega) (by omega) λr hr=>?_;cbv;refine hq _ (by omega) (by omega)
 ·
  cbv;refine .ge (λa1=>?_) (λa1=>?_)
  ·cbv;refine .shr 65536 (by omega) (by decide) (by decide) rfl λy1 e1=>?_
   have t1:bl x.toNat=bl y1.toNat+16:=by rw [show y1.toNat=x.toNat / 65536 by omega];exact qL (s:=16) (by omega)
   cbv;refine .add (by omega) (by omega) λn1 g1=>?_;cbv;refine .ge (λa2=>?_) (λa2=>?_)
   ·cbv;refine .shr 256 (by omega) (by decide) (by decide) rfl λy2 e2=>?_
    have t2:bl y1.toNat=bl y2.toNat+8:=by rw [show y2.toNat=y1.toNat / 256 by omega];exact qL (s:=8) (by omega)
    cbv;refine .add (by omega) (by omega) λn2 g2=>?_;have:=Be (x:=y2.toNat) (by omega);have II:bl y2.toNat<=8:=bl8 (by omega);cbv;refine .u8 (by omega) (by omega) ?_;cbv;refine fin (n0:=0) (by omega) (by omega) λc c0 hc=>?_;cbv;refine .i64 (by omega) (by omega) ?_;cbv;refine .add (by omega) (by omega) λr hr=>?_;cbv;refine hq _ (by omega) (by omega)
   ·
    have:=Be (x:=y1.toNat) (by omega);have II:bl y1.toNat<=8:=bl8 (by omega);cbv;refine .u8 (by omega) (by omega) ?_;cbv;refine fin (n0:=0) (by omega) (by omega) λc c0 hc=>?_;cbv;refine .i64 (by omega) (by omega) ?_;cbv;refine .add (by omega) (by omega) λr hr=>?_;cbv;refine hq _ (by omega) (by omega)
  ·
   cbv;refine .ge (λa2=>?_) (λa2=>?_)
   ·cbv;refine .shr 256 (by omega) (by decide) (by decide) rfl λy2 e2=>?_
    have t2:bl x.toNat=bl y2.toNat+8:=by rw [show y2.toNat=x.toNat / 256 by omega];exact qL (s:=8) (by omega)
    cbv;refine .add (by omega) (by omega) λn2 g2=>?_;have:=Be (x:=y2.toNat) (by omega);have II:bl y2.toNat<=8:=bl8 (by omega);cbv;refine .u8 (by omega) (by omega) ?_;cbv;refine fin (n0:=0) (by omega) (by omega) λc c0 hc=>?_;cbv;refine .i64 (by omega) (by omega) ?_;cbv;refine .add (by omega) (by omega) λr hr=>?_;cbv;refine hq _ (by omega) (by omega)
   ·
    have:=Be (x:=x.toNat) (by omega);have II:bl x.toNat<=8:=bl8 (by omega);cbv;refine .u8 (by omega) (by omega) ?_;cbv;refine fin (n0:=0) (by omega) (by omega) λc c0 hc=>?_;cbv;refine .i64 (by omega) (by omega) ?_;cbv;refine .add (by omega) (by omega) λr hr=>?_;cbv;refine hq _ (by omega) (by omega)
theorem jY {h:H}{b:V}{m:Nat}{cs:List V}{n:Int}(hw:Wf h)(hb:Sl h 1 b m cs)(hf:bd cs=true)(hm:m<=10000000)(hn:-9223372036854775808<=n)(Bj:n<=9223372036854775807){Q:V->H->Prop}
  (hq:∀v h',aE h' 5 1 v (m+(cV n.toNat).length) (cs++ae (cV n.toNat))->Loc h h' v->Q v h'):CW pf G0 A4 [b,.int .i64 n] h Q:=by
 refine MW.enter (by kernel_rfl) ?_;cbv;refine .copy hw hb hf (by omega) (by decide) λv h1 ho lo=>?_;cbv;refine .of λx hx=>?_;cbv;refine .u64 (by omega) (by omega) ?_;have hxn:x.toNat=n.toNat:=by omega
 cbv;refine .le (λhle=>?_) (λIq=>?_)
 ·cbv;refine .u8 (by omega) (by omega) ?_
  cbv;refine .flat rfl ?_;cbv;refine .of lo.wf λl h2 hl gC aq aN=>?_;cbv;refine .one (lo.al aq aN) (ho.mono aq) hl rfl rfl (by omega) (by decide) λv2 h3 fT lL _=>?_;cbv;refine hq _ _ ?_ lL;have e:cV n.toNat=[x.toNat]:=by unfold cV;rw [if_pos (by omega),hxn]
  rw [e];have e2:V.int .u8 x = .int .u8 (Int.ofNat x.toNat):=by rw [show Int.ofNat x.toNat=x from Int.toNat_of_nonneg (by omega)]
  rw [e2] at fT;exact fT
 ·cbv;refine Ts (by omega) (by omega) λlen Xp hl=>?_
  have hle:=Be (x:=x.toNat) (by omega);cbv;refine .add (by omega) (by omega) λy hy=>?_;cbv;refine .quo (by omega) (by omega) (by omega) λk hk=>?_;have hkn:k.toNat=Cy n.toNat:=by unfold Cy;rw [<-hxn,<-hl];omega
  have hk8:0<=k/\k<=8:=by omega
  cbv;refine .add (by omega) (by omega) λz hz=>?_;cbv;refine .u8 (by omega) (by omega) ?_;cbv;refine .flat rfl ?_;cbv;refine .of lo.wf λl h2 jc gC aq aN=>?_;cbv;refine .one (lo.al aq aN) (ho.mono aq) jc rfl rfl (by omega) (by decide) λv2 h3 fT lL _=>?_;cbv;refine .sub (by omega) (by omega) λi hi=>?_;cbv;refine .inv [p5,p6,p8] (λm' aC h'=>∃v i done,aC=[v,.int .u64 x,.int .i64 i]/\-1<=i/\i<=7/\m'=(i+1).toNat/\done++beN (i+1).toNat x.toNat=cV n.toNat/\aE h' 5 1 v (m+done.length) (cs++ae done)/\Loc h h' v)
   [_,_,_] rfl _ ⟨v2,i,[z.toNat],rfl,by omega,by omega,rfl,?_,?_,lL⟩ ?_
  ·unfold cV
   rw [if_neg (by omega),<-hkn,hxn,show (i+1).toNat=k.toNat by omega,show z.toNat=247+k.toNat by omega];rfl
  ·have e2:V.int .u8 z = .int .u8 (Int.ofNat z.toNat):=by rw [show Int.ofNat z.toNat=z from Int.toNat_of_nonneg (by omega)]
   rw [e2] at fT;exact fT
  ·rintro m' _ h' ⟨v,i,done,rfl,Fa,DI,dY,hd,ho,lo⟩
   have hdl:done.length<=9:=by
    have:=congrArg List.length hd;have:=(cF (x:=n.toNat) (by omega)).2;simp at *;omega
   cbv;refine .ge (λjb=>?_) (λbA=>?_)
   ·cbv;refine .mul (by omega) (by omega) λs hs=>?_
    cbv;refine .asE (by omega) (by omega) (by show _<=64;omega) λy CU hy=>?_;cbv;refine .u8m λc hc=>?_;cbv;refine .flat rfl ?_;cbv;refine .of lo.wf λl h2 hl gC aq aN=>?_;cbv;refine .one (lo.al aq aN) (ho.mono aq) hl rfl rfl (by omega) (by decide) λv2 h3 fT lL _=>?_;cbv;refine .sub (by omega) (by omega) λi' ja=>?_;cbv;refine ⟨rfl,(i'+1).toNat,?_,v2,i',done++[c.toNat],rfl,by omega,by omega,rfl,?_,?_,lL⟩
    ·omega
    ·rw [<-hd,show (i+1).toNat=(i'+1).toNat+1 by omega,List.append_assoc]
     congr 1
     show c.toNat::_=_
     rw [beN]
     congr 1
     have:256 ^ (i'+1).toNat=2 ^ s.toNat:=by
      rw [show s.toNat=8*(i'+1).toNat by omega,Nat.pow_mul]
     rw [this,<-hy];omega
    ·have e2:V.int .u8 c = .int .u8 (Int.ofNat c.toNat):=by rw [show Int.ofNat c.toNat=c from Int.toNat_of_nonneg (by omega)]
     rw [e2] at fT;rw [aK,<-List.append_assoc,List.length_append,<-Nat.add_assoc];exact fT
   ·cbv
    refine hq _ _ ?_ lo;rw [<-hd,show (i+1).toNat=0 by omega,beN,List.append_nil];exact ho
theorem Gn {h:H}{b:V}{m:Nat}{cs:List V}{s:List Nat}(hw:Wf h)(hb:Sl h 1 b m cs)(hf:bd cs=true)(hm:m<=10000000)(hs:s.length<=1000000){Q:V->H->Prop}
  (hq:∀v h',aE h' 5 1 v (m+(cV s.length++s).length) (cs++ae (cV s.length++s))->Loc h h' v->Q v h'):CW pf G0 Hm [b,.str s] h Q:=by
 refine Tm.enter (by kernel_rfl) ?_;cbv;refine .of λn h0 hn=>?_;cbv;refine jY hw hb hf hm (by omega) (by omega) λv h1 ho lo=>?_;rw [hn] at ho;have:=cF (x:=s.length) (by omega);cbv;refine .text lo ho (by omega) λv2 h2 ke Dg _=>?_;cbv;refine hq _ _ ?_ Dg;rw [aK,<-List.append_assoc,List.length_append,<-Nat.add_assoc];exact ke
def ac8 (c:Int):Int:=zQ Nat.xor .u32 (c / 2) (zQ Nat.land .u32 2197175160 (bR .u32 (0 - zQ Nat.land .u32 c 1)))
def IJ:Nat->Int->Int
 | 0,c=>c
 | n+1,c=>IJ n (ac8 c)
def Tt:List Nat->Int->Int
 | [],c=>c
 | b::r,c=>Tt r (IJ 8 (zQ Nat.xor .u32 c (b:Int)))
def crc (l:List Nat):Int:=zQ Nat.xor .u32 (allOnes .u32) (Tt l 4294967295)
def u32 (c:Int):Prop:=0<=c/\c<=4294967295
theorem u32_xor (x y:Int):u32 (zQ Nat.xor .u32 x y):=acU acV x y
theorem XY (l:List Nat):u32 (crc l):=u32_xor _ _
theorem ac9 {h:H}{b:V}{n:Nat}{l:List Nat}(hb:Sl h 1 b n (ae l))(hl:l.length<=1000000)(EJ:∀x∈l,x<256) {Q:V->H->Prop} (hq:∀c,c=crc l->Q (.int .u32 c) h):CW pf G0 KI [b] h Q:=by
 have uJ:n=l.length:=by have:=hb.len;rw [bp] at this;omega
 refine VY.enter (by kernel_rfl) ?_;cbv;refine .of hb λn eT hn=>?_;cbv;refine .inv [p3,p6,p7,p8] (λm' aC h'=>∃c i,aC=[.int .u32 c,b,.int .i64 n,.int .i64 i]/\0<=i/\i.toNat<=l.length/\m'=l.length - i.toNat/\u32 c/\Tt (l.drop i.toNat) c=Tt l 4294967295/\h'=h) [_,_,_,_] rfl _
  ⟨4294967295,0,rfl,by omega,by simp,rfl,by unfold u32;omega,by simp,rfl⟩ ?_
 rintro m' _ h' ⟨c,i,rfl,jG,hi,dY,hc,Ss,rfl⟩;cbv;refine .lt (λbA=>?_) (λjb=>?_)
 ·obtain ⟨x,hx⟩:∃x,l[i.toNat]? =some x:=⟨_,List.getElem?_eq_getElem (by omega)⟩
  have ax5:=EJ x (List.mem_of_getElem? hx);have anN:l.drop i.toNat=x::l.drop (i.toNat+1):=by
   obtain ⟨h1,h2⟩:=List.getElem?_eq_some_iff.1 hx;rw [List.drop_eq_getElem_cons h1,h2]
  rw [anN] at Ss;cbv;refine .byte hb jG hx λq off he=>?_;cbv;refine .byte he λy CU hy=>?_;cbv;refine .u32 (by omega) (by omega) ?_;cbv;refine .afV λc1 U'=>?_;have hxy:y=(x:Int):=by omega
  have asW:Tt (l.drop (i.toNat+1)) (IJ 8 c1)=Tt l 4294967295:=by rw [U',hxy];exact Ss
  have asX:u32 c1:=by rw [U'];exact u32_xor _ _
  clear Ss U' hxy;cbv;refine .inv [p3,p6,p7,p8,p16] (λm2 aC h2=>∃c j,aC=[.int .u32 c,b,.int .i64 n,.int .i64 i,.int .i64 j]/\0<=j/\j<=8/\m2=8 - j.toNat/\u32 c/\Tt (l.drop (i.toNat+1)) (IJ (8 - j.toNat) c)=Tt l 4294967295/\h2=h') [_,_,_,_,_] rfl _
   ⟨c1,0,rfl,by omega,by omega,rfl,asX,asW,rfl⟩ ?_
  rintro m2 _ h2 ⟨c2,j,rfl,Uy,hj,aq,anO,anP,rfl⟩;have af5:=anO;obtain ⟨asY,aBT⟩:=af5;cbv;refine .lt (λzM=>?_) (λUT=>?_)
  ·cbv;refine .shr 2 asY (by decide) (by decide) rfl λa ha=>?_
   cbv;refine .ajy λa1 ha1=>?_;cbv;refine .asD λa2 ha2=>?_;cbv;refine .ajy λa3 ha3=>?_;cbv;refine .afV λa4 ha4=>?_;have e4:a4=ac8 c2:=by rw [ha4,ha,ha3,ha2,ha1];rfl
   cbv;refine .add (by omega) (by omega) λj' hj'=>?_;cbv;refine ⟨rfl,8 - j'.toNat,by omega,a4,j',rfl,by omega,by omega,rfl,by rw [e4];exact u32_xor _ _,?_,rfl⟩;rw [e4,<-anP,show 8 - j.toNat=(8 - j'.toNat)+1 by omega];rfl
  ·cbv;refine .add (by omega) (by omega) λi' ja=>?_
   cbv;refine ⟨rfl,l.length - i'.toNat,by omega,c2,i',rfl,by omega,by omega,rfl,anO,?_,rfl⟩;rw [<-anP,show i'.toNat=i.toNat+1 by omega,show 8 - j.toNat=0 by omega];rfl
 ·cbv;refine .afV λr hr=>?_
  cbv;refine hq _ ?_;rw [hr,crc,<-Ss,List.drop_eq_nil_of_le (by omega)];rfl
def Tv (x:Nat):List Nat:=[x / 16777216,x / 65536 % 256,x / 256 % 256,x % 256]
theorem VZ {x:Int}{n:Nat}(h0:0<=x)(h:x.toNat=n):V.int .u8 x = .int .u8 (Int.ofNat n):=by
 rw [<-h,show Int.ofNat x.toNat=x from Int.toNat_of_nonneg h0]
theorem Zx {h:H}(hw:Wf h){x:Int}(hx:u32 x){Q:V->H->Prop} (hq:∀w h',w=ae (Tv x.toNat)->Mod h h' []->Wf h'->Q (.agg w) h'):CW pf G0 Hq [.int .u32 x] h Q:=by
 obtain ⟨h0,h1⟩:=hx;refine Tq.enter (by kernel_rfl) ?_;cbv;refine .of hw λl h1 hl gC ar aM=>?_;cbv;refine .shr 16777216 h0 (by decide) (by decide) rfl λa1 e1=>?_;cbv;refine .u8m λb1 f1=>?_;cbv;refine .shr 65536 h0 (by decide) (by decide) rfl λa2 e2=>?_;cbv;refine .u8m λb2 f2=>?_;cbv;refine .shr 256 h0 (by decide) (by decide) rfl λa3 e3=>?_;cbv;refine .u8m λb3 f3=>?_;cbv;refine .u8m λb4 f4=>?_;cbv;refine .flat rfl ?_;cbv;refine .flat rfl ?_;cbv;refine .flat rfl ?_;cbv;refine .flat rfl ?_;cbv;refine .of aM hl rfl rfl rfl rfl rfl rfl λh2 jc aq aN=>?_;cbv;refine .of jc rfl ?_;cbv;rw [VZ (x:=b1) (n:=x.toNat / 16777216) (by omega) (by omega),VZ (x:=b2) (n:=x.toNat / 65536 % 256) (by omega) (by omega),VZ (x:=b3) (n:=x.toNat / 256 % 256) (by omega) (by omega),VZ (x:=b4) (n:=x.toNat % 256) (by omega) (by omega)];exact hq _ _ rfl (ar.fr aq (by simp [gC])) aN
def Zy (n:Nat):List Nat:=[n / 65536,n / 256 % 256,n % 256]
def frame (l:List Nat):List Nat:=Zy l.length++l++Tv (crc (Zy l.length++l)).toNat
theorem V0 {h:H}(hw:Wf h){b:V}{n0:Nat}{l:List Nat}(hb:Sl h 1 b n0 (ae l))(hl:l.length<=10000000)(EJ:∀x∈l,x<256) {Q:V->H->Prop}
  (Da:65536<l.length->Q (.tuple [.nilSlice 0,.int .i64 4]) h)
  (hq:l.length<=65536->∀v h',aE h' 5 1 v (frame l).length (ae (frame l))->Loc h h' v->Q (.tuple [v,.int .i64 0]) h'):CW pf G0 Eh [b] h Q:=by
 have uJ:n0=l.length:=by have:=hb.len;rw [bp] at this;omega
 refine Qp.enter (by kernel_rfl) ?_;cbv;refine .of hb λn eT hn=>?_;cbv;refine .gt (λIq=>?_) (λhle=>?_)
 ·cbv;exact Da (by omega)
 ·cbv;refine .shr 65536 eT (by decide) (by decide) rfl λa1 e1=>?_
  cbv;refine .u8m λb1 f1=>?_;cbv;refine .shr 256 eT (by decide) (by decide) rfl λa2 e2=>?_;cbv;refine .u8m λb2 f2=>?_;cbv;refine .u8m λb3 f3=>?_;cbv;refine .flat rfl ?_;cbv;refine .flat rfl ?_;cbv;refine .flat rfl ?_;cbv;refine .of hw λq h1 sj gC ar aM=>?_;rw [VZ (x:=b1) (n:=l.length / 65536) (by omega) (by omega),VZ (x:=b2) (n:=l.length / 256 % 256) (by omega) (by omega),VZ (x:=b3) (n:=l.length % 256) (by omega) (by omega)] at sj;have cx:=hb.mono ar;cbv;refine .loc (h0:=h) ⟨ar,by simp [Fr,af,gC],aM⟩ (aE.exact (n:=3) (cs:=ae (Zy l.length)) sj rfl) cx.elems (by rw [bp];omega) (az l) (by omega) (by decide) λv h2 ke Dg aq=>?_;rw [<-aK] at ke;have anQ:∀x∈Zy l.length++l,x<256:=by
   intro x hx;rcases List.mem_append.1 hx with hx | hx
   ·simp [Zy] at hx;omega
   ·exact EJ x hx
  have hlen:(Zy l.length++l).length=3+l.length:=by simp [Zy];omega
  cbv;refine ac9 ke.sl (by omega) anQ λc hc=>?_;cbv;refine Zx Dg.wf (by rw [hc];exact XY _) λw h3 hwd aF aR=>?_;have af6:w.length=4:=by rw [hwd];rfl
  cbv;refine .of aR λq4 h4 hq4 M' aD aQ=>?_;cbv;refine .of (cs:=w) aQ hq4 rfl af6 rfl rfl (by rw [hwd];exact az _) (Hj af6) λh5 hq5 aY bH=>?_;have V1:Mod h2 h5 []:=(aF.trans aD).fr aY (by
   intro l' pn;simp only [List.mem_singleton] at pn;subst pn;cases e:h2.get l' with
   | none=>exact .inl rfl
   | some o=>have:=aF.get e;rw [M'] at this;cases this)
  cbv;refine .loc (Dg.al V1 bH) (ke.mono V1) (m:=4) (new:=w) (by simp only [de,hq5];rw [dA (n:=4*1) af6];rfl) af6 (by rw [hwd];exact az _) (by omega) (by decide) λv6 h6 pZ zy _=>?_;cbv;refine hq (by omega) _ _ ?_ zy;rw [hwd,<-aK] at pZ;rw [show (frame l).length=3+n0+4 by simp [frame,Zy,Tv];omega];rw [hc] at pZ;exact pZ
end K
namespace K
open Go Go.Dx Go.RowKit
set_option maxRecDepth 100000
def vu (e:TypeId)(size bytes:Nat):bC:=⟨8,(W.S (W.O [W.mv p2 (W.c (.nilSlice 0))])
 (W.S (W.S (W.O [W.mv p3 (W.t p0),W.bn p4 .eql .slice (W.t p3) (W.c (.nilSlice 0))])
 (W.I (W.t p4) (W.S (W.O [W.mv p2 (W.c (.nilSlice 0))])
 .ret) .skip))
 (W.S (W.O [W.e p5 (.cI e [] 0),W.mv p6 (W.t p0),W.e p7 (.append e size bytes (W.t p5) (W.t p6)),W.mv p2 (W.t p7)])
 .ret))),[(.tmp p2)]⟩
theorem mH {f:FuncId}{e:TypeId}{size bytes:Nat}(c:bM pf G0 f (vu e size bytes)){h:H}{v:V}{n:Nat}{cs:List V}(hw:Wf h)(hs:Sl h size v n cs)(hf:bd cs=true)(hb:4*n*bytes<=1099511627776)(h0:0<size){Q:V->H->Prop}
  (hq:∀v' h',aE h' e size v' n cs->Loc h h' v'->Q v' h'):CW pf G0 f [v] h Q:=by
 refine c.enter rfl ?_;unfold vu;cbv;refine .asN hs (λc hc hn jQ=>?_) ?_
 ·subst hn jQ
  cbv;exact hq _ _ .nil (Loc.nil hw 0)
 ·cbv;refine .of hw λl h1 hl gC ar aM=>?_
  cbv;refine .loc (h0:=h) ⟨ar,by simp [Fr,af,gC],aM⟩ (aE.exact (n:=0) (cs:=[]) hl (by simp)) (hs.mono ar).elems hs.len hf (by rw [Nat.zero_add];exact hb) h0 λv2 h2 ke Dg _=>?_;cbv;rw [Nat.zero_add,List.nil_append] at ke;exact hq _ _ ke Dg
theorem qM {f:FuncId}{e:TypeId}{size bytes:Nat}(c:bM pf G0 f (vu e size bytes)){h:H}{v:V}{n:Nat}{cs:List V}(hw:Wf h)(hs:Sl h size v n cs)(hf:bd cs=true)(hb:4*n*bytes<=1099511627776)(h0:0<size){Q:V->H->Prop}
  (hq:∀v' h',Ro h' size v' n cs->Mod h h' []->Wf h'->Q v' h'):CW pf G0 f [v] h Q:=by
 refine .pQ (mH c hw hs hf hb h0 λv' h' ho lo=>?_);obtain ⟨h2,a,b,c,d⟩:=ho.freeze lo.wf;exact ⟨h2,a,hq _ _ b (lo.mod.fr c λl hl=>.inl (lo.fr l hl)) d⟩
theorem mJ:bM pf G0 zR (vu 5 1 1):=⟨_,Go.Proofs.Tryz.func100,by kernel_rfl⟩
theorem yD:bM pf G0 MI (vu 5 1 1):=⟨_,Go.Proofs.Tryz.func125,by kernel_rfl⟩
end K
namespace Go.Dx
open Go Go.RowKit
theorem aA.ajE {B:Nat}{w0:World}{ρ:bE}{h:H}{w w':World}(R:aA B w0 ρ h w)(g:Below w.heap.size w w'):aA B w0 ρ h w':=
 ⟨λl b o hl ho=>(R.obj l b o hl ho).jh (jI.refl _) (g.block _ (R.obj l b o hl ho).lt),R.lt,R.base,R.inj,R.own,Nat.le_trans R.size g.size,R.below.trans (g.mono R.size)⟩
theorem CW.text {pf:Unit->Program} {G:Nat} {f:FuncId} {args:List V} {h:H} {Q:V->H->Prop} {func:Func} {c:Code} (hf:(pf ()).funcs[f]? =some func) (hb:func.body=some c) (hn:(func.name == "runtime.NumGoroutine")=false)
  (hc:∀{B:Nat} {w0:World} {ρ:bE} {w:World} {xs:List Value},aA B w0 ρ h w->GB (pf ()) B w0 ρ G->cU ρ args xs->Calls (pf ()) f ⟨xs⟩ w λe w'=>∃t,e = .returned (.string t)/\Below w.heap.size w w'/\Q (.str (ax t)) h):CW pf G f args h Q:=
 .mk λ{_B _w0 ρ _w _xs} R hG hx=>Good.iq hf hb hn ((hc R hG hx).mono λ_e _w' ⟨t,he,hB,q⟩=>⟨_,he,_,h,ρ,q,Step.refl _ _,.str t,R.ajE hB⟩)
end Go.Dx
namespace Go.Dx
open Go Go.RowKit
theorem CW.ext {pf:Unit->Program} {G:Nat} {f:FuncId} {k:Ext} {args:List V} {h h':H} {v:V} {Q:V->H->Prop} (x:nA (pf ()) G f k) (hr:iV (pf ()) k args h=some (v,h')) (q:Q v h'):CW pf G f args h Q:=
 .mk λR hG hx=>(x hr R hG.rel hx).mono λ_ _ ⟨ρ',r⟩=>⟨v,h',ρ',q,r⟩
theorem uS.row {h:H}{l:Lb}{off:Nat}{vs:List V}{e:TypeId}{fz:Nat}{own:Own}{K:V->Prop} (hl:h.get l=some (.cells vs e fz own)) (ho:off<vs.length) (k:K (.ptr l off)):uS h (.row l off) K:=
 ⟨_,by simp only [Q.ask,hl,show Nat.blt off vs.length=true from by simpa using ho,bN],k⟩
end Go.Dx
namespace K
open Go Go.Dx Go.RowKit Go.Proofs
set_option maxRecDepth 100000
theorem af7:cb Tryz.prog 130 (λ_=>do mark .disable;pure Extern.Race.none_):=⟨⟨_,Tryz.func130,by kernel_rfl,by kernel_rfl,by kernel_rfl,by kernel_rfl⟩⟩
theorem ajF:cb Tryz.prog 131 (Extern.Atomic.casT (.int .i32)):=⟨⟨_,Tryz.func131,by kernel_rfl,by kernel_rfl,by kernel_rfl,by kernel_rfl⟩⟩
theorem af8:cb Tryz.prog 132 (λ_=>do mark .enable;pure Extern.Race.none_):=⟨⟨_,Tryz.func132,by kernel_rfl,by kernel_rfl,by kernel_rfl,by kernel_rfl⟩⟩
theorem ajG:cb Tryz.prog 133 (Extern.Race.marked .acquire):=⟨⟨_,Tryz.func133,by kernel_rfl,by kernel_rfl,by kernel_rfl,by kernel_rfl⟩⟩
theorem ajH:cb Tryz.prog 135 (Extern.Race.marked .releaseMerge):=⟨⟨_,Tryz.func135,by kernel_rfl,by kernel_rfl,by kernel_rfl,by kernel_rfl⟩⟩
theorem ajI:cb Tryz.prog 136 (Extern.Atomic.update (Op.intArith .add) .i32 true):=⟨⟨_,Tryz.func136,by kernel_rfl,by kernel_rfl,by kernel_rfl,by kernel_rfl⟩⟩
theorem Qq {f:FuncId}{h:H}(x:nA (pf ()) G0 f .nop){Q:V->H->Prop} (q:Q (.tuple []) h):CW pf G0 f [] h Q:=.ext x rfl q
theorem XZ {f:FuncId}{h:H}{l:Lb}{off:Nat}(x:nA (pf ()) G0 f .mark){Q:V->H->Prop} (q:Q (.tuple []) h):CW pf G0 f [.ptr l off] h Q:=.ext x rfl q
theorem ajJ {f:FuncId}{h:H}{l:Lb}{cs:List V}{t:TypeId}{a b:Int}(x:nA (pf ()) G0 f .XN)(hw:Wf h)(hl:h.get l=some (.cells (.int .i32 a::cs) t 0 .yes)){Q:V->H->Prop} (q:∀h',h'.get l=some (.cells (.int .i32 b::cs) t 0 .yes)->Mod h h' [l]->Wf h'->Q (.bool true) h'):CW pf G0 f [.ptr l 0,.int .i32 a,.int .i32 b] h Q:=by
 obtain ⟨h1,h2,h3⟩:=H.eM hw hl rfl (.cells (.int .i32 b::cs) t 0 .yes);refine .ext x ?_ (q _ h1 h2 h3);have e:aX (.int .i32 a::cs) 0 [V.int .i32 b]=some (.int .i32 b::cs):=by simp [aX,ob]
 simp only [iV,cellAt,Dx.Q.ask,hl,dI,bB,List.head?_cons,bO,bN,eb,Own.may,Nat.ble,bd,bU,Bool.and_self,e,ob];simp
theorem ajK {f:FuncId}{h:H}{l:Lb}{cs:List V}{t:TypeId}{a b c:Int}(x:nA (pf ()) G0 f .XO)(hw:Wf h)(hl:h.get l=some (.cells (.int .i32 a::cs) t 0 .yes))(hc:bR .i32 (a+b)=c){Q:V->H->Prop} (q:∀h',h'.get l=some (.cells (.int .i32 c::cs) t 0 .yes)->Mod h h' [l]->Wf h'->Q (.int .i32 c) h'):CW pf G0 f [.ptr l 0,.int .i32 b] h Q:=by
 subst hc;obtain ⟨h1,h2,h3⟩:=H.eM hw hl rfl (.cells (.int .i32 (bR .i32 (a+b))::cs) t 0 .yes);refine .ext x ?_ (q _ h1 h2 h3);have e:aX (.int .i32 a::cs) 0 [V.int .i32 (bR .i32 (a+b))]=some (.int .i32 (bR .i32 (a+b))::cs):=by simp [aX,ob]
 simp only [iV,cellAt,Dx.Q.ask,hl,dI,bB,List.head?_cons,bN,eb,Own.may,Nat.ble,bd,bU,Bool.and_self,e,ob]
theorem Cz {h:H}{l:Lb}{cs:List V}{t:TypeId}(hw:Wf h)(hl:h.get l=some (.cells (.int .i32 0::cs) t 0 .yes)){Q:V->H->Prop} (q:∀h',h'.get l=some (.cells (.int .i32 1::cs) t 0 .yes)->Mod h h' [l]->Wf h'->Q (.tuple []) h'):CW pf G0 rP [.ptr l 0] h Q:=by
 refine Ev.enter (by kernel_rfl) ?_;cbv;refine qK.enter (by kernel_rfl) ?_;cbv;refine Qq (zq af7) ?_;cbv;refine ajJ (N8 ajF) hw hl λh1 xv ar aM=>?_;cbv;refine Qq (zq af8) ?_;cbv;refine .row xv (by simp) ?_;cbv;refine XZ (DP ajG) ?_;cbv;exact q h1 xv ar aM
theorem cq {h:H}{l:Lb}{cs:List V}{t:TypeId}(hw:Wf h)(hl:h.get l=some (.cells (.int .i32 1::cs) t 0 .yes)){K:H->Prop} (q:∀h',h'.get l=some (.cells (.int .i32 0::cs) t 0 .yes)->Mod h h' [l]->Wf h'->K h'):LW pf G0 oQ [.ptr l 0] h K:=by
 refine An.late (by kernel_rfl) ?_;cbv;refine oD.enter (by kernel_rfl) ?_;cbv;refine .of hl rfl ?_;cbv;refine .row hl (by simp) ?_;cbv;refine XZ (DP ajH) ?_;cbv;refine Qq (zq af7) ?_;cbv;refine ajK (N7 ajI) hw hl (show bR .i32 (1 + -1)=0 from rfl) λh1 xv ar aM=>?_;cbv;refine .eC rfl ?_;cbv;refine Qq (zq af8) ?_;cbv;exact q h1 xv ar aM
end K
namespace K
open Go Go.Dx Go.RowKit
set_option maxRecDepth 100000
theorem _root_.Go.Dx.SbN.of {h:H}{e:TypeId}{s:List Nat}{K:V->H->Prop} (hw:Wf h) (hs:s.length<=9223372036854775807) (hk:∀v h',Sl h' 1 v s.length (ae s)->Mod h h' []->Wf h'->K v h'):SbN h e (.str s) K:=by
 obtain ⟨a1,a2,a3,a4⟩:=H.add_mod hw (.cells (ae s) e 0 .marked);exact ⟨s,rfl,hs,hk _ _ (.row a1 (dA (by rw [bp];simp))) a3 a4⟩
def mh (c:Nat):Prop:=c=46\/c=45\/c=95\/(48<=c/\c<=57)\/(97<=c/\c<=122)\/(65<=c/\c<=90)
def isName (s:List Nat):Prop:=(∀c,c∈s->mh c)/\s≠[]/\s.length<=24
theorem cz {h:H}{s:List Nat}(hw:Wf h)(hs:s.length<=9223372036854775807){Q:V->H->Prop} (bw:∀h',isName s->Mod h h' []->Wf h'->Q (.bool true) h') (bq:∀h',¬isName s->Mod h h' []->Wf h'->Q (.bool false) h'):CW pf G0 x6 [.str s] h Q:=by
 refine KP.enter (by kernel_rfl) ?_;cbv;refine .of hw hs λbv h1 hb ar aM=>?_;cbv;refine .of hb λn eT hn=>?_;cbv;refine .inv [p0,p6,p7,p8] (λm' aC h'=>∃i,aC=[.str s,bv,.int .i64 n,.int .i64 i]/\0<=i/\i.toNat<=s.length/\m'=s.length - i.toNat/\(∀c,c∈s.take i.toNat->mh c)/\Mod h1 h' []/\Wf h') [_,_,_,_] rfl _
  ⟨0,rfl,by omega,by simp,rfl,by simp,Mod.refl _ _,aM⟩ ?_
 rintro m' _ h' ⟨i,rfl,jG,hi,dY,pX,aq,cG⟩;have hm:Mod h h' []:=ar.fr aq (by simp);cbv;refine .lt (λbA=>?_) (λjb=>?_)
 ·obtain ⟨x,hx⟩:∃x,s[i.toNat]? =some x:=⟨_,List.getElem?_eq_getElem (by omega)⟩
  have Qr:=List.mem_of_getElem? hx;cbv;refine .byte (hb.mono aq (by simp)) jG hx λq off he=>?_;cbv;refine .byte he λy CU hy=>?_;cbv;refine .ne (λe=>?_) λe1=>?_
  ·cbv;refine .add (by omega) (by omega) λj hj=>?_
   cbv;refine ⟨rfl,s.length - j.toNat,by omega,j,rfl,by omega,by omega,rfl,λc hc=>?_,aq,cG⟩;rw [show j.toNat=i.toNat+1 by omega,List.take_add_one,hx] at hc;rcases List.mem_append.1 hc with hc | hc
   ·exact pX c hc
   ·simp at hc;subst hc;unfold mh;omega
  cbv;refine .ne (λe=>?_) λe2=>?_
  ·cbv;refine .add (by omega) (by omega) λj hj=>?_
   cbv;refine ⟨rfl,s.length - j.toNat,by omega,j,rfl,by omega,by omega,rfl,λc hc=>?_,aq,cG⟩;rw [show j.toNat=i.toNat+1 by omega,List.take_add_one,hx] at hc;rcases List.mem_append.1 hc with hc | hc
   ·exact pX c hc
   ·simp at hc;subst hc;unfold mh;omega
  cbv;refine .ne (λe=>?_) λe3=>?_
  ·cbv;refine .add (by omega) (by omega) λj hj=>?_
   cbv;refine ⟨rfl,s.length - j.toNat,by omega,j,rfl,by omega,by omega,rfl,λc hc=>?_,aq,cG⟩;rw [show j.toNat=i.toNat+1 by omega,List.take_add_one,hx] at hc;rcases List.mem_append.1 hc with hc | hc
   ·exact pX c hc
   ·simp at hc;subst hc;unfold mh;omega
  cbv;refine .lt (λa1=>?_) λa1=>?_
  ·cbv;refine .PZ (by omega) ?_
   cbv;refine .PZ (by omega) ?_;cbv;refine bq h' (λhn=>?_) hm cG;have:=hn.1 x Qr;unfold mh at this;omega
  ·cbv;refine .gt (λa2=>?_) λa2=>?_
   ·cbv;refine .lt (λb1=>?_) λb1=>?_
    ·cbv;refine .lt (λc1=>?_) λc1=>?_
     ·cbv
      refine bq h' (λhn=>?_) hm cG;have:=hn.1 x Qr;unfold mh at this;omega
     ·cbv;refine .gt (λc2=>?_) λc2=>?_
      ·cbv
       refine bq h' (λhn=>?_) hm cG;have:=hn.1 x Qr;unfold mh at this;omega
      ·cbv;refine .add (by omega) (by omega) λj hj=>?_
       cbv;refine ⟨rfl,s.length - j.toNat,by omega,j,rfl,by omega,by omega,rfl,λc hc=>?_,aq,cG⟩;rw [show j.toNat=i.toNat+1 by omega,List.take_add_one,hx] at hc;rcases List.mem_append.1 hc with hc | hc
       ·exact pX c hc
       ·simp at hc;subst hc;unfold mh;omega
    ·cbv;refine .gt (λb2=>?_) λb2=>?_
     ·cbv;refine .FP (by omega) ?_
      cbv;refine .Zm (by omega) ?_;cbv;refine bq h' (λhn=>?_) hm cG;have:=hn.1 x Qr;unfold mh at this;omega
     ·cbv;refine .add (by omega) (by omega) λj hj=>?_
      cbv;refine ⟨rfl,s.length - j.toNat,by omega,j,rfl,by omega,by omega,rfl,λc hc=>?_,aq,cG⟩;rw [show j.toNat=i.toNat+1 by omega,List.take_add_one,hx] at hc;rcases List.mem_append.1 hc with hc | hc
      ·exact pX c hc
      ·simp at hc;subst hc;unfold mh;omega
   ·cbv;refine .add (by omega) (by omega) λj hj=>?_
    cbv;refine ⟨rfl,s.length - j.toNat,by omega,j,rfl,by omega,by omega,rfl,λc hc=>?_,aq,cG⟩;rw [show j.toNat=i.toNat+1 by omega,List.take_add_one,hx] at hc;rcases List.mem_append.1 hc with hc | hc
    ·exact pX c hc
    ·simp at hc;subst hc;unfold mh;omega
 ·have cf:s.take i.toNat=s:=List.take_of_length_le (by omega)
  rw [cf] at pX;cbv;refine .UB (λe=>?_) λe=>?_
  ·cbv;exact bq h' (λhn=>hn.2.1 e) hm cG
  ·cbv;refine .of λk Ir hk=>?_
   cbv;refine .le (λhle=>?_) λIq=>?_
   ·cbv;exact bw h' ⟨pX,e,by omega⟩ hm cG
   ·cbv;exact bq h' (λhn=>by have:=hn.2.2;omega) hm cG
end K
namespace K
open Go Go.Dx Go.RowKit
set_option maxRecDepth 100000
inductive Js where
 | mk (kind num:Int) (text:List Nat) (names:List (List Nat)) (items:List Js)
def strs:List (List Nat)->List V
 | []=>[]
 | s::r=>.str s::strs r
theorem ep:∀l,(strs l).length=l.length
 | []=>rfl
 | _::r=>by simp [strs,ep r]
theorem CA:∀l,bd (strs l)=true
 | []=>rfl
 | _::r=>by simp [strs,bd,bU,CA r]
theorem jZ:∀a b,strs (a++b)=strs a++strs b
 | [],_=>rfl
 | _::r,b=>by simp [strs,jZ r b]
def bt (t:List Nat):Prop:=t.length<=300000/\∀b∈t,b<256
theorem bt.nil:bt []:=⟨by simp,by simp⟩
mutual
inductive nS (h:H):Js->List V->Prop
 | mk {k i:Int} {t:List Nat} {ns:List (List Nat)} {its:List Js} {nv iv:V} {rows:List V} (ht:bt t) (CT:∀s∈ns,bt s) (Na:ns.length<=100000) (UC:its.length<=100000) (h5:k=5->ns.length=its.length) (hn:Ro h 1 nv ns.length (strs ns)) (hi:Ro h 5 iv its.length rows) (hr:oF h its rows):nS h (.mk k i t ns its) [.int .i64 k,.int .i64 i,.str t,nv,iv]
inductive oF (h:H):List Js->List V->Prop
 | nil:oF h [] []
 | cons {t:Js} {r:List Js} {a b:List V} (ha:nS h t a) (hb:oF h r b):oF h (t::r) (a++b)
end
mutual
theorem nS.mono {h h':H}{F:List Lb}(m:Mod h h' F){t:Js}{cs:List V}(j:nS h t cs):nS h' t cs:=match j with
 | .mk ht CT Na UC h5 hn hi hr=>.mk ht CT Na UC h5 (hn.mono m) (hi.mono m) (oF.mono m hr)
theorem oF.mono {h h':H}{F:List Lb}(m:Mod h h' F){t:List Js}{cs:List V}(j:oF h t cs):oF h' t cs:=match j with
 | .nil=>.nil
 | .cons ha hb=>.cons (nS.mono m ha) (oF.mono m hb)
end
theorem nS.bd {h:H}{t:Js}{cs:List V}(j:nS h t cs):Dx.bd cs=true:=by
 cases j with
 | mk ht CT Na UC h5 hn hi hr=>show (true&&(true&&(true&&(bU _&&(bU _&&true)))))=true;rw [hn.flat,hi.flat];rfl
theorem oF.snoc {h:H}{t:Js}{cs:List V}(j:nS h t cs):∀{l:List Js} {ds:List V},oF h l ds->oF h (l++[t]) (ds++cs)
 | _,_,.nil=>by have:=oF.cons j .nil;simpa using this
 | _,_,.cons ha hb=>by have:=oF.cons ha (oF.snoc j hb);simpa using this
theorem oF.get {h:H}:∀{l:List Js} {ds:List V},oF h l ds->∀{i:Nat} {t:Js},l[i]? =some t->∃cs,nS h t cs/\rowFrom ds (i*5) 5=some cs
 | _,_,.nil,i,t,e=>by simp at e
 | _,_,.cons (t:=t0) (a:=a) (b:=b) ha hb,0,t,e=>by
   simp at e;subst e;cases ha with
   | mk ht CT Na UC h5 hn hi hr=>exact ⟨_,.mk ht CT Na UC h5 hn hi hr,by simp [rowFrom,bB,takeN,ob]⟩
 | _,_,.cons (a:=a) (b:=b) ha hb,i+1,t,e=>by
   obtain ⟨cs,h1,h2⟩:=hb.get (by simpa using e);refine ⟨cs,h1,?_⟩;cases ha with
   | mk ht CT Na UC h5 hn hi hr=>
     rw [show (i+1)*5=i*5+1+1+1+1+1 by omega];simpa [rowFrom,bB] using h2
theorem nS.zero (h:H)(k i:Int){t:List Nat}(ht:bt t):nS h (.mk k i t [] []) [.int .i64 k,.int .i64 i,.str t,.nilSlice 0,.nilSlice 0]:=.mk ht (by simp) (by simp) (by simp) (λ_=>rfl) .nil .nil .nil
end K
namespace K
open Go Go.Dx Go.RowKit Go.Proofs
set_option maxRecDepth 100000
theorem _root_.Go.Dx.bM.enters {pf:Unit->Program} {G:Nat} {f:FuncId} {fn:bC} (c:bM pf G f fn) (xs:Array Value) (w:World):(callFunc f xs).run (pf ()) w = .ok (.enter f xs) w:=
 let ⟨_,h1,h2⟩:=c.out;let ⟨_,k⟩:=nt h2;ie k h1 xs w
theorem _root_.Go.Dx.CX.Hv {pf:Unit->Program} {G:Nat} {f:FuncId} {args:List V} {h:H} {Q Pn:V->H->Prop} (c:CW pf G f args h Q):CX pf G f args h Q Pn:=c.mono λ_ _ q=>q
structure lM (h:H)(p:Lb)(s:List Nat)(i:Int):Prop where
 get:h.get p=some (.cells [.str s,.int .i64 i] yf 0 .yes)
 lo:0<=i
 hi:i.toNat<=s.length
 small:s.length<=65536
 Gp:∀b∈s,b<256
def X0 (v:V):Prop:=∃a w,v = .iface bV (.agg [.int .i64 a,.int .i64 w])
theorem lM.at {h:H}{p:Lb}{s:List Nat}{i:Int}(a:lM h p s i){x c:Nat}(e:s[x]? =some c):c<256:=a.Gp c (List.mem_of_getElem? e)
theorem lM.mono {h h':H}{p:Lb}{s:List Nat}{i:Int}{F:List Lb}(a:lM h p s i)(m:Mod h h' F)(n:p∉F:=by simp):lM h' p s i:=⟨m.get a.get n,a.lo,a.hi,a.small,a.Gp⟩
theorem V2 (b:Nat)(w:World)(i y:Int)(h0:w.cell? ⟨b,1,none⟩=some (.int .i64 i)):Calls Tryz.prog fy #[.pointer (some ⟨b,0,none⟩),.int .i64 y] w λe w'=>e = .panicked [{v:=.iface bV (.agg #[.int .i64 i,.int .i64 y]),recovered:=false}]/\w'=w:=by
 go_enter Tryz.func183,Tryz.ntmps183
 go_wp2
 have e:(Instr.panic (.iface bV (.agg #[.int .i64 i,.int .i64 y]))).run Tryz.prog w = .halt (.panic (.iface bV (.agg #[.int .i64 i,.int .i64 y]))) w:=rfl;rw [e];exact ⟨rfl,rfl,rfl⟩
theorem fL {h:H}{p:Lb}{s:List Nat}{i y:Int}(hp:lM h p s i){Q Pn:V->H->Prop} (hx:∀v,X0 v->Pn v h):CX pf G0 fy [.ptr p 0,.int .i64 y] h Q Pn:=by
 refine ⟨λ{B w0 ρ w xs} R hG PH=>?_⟩;cases PH with
 | cons r t=>
   cases t with
   | cons r2 t=>
     cases t;cases r2;cases r with
     | ptr hl=>
       rename_i b hb;obtain ⟨x,uf,lH⟩:=(R.obj p b _ hb hp.get:dO ρ b _ _ _ _ w).cell 1 (.int .i64 i) rfl;cases lH;have G8:b.base=0:=(R.base p b hb).1;simp only [cZ] at uf;have key:Calls (pf ()) fy ⟨[.pointer (some ⟨b.block,b.base+0,none⟩),.int .i64 y]⟩ w λe w'=>e = .panicked [{v:=.iface bV (.agg #[.int .i64 i,.int .i64 y]),recovered:=false}]/\w'=w:=by
        rw [G8] at uf ⊢;exact V2 b.block w i y uf
       have rel:RV ρ (.iface bV (.agg [.int .i64 i,.int .i64 y])) (.iface bV (.agg #[.int .i64 i,.int .i64 y])):=.iface _ (.agg (.cons (.int _ _) (.cons (.int _ _) .nil)));have en:=Au.enters ⟨[.pointer (some ⟨b.block,b.base+0,none⟩),.int .i64 y]⟩ w;have q:=hx _ ⟨i,y,rfl⟩;refine .inr ⟨en,key.mono λe w' hh=>?_⟩;obtain ⟨he,rfl⟩:=hh;exact .inr ⟨_,he,_,h,ρ,q,Step.refl _ _,rel,R⟩
theorem vw {h:H}{p:Lb}{s:List Nat}{i:Int}(hp:lM h p s i){Q Pn:V->H->Prop} (hq:∀x c,i.toNat<s.length->s[i.toNat]? =some c->0<=x->x.toNat=c->Q (.int .u8 x) h) (hx:∀v,X0 v->Pn v h):CX pf G0 oV [.ptr p 0] h Q Pn:=by
 have IB:=hp.lo;have HP:=hp.hi;have qY:=hp.small;refine Av.oo (by kernel_rfl) ?_;cbv;refine .of follows 3 ?_;cbv;refine .of hp.get rfl ?_;cbv;refine .of hp.get rfl ?_;cbv;refine .of λn eT hn=>?_;cbv;refine .eq (λe=>?_) λe=>?_
 ·cbv;refine fL hp λv hv=>?_
  cbv;exact hx v hv
 ·obtain ⟨c,hc⟩:∃c,s[i.toNat]? =some c:=⟨_,List.getElem?_eq_getElem (by omega)⟩
  cbv;refine .of follows 3 ?_;cbv;refine .of hp.get rfl ?_;cbv;refine .of hp.get rfl ?_;cbv;refine .of IB hc λx lN uf=>?_;cbv;exact hq x c (by omega) hc lN uf
end K
namespace K
open Go Go.Dx Go.RowKit Go.Proofs
set_option maxRecDepth 100000
theorem V3:cb Tryz.prog 288 Extern.BytealgIndexByte.indexByte:=⟨⟨_,Tryz.func288,by kernel_rfl,by kernel_rfl,by kernel_rfl,by kernel_rfl⟩⟩
theorem _root_.Go.Dx.SbN.fr {h:H}{e:TypeId}{s:List Nat}{K:V->H->Prop} (hw:Wf h) (hs:s.length<=9223372036854775807) (hk:∀v h',Sl h' 1 v s.length (ae s)->Fr h v->Mod h h' []->Wf h'->K v h'):SbN h e (.str s) K:=by
 obtain ⟨a1,a2,a3,a4⟩:=H.add_mod hw (.cells (ae s) e 0 .marked);exact ⟨s,rfl,hs,hk _ _ (.row a1 (dA (by rw [bp];simp))) (λl hl=>by simp only [af,List.mem_singleton] at hl;subst hl;exact a2) a3 a4⟩
theorem _root_.Go.Dx.Fr.ne {h:H}{v:V}(f:Fr h v){p:Lb}{o:Dx.Obj}(e:h.get p=some o):∀l,l∈af v->l∉[p]:=λl hl hm=>by
 simp only [List.mem_singleton] at hm;subst hm;rw [f l hl] at e;cases e
theorem yE:∀(t:List Nat),(∀b∈t,b<256)->mQ (ae t)=some t
 | [],_=>rfl
 | b::r,h=>by
   have ih:=yE r λx hx=>h x (List.mem_cons_of_mem _ hx);have hb:Nat.blt b 256=true:=by simpa using h b (List.mem_cons_self ..)
   simp only [ae,mQ,ih,ob]
   first | rfl | (simp only [hb,bN];rfl) | simp [hb,bN]
theorem _root_.Go.Dx.BsN.of {h:H}{v:V}{n:Nat}{t:List Nat}{K:V->Prop} (s:Sl h 1 v n (ae t)) (ht:∀b∈t,b<256) (hk:K (.str t)):BsN h v K:=by
 have key:=yE t ht;generalize ae t=cs at s key;cases s with
 | nil c=>cases key;exact ⟨_,rfl,hk⟩
 | empty=>cases key;exact ⟨_,rfl,hk⟩
 | row hg hr=>
   rw [Nat.mul_one] at hr;exact ⟨_,by simp only [Q.ask,hg,hr,ob,key],hk⟩
theorem _root_.Go.Dx.BsN.one {h:H}{l:Lb}{y:Int}{e:TypeId}{fz:Nat}{own:Own}{K:V->Prop} (hl:h.get l=some (.cells [.int .u8 y] e fz own)) (h0:0<=y) (h1:y.toNat<256) (hk:∀c,c=y.toNat->K (.str [c])):BsN h (.slice l 0 1 (.exact 1)) K:=by
 obtain ⟨n,rfl⟩:=Int.eq_ofNat_of_zero_le h0;exact .of (t:=[n]) (n:=1) (.row hl rfl) (λb hb=>by simp at hb h1;omega) (hk n (by simp))
theorem Bf (c:Nat):∀(s:List Nat) (i:Nat),(fF c s i = -1/\∀b∈s,b≠c)\/(∃j:Nat,fF c s i=((i+j:Nat):Int)/\s[j]? =some c)
 | [],i=>.inl ⟨rfl,λ_ h=>by cases h⟩
 | b::r,i=>by
   simp only [fF];cases hb:Nat.beq b c with
   | true=>exact .inr ⟨0,rfl,by simp [Nat.eq_of_beq_eq_true hb]⟩
   | false=>
     rcases Bf c r (i+1) with ⟨h1,h2⟩ | ⟨j,h1,h2⟩
     ·refine .inl ⟨h1,λx hx=>?_⟩
      rcases List.mem_cons.1 hx with rfl | hx
      ·exact λe=>by subst e;rw [Nat.beq_refl] at hb;cases hb
      ·exact h2 x hx
     ·exact .inr ⟨j+1,by show fF c r (i+1)=_;rw [h1];congr 1;omega,by simpa using h2⟩
theorem cL {h:H}{s:List Nat}{c:Int}(h0:0<=c)(hc:c.toNat<256){Q:V->H->Prop} (bq:(∀b∈s,b≠c.toNat)->Q (.int .i64 (-1)) h) (bw:∀r:Int,0<=r->s[r.toNat]? =some c.toNat->Q (.int .i64 r) h):CW pf G0 o7 [.str s,.int .u8 c] h Q:=by
 refine Az.enter (by kernel_rfl) ?_;cbv;refine lu.enter (by kernel_rfl) ?_;cbv;obtain ⟨n,rfl⟩:=Int.eq_ofNat_of_zero_le h0;have hc:n<256:=by simpa using hc
 have bq:(∀b∈s,b≠n)->Q (.int .i64 (-1)) h:=bq;have bw:∀r:Int,0<=r->s[r.toNat]? =some n->Q (.int .i64 r) h:=bw;refine CW.ext (v:=.int .i64 (fF n s 0)) (h':=h) (MB V3) (by show bN (Nat.blt n 256) (some (V.int .i64 (fF n s 0),h))=_;rw [show Nat.blt n 256=true from by simpa using hc];rfl) ?_;rcases Bf n s 0 with ⟨h1,h2⟩ | ⟨j,h1,h2⟩
 ·rw [h1];cbv;exact bq h2
 ·rw [h1,Nat.zero_add]
  have q:=bw (j:Int) (by omega) h2;generalize (j:Int)=r at q ⊢;cbv;exact q
theorem yF {h:H}{p:Lb}{s of:List Nat}{i:Int}(hw:Wf h)(hp:lM h p s i){Q Pn:V->H->Prop} (hq:∀x c h',i.toNat<s.length->s[i.toNat]? =some c->0<=x->x.toNat=c->c∈of->lM h' p s (i+1)->Mod h h' [p]->Wf h'->Q (.int .u8 x) h') (hx:∀v,X0 v->Pn v h):CX pf G0 qC [.ptr p 0,.str of] h Q Pn:=by
 have IB:=hp.lo;have HP:=hp.hi;have qY:=hp.small;refine Cv.oo (by kernel_rfl) ?_;cbv;refine vw hp (λx c bA hc lN uf=>?_) λv hv=>?_
 ·cbv;refine .Hv <| cL lN (uf▸hp.at hc) (λhn=>?_) λr hr0 hr=>?_
  ·cbv;refine .PZ (by omega) ?_
   cbv;refine fL hp λv hv=>?_;cbv;exact hx v hv
  ·cbv;refine .FP (by omega) ?_
   cbv;refine .of hp.get rfl ?_;cbv;refine .add (by omega) (by omega) λj hj=>?_;cbv;refine .of hw hp.get rfl rfl rfl rfl rfl rfl λh2 hg hm aN=>?_;subst hj;cbv;exact hq x c h2 bA hc lN uf (uf▸List.mem_of_getElem? hr) ⟨hg,by omega,by omega,qY,hp.Gp⟩ hm aN
 ·cbv;exact hx v hv
theorem nO {h:H}{p:Lb}{s:List Nat}{i:Int}(hw:Wf h)(hp:lM h p s i){Q:V->H->Prop} (hq:∀j h',i<=j->lM h' p s j->Mod h h' [p]->Wf h'->Q (.tuple []) h'):CW pf G0 lW [.ptr p 0] h Q:=by
 have IB:=hp.lo;have HP:=hp.hi;have qY:=hp.small;refine wV.enter (by kernel_rfl) ?_;cbv;refine .inv [p0] (λm' aC h'=>aC=[.ptr p 0]/\∃j,i<=j/\lM h' p s j/\m'=s.length - j.toNat/\Mod h h' [p]/\Wf h') [_] rfl _ ⟨rfl,i,by omega,hp,rfl,Mod.refl _ _,hw⟩ ?_;rintro m' _ h1 ⟨rfl,j,zO,AE,dY,ar,aM⟩;have as0:=AE.lo;have aBV:=AE.hi;cbv;refine .of follows 4 ?_;cbv;refine .of AE.get rfl ?_;cbv;refine .of AE.get rfl ?_;cbv;refine .of λn eT hn=>?_;cbv;refine .lt (λe=>?_) λe=>?_
 ·obtain ⟨c,hc⟩:∃c,s[j.toNat]? =some c:=⟨_,List.getElem?_eq_getElem (by omega)⟩
  cbv;refine .of AE.get rfl ?_;cbv;refine .of AE.get rfl ?_;cbv;refine .of as0 hc λx lN uf=>?_;cbv;refine cL lN (uf▸AE.at hc) (λhn=>?_) λr hr0 hr=>?_
  ·cbv;refine .nil ?_
   cbv;refine .qp (by omega) ?_;cbv;exact hq j h1 zO AE ar aM
  ·cbv;refine .nil ?_
   cbv;refine .um (by omega) ?_;cbv;refine .of AE.get rfl ?_;cbv;refine .add (by omega) (by omega) λk hk=>?_;cbv;refine .of aM AE.get rfl rfl rfl rfl rfl rfl λh2 hg hm aN=>?_;cbv;exact ⟨rfl,s.length - k.toNat,by omega,rfl,k,by omega,⟨hg,by omega,by omega,qY,hp.Gp⟩,rfl,(ar.trans hm).mono (λl o _ hl=>by simpa using hl),aN⟩
 ·cbv;refine .nil ?_
  cbv;exact hq j h1 zO AE ar aM
theorem Qs {h:H}{p:Lb}{s of:List Nat}{i:Int}(hw:Wf h)(hp:lM h p s i)(hof:of.length<=1000)(as1:∀b∈of,b<256) {Q Pn:V->H->Prop} (hq:∀j h',i<=j->lM h' p s j->Mod h h' [p]->Wf h'->Q (.tuple []) h') (hx:∀v h',X0 v->Mod h h' [p]->Wf h'->Pn v h'):CX pf G0 oZ [.ptr p 0,.str of] h Q Pn:=by
 have IB:=hp.lo;have HP:=hp.hi;have qY:=hp.small;refine Ay.oo (by kernel_rfl) ?_;cbv;refine .fr hw (by omega) λbv h1 hb dt ar aM=>?_;cbv;refine .of hb λn eT hn=>?_;cbv;refine .inv [p0,p7,p8,p9] (λm' aC h'=>∃k j,aC=[.ptr p 0,bv,.int .i64 n,.int .i64 k]/\0<=k/\k.toNat<=of.length/\m'=of.length - k.toNat/\i<=j/\lM h' p s j/\Mod h h' [p]/\Mod h1 h' [p]/\Wf h') [_,_,_,_] rfl _ ⟨0,i,rfl,by omega,by simp,rfl,by omega,hp.mono ar,ar.mono (by simp),Mod.refl _ _,aM⟩ ?_;rintro m' _ h2 ⟨k,j,rfl,Ir,hk,dY,zO,rC,aq,kd,aN⟩;cbv;refine .lt (λe=>?_) λe=>?_
 ·obtain ⟨c,hc⟩:∃c,of[k.toNat]? =some c:=⟨_,List.getElem?_eq_getElem (by omega)⟩
  cbv;refine .byte (hb.mono kd (dt.ne hp.get)) Ir hc λq off he=>?_;cbv;refine .byte he λy CU hy=>?_;cbv;refine .flat rfl ?_;cbv;refine .of aN λl h3 hl Mg aF aR=>?_;cbv;refine .one hl CU (hy▸as1 c (List.mem_of_getElem? hc)) λc2 E5=>?_;cbv;refine yF aR (rC.mono aF) (λx1 c1 h4 _ _ _ _ _ pH aD aQ=>?_) λv hv=>?_
  ·cbv;refine .add (by omega) (by omega) λk2 Fc=>?_
   cbv;exact ⟨rfl,of.length - k2.toNat,by omega,k2,j+1,rfl,by omega,by omega,rfl,by omega,pH,((aq.trans aF).trans aD).mono (λl o _ hl=>by simpa using hl),((kd.trans aF).trans aD).mono (λl o _ hl=>by simpa using hl),aQ⟩
  ·cbv;exact hx v h3 hv ((aq.trans aF).mono (λl o _ hl=>by simpa using hl)) aR
 ·cbv;exact hq j h2 zO rC aq aN
end K
namespace K
open Go Go.Dx Go.Dx.W Go.Proofs
abbrev aBW:Lb:=[true,true,true,false,true,false,false,true]
abbrev aBX:Lb:=[false,false,false,true,true,false,false,true]
abbrev aBY:Lb:=[true,false,false,true,true,false,false,true]
abbrev aBZ:Lb:=[false,true,false,true,true,false,false,true]
abbrev aB0:Lb:=[true,true,false,true,true,false,false,true]
abbrev aB1:Lb:=[false,false,true,true,true,false,false,true]
abbrev aB2:Lb:=[true,false,true,true,true,false,false,true]
abbrev aB3:Lb:=[false,true,true,true,true,false,false,true]
abbrev aB4:Lb:=[true,true,true,true,true,false,false,true]
abbrev aB5:Lb:=[false,false,false,false,false,true,false,true]
abbrev aB6:Lb:=[true,false,false,false,false,true,false,true]
abbrev aB7:Lb:=[false,true,false,false,false,true,false,true]
abbrev aB8:Lb:=[true,true,false,false,false,true,false,true]
abbrev aB9:Lb:=[false,false,true,false,false,true,false,true]
abbrev aB':Lb:=[true,false,true,false,false,true,false,true]
abbrev aCa:Lb:=[false,true,true,false,false,true,false,true]
abbrev aCb:Lb:=[true,true,true,false,false,true,false,true]
abbrev aCc:Lb:=[false,false,false,true,false,true,false,true]
abbrev aCd:Lb:=[true,false,false,true,false,true,false,true]
abbrev aCe:Lb:=[false,true,false,true,false,true,false,true]
abbrev aCf:Lb:=[true,true,false,true,false,true,false,true]
theorem CB:bM pf G0 qE Co:=⟨_,Tryz.func310,by kernel_rfl⟩
theorem pI:bM pf G0 py pD:=⟨_,Tryz.func255,by kernel_rfl⟩
theorem oG:bM pf G0 gy oC:=⟨_,Tryz.func284,by kernel_rfl⟩
theorem sG:bM pf G0 ju sB:=⟨_,Tryz.func308,by kernel_rfl⟩
end K
