/-
  The client's laws. Part ZAS of the proof: blotter/wire: Chars; strconv.ParseInt of one hexadecimal digit; blotter/jsonx: the parser's hex, escape.
-/
import Derived.Laws.Cover4
import Derived.Test.YtdjlhmmfplhhdaaGreatDoorZAR
namespace K
open Go Go.Dx Go.RowKit Go.Proofs
set_option maxRecDepth 100000
variable{h:H}{a:Int}{ek:EK}
theorem aaR {c:Int}{Q:V->H->Prop} (a:∀n lo hi:Int,0<=n->n<=4->Q (.tuple [.int .i64 n,.int .u8 lo,.int .u8 hi]) h):CW pf G0 yI [.int .u8 c] h Q:=by
 refine H2.enter (by kernel_rfl) ?_;cbv;refine .lt (λe=>?_) λe=>?_
 ·cbv;exact a _ _ _ (by omega) (by omega)
 cbv;refine .ge (λf=>?_) λf=>?_
 ·cbv;refine .le (λl=>?_) λl=>?_
  ·cbv;exact a _ _ _ (by omega) (by omega)
  cbv;refine .eq (λg=>?_) λg=>?_
  ·cbv;exact a _ _ _ (by omega) (by omega)
  cbv;refine .eq (λi=>?_) λi=>?_
  ·cbv;exact a _ _ _ (by omega) (by omega)
  cbv;refine .ge (λk=>?_) λk=>?_
  ·cbv;refine .le (λj=>?_) λj=>?_
   ·cbv;exact a _ _ _ (by omega) (by omega)
   cbv;refine .eq (λb=>?_) λb=>?_
   ·cbv;exact a _ _ _ (by omega) (by omega)
   cbv;refine .eq (λb=>?_) λb=>?_
   ·cbv;exact a _ _ _ (by omega) (by omega)
   cbv;refine .AB (by omega) ?_;cbv;refine .le (λd=>?_) λd=>?_
   ·cbv;exact a _ _ _ (by omega) (by omega)
   ·cbv;exact a _ _ _ (by omega) (by omega)
  ·omega
 ·cbv;refine .cK (by omega) ?_
  cbv;refine .cK (by omega) ?_;cbv;refine .qQ (by omega) ?_;cbv;refine .cK (by omega) ?_;cbv;refine .cK (by omega) ?_;cbv;refine .qQ (by omega) ?_;cbv;exact a _ _ _ (by omega) (by omega)
theorem rq {v:V}{n:Nat}{t:List Nat}(hs:Sl h 1 v n (ae t))(D:n<=10000000){Q:V->H->Prop} (g:∀r:Int,Q (.int .i64 r) h):CW pf G0 vf [v] h Q:=by
 have f:=hs.len;rw [bq,Nat.mul_one] at f;refine E9.enter (by kernel_rfl) ?_;cbv;refine .inv [p0,p3] (λl o h'=>h'=h/\∃i,o=[v,.int .i64 i]/\0<=i/\i.toNat<=n/\l=n - i.toNat) [_,_] rfl _ ⟨rfl,0,rfl,by omega,by simp,rfl⟩ ?_;rintro l _ h' ⟨rfl,i,rfl,C,hi,P⟩;cbv;refine .of hs λk T I=>?_;cbv;refine .lt (λN=>?_) λS=>?_
 ·obtain ⟨c,s⟩:∃c,t[i.toNat]? =some c:=⟨_,List.getElem?_eq_getElem (by omega)⟩
  cbv;refine .byte hs C s λq off x=>?_;cbv;refine .byte x λy BV hy=>?_;cbv;refine aaR λw lo m Yx O=>?_;cbv;refine .eq (λe=>?_) λe=>?_
  ·cbv;exact g _
  cbv;refine .of hs λX FO G=>?_;cbv;refine .sub (by omega) (by omega) λd K=>?_;cbv;refine .gt (λB=>?_) λB=>?_
  ·cbv;exact g _
  cbv;refine .inv [p0,p3,p4,p5,p6,p7] (λl o p=>p=h'/\∃j lo m,o=[v,.int .i64 i,.int .i64 w,.int .u8 lo,.int .u8 m,.int .i64 j]/\1<=j/\j<=w/\l=w.toNat - j.toNat) [_,_,_,_,_,_] rfl _ ⟨rfl,1,lo,m,rfl,by omega,by omega,rfl⟩ ?_;rintro F _ p ⟨rfl,j,lo,m,rfl,YD,W,E⟩;cbv;refine .lt (λM'=>?_) λZZ=>?_
  ·cbv;refine .add (by omega) (by omega) λa M=>?_
   obtain ⟨J,HQ⟩:∃c,t[a.toNat]? =some c:=⟨_,List.getElem?_eq_getElem (by omega)⟩;cbv;refine .byte hs (by omega) HQ λL U A=>?_;cbv;refine .byte A λR z SG=>?_;cbv;refine .lt (λ_=>?_) λ_=>?_
   ·cbv;exact g _
   cbv;refine .gt (λ_=>?_) λ_=>?_
   ·cbv;exact g _
   cbv;refine .add (by omega) (by omega) λb u=>?_;cbv;exact ⟨rfl,w.toNat - b.toNat,by omega,rfl,b,_,_,rfl,by omega,by omega,rfl⟩
  ·cbv;refine .add (by omega) (by omega) λb u=>?_
   cbv;exact ⟨rfl,n - b.toNat,by omega,rfl,b,rfl,by omega,by omega,rfl⟩
 ·cbv;exact g _
def pK (c:Nat):Prop:=(48<=c/\c<=57)\/(97<=c/\c<=102)\/(65<=c/\c<=70)
theorem LR {c:Int}{Q:V->H->Prop} (a:∀x,x=AE Nat.lor .u8 c 32->Q (.int .u8 x) h):CW pf G0 jO [.int .u8 c] h Q:=by
 refine s6.enter (by kernel_rfl) ?_;cbv;refine .orB λx b=>?_;cbv;exact a x b
theorem aaS:∀c,c<256->¬(48<=c/\c<=57)->pK c->97<=AE Nat.lor .u8 (Int.ofNat c) 32/\AE Nat.lor .u8 (Int.ofNat c) 32<=102:=by
 unfold pK
 decide +kernel
theorem _root_.Go.Dx.bE.ahd {pf:Unit->Program}  {b:Int} {K:V->Prop} (d:0<=a - b) (e:a - b<=255) (c:∀x:Int,x=a - b->K (.int .u8 x)):bE pf .sub ek (.int .u8 a) (.int .u8 b) K:=
 .Ll λx f=>c x (by rw [f,Lj d e])
theorem _root_.Go.Dx.bE.aur {pf:Unit->Program}  {b:Int} {K:V->Prop} (d:0<=a+b) (e:a+b<=255) (c:∀x:Int,x=a+b->K (.int .u8 x)):bE pf .add ek (.int .u8 a) (.int .u8 b) K:=
 .Gp λx f=>c x (by rw [f,Lj d e])
theorem _root_.Go.Dx.bE.ao0 {pf:Unit->Program}  {b:Int} {K:V->Prop} (d:0<=a+b) (e:a+b<=18446744073709551615) (c:∀x:Int,x=a+b->K (.int .u64 x)):bE pf .add ek (.int .u64 a) (.int .u64 b) K:=
 .Gp λx f=>c x (by rw [f,Gn d e])
theorem _root_.Go.Dx.bE.ao1 {pf:Unit->Program}  {b:Int} {K:V->Prop} (d:0<=a*b) (e:a*b<=18446744073709551615) (c:∀x:Int,x=a*b->K (.int .u64 x)):bE pf .mul ek (.int .u64 a) (.int .u64 b) K:=
 .aaE λx f=>c x (by rw [f,Gn d e])
theorem NW {c:Nat}(t:Wf h)(e:pK c){Q:V->H->Prop} (C:∀(x:Int) h',0<=x->x<=15->Mod h h' []->Wf h'->Q (.tuple [.int .u64 x,.nilIface]) h'):CW pf G0 gO [.str [c],.int .i64 16,.int .i64 64] h Q:=by
 have LU:c<256:=by unfold pK at e;omega
 refine ph.enter (by kernel_rfl) ?_;cbv;refine .adZ (by simp) ?_;cbv;refine .cK (by omega) ?_;cbv;refine .Ue (by omega) ?_;cbv;refine .Ue (by omega) ?_;cbv;refine .cK (by omega) ?_;cbv;refine .DF (by omega) ?_;cbv;refine .Ij (by omega) ?_;cbv;refine .cK (by omega) ?_;cbv;refine .nH (by omega) ?_;cbv;refine .u64 (by omega) (by omega) ?_;cbv;refine .ag2 (by omega) (by omega) (by decide) λa p=>?_;have p:a=0:=by rw [p];rfl
 subst p;cbv;refine .Ll λb g=>?_;have g:b=18446744073709551615:=by rw [g];rfl
 subst g;cbv;refine .of t (by simp) λA E Jn F v=>?_;cbv;refine .of Jn λn S f=>?_;have f:n=1:=by simp at f;omega
 subst f;cbv;refine .inv [p0,p1,p8,YB,p11,SB,Yz,p99,at7,aua] (λl D h'=>h'=E/\∃(i x:Int),D=[.str [c],.int .i64 16,.bool false,.int .u64 1152921504606846976,.int .u64 18446744073709551615,.bool false,.int .u64 x,A,.int .i64 1,.int .i64 i]/\(i=0/\x=0/\l=1\/i=1/\0<=x/\x<=15/\l=0)) [_,_,_,_,_,_,_,_,_,_] rfl _ ⟨rfl,0,0,rfl,.inl ⟨rfl,rfl,rfl⟩⟩ ?_;rintro l _ h' ⟨rfl,i,x,rfl,j⟩;rcases j with ⟨rfl,rfl,rfl⟩ | ⟨rfl,L,K,rfl⟩
 ·cbv;refine .QP (by omega) ?_
  cbv;refine .byte Jn (by omega) rfl λq off I=>?_;cbv;refine .byte I λy BV hy=>?_;have FA:=e;unfold pK at FA;cbv;refine .cK (by omega) ?_;have P:∀z:Int,0<=z->z<=15->True:=λ_ _ _=>trivial;cbv;refine .Ue (by omega) ?_;cbv;refine .le (λu=>?_) λu=>?_
  ·cbv;refine .ahd (by omega) (by omega) λz N=>?_
   cbv;refine .u8 (by omega) (by omega) ?_;cbv;refine .qQ (by omega) ?_;cbv;refine .qQ (by omega) ?_;cbv;refine .u64 (by omega) (by omega) ?_;cbv;refine .ao1 (by omega) (by omega) λm O=>?_;cbv;refine .u64 (by omega) (by omega) ?_;cbv;refine .ao0 (by omega) (by omega) λw J=>?_;cbv;refine .DF (by omega) ?_;cbv;refine .Ij (by omega) ?_;cbv;refine .add (by omega) (by omega) λo Ip=>?_;cbv;exact ⟨rfl,0,by omega,rfl,o,w,rfl,.inr ⟨by omega,by omega,by omega,rfl⟩⟩
  ·have q:=aaS c LU (by omega) e
   have M:y=Int.ofNat c:=by simp;omega
   rw [<-M] at q;cbv;refine LR λB d=>?_;rw [<-d] at q;cbv;refine .Ue (by omega) ?_;cbv;refine LR λs k=>?_;have k:s=B:=k.trans d.symm;subst k;cbv;refine .Ue (by omega) ?_;cbv;refine LR λG U=>?_;have U:G=s:=U.trans d.symm;subst U;clear d;cbv;refine .ahd (by omega) (by omega) λR Is=>?_;cbv;refine .aur (by omega) (by omega) λz N=>?_;cbv;refine .u8 (by omega) (by omega) ?_;cbv;refine .qQ (by omega) ?_;cbv;refine .qQ (by omega) ?_;cbv;refine .u64 (by omega) (by omega) ?_;cbv;refine .ao1 (by omega) (by omega) λm O=>?_;cbv;refine .u64 (by omega) (by omega) ?_;cbv;refine .ao0 (by omega) (by omega) λw J=>?_;cbv;refine .DF (by omega) ?_;cbv;refine .Ij (by omega) ?_;cbv;refine .add (by omega) (by omega) λo Ip=>?_;cbv;exact ⟨rfl,0,by omega,rfl,o,w,rfl,.inr ⟨by omega,by omega,by omega,rfl⟩⟩
 ·cbv;refine .DF (by omega) ?_
  cbv;exact C x h' L K F v
theorem vH {c:Nat}(l:Wf h)(e:pK c){Q:V->H->Prop} (i:∀(x:Int) h',Mod h h' []->Wf h'->Q (.tuple [.int .i64 x,.nilIface]) h'):CW pf G0 q9 [.str [c],.int .i64 16,.int .i64 64] h Q:=by
 have FA:=e;unfold pK at FA;refine CR.enter (by kernel_rfl) ?_;cbv;refine qg.enter (by kernel_rfl) ?_;cbv;refine .adZ (by simp) ?_;cbv;refine .of (c:=c) (by omega) rfl λy BV hy=>?_;cbv;refine .cK (by omega) ?_;cbv;refine .cK (by omega) ?_;cbv;refine NW l e λx j m n k g=>?_;cbv;refine .is (λ_=>rfl) ?_;cbv;refine .cK (by omega) ?_;cbv;refine .sub (by omega) (by omega) λa f=>?_;have f:a=63:=by omega
 subst f;cbv;refine .u64 (by omega) (by omega) ?_;cbv;refine .ag2 (by omega) (by omega) (by decide) λb d=>?_;have d:b=9223372036854775808:=by rw [d];rfl
 subst d;cbv;refine .qQ (by omega) ?_;cbv;refine .i64 (by omega) (by omega) ?_;cbv;refine .is (λ_=>rfl) ?_;cbv;exact i x j k g
theorem Za:∀b∈[48,49,50,51,52,53,54,55,56,57,97,98,99,100,101,102,65,66,67,68,69,70],pK b:=by
 intro b a;simp at a;unfold pK;omega
theorem aeg {p:Lb}{s of:List Nat}{i:Int}(S:Wf h)(J:mj h p s i)(K:∀b∈of,pK b) {Q Pn:V->H->Prop} (T:∀n j h',i<=j->mj h' p s j->Mod h h' [p]->Wf h'->Q (.int .i64 n) h') (L:∀v h',Y' v->Mod h h' [p]->Wf h'->Pn v h'):CX pf G0 q8 [.ptr p 0,.str of] h Q Pn:=by
 have HB:=J.lo;have Ir:=J.hi;have Z:=J.small;refine CQ.oZ (by kernel_rfl) ?_;cbv;refine .inv [p0,p1,p5,YB] (λO U h'=>∃(k n j:Int),U=[.ptr p 0,.str of,.int .i64 n,.int .i64 k]/\0<=k/\k<=4/\O=4 - k.toNat/\i<=j/\mj h' p s j/\Mod h h' [p]/\Wf h') [_,_,_,_] rfl _ ⟨0,0,i,rfl,by omega,by omega,rfl,by omega,J,Mod.refl _ _,S⟩ ?_;rintro O _ I ⟨k,n,j,rfl,zQ,hk,eF,Y,Bl,u,t⟩;cbv;refine .lt (λe=>?_) λe=>?_
 ·cbv;refine .eq (λX=>?_) λX=>?_
  ·cbv;refine .eq (λW=>?_) λW=>?_
   ·cbv;refine zu t Bl (λx c R _ _ G A w B z D=>?_) λv y=>?_
    ·have g:=K c w
     have LU:c<256:=by unfold pK at g;omega
     cbv;refine .flat rfl ?_;cbv;refine .of D λl h3 d J9 m E=>?_;cbv;refine .one d G (by omega) λC HQ=>?_;have HQ:C=c:=by omega
     subst HQ;cbv;refine .H3 <| vH E g λr h4 f F=>?_;cbv;refine .aaE λa P=>?_;cbv;refine .Gp λb M=>?_;cbv;refine .add (by omega) (by omega) λq N=>?_;cbv;exact ⟨rfl,4 - q.toNat,by omega,q,b,j+1,rfl,by omega,by omega,rfl,by omega,(B.mono m).mono f,(((u.trans z).trans m).trans f).mono (λl o _ d=>by simpa using d),F⟩
    ·cbv;exact L v I y u t
   ·cbv;refine zu t Bl (λx c R _ _ G A w B z D=>?_) λv y=>?_
    ·have g:=Za c w
     have LU:c<256:=by unfold pK at g;omega
     cbv;refine .flat rfl ?_;cbv;refine .of D λl h3 d J9 m E=>?_;cbv;refine .one d G (by omega) λC HQ=>?_;have HQ:C=c:=by omega
     subst HQ;cbv;refine .H3 <| vH E g λr h4 f F=>?_;cbv;refine .aaE λa P=>?_;cbv;refine .Gp λb M=>?_;cbv;refine .add (by omega) (by omega) λq N=>?_;cbv;exact ⟨rfl,4 - q.toNat,by omega,q,b,j+1,rfl,by omega,by omega,rfl,by omega,(B.mono m).mono f,(((u.trans z).trans m).trans f).mono (λl o _ d=>by simpa using d),F⟩
    ·cbv;exact L v I y u t
  ·cbv;refine zu t Bl (λx c R _ _ G A w B z D=>?_) λv y=>?_
   ·have g:=Za c w
    have LU:c<256:=by unfold pK at g;omega
    cbv;refine .flat rfl ?_;cbv;refine .of D λl h3 d J9 m E=>?_;cbv;refine .one d G (by omega) λC HQ=>?_;have HQ:C=c:=by omega
    subst HQ;cbv;refine .H3 <| vH E g λr h4 f F=>?_;cbv;refine .aaE λa P=>?_;cbv;refine .Gp λb M=>?_;cbv;refine .add (by omega) (by omega) λq N=>?_;cbv;exact ⟨rfl,4 - q.toNat,by omega,q,b,j+1,rfl,by omega,by omega,rfl,by omega,(B.mono m).mono f,(((u.trans z).trans m).trans f).mono (λl o _ d=>by simpa using d),F⟩
   ·cbv;exact L v I y u t
 ·cbv;exact T n j I Y Bl u t
end K
namespace K
open Go Go.Dx Go.RowKit Go.Proofs
set_option maxRecDepth 100000
theorem _root_.Go.Dx.PdN.rune {pf:Unit->Program} {x:X} {a:T V} {k:IntKind} {n:Int} {K:V->Prop} (e:x.VI a=some (.int k n)) (c:∀t:List Nat,t.length<=4->(∀b∈t,b<256)->K (.str t)):PdN pf (.DM x) a K:=by
 refine ⟨λtm s=>⟨.str ((Utf8.encode n).data.toList.map (·.toNat)),by simp only [PD.eval,qz s e],c _ ?_ ?_⟩⟩
 ·rw [List.length_map];exact encode_size_le n
 ·intro b d
  obtain ⟨u,_,rfl⟩:=List.mem_map.1 d;exact u.toNat_lt
theorem aeh {h:H}{p:Lb}{s:List Nat}{i:Int}(Y:Wf h)(L:mj h p s i){Q Pn:V->H->Prop} (G:∀v t j h',i<j->mj h' p s j->Sl h' 1 v t.length (ae t)->(∀b∈t,b<256)->t.length<=4->Mod h h' [p]->Wf h'->Q v h') (C:∀v h',Y' v->Mod h h' [p]->Wf h'->Pn v h'):CX pf G0 mQ [.ptr p 0] h Q Pn:=by
 have HB:=L.lo;have Ir:=L.hi;have rN:=L.small;refine xr.oZ (by kernel_rfl) ?_;cbv;refine zu Y L (λx c h1 bA hc Z N _ Bl q O=>?_) λv m=>?_
 ·have LU:=L.at hc
  cbv;refine .H3 <| cP Z (by omega) (λhn=>?_) λr S hr=>?_
  ·cbv;refine .qQ (by omega) ?_
   cbv;refine .ne (λe=>?_) λe=>?_
   ·cbv;refine aeg O Bl (λb f=>?_) (λn j I zT P g w=>?_) λv I m g w=>?_
    ·simp at f;unfold pK;omega
    ·cbv;refine .ge (λe1=>?_) λe1=>?_
     ·cbv;refine .lt (λe2=>?_) λe2=>?_
      ·cbv;refine Rn w P (by simp) (λb f=>by simp at f;omega) (λj3 h3 aus Ao A J=>?_) λv h3 m A J=>?_
       ·cbv;refine vG Ao (λx4 c4 _ hc4 aDF aDG=>?_) λv m=>?_
        ·cbv;refine .ne (λq1=>?_) λq1=>?_
         ·cbv;refine .sub (by omega) (by omega) λd1 Ee=>?_
          cbv;refine .ag2 (by omega) (by omega) (by decide) λd2 ya=>?_;cbv;refine .Gp λd3 R=>?_;cbv;refine aeg J Ao (λb f=>?_) (λn4 X h4 G1 U B D=>?_) λv h4 m B D=>?_
          ·simp at f;unfold pK;omega
          ·cbv;refine .Gp λd5 T=>?_
           cbv;refine .Ll λd6 M=>?_;cbv;refine .any λz u=>?_;cbv;refine .rune rfl λt F f=>?_;cbv;refine .of D (by omega) λv u E d k=>?_;cbv;exact G v t X u (by omega) (U.mono d) E f F (((((q.trans g).trans A).trans B).trans d).mono (λl o _ a=>by simpa using a)) k
          ·cbv;exact C v h4 m ((((q.trans g).trans A).trans B).mono (λl o _ a=>by simpa using a)) D
         ·cbv;refine .ne (λq2=>?_) λq2=>?_
          ·cbv;refine .sub (by omega) (by omega) λd1 Ee=>?_
           cbv;refine .ag2 (by omega) (by omega) (by decide) λd2 ya=>?_;cbv;refine .Gp λd3 R=>?_;cbv;refine aeg J Ao (λb f=>?_) (λn4 X h4 G1 U B D=>?_) λv h4 m B D=>?_
           ·simp at f;unfold pK;omega
           ·cbv;refine .Gp λd5 T=>?_
            cbv;refine .Ll λd6 M=>?_;cbv;refine .any λz u=>?_;cbv;refine .rune rfl λt F f=>?_;cbv;refine .of D (by omega) λv u E d k=>?_;cbv;exact G v t X u (by omega) (U.mono d) E f F (((((q.trans g).trans A).trans B).trans d).mono (λl o _ a=>by simpa using a)) k
           ·cbv;exact C v h4 m ((((q.trans g).trans A).trans B).mono (λl o _ a=>by simpa using a)) D
          ·cbv;refine fW Ao λv m=>?_
           cbv;exact C v h3 m (((q.trans g).trans A).mono (λl o _ a=>by simpa using a)) J
        ·cbv;exact C v h3 m (((q.trans g).trans A).mono (λl o _ a=>by simpa using a)) J
       ·cbv;exact C v h3 m (((q.trans g).trans A).mono (λl o _ a=>by simpa using a)) J
      ·cbv;refine .any λz u=>?_
       cbv;refine .rune rfl λt F f=>?_;cbv;refine .of w (by omega) λv u E d k=>?_;cbv;exact G v t j u (by omega) (P.mono d) E f F (((q.trans g).trans d).mono (λl o _ a=>by simpa using a)) k
     ·cbv;refine .any λz u=>?_
      cbv;refine .rune rfl λt F f=>?_;cbv;refine .of w (by omega) λv u E d k=>?_;cbv;exact G v t j u (by omega) (P.mono d) E f F (((q.trans g).trans d).mono (λl o _ a=>by simpa using a)) k
    ·cbv;exact C v I m ((q.trans g).mono (λl o _ a=>by simpa using a)) w
   ·cbv;refine .flat rfl ?_
    cbv;refine .of O λl I a JE g w=>?_;obtain ⟨xn,rfl⟩:=Int.eq_ofNat_of_zero_le Z;cbv;exact G _ [xn] (i+1) I (by omega) (Bl.mono g) (.row a rfl) (λb f=>by simp at f N;omega) (by simp) ((q.trans g).mono (λl o _ a=>by simpa using a)) w
  ·cbv;refine .AB (by omega) ?_
   have NY:r.toNat<5:=by have:=(List.getElem?_eq_some_iff.1 hr).1;simpa using this
   obtain ⟨c5,K⟩:∃c,[8,12,10,13,9][r.toNat]? =some c:=⟨_,List.getElem?_eq_getElem (by simpa using NY)⟩;have aDJ:c5<256:=by have:=List.mem_of_getElem? K;simp at this;omega
   cbv;refine .of S K λy BV W=>?_;cbv;refine .flat rfl ?_;cbv;refine .of O λl I a JE g w=>?_;obtain ⟨yn,rfl⟩:=Int.eq_ofNat_of_zero_le BV;cbv;exact G _ [yn] (i+1) I (by omega) (Bl.mono g) (.row a rfl) (λb f=>by simp at f W;omega) (by simp) ((q.trans g).mono (λl o _ a=>by simpa using a)) w
 ·cbv;exact C v h m (Mod.refl _ _) Y
end K
namespace K
open Go Go.Dx Go.RowKit Go.Proofs
set_option maxRecDepth 100000
variable{s:List Nat}{j:Nat}
theorem _root_.Go.Dx.adQ.mid {k f:IntKind}{i j:Int}{K:V->Prop} (hi:0<=i) (d:i<=j) (c:j.toNat<=s.length) (e:∀t,t=(s.take j.toNat).drop i.toNat->K (.str t)):adQ s (some (.int k i)) (some (.int f j)) K:=by
 obtain ⟨a,rfl⟩:=Int.eq_ofNat_of_zero_le hi;obtain ⟨b,rfl⟩:=Int.eq_ofNat_of_zero_le (show 0<=j by omega);have c:b<=s.length:=by simpa using c
 have d:a<=b:=by omega
 exact ⟨.str ((s.take b).drop a),by simp only [mY,bB,dR c,dR d,ob],e _ (by simp)⟩
theorem NZ {a:Type}{s:List a}{i:Nat}(b:j<=s.length):((s.take j).drop i).length=j - i:=by
 rw [List.length_drop,List.length_take];omega
theorem N0 {i b:Nat}(h:b∈(s.take j).drop i):b∈s:=List.mem_of_mem_take (List.mem_of_mem_drop h)
theorem ak1 {h:H}{p:Lb}{i:Int}(hw:Wf h)(f:mj h p s i)(bA:i.toNat<s.length){Q Pn:V->H->Prop} (hq:∀v t j h',i<j->mj h' p s j->Sl h' 1 v t.length (ae t)->(∀b∈t,b<256)->t.length+i.toNat<=j.toNat->Mod h h' [p]->Wf h'->Q v h') (hx:∀v h',Y' v->Mod h h' [p]->Wf h'->Pn v h'):CX pf G0 pJ [.ptr p 0] h Q Pn:=by
 have HB:=f.lo;have Ir:=f.hi;have Y:=f.small;refine Bk.oZ (by kernel_rfl) ?_;cbv;refine .of f.get rfl ?_;cbv;refine .inv [p0,p3] (λF N h'=>N=[.ptr p 0,.int .i64 i]/\∃j:Int,i<=j/\j.toNat<s.length/\F=s.length - j.toNat/\mj h' p s j/\Mod h h' [p]/\Wf h') [_,_] rfl _ ⟨rfl,i,by omega,bA,rfl,f,Mod.refl _ _,hw⟩ ?_;rintro F _ h1 ⟨rfl,j,zT,hjl,eF,Bl,ar,aK⟩;cbv;refine .of Bl.get rfl ?_;cbv;refine .add (by omega) (by omega) λk hk=>?_;cbv;refine .of aK Bl.get rfl rfl rfl rfl rfl rfl λh2 Iy av aO=>?_;have P:mj h2 p s k:=⟨Iy,by omega,by omega,Y,f.GZ⟩;have aQ:Mod h h2 [p]:=(ar.trans av).mono λl o _ a=>by simpa using a
 obtain ⟨t,C⟩:∃t,t=(s.take k.toNat).drop i.toNat:=⟨_,rfl⟩;have Ct:t.length=k.toNat - i.toNat:=by rw [C];exact NZ (by omega)
 have hki:i.toNat<k.toNat:=by omega
 have J:∀b∈t,b<256:=λb hb=>f.GZ b (N0 (C▸hb));obtain ⟨L,w⟩:∃L,L=ae t:=⟨_,rfl⟩;cbv;refine .ofB follows 4 L ?_;cbv;refine .of aO λl h3 gQ J9 aI U=>?_;have Ao:=P.mono aI;cbv;refine .of Ao.get rfl ?_;cbv;refine .of Ao.get rfl ?_;cbv;refine .mid (by omega) (by omega) (by omega) λt2 n=>?_;have e2:t2=t:=n.trans C.symm;subst e2;clear n C;cbv;refine .of gQ w (by omega) λz Jn=>?_;have hs3:Sl h3 1 z t2.length (ae t2):=by subst Jn w;exact .row gQ (dG (by rw [bq];simp))
 have Oq:ag z=[l]:=by subst Jn;rfl
 clear Jn;cbv;refine .H3 <| rq hs3 (by omega) λr=>?_;have hpl:h2.get p=some (.cells [.str s,.int .i64 k] yK 0 .yes):=P.get;have aN:Mod h h3 [p]:=(aQ.trans aI).mono λl o _ a=>by simpa using a
 cbv;refine .lt (λhr=>?_) λhr=>?_
 ·have q1:t2.length+i.toNat<=k.toNat:=by omega
  cbv;exact hq z t2 k h3 (by omega) Ao hs3 J q1 aN U
 cbv;refine .of U λS h4 xD YC M aW=>?_;have B:Sl h4 1 (.slice S 0 6 (.exact 6)) 6 [.str [128],.str [128,128],.str [128,128,128],.str [191],.str [191,191],.str [191,191,191]]:=.row xD rfl;cbv;refine .of B λn6 ao4 SC=>?_;have SC:n6=6:=by omega
 subst SC;cbv;refine .inv [p0,p3,p4,p5,p34,p35,p36] (λF N h'=>∃(E:Bool) (x:Int),N=[.ptr p 0,.int .i64 i,z,.bool E,.slice S 0 6 (.exact 6),.int .i64 6,.int .i64 x]/\0<=x/\x<=6/\F=6 - x.toNat/\Mod h4 h' []/\Wf h') [_,_,_,_,_,_,_] rfl _ ⟨false,0,rfl,by omega,by omega,rfl,Mod.refl _ _,aW⟩ ?_;rintro m2 _ D ⟨E,x,rfl,kG,hx6,acN,m,A⟩;have Fb:mj D p s k:=(Ao.mono M).mono m;have I:Sl D 1 z t2.length (ae t2):=(hs3.mono M (by simp)).mono m (by simp);cbv;refine .lt (λhxl=>?_) λhxg=>?_
 ·obtain ⟨u,hu,hul⟩:∃u:List Nat,rowFrom [V.str [128],.str [128,128],.str [128,128,128],.str [191],.str [191,191],.str [191,191,191]] (x.toNat*1) 1=some [.str u]/\u.length<=3:=by
   have:x.toNat=0\/x.toNat=1\/x.toNat=2\/x.toNat=3\/x.toNat=4\/x.toNat=5:=by omega
   rcases this with e | e | e | e | e | e<;>rw [e]<;>exact ⟨_,rfl,by simp⟩
  cbv;refine .of (B.mono m (by simp)) kG rfl (by omega) (els:=[.str u]) hu λq off he=>?_;cbv;refine .fR he 0 rfl ?_;cases E with
  | true=>
    cbv;refine .add (by omega) (by omega) λd ke=>?_;cbv;exact ⟨rfl,6 - d.toNat,by omega,true,d,rfl,by omega,by omega,rfl,m,A⟩
  | false=>
    cbv;refine .H3 <| eP nk A I (aD t2) (by omega) (by decide) λv6 Z oC W=>?_;have aDK:=W.mod;cbv;refine .text W oC (by omega) λv7 h7 O8 ZX db=>?_;rw [<-aM] at O8;have T:=ZX.wf;have R:Mod h4 h7 []:=(m.trans ZX.mod).mono λl o _ a=>by simp at a
    cbv;refine .H3 <| rq O8.sl (by omega) λr7=>?_;cbv;refine .lt (λ_=>?_) λ_=>?_
    ·cbv;refine .add (by omega) (by omega) λd ke=>?_
     cbv;exact ⟨rfl,6 - d.toNat,by omega,true,d,rfl,by omega,by omega,rfl,R,T⟩
    ·cbv;refine .add (by omega) (by omega) λd ke=>?_
     cbv;exact ⟨rfl,6 - d.toNat,by omega,false,d,rfl,by omega,by omega,rfl,R,T⟩
 ·have K:Mod h D [p]:=((aN.trans M).trans m).mono λl o _ a=>by simpa using a
  cases E with
  | true=>
    cbv;refine vG Fb (λy c2 M' HQ BV hyc=>?_) λv G=>?_
    ·cbv;exact ⟨rfl,s.length - k.toNat,by omega,rfl,k,by omega,M',rfl,Fb,K,A⟩
    ·cbv;exact hx v D G K A
  | false=>
    cbv;refine .of Fb.get rfl ?_;cbv;refine .sub (by omega) (by omega) λk2 uF=>?_;cbv;refine .of A Fb.get rfl rfl rfl rfl rfl rfl λZ H4 bR cz=>?_;cbv;refine fW (i:=k2) ⟨H4,by omega,by omega,Y,f.GZ⟩ λv G=>?_;cbv;exact hx v Z G ((K.trans bR).mono λl o _ a=>by simpa using a) cz
end K
namespace K
open Go Go.Dx Go.RowKit Go.Proofs
set_option maxRecDepth 100000
variable{h:H}{Pn:V->H->Prop}{s:List Nat}
theorem _root_.Go.Dx.Grow.frp {h0:H}{s v:V}{p:Lb}{o:Dx.Obj}(g:Grow h s v)(m:Mod h0 h [p])(c:h.get p=some o)(f:Fr h0 s):Fr h0 v:=λl b=>by
 rcases g l b with a | a
 ·cases e:h0.get l with
  | none=>rfl
  | some o'=>
    by_cases hm:l∈[p]
    ·simp only [List.mem_singleton] at hm;subst hm;rw [c] at a;cases a
    ·rw [m.get e hm] at a;cases a
 ·exact f l a
theorem aej {p:Lb}{i:Int}(P:Wf h)(hp:mj h p s i){Q:V->H->Prop} (X:∀t j h',i<j->j.toNat<s.length->mj h' p s j->(∀b∈t,b<256)->t.length<=4*s.length->Mod h h' [p]->Wf h'->Q (.str t) h') (C:∀v h',Y' v->Mod h h' [p]->Wf h'->Pn v h'):CX pf G0 pG [.ptr p 0] h Q Pn:=by
 have HB:=hp.lo;have Ir:=hp.hi;have T:=hp.small;refine Bh.oZ (by kernel_rfl) ?_;cbv;refine zu P hp (λx c h1 bA hc kG U _ Bl Z W=>?_) λv d=>?_
 ·cbv
  refine .inv [p0,p3] (λR Y h'=>∃(G:V) (acc:List Nat) (j:Int),Y=[.ptr p 0,G]/\aG h' 5 1 G acc.length (ae acc)/\Fr h G/\(∀b∈acc,b<256)/\acc.length<=4*j.toNat/\i<j/\R=s.length - j.toNat/\mj h' p s j/\Mod h h' [p]/\Wf h') [_,_] rfl _ ⟨.nilSlice 0,[],i+1,rfl,.nil,(λl a=>by simp [ag] at a),by simp,by simp,by omega,rfl,Bl,Z,W⟩ ?_;rintro R _ I ⟨G,acc,j,rfl,L,m,SF,wc,zT,eF,q,av,B⟩;have at0:=q.hi;cbv;refine vG q (λy c2 M' HQ BV hyc=>?_) λv d=>?_
  ·cbv;refine .eq (λe=>?_) λe=>?_
   ·cbv;refine .of L.sl SF ?_
    cbv;exact X acc j I zT M' q SF (by omega) av B
   cbv;refine .lt (λe2=>?_) λe2=>?_
   ·cbv;refine fW q λv d=>?_
    cbv;exact C v I d av B
   cbv;refine .eq (λe3=>?_) λe3=>?_
   ·cbv;refine .of q.get rfl ?_
    cbv;refine .add (by omega) (by omega) λk hk=>?_;cbv;refine .of B q.get rfl rfl rfl rfl rfl rfl λh3 O9 aI aS=>?_;have Ao:mj h3 p s k:=⟨O9,by omega,by omega,T,hp.GZ⟩;have aN:Mod h h3 [p]:=(av.trans aI).mono λl o _ a=>by simpa using a
    cbv;refine aeh aS Ao (λev t j4 h4 G1 u Xu n Ct f r=>?_) λv h4 d f r=>?_
    ·have E:Mod h h4 [p]:=(aN.trans f).mono λl o _ a=>by simpa using a
     have uo:Mod I h4 [p]:=(aI.trans f).mono λl o _ a=>by simpa using a
     have N:=L.mono uo (m.ne hp.get);cbv;refine .own r N Xu.elems Xu.len (aD t) (by have:=u.hi;unfold bg;omega) (by decide) λw K F Ap D M=>?_;rw [<-List.length_append,<-aM] at F;have Fb:mj K p s j4:=u.mono D (λa=>(m.ne hp.get) p a (by simp));cbv;exact ⟨rfl,s.length - j4.toNat,by omega,w,acc++t,j4,rfl,F,Ap.frp E u.get m,(λb J=>(List.mem_append.1 J).elim (SF b) (n b)),by rw [List.length_append];omega,by omega,rfl,Fb,E.fr D (λl a=>.inl (m l a)),M⟩
    ·cbv;exact C v h4 d ((aN.trans f).mono λl o _ a=>by simpa using a) r
   ·cbv;refine ak1 B q M' (λev t j4 h4 G1 u Xu n Ct f r=>?_) λv h4 d f r=>?_
    ·have E:Mod h h4 [p]:=(av.trans f).mono λl o _ a=>by simpa using a
     have N:=L.mono f (m.ne hp.get);have:=u.hi;cbv;refine .own r N Xu.elems Xu.len (aD t) (by unfold bg;omega) (by decide) λw K F Ap D M=>?_;rw [<-List.length_append,<-aM] at F;have Fb:mj K p s j4:=u.mono D (λa=>(m.ne hp.get) p a (by simp));cbv;exact ⟨rfl,s.length - j4.toNat,by omega,w,acc++t,j4,rfl,F,Ap.frp E u.get m,(λb J=>(List.mem_append.1 J).elim (SF b) (n b)),by rw [List.length_append];omega,by omega,rfl,Fb,E.fr D (λl a=>.inl (m l a)),M⟩
    ·cbv;exact C v h4 d ((av.trans f).mono λl o _ a=>by simpa using a) r
  ·cbv;exact C v I d av B
 ·cbv;exact C v h d (Mod.refl _ _) P
theorem _root_.Go.Dx.bE.auv {pf:Unit->Program} {d:EK} {a b:Int} {K:V->Prop} (f:0<b) (c:∀x:Int,x=bU .i64 (a.tdiv b)->K (.int .i64 x)):bE pf .quo d (.int .i64 a) (.int .i64 b) K:=by
 have e:pw b 0=false:=by rw [cE];simp;omega
 exact ⟨_,by simp only [Dx.binOp,aR,bO,ct,e,Bool.not_false],c _ rfl⟩
theorem aek {p:Lb}{i:Int}(hw:Wf h)(E:mj h p s i){Q:V->H->Prop} (x:∀n j h',i<j->mj h' p s j->Mod h h' [p]->Wf h'->Q (.agg [.int .i64 2,.int .i64 n,.str [],.nilSlice 0,.nilSlice 0]) h') (D:∀v h',Y' v->Mod h h' [p]->Wf h'->Pn v h'):CX pf G0 mO [.ptr p 0] h Q Pn:=by
 have HB:=E.lo;have Ir:=E.hi;have L:=E.small;refine xp.oZ (by kernel_rfl) ?_;cbv;refine .of hw λR h1 T w ar aK=>?_;have Bl:=E.mono ar;have IU:R≠p:=λe=>by subst e;rw [E.get] at w;cases w
 cbv;refine vG Bl (λy c2 M' HQ BV hyc=>?_) λv t=>?_
 ·cbv;refine .is (v:=.bool (y==45)) (λ_=>by simp [Dx.binOp,aR,bO,ct,cE]) ?_
  generalize (y==45)=neg;have Xv:Mod h h1 [p]:=ar.mono λl o _ b=>by simp at b
  cases neg with
  | true=>
    cbv;refine .of Bl.get rfl ?_;cbv;refine .add (by omega) (by omega) λk hk=>?_;cbv;refine .of aK Bl.get rfl rfl rfl rfl rfl rfl λh2 Iy av aO=>?_;have tj:mj h2 p s k:=⟨Iy,by omega,by omega,L,E.GZ⟩;have aQ:Mod h h2 [p]:=(Xv.trans av).mono λl o _ b=>by simpa using b
    have rL:=av.get T (by simpa using IU);cbv;refine zu aO tj (λG c1 h3 acO hc3 aem ao5 Ee Ao aI aS=>?_) λv t=>?_
    ·have uI:=aI.get rL (by simpa using IU)
     have aN:Mod h h3 [p]:=(aQ.trans aI).mono λl o _ b=>by simpa using b
     have auw:48<=G/\G<=57:=by simp at Ee;omega
     cbv;refine .inv [p0,p2,p3,p4,p5,p6] (λZ aB h'=>∃(n y j:Int),aB=[.ptr p 0,.ptr R 0,.bool true,.int .i64 n,.int .u8 G,.int .u8 y]/\48<=y/\y<=57/\i<j/\Z=s.length - j.toNat/\mj h' p s j/\h'.get R=some (.cells [.int .i64 0,.int .i64 0,.str [],.nilSlice 0,.nilSlice 0] bL 0 .yes)/\Mod h h' [p]/\Wf h') [_,_,_,_,_,_] rfl _ ⟨0,G,k+1,rfl,by omega,by omega,by omega,rfl,Ao,uI,aN,aS⟩ ?_;rintro Z _ h4 ⟨n,y,j,rfl,ON,SG,zT,eF,F,xu,aL,aW⟩;have aen:=F.lo;have auy:=F.hi;cbv;refine .ahd (by omega) (by omega) λd hd=>?_;cbv;refine .i64 (by omega) (by omega) ?_;cbv;refine .of F.get rfl ?_;cbv;refine .sub (by omega) (by omega) λj1 hj1=>?_;cbv;refine .of aW F.get rfl rfl rfl rfl rfl rfl λK Ap bf X=>?_;have Fb:mj K p s j1:=⟨Ap,by omega,by omega,L,E.GZ⟩;have aT:Mod h K [p]:=(aL.trans bf).mono λl o _ b=>by simpa using b
     have NY:=bf.get xu (by simpa using IU);cbv;refine .add (by omega) (by omega) λa1 ha1=>?_;cbv;refine .auv (by omega) λa2 ha2=>?_;cbv;refine .lt (λg1=>?_) λg1=>?_
     ·cbv;refine fW Fb λv t=>?_
      cbv;exact D v K t aT X
     cbv;refine .aaE λb1 cw=>?_;cbv;refine .Ll λb2 dh=>?_;cbv;refine .of Fb.get rfl ?_;cbv;refine .add (by omega) (by omega) λm JG=>?_;cbv;refine .of X Fb.get rfl rfl rfl rfl rfl rfl λC H4 U r=>?_;have a:mj C p s m:=⟨H4,by omega,by omega,L,E.GZ⟩;have q:Mod h C [p]:=(aT.trans U).mono λl o _ b=>by simpa using b
     have u:=U.get NY (by simpa using IU);cbv;refine .of follows 3 ?_;cbv;refine .of a.get rfl ?_;cbv;refine .of a.get rfl ?_;cbv;refine .of λn6 ao4 SC=>?_;cbv;refine .eq (λe6=>?_) λe6=>?_
     ·cbv;refine .of follows 4 ?_
      cbv;refine .of a.get rfl ?_;cbv;refine .of a.get rfl ?_;cbv;refine .of λN Xw B=>?_;cbv;refine .lt (λA=>?_) λA=>?_
      ·obtain ⟨M,LV⟩:∃c,s[m.toNat]? =some c:=⟨_,List.getElem?_eq_getElem (by omega)⟩
       have Xx:=a.at LV;cbv;refine .of a.get rfl ?_;cbv;refine .of a.get rfl ?_;cbv;refine .of (by omega) LV λP CZ z=>?_;cbv;refine .H3 <| cP CZ (by omega) (λ_=>?_) λI Xy _=>?_
       ·cbv;refine .nil ?_
        cbv;refine .qQ (by omega) ?_;cbv;refine .flat rfl ?_;cbv;refine .flat rfl ?_;cbv;refine .of r u rfl rfl rfl rfl rfl rfl λg C9 f Da=>?_;cbv;refine .of C9 rfl ?_;cbv;exact x _ m g (by omega) (a.mono f (by simpa using Ne.symm IU)) (q.fr f (λl b=>by simp at b;subst b;exact .inl w)) Da
       ·cbv;refine .nil ?_
        cbv;refine .AB (by omega) ?_;cbv;refine fW a λv t=>?_;cbv;exact D v C t q r
      ·cbv;refine .nil ?_
       cbv;refine .flat rfl ?_;cbv;refine .flat rfl ?_;cbv;refine .of r u rfl rfl rfl rfl rfl rfl λg C9 f Da=>?_;cbv;refine .of C9 rfl ?_;cbv;exact x _ m g (by omega) (a.mono f (by simpa using Ne.symm IU)) (q.fr f (λl b=>by simp at b;subst b;exact .inl w)) Da
     obtain ⟨c6,O⟩:∃c,s[m.toNat]? =some c:=⟨_,List.getElem?_eq_getElem (by omega)⟩;cbv;refine .of follows 3 ?_;cbv;refine .of a.get rfl ?_;cbv;refine .of a.get rfl ?_;cbv;refine .of (by omega) O λy6 auA hy6=>?_;cbv;refine .lt (λq1=>?_) λq1=>?_
     ·cbv;refine .of follows 4 ?_
      cbv;refine .of a.get rfl ?_;cbv;refine .of a.get rfl ?_;cbv;refine .of λN Xw B=>?_;cbv;refine .lt (λA=>?_) λA=>?_
      ·obtain ⟨M,LV⟩:∃c,s[m.toNat]? =some c:=⟨_,List.getElem?_eq_getElem (by omega)⟩
       have Xx:=a.at LV;cbv;refine .of a.get rfl ?_;cbv;refine .of a.get rfl ?_;cbv;refine .of (by omega) LV λP CZ z=>?_;cbv;refine .H3 <| cP CZ (by omega) (λ_=>?_) λI Xy _=>?_
       ·cbv;refine .nil ?_
        cbv;refine .qQ (by omega) ?_;cbv;refine .flat rfl ?_;cbv;refine .flat rfl ?_;cbv;refine .of r u rfl rfl rfl rfl rfl rfl λg C9 f Da=>?_;cbv;refine .of C9 rfl ?_;cbv;exact x _ m g (by omega) (a.mono f (by simpa using Ne.symm IU)) (q.fr f (λl b=>by simp at b;subst b;exact .inl w)) Da
       ·cbv;refine .nil ?_
        cbv;refine .AB (by omega) ?_;cbv;refine fW a λv t=>?_;cbv;exact D v C t q r
      ·cbv;refine .nil ?_
       cbv;refine .flat rfl ?_;cbv;refine .flat rfl ?_;cbv;refine .of r u rfl rfl rfl rfl rfl rfl λg C9 f Da=>?_;cbv;refine .of C9 rfl ?_;cbv;exact x _ m g (by omega) (a.mono f (by simpa using Ne.symm IU)) (q.fr f (λl b=>by simp at b;subst b;exact .inl w)) Da
     cbv;refine .gt (λq2=>?_) λq2=>?_
     ·cbv;refine .of follows 4 ?_
      cbv;refine .of a.get rfl ?_;cbv;refine .of a.get rfl ?_;cbv;refine .of λN Xw B=>?_;cbv;refine .lt (λA=>?_) λA=>?_
      ·obtain ⟨M,LV⟩:∃c,s[m.toNat]? =some c:=⟨_,List.getElem?_eq_getElem (by omega)⟩
       have Xx:=a.at LV;cbv;refine .of a.get rfl ?_;cbv;refine .of a.get rfl ?_;cbv;refine .of (by omega) LV λP CZ z=>?_;cbv;refine .H3 <| cP CZ (by omega) (λ_=>?_) λI Xy _=>?_
       ·cbv;refine .nil ?_
        cbv;refine .qQ (by omega) ?_;cbv;refine .flat rfl ?_;cbv;refine .flat rfl ?_;cbv;refine .of r u rfl rfl rfl rfl rfl rfl λg C9 f Da=>?_;cbv;refine .of C9 rfl ?_;cbv;exact x _ m g (by omega) (a.mono f (by simpa using Ne.symm IU)) (q.fr f (λl b=>by simp at b;subst b;exact .inl w)) Da
       ·cbv;refine .nil ?_
        cbv;refine .AB (by omega) ?_;cbv;refine fW a λv t=>?_;cbv;exact D v C t q r
      ·cbv;refine .nil ?_
       cbv;refine .flat rfl ?_;cbv;refine .flat rfl ?_;cbv;refine .of r u rfl rfl rfl rfl rfl rfl λg C9 f Da=>?_;cbv;refine .of C9 rfl ?_;cbv;exact x _ m g (by omega) (a.mono f (by simpa using Ne.symm IU)) (q.fr f (λl b=>by simp at b;subst b;exact .inl w)) Da
     cbv;refine .eq (λq3=>?_) λq3=>?_
     ·cbv;refine .of follows 4 ?_
      cbv;refine .of a.get rfl ?_;cbv;refine .of a.get rfl ?_;cbv;refine .of λN Xw B=>?_;cbv;refine .lt (λA=>?_) λA=>?_
      ·obtain ⟨M,LV⟩:∃c,s[m.toNat]? =some c:=⟨_,List.getElem?_eq_getElem (by omega)⟩
       have Xx:=a.at LV;cbv;refine .of a.get rfl ?_;cbv;refine .of a.get rfl ?_;cbv;refine .of (by omega) LV λP CZ z=>?_;cbv;refine .H3 <| cP CZ (by omega) (λ_=>?_) λI Xy _=>?_
       ·cbv;refine .nil ?_
        cbv;refine .qQ (by omega) ?_;cbv;refine .flat rfl ?_;cbv;refine .flat rfl ?_;cbv;refine .of r u rfl rfl rfl rfl rfl rfl λg C9 f Da=>?_;cbv;refine .of C9 rfl ?_;cbv;exact x _ m g (by omega) (a.mono f (by simpa using Ne.symm IU)) (q.fr f (λl b=>by simp at b;subst b;exact .inl w)) Da
       ·cbv;refine .nil ?_
        cbv;refine .AB (by omega) ?_;cbv;refine fW a λv t=>?_;cbv;exact D v C t q r
      ·cbv;refine .nil ?_
       cbv;refine .flat rfl ?_;cbv;refine .flat rfl ?_;cbv;refine .of r u rfl rfl rfl rfl rfl rfl λg C9 f Da=>?_;cbv;refine .of C9 rfl ?_;cbv;exact x _ m g (by omega) (a.mono f (by simpa using Ne.symm IU)) (q.fr f (λl b=>by simp at b;subst b;exact .inl w)) Da
     cbv;refine .of a.get rfl ?_;cbv;refine .add (by omega) (by omega) λY Wc=>?_;cbv;refine .of r a.get rfl rfl rfl rfl rfl rfl λh7 J W eJ=>?_;cbv;exact ⟨rfl,s.length - Y.toNat,by omega,_,y6,Y,rfl,by omega,by omega,by omega,rfl,⟨J,by omega,by omega,L,E.GZ⟩,W.get u (by simpa using IU),(q.trans W).mono (λl o _ b=>by simpa using b),eJ⟩
    ·cbv;exact D v h2 t aQ aO
  | false=>
    cbv;refine zu aK Bl (λG c1 h3 acO hc3 aem ao5 Ee Ao aI aS=>?_) λv t=>?_
    ·have uI:=aI.get T (by simpa using IU)
     have aN:Mod h h3 [p]:=(Xv.trans aI).mono λl o _ b=>by simpa using b
     have auw:48<=G/\G<=57:=by simp at Ee;omega
     cbv;refine .inv [p0,p2,p3,p4,p5,p6] (λZ aB h'=>∃(n y j:Int),aB=[.ptr p 0,.ptr R 0,.bool false,.int .i64 n,.int .u8 G,.int .u8 y]/\48<=y/\y<=57/\i<j/\Z=s.length - j.toNat/\mj h' p s j/\h'.get R=some (.cells [.int .i64 0,.int .i64 0,.str [],.nilSlice 0,.nilSlice 0] bL 0 .yes)/\Mod h h' [p]/\Wf h') [_,_,_,_,_,_] rfl _ ⟨0,G,i+1,rfl,by omega,by omega,by omega,rfl,Ao,uI,aN,aS⟩ ?_;rintro Z _ h4 ⟨n,y,j,rfl,ON,SG,zT,eF,F,xu,aL,aW⟩;have aen:=F.lo;have auy:=F.hi;cbv;refine .ahd (by omega) (by omega) λd hd=>?_;cbv;refine .i64 (by omega) (by omega) ?_;cbv;refine .of F.get rfl ?_;cbv;refine .sub (by omega) (by omega) λj1 hj1=>?_;cbv;refine .of aW F.get rfl rfl rfl rfl rfl rfl λK Ap bf X=>?_;have Fb:mj K p s j1:=⟨Ap,by omega,by omega,L,E.GZ⟩;have aT:Mod h K [p]:=(aL.trans bf).mono λl o _ b=>by simpa using b
     have NY:=bf.get xu (by simpa using IU);cbv;refine .sub (by omega) (by omega) λa1 ha1=>?_;cbv;refine .quo (by omega) (by omega) (by omega) λa2 ha2=>?_;cbv;refine .gt (λg1=>?_) λg1=>?_
     ·cbv;refine fW Fb λv t=>?_
      cbv;exact D v K t aT X
     cbv;refine .aaE λb1 cw=>?_;cbv;refine .Gp λb2 dh=>?_;cbv;refine .of Fb.get rfl ?_;cbv;refine .add (by omega) (by omega) λm JG=>?_;cbv;refine .of X Fb.get rfl rfl rfl rfl rfl rfl λC H4 U r=>?_;have a:mj C p s m:=⟨H4,by omega,by omega,L,E.GZ⟩;have q:Mod h C [p]:=(aT.trans U).mono λl o _ b=>by simpa using b
     have u:=U.get NY (by simpa using IU);cbv;refine .of follows 3 ?_;cbv;refine .of a.get rfl ?_;cbv;refine .of a.get rfl ?_;cbv;refine .of λn6 ao4 SC=>?_;cbv;refine .eq (λe6=>?_) λe6=>?_
     ·cbv;refine .of follows 4 ?_
      cbv;refine .of a.get rfl ?_;cbv;refine .of a.get rfl ?_;cbv;refine .of λN Xw B=>?_;cbv;refine .lt (λA=>?_) λA=>?_
      ·obtain ⟨M,LV⟩:∃c,s[m.toNat]? =some c:=⟨_,List.getElem?_eq_getElem (by omega)⟩
       have Xx:=a.at LV;cbv;refine .of a.get rfl ?_;cbv;refine .of a.get rfl ?_;cbv;refine .of (by omega) LV λP CZ z=>?_;cbv;refine .H3 <| cP CZ (by omega) (λ_=>?_) λI Xy _=>?_
       ·cbv;refine .nil ?_
        cbv;refine .qQ (by omega) ?_;cbv;refine .flat rfl ?_;cbv;refine .flat rfl ?_;cbv;refine .of r u rfl rfl rfl rfl rfl rfl λg C9 f Da=>?_;cbv;refine .of C9 rfl ?_;cbv;exact x _ m g (by omega) (a.mono f (by simpa using Ne.symm IU)) (q.fr f (λl b=>by simp at b;subst b;exact .inl w)) Da
       ·cbv;refine .nil ?_
        cbv;refine .AB (by omega) ?_;cbv;refine fW a λv t=>?_;cbv;exact D v C t q r
      ·cbv;refine .nil ?_
       cbv;refine .flat rfl ?_;cbv;refine .flat rfl ?_;cbv;refine .of r u rfl rfl rfl rfl rfl rfl λg C9 f Da=>?_;cbv;refine .of C9 rfl ?_;cbv;exact x _ m g (by omega) (a.mono f (by simpa using Ne.symm IU)) (q.fr f (λl b=>by simp at b;subst b;exact .inl w)) Da
     obtain ⟨c6,O⟩:∃c,s[m.toNat]? =some c:=⟨_,List.getElem?_eq_getElem (by omega)⟩;cbv;refine .of follows 3 ?_;cbv;refine .of a.get rfl ?_;cbv;refine .of a.get rfl ?_;cbv;refine .of (by omega) O λy6 auA hy6=>?_;cbv;refine .lt (λq1=>?_) λq1=>?_
     ·cbv;refine .of follows 4 ?_
      cbv;refine .of a.get rfl ?_;cbv;refine .of a.get rfl ?_;cbv;refine .of λN Xw B=>?_;cbv;refine .lt (λA=>?_) λA=>?_
      ·obtain ⟨M,LV⟩:∃c,s[m.toNat]? =some c:=⟨_,List.getElem?_eq_getElem (by omega)⟩
       have Xx:=a.at LV;cbv;refine .of a.get rfl ?_;cbv;refine .of a.get rfl ?_;cbv;refine .of (by omega) LV λP CZ z=>?_;cbv;refine .H3 <| cP CZ (by omega) (λ_=>?_) λI Xy _=>?_
       ·cbv;refine .nil ?_
        cbv;refine .qQ (by omega) ?_;cbv;refine .flat rfl ?_;cbv;refine .flat rfl ?_;cbv;refine .of r u rfl rfl rfl rfl rfl rfl λg C9 f Da=>?_;cbv;refine .of C9 rfl ?_;cbv;exact x _ m g (by omega) (a.mono f (by simpa using Ne.symm IU)) (q.fr f (λl b=>by simp at b;subst b;exact .inl w)) Da
       ·cbv;refine .nil ?_
        cbv;refine .AB (by omega) ?_;cbv;refine fW a λv t=>?_;cbv;exact D v C t q r
      ·cbv;refine .nil ?_
       cbv;refine .flat rfl ?_;cbv;refine .flat rfl ?_;cbv;refine .of r u rfl rfl rfl rfl rfl rfl λg C9 f Da=>?_;cbv;refine .of C9 rfl ?_;cbv;exact x _ m g (by omega) (a.mono f (by simpa using Ne.symm IU)) (q.fr f (λl b=>by simp at b;subst b;exact .inl w)) Da
     cbv;refine .gt (λq2=>?_) λq2=>?_
     ·cbv;refine .of follows 4 ?_
      cbv;refine .of a.get rfl ?_;cbv;refine .of a.get rfl ?_;cbv;refine .of λN Xw B=>?_;cbv;refine .lt (λA=>?_) λA=>?_
      ·obtain ⟨M,LV⟩:∃c,s[m.toNat]? =some c:=⟨_,List.getElem?_eq_getElem (by omega)⟩
       have Xx:=a.at LV;cbv;refine .of a.get rfl ?_;cbv;refine .of a.get rfl ?_;cbv;refine .of (by omega) LV λP CZ z=>?_;cbv;refine .H3 <| cP CZ (by omega) (λ_=>?_) λI Xy _=>?_
       ·cbv;refine .nil ?_
        cbv;refine .qQ (by omega) ?_;cbv;refine .flat rfl ?_;cbv;refine .flat rfl ?_;cbv;refine .of r u rfl rfl rfl rfl rfl rfl λg C9 f Da=>?_;cbv;refine .of C9 rfl ?_;cbv;exact x _ m g (by omega) (a.mono f (by simpa using Ne.symm IU)) (q.fr f (λl b=>by simp at b;subst b;exact .inl w)) Da
       ·cbv;refine .nil ?_
        cbv;refine .AB (by omega) ?_;cbv;refine fW a λv t=>?_;cbv;exact D v C t q r
      ·cbv;refine .nil ?_
       cbv;refine .flat rfl ?_;cbv;refine .flat rfl ?_;cbv;refine .of r u rfl rfl rfl rfl rfl rfl λg C9 f Da=>?_;cbv;refine .of C9 rfl ?_;cbv;exact x _ m g (by omega) (a.mono f (by simpa using Ne.symm IU)) (q.fr f (λl b=>by simp at b;subst b;exact .inl w)) Da
     cbv;refine .eq (λq3=>?_) λq3=>?_
     ·cbv;refine .of follows 4 ?_
      cbv;refine .of a.get rfl ?_;cbv;refine .of a.get rfl ?_;cbv;refine .of λN Xw B=>?_;cbv;refine .lt (λA=>?_) λA=>?_
      ·obtain ⟨M,LV⟩:∃c,s[m.toNat]? =some c:=⟨_,List.getElem?_eq_getElem (by omega)⟩
       have Xx:=a.at LV;cbv;refine .of a.get rfl ?_;cbv;refine .of a.get rfl ?_;cbv;refine .of (by omega) LV λP CZ z=>?_;cbv;refine .H3 <| cP CZ (by omega) (λ_=>?_) λI Xy _=>?_
       ·cbv;refine .nil ?_
        cbv;refine .qQ (by omega) ?_;cbv;refine .flat rfl ?_;cbv;refine .flat rfl ?_;cbv;refine .of r u rfl rfl rfl rfl rfl rfl λg C9 f Da=>?_;cbv;refine .of C9 rfl ?_;cbv;exact x _ m g (by omega) (a.mono f (by simpa using Ne.symm IU)) (q.fr f (λl b=>by simp at b;subst b;exact .inl w)) Da
       ·cbv;refine .nil ?_
        cbv;refine .AB (by omega) ?_;cbv;refine fW a λv t=>?_;cbv;exact D v C t q r
      ·cbv;refine .nil ?_
       cbv;refine .flat rfl ?_;cbv;refine .flat rfl ?_;cbv;refine .of r u rfl rfl rfl rfl rfl rfl λg C9 f Da=>?_;cbv;refine .of C9 rfl ?_;cbv;exact x _ m g (by omega) (a.mono f (by simpa using Ne.symm IU)) (q.fr f (λl b=>by simp at b;subst b;exact .inl w)) Da
     cbv;refine .of a.get rfl ?_;cbv;refine .add (by omega) (by omega) λY Wc=>?_;cbv;refine .of r a.get rfl rfl rfl rfl rfl rfl λh7 J W eJ=>?_;cbv;exact ⟨rfl,s.length - Y.toNat,by omega,_,y6,Y,rfl,by omega,by omega,by omega,rfl,⟨J,by omega,by omega,L,E.GZ⟩,W.get u (by simpa using IU),(q.trans W).mono (λl o _ b=>by simpa using b),eJ⟩
    ·cbv;exact D v h1 t Xv aK
 ·cbv;exact D v h1 t (ar.mono λl o _ b=>by simp at b) aK
end K
