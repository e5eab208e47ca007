/-
  The sequencer's laws. Part ZAS of the proof: blotter/wire: Chars; strconv.ParseInt of one hexadecimal digit; blotter/jsonx: the parser's hex, escape.
-/
import Derived.Laws.Cover4
import Derived.Test.YteajeefphbjnmaaGreatDoorZAR
namespace K
open Go Go.Dx Go.RowKit Go.Proofs
set_option maxRecDepth 100000
theorem Zz {h:H}{c:Int}{Q:V->H->Prop} (hq:∀n lo hi:Int,0<=n->n<=4->Q (.tuple [.int .i64 n,.int .u8 lo,.int .u8 hi]) h):CW pf G0 yc [.int .u8 c] h Q:=by
 refine Hu.enter (by kernel_rfl) ?_;cbv;refine .lt (λe=>?_) λe=>?_
 ·cbv;exact hq _ _ _ (by omega) (by omega)
 cbv;refine .ge (λe1=>?_) λe1=>?_
 ·cbv;refine .le (λe2=>?_) λe2=>?_
  ·cbv;exact hq _ _ _ (by omega) (by omega)
  cbv;refine .eq (λe3=>?_) λe3=>?_
  ·cbv;exact hq _ _ _ (by omega) (by omega)
  cbv;refine .eq (λe4=>?_) λe4=>?_
  ·cbv;exact hq _ _ _ (by omega) (by omega)
  cbv;refine .ge (λe5=>?_) λe5=>?_
  ·cbv;refine .le (λe6=>?_) λe6=>?_
   ·cbv;exact hq _ _ _ (by omega) (by omega)
   cbv;refine .eq (λe7=>?_) λe7=>?_
   ·cbv;exact hq _ _ _ (by omega) (by omega)
   cbv;refine .eq (λe7=>?_) λe7=>?_
   ·cbv;exact hq _ _ _ (by omega) (by omega)
   cbv;refine .um (by omega) ?_;cbv;refine .le (λe8=>?_) λe8=>?_
   ·cbv;exact hq _ _ _ (by omega) (by omega)
   ·cbv;exact hq _ _ _ (by omega) (by omega)
  ·omega
 ·cbv;refine .cP (by omega) ?_
  cbv;refine .cP (by omega) ?_;cbv;refine .qp (by omega) ?_;cbv;refine .cP (by omega) ?_;cbv;refine .cP (by omega) ?_;cbv;refine .qp (by omega) ?_;cbv;exact hq _ _ _ (by omega) (by omega)
theorem mL {h:H}{v:V}{n:Nat}{t:List Nat}(hs:Sl h 1 v n (ae t))(hn:n<=10000000){Q:V->H->Prop} (hq:∀r:Int,Q (.int .i64 r) h):CW pf G0 uW [v] h Q:=by
 have hlen:=hs.len;rw [bp,Nat.mul_one] at hlen;refine EH.enter (by kernel_rfl) ?_;cbv;refine .inv [p0,p3] (λm' aC h'=>h'=h/\∃i,aC=[v,.int .i64 i]/\0<=i/\i.toNat<=n/\m'=n - i.toNat) [_,_] rfl _ ⟨rfl,0,rfl,by omega,by simp,rfl⟩ ?_;rintro m' _ h' ⟨rfl,i,rfl,jG,hi,dY⟩;cbv;refine .of hs λk Ir hk=>?_;cbv;refine .lt (λbA=>?_) λjb=>?_
 ·obtain ⟨c,hc⟩:∃c,t[i.toNat]? =some c:=⟨_,List.getElem?_eq_getElem (by omega)⟩
  cbv;refine .byte hs jG hc λq off he=>?_;cbv;refine .byte he λy CU hy=>?_;cbv;refine Zz λw lo ja hw0 aQ=>?_;cbv;refine .eq (λe=>?_) λe=>?_
  ·cbv;exact hq _
  cbv;refine .of hs λk2 af9 Fc=>?_;cbv;refine .sub (by omega) (by omega) λd hd=>?_;cbv;refine .gt (λe2=>?_) λe2=>?_
  ·cbv;exact hq _
  cbv;refine .inv [p0,p3,p4,p5,p6,p7] (λm' aC h2=>h2=h'/\∃j lo ja,aC=[v,.int .i64 i,.int .i64 w,.int .u8 lo,.int .u8 ja,.int .i64 j]/\1<=j/\j<=w/\m'=w.toNat - j.toNat) [_,_,_,_,_,_] rfl _ ⟨rfl,1,lo,ja,rfl,by omega,by omega,rfl⟩ ?_;rintro m2 _ h2 ⟨rfl,j,lo,ja,rfl,Uy,hj,aq⟩;cbv;refine .lt (λzM=>?_) λUT=>?_
  ·cbv;refine .add (by omega) (by omega) λa ha=>?_
   obtain ⟨c2,E5⟩:∃c,t[a.toNat]? =some c:=⟨_,List.getElem?_eq_getElem (by omega)⟩;cbv;refine .byte hs (by omega) E5 λq2 Fk ur=>?_;cbv;refine .byte ur λy2 ajL Rq=>?_;cbv;refine .lt (λ_=>?_) λ_=>?_
   ·cbv;exact hq _
   cbv;refine .gt (λ_=>?_) λ_=>?_
   ·cbv;exact hq _
   cbv;refine .add (by omega) (by omega) λb hb=>?_;cbv;exact ⟨rfl,w.toNat - b.toNat,by omega,rfl,b,_,_,rfl,by omega,by omega,rfl⟩
  ·cbv;refine .add (by omega) (by omega) λb hb=>?_
   cbv;exact ⟨rfl,n - b.toNat,by omega,rfl,b,rfl,by omega,by omega,rfl⟩
 ·cbv;exact hq _
def pa (c:Nat):Prop:=(48<=c/\c<=57)\/(97<=c/\c<=102)\/(65<=c/\c<=70)
theorem KV {h:H}{c:Int}{Q:V->H->Prop} (hq:∀x,x=zQ Nat.lor .u8 c 32->Q (.int .u8 x) h):CW pf G0 ju [.int .u8 c] h Q:=by
 refine sG.enter (by kernel_rfl) ?_;cbv;refine .orB λx hx=>?_;cbv;exact hq x hx
theorem ZA:∀c,c<256->¬(48<=c/\c<=57)->pa c->97<=zQ Nat.lor .u8 (Int.ofNat c) 32/\zQ Nat.lor .u8 (Int.ofNat c) 32<=102:=by
 unfold pa
 decide +kernel
theorem _root_.Go.Dx.bI.af' {pf:Unit->Program} {ek:EK} {a b:Int} {K:V->Prop} (h1:0<=a - b) (h2:a - b<=255) (hk:∀x:Int,x=a - b->K (.int .u8 x)):bI pf .sub ek (.int .u8 a) (.int .u8 b) K:=
 .Ks λx hx=>hk x (by rw [hx,Kr h1 h2])
theorem _root_.Go.Dx.bI.as2 {pf:Unit->Program} {ek:EK} {a b:Int} {K:V->Prop} (h1:0<=a+b) (h2:a+b<=255) (hk:∀x:Int,x=a+b->K (.int .u8 x)):bI pf .add ek (.int .u8 a) (.int .u8 b) K:=
 .FO λx hx=>hk x (by rw [hx,Kr h1 h2])
theorem _root_.Go.Dx.bI.anR {pf:Unit->Program} {ek:EK} {a b:Int} {K:V->Prop} (h1:0<=a+b) (h2:a+b<=18446744073709551615) (hk:∀x:Int,x=a+b->K (.int .u64 x)):bI pf .add ek (.int .u64 a) (.int .u64 b) K:=
 .FO λx hx=>hk x (by rw [hx,FN h1 h2])
theorem _root_.Go.Dx.bI.anS {pf:Unit->Program} {ek:EK} {a b:Int} {K:V->Prop} (h1:0<=a*b) (h2:a*b<=18446744073709551615) (hk:∀x:Int,x=a*b->K (.int .u64 x)):bI pf .mul ek (.int .u64 a) (.int .u64 b) K:=
 .Zl λx hx=>hk x (by rw [hx,FN h1 h2])
theorem Nb {h:H}{c:Nat}(hw:Wf h)(hc:pa c){Q:V->H->Prop} (hq:∀(x:Int) h',0<=x->x<=15->Mod h h' []->Wf h'->Q (.tuple [.int .u64 x,.nilIface]) h'):CW pf G0 gy [.str [c],.int .i64 16,.int .i64 64] h Q:=by
 have KW:c<256:=by unfold pa at hc;omega
 refine oG.enter (by kernel_rfl) ?_;cbv;refine .acT (by simp) ?_;cbv;refine .cP (by omega) ?_;cbv;refine .O6 (by omega) ?_;cbv;refine .O6 (by omega) ?_;cbv;refine .cP (by omega) ?_;cbv;refine .FP (by omega) ?_;cbv;refine .Jk (by omega) ?_;cbv;refine .cP (by omega) ?_;cbv;refine .mY (by omega) ?_;cbv;refine .u64 (by omega) (by omega) ?_;cbv;refine .afW (by omega) (by omega) (by decide) λa ha=>?_;have ha:a=0:=by rw [ha];rfl
 subst ha;cbv;refine .Ks λb hb=>?_;have hb:b=18446744073709551615:=by rw [hb];rfl
 subst hb;cbv;refine .of hw (by simp) λbv h1 Nc ar aM=>?_;cbv;refine .of Nc λn eT hn=>?_;have hn:n=1:=by simp at hn;omega
 subst hn;cbv;refine .inv [p0,p1,p8,p10,p11,p12,p13,p99,asR,asS] (λm' aC h'=>h'=h1/\∃(i x:Int),aC=[.str [c],.int .i64 16,.bool false,.int .u64 1152921504606846976,.int .u64 18446744073709551615,.bool false,.int .u64 x,bv,.int .i64 1,.int .i64 i]/\(i=0/\x=0/\m'=1\/i=1/\0<=x/\x<=15/\m'=0)) [_,_,_,_,_,_,_,_,_,_] rfl _ ⟨rfl,0,0,rfl,.inl ⟨rfl,rfl,rfl⟩⟩ ?_;rintro m' _ h' ⟨rfl,i,x,rfl,anT⟩;rcases anT with ⟨rfl,rfl,rfl⟩ | ⟨rfl,lN,hx,rfl⟩
 ·cbv;refine .PZ (by omega) ?_
  cbv;refine .byte Nc (by omega) rfl λq off he=>?_;cbv;refine .byte he λy CU hy=>?_;have Hb:=hc;unfold pa at Hb;cbv;refine .cP (by omega) ?_;have fin:∀z:Int,0<=z->z<=15->True:=λ_ _ _=>trivial;cbv;refine .O6 (by omega) ?_;cbv;refine .le (λe9=>?_) λe9=>?_
  ·cbv;refine .af' (by omega) (by omega) λz hz=>?_
   cbv;refine .u8 (by omega) (by omega) ?_;cbv;refine .qp (by omega) ?_;cbv;refine .qp (by omega) ?_;cbv;refine .u64 (by omega) (by omega) ?_;cbv;refine .anS (by omega) (by omega) λm hm=>?_;cbv;refine .u64 (by omega) (by omega) ?_;cbv;refine .anR (by omega) (by omega) λw cG=>?_;cbv;refine .FP (by omega) ?_;cbv;refine .Jk (by omega) ?_;cbv;refine .add (by omega) (by omega) λi2 DI=>?_;cbv;exact ⟨rfl,0,by omega,rfl,i2,w,rfl,.inr ⟨by omega,by omega,by omega,rfl⟩⟩
  ·have q:=ZA c KW (by omega) hc
   have ey:y=Int.ofNat c:=by simp;omega
   rw [<-ey] at q;cbv;refine KV λl1 xv=>?_;rw [<-xv] at q;cbv;refine .O6 (by omega) ?_;cbv;refine KV λl2 jc=>?_;have jc:l2=l1:=jc.trans xv.symm;subst jc;cbv;refine .O6 (by omega) ?_;cbv;refine KV λl3 iY=>?_;have iY:l3=l2:=iY.trans xv.symm;subst iY;clear xv;cbv;refine .af' (by omega) (by omega) λz1 FC=>?_;cbv;refine .as2 (by omega) (by omega) λz hz=>?_;cbv;refine .u8 (by omega) (by omega) ?_;cbv;refine .qp (by omega) ?_;cbv;refine .qp (by omega) ?_;cbv;refine .u64 (by omega) (by omega) ?_;cbv;refine .anS (by omega) (by omega) λm hm=>?_;cbv;refine .u64 (by omega) (by omega) ?_;cbv;refine .anR (by omega) (by omega) λw cG=>?_;cbv;refine .FP (by omega) ?_;cbv;refine .Jk (by omega) ?_;cbv;refine .add (by omega) (by omega) λi2 DI=>?_;cbv;exact ⟨rfl,0,by omega,rfl,i2,w,rfl,.inr ⟨by omega,by omega,by omega,rfl⟩⟩
 ·cbv;refine .FP (by omega) ?_
  cbv;exact hq x h' lN hx ar aM
theorem vx {h:H}{c:Nat}(hw:Wf h)(hc:pa c){Q:V->H->Prop} (hq:∀(x:Int) h',Mod h h' []->Wf h'->Q (.tuple [.int .i64 x,.nilIface]) h'):CW pf G0 qE [.str [c],.int .i64 16,.int .i64 64] h Q:=by
 have Hb:=hc;unfold pa at Hb;refine CB.enter (by kernel_rfl) ?_;cbv;refine pI.enter (by kernel_rfl) ?_;cbv;refine .acT (by simp) ?_;cbv;refine .of (c:=c) (by omega) rfl λy CU hy=>?_;cbv;refine .cP (by omega) ?_;cbv;refine .cP (by omega) ?_;cbv;refine Nb hw hc λx h1 lN hx ar aM=>?_;cbv;refine .is (λ_=>rfl) ?_;cbv;refine .cP (by omega) ?_;cbv;refine .sub (by omega) (by omega) λa ha=>?_;have ha:a=63:=by omega
 subst ha;cbv;refine .u64 (by omega) (by omega) ?_;cbv;refine .afW (by omega) (by omega) (by decide) λb hb=>?_;have hb:b=9223372036854775808:=by rw [hb];rfl
 subst hb;cbv;refine .qp (by omega) ?_;cbv;refine .i64 (by omega) (by omega) ?_;cbv;refine .is (λ_=>rfl) ?_;cbv;exact hq x h1 ar aM
theorem X1:∀b∈[48,49,50,51,52,53,54,55,56,57,97,98,99,100,101,102,65,66,67,68,69,70],pa b:=by
 intro b hb;simp at hb;unfold pa;omega
theorem ac' {h:H}{p:Lb}{s of:List Nat}{i:Int}(hw:Wf h)(hp:lM h p s i)(hof:∀b∈of,pa b) {Q Pn:V->H->Prop} (hq:∀n j h',i<=j->lM h' p s j->Mod h h' [p]->Wf h'->Q (.int .i64 n) h') (hx:∀v h',X0 v->Mod h h' [p]->Wf h'->Pn v h'):CX pf G0 qD [.ptr p 0,.str of] h Q Pn:=by
 have IB:=hp.lo;have HP:=hp.hi;have qY:=hp.small;refine Cw.oo (by kernel_rfl) ?_;cbv;refine .inv [p0,p1,p5,p10] (λm' aC h'=>∃(k n j:Int),aC=[.ptr p 0,.str of,.int .i64 n,.int .i64 k]/\0<=k/\k<=4/\m'=4 - k.toNat/\i<=j/\lM h' p s j/\Mod h h' [p]/\Wf h') [_,_,_,_] rfl _ ⟨0,0,i,rfl,by omega,by omega,rfl,by omega,hp,Mod.refl _ _,hw⟩ ?_;rintro m' _ h1 ⟨k,n,j,rfl,Ir,hk,dY,zO,AE,ar,aM⟩;cbv;refine .lt (λe=>?_) λe=>?_
 ·cbv;refine .eq (λe1=>?_) λe1=>?_
  ·cbv;refine .eq (λe2=>?_) λe2=>?_
   ·cbv;refine yF aM AE (λx c h2 _ _ lN hxc hc rC aq aN=>?_) λv hv=>?_
    ·have hh:=hof c hc
     have KW:c<256:=by unfold pa at hh;omega
     cbv;refine .flat rfl ?_;cbv;refine .of aN λl h3 hl Mg aF aR=>?_;cbv;refine .one hl lN (by omega) λc2 E5=>?_;have E5:c2=c:=by omega
     subst E5;cbv;refine .Hv <| vx aR hh λr h4 aD aQ=>?_;cbv;refine .Zl λa ha=>?_;cbv;refine .FO λb hb=>?_;cbv;refine .add (by omega) (by omega) λk2 Fc=>?_;cbv;exact ⟨rfl,4 - k2.toNat,by omega,k2,b,j+1,rfl,by omega,by omega,rfl,by omega,(rC.mono aF).mono aD,(((ar.trans aq).trans aF).trans aD).mono (λl o _ hl=>by simpa using hl),aQ⟩
    ·cbv;exact hx v h1 hv ar aM
   ·cbv;refine yF aM AE (λx c h2 _ _ lN hxc hc rC aq aN=>?_) λv hv=>?_
    ·have hh:=X1 c hc
     have KW:c<256:=by unfold pa at hh;omega
     cbv;refine .flat rfl ?_;cbv;refine .of aN λl h3 hl Mg aF aR=>?_;cbv;refine .one hl lN (by omega) λc2 E5=>?_;have E5:c2=c:=by omega
     subst E5;cbv;refine .Hv <| vx aR hh λr h4 aD aQ=>?_;cbv;refine .Zl λa ha=>?_;cbv;refine .FO λb hb=>?_;cbv;refine .add (by omega) (by omega) λk2 Fc=>?_;cbv;exact ⟨rfl,4 - k2.toNat,by omega,k2,b,j+1,rfl,by omega,by omega,rfl,by omega,(rC.mono aF).mono aD,(((ar.trans aq).trans aF).trans aD).mono (λl o _ hl=>by simpa using hl),aQ⟩
    ·cbv;exact hx v h1 hv ar aM
  ·cbv;refine yF aM AE (λx c h2 _ _ lN hxc hc rC aq aN=>?_) λv hv=>?_
   ·have hh:=X1 c hc
    have KW:c<256:=by unfold pa at hh;omega
    cbv;refine .flat rfl ?_;cbv;refine .of aN λl h3 hl Mg aF aR=>?_;cbv;refine .one hl lN (by omega) λc2 E5=>?_;have E5:c2=c:=by omega
    subst E5;cbv;refine .Hv <| vx aR hh λr h4 aD aQ=>?_;cbv;refine .Zl λa ha=>?_;cbv;refine .FO λb hb=>?_;cbv;refine .add (by omega) (by omega) λk2 Fc=>?_;cbv;exact ⟨rfl,4 - k2.toNat,by omega,k2,b,j+1,rfl,by omega,by omega,rfl,by omega,(rC.mono aF).mono aD,(((ar.trans aq).trans aF).trans aD).mono (λl o _ hl=>by simpa using hl),aQ⟩
   ·cbv;exact hx v h1 hv ar aM
 ·cbv;exact hq n j h1 zO AE ar aM
end K
namespace K
open Go Go.Dx Go.RowKit Go.Proofs
set_option maxRecDepth 100000
theorem _root_.Go.Dx.PdN.rune {pf:Unit->Program} {x:X} {tp:T V} {k:IntKind} {n:Int} {K:V->Prop} (hx:x.Vz tp=some (.int k n)) (hk:∀t:List Nat,t.length<=4->(∀b∈t,b<256)->K (.str t)):PdN pf (.Dn x) tp K:=by
 refine ⟨λtm s=>⟨.str ((Utf8.encode n).data.toList.map (·.toNat)),by simp only [PD.eval,sr s hx],hk _ ?_ ?_⟩⟩
 ·rw [List.length_map];exact encode_size_le n
 ·intro b hb
  obtain ⟨u,_,rfl⟩:=List.mem_map.1 hb;exact u.toNat_lt
theorem ada {h:H}{p:Lb}{s:List Nat}{i:Int}(hw:Wf h)(hp:lM h p s i){Q Pn:V->H->Prop} (hq:∀v t j h',i<j->lM h' p s j->Sl h' 1 v t.length (ae t)->(∀b∈t,b<256)->t.length<=4->Mod h h' [p]->Wf h'->Q v h') (hx:∀v h',X0 v->Mod h h' [p]->Wf h'->Pn v h'):CX pf G0 lZ [.ptr p 0] h Q Pn:=by
 have IB:=hp.lo;have HP:=hp.hi;have qY:=hp.small;refine xd.oo (by kernel_rfl) ?_;cbv;refine yF hw hp (λx c h1 bA hc lN hxc _ AE ar aM=>?_) λv hv=>?_
 ·have KW:=hp.at hc
  cbv;refine .Hv <| cL lN (by omega) (λhn=>?_) λr hr0 hr=>?_
  ·cbv;refine .qp (by omega) ?_
   cbv;refine .ne (λe=>?_) λe=>?_
   ·cbv;refine ac' aM AE (λb hb=>?_) (λn j h2 zO rC aq aN=>?_) λv h2 hv aq aN=>?_
    ·simp at hb;unfold pa;omega
    ·cbv;refine .ge (λe1=>?_) λe1=>?_
     ·cbv;refine .lt (λe2=>?_) λe2=>?_
      ·cbv;refine Qs aN rC (by simp) (λb hb=>by simp at hb;omega) (λj3 h3 as3 zA aF aR=>?_) λv h3 hv aF aR=>?_
       ·cbv;refine vw zA (λx4 c4 _ hc4 aCg aCh=>?_) λv hv=>?_
        ·cbv;refine .ne (λq1=>?_) λq1=>?_
         ·cbv;refine .sub (by omega) (by omega) λd1 DE=>?_
          cbv;refine .afW (by omega) (by omega) (by decide) λd2 vS=>?_;cbv;refine .FO λd3 Zy=>?_;cbv;refine ac' aR zA (λb hb=>?_) (λn4 j4 h4 Gq pH aD aQ=>?_) λv h4 hv aD aQ=>?_
          ·simp at hb;unfold pa;omega
          ·cbv;refine .FO λd5 hd5=>?_
           cbv;refine .Ks λd6 hd6=>?_;cbv;refine .any λz hz=>?_;cbv;refine .rune rfl λt ht hb=>?_;cbv;refine .of aQ (by omega) λv hz mD hmz hwz=>?_;cbv;exact hq v t j4 hz (by omega) (pH.mono hmz) mD hb ht (((((ar.trans aq).trans aF).trans aD).trans hmz).mono (λl o _ hl=>by simpa using hl)) hwz
          ·cbv;exact hx v h4 hv ((((ar.trans aq).trans aF).trans aD).mono (λl o _ hl=>by simpa using hl)) aQ
         ·cbv;refine .ne (λq2=>?_) λq2=>?_
          ·cbv;refine .sub (by omega) (by omega) λd1 DE=>?_
           cbv;refine .afW (by omega) (by omega) (by decide) λd2 vS=>?_;cbv;refine .FO λd3 Zy=>?_;cbv;refine ac' aR zA (λb hb=>?_) (λn4 j4 h4 Gq pH aD aQ=>?_) λv h4 hv aD aQ=>?_
           ·simp at hb;unfold pa;omega
           ·cbv;refine .FO λd5 hd5=>?_
            cbv;refine .Ks λd6 hd6=>?_;cbv;refine .any λz hz=>?_;cbv;refine .rune rfl λt ht hb=>?_;cbv;refine .of aQ (by omega) λv hz mD hmz hwz=>?_;cbv;exact hq v t j4 hz (by omega) (pH.mono hmz) mD hb ht (((((ar.trans aq).trans aF).trans aD).trans hmz).mono (λl o _ hl=>by simpa using hl)) hwz
           ·cbv;exact hx v h4 hv ((((ar.trans aq).trans aF).trans aD).mono (λl o _ hl=>by simpa using hl)) aQ
          ·cbv;refine fL zA λv hv=>?_
           cbv;exact hx v h3 hv (((ar.trans aq).trans aF).mono (λl o _ hl=>by simpa using hl)) aR
        ·cbv;exact hx v h3 hv (((ar.trans aq).trans aF).mono (λl o _ hl=>by simpa using hl)) aR
       ·cbv;exact hx v h3 hv (((ar.trans aq).trans aF).mono (λl o _ hl=>by simpa using hl)) aR
      ·cbv;refine .any λz hz=>?_
       cbv;refine .rune rfl λt ht hb=>?_;cbv;refine .of aN (by omega) λv hz mD hmz hwz=>?_;cbv;exact hq v t j hz (by omega) (rC.mono hmz) mD hb ht (((ar.trans aq).trans hmz).mono (λl o _ hl=>by simpa using hl)) hwz
     ·cbv;refine .any λz hz=>?_
      cbv;refine .rune rfl λt ht hb=>?_;cbv;refine .of aN (by omega) λv hz mD hmz hwz=>?_;cbv;exact hq v t j hz (by omega) (rC.mono hmz) mD hb ht (((ar.trans aq).trans hmz).mono (λl o _ hl=>by simpa using hl)) hwz
    ·cbv;exact hx v h2 hv ((ar.trans aq).mono (λl o _ hl=>by simpa using hl)) aN
   ·cbv;refine .flat rfl ?_
    cbv;refine .of aM λl h2 hl Bo aq aN=>?_;obtain ⟨xn,rfl⟩:=Int.eq_ofNat_of_zero_le lN;cbv;exact hq _ [xn] (i+1) h2 (by omega) (AE.mono aq) (.row hl rfl) (λb hb=>by simp at hb hxc;omega) (by simp) ((ar.trans aq).mono (λl o _ hl=>by simpa using hl)) aN
  ·cbv;refine .um (by omega) ?_
   have Iu:r.toNat<5:=by have:=(List.getElem?_eq_some_iff.1 hr).1;simpa using this
   obtain ⟨c5,hc5⟩:∃c,[8,12,10,13,9][r.toNat]? =some c:=⟨_,List.getElem?_eq_getElem (by simpa using Iu)⟩;have aCk:c5<256:=by have:=List.mem_of_getElem? hc5;simp at this;omega
   cbv;refine .of hr0 hc5 λy CU hyc=>?_;cbv;refine .flat rfl ?_;cbv;refine .of aM λl h2 hl Bo aq aN=>?_;obtain ⟨yn,rfl⟩:=Int.eq_ofNat_of_zero_le CU;cbv;exact hq _ [yn] (i+1) h2 (by omega) (AE.mono aq) (.row hl rfl) (λb hb=>by simp at hb hyc;omega) (by simp) ((ar.trans aq).mono (λl o _ hl=>by simpa using hl)) aN
 ·cbv;exact hx v h hv (Mod.refl _ _) hw
end K
namespace K
open Go Go.Dx Go.RowKit Go.Proofs
set_option maxRecDepth 100000
theorem _root_.Go.Dx.acJ.mid {s:List Nat}{k k':IntKind}{i j:Int}{K:V->Prop} (hi:0<=i) (zO:i<=j) (hj:j.toNat<=s.length) (hk:∀t,t=(s.take j.toNat).drop i.toNat->K (.str t)):acJ s (some (.int k i)) (some (.int k' j)) K:=by
 obtain ⟨a,rfl⟩:=Int.eq_ofNat_of_zero_le hi;obtain ⟨b,rfl⟩:=Int.eq_ofNat_of_zero_le (show 0<=j by omega);have hj:b<=s.length:=by simpa using hj
 have zO:a<=b:=by omega
 exact ⟨.str ((s.take b).drop a),by simp only [mw,bD,dm hj,dm zO,ob],hk _ (by simp)⟩
theorem Nd {α:Type}{s:List α}{i j:Nat}(h2:j<=s.length):((s.take j).drop i).length=j - i:=by
 rw [List.length_drop,List.length_take];omega
theorem Nf {s:List Nat}{i j b:Nat}(h:b∈(s.take j).drop i):b∈s:=List.mem_of_mem_take (List.mem_of_mem_drop h)
theorem ajN {h:H}{p:Lb}{s:List Nat}{i:Int}(hw:Wf h)(hp:lM h p s i)(bA:i.toNat<s.length){Q Pn:V->H->Prop} (hq:∀v t j h',i<j->lM h' p s j->Sl h' 1 v t.length (ae t)->(∀b∈t,b<256)->t.length+i.toNat<=j.toNat->Mod h h' [p]->Wf h'->Q v h') (hx:∀v h',X0 v->Mod h h' [p]->Wf h'->Pn v h'):CX pf G0 o8 [.ptr p 0] h Q Pn:=by
 have IB:=hp.lo;have HP:=hp.hi;have qY:=hp.small;refine AB.oo (by kernel_rfl) ?_;cbv;refine .of hp.get rfl ?_;cbv;refine .inv [p0,p3] (λm' aC h'=>aC=[.ptr p 0,.int .i64 i]/\∃j:Int,i<=j/\j.toNat<s.length/\m'=s.length - j.toNat/\lM h' p s j/\Mod h h' [p]/\Wf h') [_,_] rfl _ ⟨rfl,i,by omega,bA,rfl,hp,Mod.refl _ _,hw⟩ ?_;rintro m' _ h1 ⟨rfl,j,zO,hjl,dY,AE,ar,aM⟩;cbv;refine .of AE.get rfl ?_;cbv;refine .add (by omega) (by omega) λk hk=>?_;cbv;refine .of aM AE.get rfl rfl rfl rfl rfl rfl λh2 PX aq aN=>?_;have rC:lM h2 p s k:=⟨PX,by omega,by omega,qY,hp.Gp⟩;have aO:Mod h h2 [p]:=(ar.trans aq).mono λl o _ hl=>by simpa using hl
 obtain ⟨t,ht⟩:∃t,t=(s.take k.toNat).drop i.toNat:=⟨_,rfl⟩;have Cc:t.length=k.toNat - i.toNat:=by rw [ht];exact Nd (by omega)
 have hki:i.toNat<k.toNat:=by omega
 have htb:∀b∈t,b<256:=λb hb=>hp.Gp b (Nf (ht▸hb));obtain ⟨tc,htc⟩:∃tc,tc=ae t:=⟨_,rfl⟩;cbv;refine .ofB follows 4 tc ?_;cbv;refine .of aN λl h3 iY Mg aF aR=>?_;have zA:=rC.mono aF;cbv;refine .of zA.get rfl ?_;cbv;refine .of zA.get rfl ?_;cbv;refine .mid (by omega) (by omega) (by omega) λt2 ht2=>?_;have e2:t2=t:=ht2.trans ht.symm;subst e2;clear ht2 ht;cbv;refine .of iY htc (by omega) λbv Nc=>?_;have hs3:Sl h3 1 bv t2.length (ae t2):=by subst Nc htc;exact .row iY (dA (by rw [bp];simp))
 have Qt:af bv=[l]:=by subst Nc;rfl
 clear Nc;cbv;refine .Hv <| mL hs3 (by omega) λr=>?_;have hpl:h2.get p=some (.cells [.str s,.int .i64 k] yf 0 .yes):=rC.get;have aJ:Mod h h3 [p]:=(aO.trans aF).mono λl o _ hl=>by simpa using hl
 cbv;refine .lt (λhr=>?_) λhr=>?_
 ·have q1:t2.length+i.toNat<=k.toNat:=by omega
  cbv;exact hq bv t2 k h3 (by omega) zA hs3 htb q1 aJ aR
 cbv;refine .of aR λl6 h4 vy X2 aD aQ=>?_;have hs6:Sl h4 1 (.slice l6 0 6 (.exact 6)) 6 [.str [128],.str [128,128],.str [128,128,128],.str [191],.str [191,191],.str [191,191,191]]:=.row vy rfl;cbv;refine .of hs6 λn6 aiR RM=>?_;have RM:n6=6:=by omega
 subst RM;cbv;refine .inv [p0,p3,p4,p5,p34,p35,p36] (λm' aC h'=>∃(ok:Bool) (x:Int),aC=[.ptr p 0,.int .i64 i,bv,.bool ok,.slice l6 0 6 (.exact 6),.int .i64 6,.int .i64 x]/\0<=x/\x<=6/\m'=6 - x.toNat/\Mod h4 h' []/\Wf h') [_,_,_,_,_,_,_] rfl _ ⟨false,0,rfl,by omega,by omega,rfl,Mod.refl _ _,aQ⟩ ?_;rintro m2 _ h5 ⟨ok,x,rfl,lN,hx6,YO,aY,bH⟩;have Hw:lM h5 p s k:=(zA.mono aD).mono aY;have hs5:Sl h5 1 bv t2.length (ae t2):=(hs3.mono aD (by simp)).mono aY (by simp);cbv;refine .lt (λhxl=>?_) λhxg=>?_
 ·obtain ⟨u,hu,hul⟩:∃u:List Nat,rowFrom [V.str [128],.str [128,128],.str [128,128,128],.str [191],.str [191,191],.str [191,191,191]] (x.toNat*1) 1=some [.str u]/\u.length<=3:=by
   have:x.toNat=0\/x.toNat=1\/x.toNat=2\/x.toNat=3\/x.toNat=4\/x.toNat=5:=by omega
   rcases this with e | e | e | e | e | e<;>rw [e]<;>exact ⟨_,rfl,by simp⟩
  cbv;refine .of (hs6.mono aY (by simp)) lN rfl (by omega) (els:=[.str u]) hu λq off he=>?_;cbv;refine .gH he 0 rfl ?_;cases ok with
  | true=>
    cbv;refine .add (by omega) (by omega) λx2 lH=>?_;cbv;exact ⟨rfl,6 - x2.toNat,by omega,true,x2,rfl,by omega,by omega,rfl,aY,bH⟩
  | false=>
    cbv;refine .Hv <| mH mJ bH hs5 (az t2) (by omega) (by decide) λv6 h6 pZ zy=>?_;have aCl:=zy.mod;cbv;refine .text zy pZ (by omega) λv7 h7 Ma lo7 cH=>?_;rw [<-aK] at Ma;have eu:=lo7.wf;have CC:Mod h4 h7 []:=(aY.trans lo7.mod).mono λl o _ hl=>by simp at hl
    cbv;refine .Hv <| mL Ma.sl (by omega) λr7=>?_;cbv;refine .lt (λ_=>?_) λ_=>?_
    ·cbv;refine .add (by omega) (by omega) λx2 lH=>?_
     cbv;exact ⟨rfl,6 - x2.toNat,by omega,true,x2,rfl,by omega,by omega,rfl,CC,eu⟩
    ·cbv;refine .add (by omega) (by omega) λx2 lH=>?_
     cbv;exact ⟨rfl,6 - x2.toNat,by omega,false,x2,rfl,by omega,by omega,rfl,CC,eu⟩
 ·have aL:Mod h h5 [p]:=((aJ.trans aD).trans aY).mono λl o _ hl=>by simpa using hl
  cases ok with
  | true=>
    cbv;refine vw Hw (λy c2 zM E5 CU hyc=>?_) λv hv=>?_
    ·cbv;exact ⟨rfl,s.length - k.toNat,by omega,rfl,k,by omega,zM,rfl,Hw,aL,bH⟩
    ·cbv;exact hx v h5 hv aL bH
  | false=>
    cbv;refine .of Hw.get rfl ?_;cbv;refine .sub (by omega) (by omega) λk2 Fc=>?_;cbv;refine .of bH Hw.get rfl rfl rfl rfl rfl rfl λh6 Qu bP cy=>?_;cbv;refine fL (i:=k2) ⟨Qu,by omega,by omega,qY,hp.Gp⟩ λv hv=>?_;cbv;exact hx v h6 hv ((aL.trans bP).mono λl o _ hl=>by simpa using hl) cy
end K
namespace K
open Go Go.Dx Go.RowKit Go.Proofs
set_option maxRecDepth 100000
theorem _root_.Go.Dx.Grow.frp {h0 h:H}{s v:V}{p:Lb}{o:Dx.Obj}(g:Grow h s v)(m:Mod h0 h [p])(hp:h.get p=some o)(f:Fr h0 s):Fr h0 v:=λl hl=>by
 rcases g l hl with a | a
 ·cases e:h0.get l with
  | none=>rfl
  | some o'=>
    by_cases hm:l∈[p]
    ·simp only [List.mem_singleton] at hm;subst hm;rw [hp] at a;cases a
    ·rw [m.get e hm] at a;cases a
 ·exact f l a
theorem ade {h:H}{p:Lb}{s:List Nat}{i:Int}(hw:Wf h)(hp:lM h p s i){Q Pn:V->H->Prop} (hq:∀t j h',i<j->j.toNat<s.length->lM h' p s j->(∀b∈t,b<256)->t.length<=4*s.length->Mod h h' [p]->Wf h'->Q (.str t) h') (hx:∀v h',X0 v->Mod h h' [p]->Wf h'->Pn v h'):CX pf G0 oY [.ptr p 0] h Q Pn:=by
 have IB:=hp.lo;have HP:=hp.hi;have qY:=hp.small;refine Ax.oo (by kernel_rfl) ?_;cbv;refine yF hw hp (λx c h1 bA hc lN hxc _ AE ar aM=>?_) λv hv=>?_
 ·cbv
  refine .inv [p0,p3] (λm' aC h'=>∃(bv:V) (acc:List Nat) (j:Int),aC=[.ptr p 0,bv]/\aE h' 5 1 bv acc.length (ae acc)/\Fr h bv/\(∀b∈acc,b<256)/\acc.length<=4*j.toNat/\i<j/\m'=s.length - j.toNat/\lM h' p s j/\Mod h h' [p]/\Wf h') [_,_] rfl _ ⟨.nilSlice 0,[],i+1,rfl,.nil,(λl hl=>by simp [af] at hl),by simp,by simp,by omega,rfl,AE,ar,aM⟩ ?_;rintro m' _ h2 ⟨bv,acc,j,rfl,ho,hf,Pp,sN,zO,dY,rC,aq,aN⟩;have asK:=rC.hi;cbv;refine vw rC (λy c2 zM E5 CU hyc=>?_) λv hv=>?_
  ·cbv;refine .eq (λe=>?_) λe=>?_
   ·cbv;refine .of ho.sl Pp ?_
    cbv;exact hq acc j h2 zO zM rC Pp (by omega) aq aN
   cbv;refine .lt (λe2=>?_) λe2=>?_
   ·cbv;refine fL rC λv hv=>?_
    cbv;exact hx v h2 hv aq aN
   cbv;refine .eq (λe3=>?_) λe3=>?_
   ·cbv;refine .of rC.get rfl ?_
    cbv;refine .add (by omega) (by omega) λk hk=>?_;cbv;refine .of aN rC.get rfl rfl rfl rfl rfl rfl λh3 Og aF aR=>?_;have zA:lM h3 p s k:=⟨Og,by omega,by omega,qY,hp.Gp⟩;have aJ:Mod h h3 [p]:=(aq.trans aF).mono λl o _ hl=>by simpa using hl
    cbv;refine ada aR zA (λev t j4 h4 Gq pH Oh htb Cc aD aQ=>?_) λv h4 hv aD aQ=>?_
    ·have ay:Mod h h4 [p]:=(aJ.trans aD).mono λl o _ hl=>by simpa using hl
     have KX:Mod h2 h4 [p]:=(aF.trans aD).mono λl o _ hl=>by simpa using hl
     have jv:=ho.mono KX (hf.ne hp.get);cbv;refine .own aQ jv Oh.elems Oh.len (az t) (by have:=pH.hi;unfold bz;omega) (by decide) λbv5 h5 kh we aY bH=>?_;rw [<-List.length_append,<-aK] at kh;have Hw:lM h5 p s j4:=pH.mono aY (λhl=>(hf.ne hp.get) p hl (by simp));cbv;exact ⟨rfl,s.length - j4.toNat,by omega,bv5,acc++t,j4,rfl,kh,we.frp ay pH.get hf,(λb hb=>(List.mem_append.1 hb).elim (Pp b) (htb b)),by rw [List.length_append];omega,by omega,rfl,Hw,ay.fr aY (λl hl=>.inl (hf l hl)),bH⟩
    ·cbv;exact hx v h4 hv ((aJ.trans aD).mono λl o _ hl=>by simpa using hl) aQ
   ·cbv;refine ajN aN rC zM (λev t j4 h4 Gq pH Oh htb Cc aD aQ=>?_) λv h4 hv aD aQ=>?_
    ·have ay:Mod h h4 [p]:=(aq.trans aD).mono λl o _ hl=>by simpa using hl
     have jv:=ho.mono aD (hf.ne hp.get);have:=pH.hi;cbv;refine .own aQ jv Oh.elems Oh.len (az t) (by unfold bz;omega) (by decide) λbv5 h5 kh we aY bH=>?_;rw [<-List.length_append,<-aK] at kh;have Hw:lM h5 p s j4:=pH.mono aY (λhl=>(hf.ne hp.get) p hl (by simp));cbv;exact ⟨rfl,s.length - j4.toNat,by omega,bv5,acc++t,j4,rfl,kh,we.frp ay pH.get hf,(λb hb=>(List.mem_append.1 hb).elim (Pp b) (htb b)),by rw [List.length_append];omega,by omega,rfl,Hw,ay.fr aY (λl hl=>.inl (hf l hl)),bH⟩
    ·cbv;exact hx v h4 hv ((aq.trans aD).mono λl o _ hl=>by simpa using hl) aQ
  ·cbv;exact hx v h2 hv aq aN
 ·cbv;exact hx v h hv (Mod.refl _ _) hw
theorem _root_.Go.Dx.bI.as5 {pf:Unit->Program} {ek:EK} {a b:Int} {K:V->Prop} (hb:0<b) (hk:∀x:Int,x=bR .i64 (a.tdiv b)->K (.int .i64 x)):bI pf .quo ek (.int .i64 a) (.int .i64 b) K:=by
 have fC:oN b 0=false:=by rw [bO];simp;omega
 exact ⟨_,by simp only [Dx.binOp,aV,bN,ct,fC,Bool.not_false],hk _ rfl⟩
theorem adf {h:H}{p:Lb}{s:List Nat}{i:Int}(hw:Wf h)(hp:lM h p s i){Q Pn:V->H->Prop} (hq:∀n j h',i<j->lM h' p s j->Mod h h' [p]->Wf h'->Q (.agg [.int .i64 2,.int .i64 n,.str [],.nilSlice 0,.nilSlice 0]) h') (hx:∀v h',X0 v->Mod h h' [p]->Wf h'->Pn v h'):CX pf G0 lX [.ptr p 0] h Q Pn:=by
 have IB:=hp.lo;have HP:=hp.hi;have qY:=hp.small;refine wW.oo (by kernel_rfl) ?_;cbv;refine .of hw λlr h1 E7 dt ar aM=>?_;have AE:=hp.mono ar;have Ie:lr≠p:=λe=>by subst e;rw [hp.get] at dt;cases dt
 cbv;refine vw AE (λy c2 zM E5 CU hyc=>?_) λv hv=>?_
 ·cbv;refine .is (v:=.bool (y==45)) (λ_=>by simp [Dx.binOp,aV,bN,ct,bO]) ?_
  generalize (y==45)=neg;have Tw:Mod h h1 [p]:=ar.mono λl o _ hl=>by simp at hl
  cases neg with
  | true=>
    cbv;refine .of AE.get rfl ?_;cbv;refine .add (by omega) (by omega) λk hk=>?_;cbv;refine .of aM AE.get rfl rfl rfl rfl rfl rfl λh2 PX aq aN=>?_;have rC:lM h2 p s k:=⟨PX,by omega,by omega,qY,hp.Gp⟩;have aO:Mod h h2 [p]:=(Tw.trans aq).mono λl o _ hl=>by simpa using hl
    have qN:=aq.get E7 (by simpa using Ie);cbv;refine yF aN rC (λy1 c1 h3 agc X3 adg anU DE zA aF aR=>?_) λv hv=>?_
    ·have ug:=aF.get qN (by simpa using Ie)
     have aJ:Mod h h3 [p]:=(aO.trans aF).mono λl o _ hl=>by simpa using hl
     have as6:48<=y1/\y1<=57:=by simp at DE;omega
     cbv;refine .inv [p0,p2,p3,p4,p5,p6] (λm' aC h'=>∃(n y j:Int),aC=[.ptr p 0,.ptr lr 0,.bool true,.int .i64 n,.int .u8 y1,.int .u8 y]/\48<=y/\y<=57/\i<j/\m'=s.length - j.toNat/\lM h' p s j/\h'.get lr=some (.cells [.int .i64 0,.int .i64 0,.str [],.nilSlice 0,.nilSlice 0] bK 0 .yes)/\Mod h h' [p]/\Wf h') [_,_,_,_,_,_] rfl _ ⟨0,y1,k+1,rfl,by omega,by omega,by omega,rfl,zA,ug,aJ,aR⟩ ?_;rintro m' _ h4 ⟨n,y,j,rfl,NW,Rq,zO,dY,pH,xe,aD,aQ⟩;have adh:=pH.lo;have as7:=pH.hi;cbv;refine .af' (by omega) (by omega) λd hd=>?_;cbv;refine .i64 (by omega) (by omega) ?_;cbv;refine .of pH.get rfl ?_;cbv;refine .sub (by omega) (by omega) λj1 hj1=>?_;cbv;refine .of aQ pH.get rfl rfl rfl rfl rfl rfl λh5 we aY bH=>?_;have Hw:lM h5 p s j1:=⟨we,by omega,by omega,qY,hp.Gp⟩;have aL:Mod h h5 [p]:=(aD.trans aY).mono λl o _ hl=>by simpa using hl
     have Iu:=aY.get xe (by simpa using Ie);cbv;refine .add (by omega) (by omega) λa1 ha1=>?_;cbv;refine .as5 (by omega) λa2 ha2=>?_;cbv;refine .lt (λg1=>?_) λg1=>?_
     ·cbv;refine fL Hw λv hv=>?_
      cbv;exact hx v h5 hv aL bH
     cbv;refine .Zl λb1 cx=>?_;cbv;refine .Ks λb2 cR=>?_;cbv;refine .of Hw.get rfl ?_;cbv;refine .add (by omega) (by omega) λj2 Ji=>?_;cbv;refine .of bH Hw.get rfl rfl rfl rfl rfl rfl λh6 Qu bP cy=>?_;have fu:lM h6 p s j2:=⟨Qu,by omega,by omega,qY,hp.Gp⟩;have bT:Mod h h6 [p]:=(aL.trans bP).mono λl o _ hl=>by simpa using hl
     have vP:=bP.get Iu (by simpa using Ie);cbv;refine .of follows 3 ?_;cbv;refine .of fu.get rfl ?_;cbv;refine .of fu.get rfl ?_;cbv;refine .of λn6 aiR RM=>?_;cbv;refine .eq (λe6=>?_) λe6=>?_
     ·cbv;refine .of follows 4 ?_
      cbv;refine .of fu.get rfl ?_;cbv;refine .of fu.get rfl ?_;cbv;refine .of λnT V4 hnT=>?_;cbv;refine .lt (λt1=>?_) λt1=>?_
      ·obtain ⟨cT,KY⟩:∃c,s[j2.toNat]? =some c:=⟨_,List.getElem?_eq_getElem (by omega)⟩
       have V5:=fu.at KY;cbv;refine .of fu.get rfl ?_;cbv;refine .of fu.get rfl ?_;cbv;refine .of (by omega) KY λyT CF hyT=>?_;cbv;refine .Hv <| cL CF (by omega) (λ_=>?_) λrT V6 _=>?_
       ·cbv;refine .nil ?_
        cbv;refine .qp (by omega) ?_;cbv;refine .flat rfl ?_;cbv;refine .flat rfl ?_;cbv;refine .of cy vP rfl rfl rfl rfl rfl rfl λhT CG qO CH=>?_;cbv;refine .of CG rfl ?_;cbv;exact hq _ j2 hT (by omega) (fu.mono qO (by simpa using Ne.symm Ie)) (bT.fr qO (λl hl=>by simp at hl;subst hl;exact .inl dt)) CH
       ·cbv;refine .nil ?_
        cbv;refine .um (by omega) ?_;cbv;refine fL fu λv hv=>?_;cbv;exact hx v h6 hv bT cy
      ·cbv;refine .nil ?_
       cbv;refine .flat rfl ?_;cbv;refine .flat rfl ?_;cbv;refine .of cy vP rfl rfl rfl rfl rfl rfl λhT CG qO CH=>?_;cbv;refine .of CG rfl ?_;cbv;exact hq _ j2 hT (by omega) (fu.mono qO (by simpa using Ne.symm Ie)) (bT.fr qO (λl hl=>by simp at hl;subst hl;exact .inl dt)) CH
     obtain ⟨c6,hc6⟩:∃c,s[j2.toNat]? =some c:=⟨_,List.getElem?_eq_getElem (by omega)⟩;cbv;refine .of follows 3 ?_;cbv;refine .of fu.get rfl ?_;cbv;refine .of fu.get rfl ?_;cbv;refine .of (by omega) hc6 λy6 as8 hy6=>?_;cbv;refine .lt (λq1=>?_) λq1=>?_
     ·cbv;refine .of follows 4 ?_
      cbv;refine .of fu.get rfl ?_;cbv;refine .of fu.get rfl ?_;cbv;refine .of λnT V4 hnT=>?_;cbv;refine .lt (λt1=>?_) λt1=>?_
      ·obtain ⟨cT,KY⟩:∃c,s[j2.toNat]? =some c:=⟨_,List.getElem?_eq_getElem (by omega)⟩
       have V5:=fu.at KY;cbv;refine .of fu.get rfl ?_;cbv;refine .of fu.get rfl ?_;cbv;refine .of (by omega) KY λyT CF hyT=>?_;cbv;refine .Hv <| cL CF (by omega) (λ_=>?_) λrT V6 _=>?_
       ·cbv;refine .nil ?_
        cbv;refine .qp (by omega) ?_;cbv;refine .flat rfl ?_;cbv;refine .flat rfl ?_;cbv;refine .of cy vP rfl rfl rfl rfl rfl rfl λhT CG qO CH=>?_;cbv;refine .of CG rfl ?_;cbv;exact hq _ j2 hT (by omega) (fu.mono qO (by simpa using Ne.symm Ie)) (bT.fr qO (λl hl=>by simp at hl;subst hl;exact .inl dt)) CH
       ·cbv;refine .nil ?_
        cbv;refine .um (by omega) ?_;cbv;refine fL fu λv hv=>?_;cbv;exact hx v h6 hv bT cy
      ·cbv;refine .nil ?_
       cbv;refine .flat rfl ?_;cbv;refine .flat rfl ?_;cbv;refine .of cy vP rfl rfl rfl rfl rfl rfl λhT CG qO CH=>?_;cbv;refine .of CG rfl ?_;cbv;exact hq _ j2 hT (by omega) (fu.mono qO (by simpa using Ne.symm Ie)) (bT.fr qO (λl hl=>by simp at hl;subst hl;exact .inl dt)) CH
     cbv;refine .gt (λq2=>?_) λq2=>?_
     ·cbv;refine .of follows 4 ?_
      cbv;refine .of fu.get rfl ?_;cbv;refine .of fu.get rfl ?_;cbv;refine .of λnT V4 hnT=>?_;cbv;refine .lt (λt1=>?_) λt1=>?_
      ·obtain ⟨cT,KY⟩:∃c,s[j2.toNat]? =some c:=⟨_,List.getElem?_eq_getElem (by omega)⟩
       have V5:=fu.at KY;cbv;refine .of fu.get rfl ?_;cbv;refine .of fu.get rfl ?_;cbv;refine .of (by omega) KY λyT CF hyT=>?_;cbv;refine .Hv <| cL CF (by omega) (λ_=>?_) λrT V6 _=>?_
       ·cbv;refine .nil ?_
        cbv;refine .qp (by omega) ?_;cbv;refine .flat rfl ?_;cbv;refine .flat rfl ?_;cbv;refine .of cy vP rfl rfl rfl rfl rfl rfl λhT CG qO CH=>?_;cbv;refine .of CG rfl ?_;cbv;exact hq _ j2 hT (by omega) (fu.mono qO (by simpa using Ne.symm Ie)) (bT.fr qO (λl hl=>by simp at hl;subst hl;exact .inl dt)) CH
       ·cbv;refine .nil ?_
        cbv;refine .um (by omega) ?_;cbv;refine fL fu λv hv=>?_;cbv;exact hx v h6 hv bT cy
      ·cbv;refine .nil ?_
       cbv;refine .flat rfl ?_;cbv;refine .flat rfl ?_;cbv;refine .of cy vP rfl rfl rfl rfl rfl rfl λhT CG qO CH=>?_;cbv;refine .of CG rfl ?_;cbv;exact hq _ j2 hT (by omega) (fu.mono qO (by simpa using Ne.symm Ie)) (bT.fr qO (λl hl=>by simp at hl;subst hl;exact .inl dt)) CH
     cbv;refine .eq (λq3=>?_) λq3=>?_
     ·cbv;refine .of follows 4 ?_
      cbv;refine .of fu.get rfl ?_;cbv;refine .of fu.get rfl ?_;cbv;refine .of λnT V4 hnT=>?_;cbv;refine .lt (λt1=>?_) λt1=>?_
      ·obtain ⟨cT,KY⟩:∃c,s[j2.toNat]? =some c:=⟨_,List.getElem?_eq_getElem (by omega)⟩
       have V5:=fu.at KY;cbv;refine .of fu.get rfl ?_;cbv;refine .of fu.get rfl ?_;cbv;refine .of (by omega) KY λyT CF hyT=>?_;cbv;refine .Hv <| cL CF (by omega) (λ_=>?_) λrT V6 _=>?_
       ·cbv;refine .nil ?_
        cbv;refine .qp (by omega) ?_;cbv;refine .flat rfl ?_;cbv;refine .flat rfl ?_;cbv;refine .of cy vP rfl rfl rfl rfl rfl rfl λhT CG qO CH=>?_;cbv;refine .of CG rfl ?_;cbv;exact hq _ j2 hT (by omega) (fu.mono qO (by simpa using Ne.symm Ie)) (bT.fr qO (λl hl=>by simp at hl;subst hl;exact .inl dt)) CH
       ·cbv;refine .nil ?_
        cbv;refine .um (by omega) ?_;cbv;refine fL fu λv hv=>?_;cbv;exact hx v h6 hv bT cy
      ·cbv;refine .nil ?_
       cbv;refine .flat rfl ?_;cbv;refine .flat rfl ?_;cbv;refine .of cy vP rfl rfl rfl rfl rfl rfl λhT CG qO CH=>?_;cbv;refine .of CG rfl ?_;cbv;exact hq _ j2 hT (by omega) (fu.mono qO (by simpa using Ne.symm Ie)) (bT.fr qO (λl hl=>by simp at hl;subst hl;exact .inl dt)) CH
     cbv;refine .of fu.get rfl ?_;cbv;refine .add (by omega) (by omega) λj3 X4=>?_;cbv;refine .of cy fu.get rfl rfl rfl rfl rfl rfl λh7 hg7 cH eu=>?_;cbv;exact ⟨rfl,s.length - j3.toNat,by omega,_,y6,j3,rfl,by omega,by omega,by omega,rfl,⟨hg7,by omega,by omega,qY,hp.Gp⟩,cH.get vP (by simpa using Ie),(bT.trans cH).mono (λl o _ hl=>by simpa using hl),eu⟩
    ·cbv;exact hx v h2 hv aO aN
  | false=>
    cbv;refine yF aM AE (λy1 c1 h3 agc X3 adg anU DE zA aF aR=>?_) λv hv=>?_
    ·have ug:=aF.get E7 (by simpa using Ie)
     have aJ:Mod h h3 [p]:=(Tw.trans aF).mono λl o _ hl=>by simpa using hl
     have as6:48<=y1/\y1<=57:=by simp at DE;omega
     cbv;refine .inv [p0,p2,p3,p4,p5,p6] (λm' aC h'=>∃(n y j:Int),aC=[.ptr p 0,.ptr lr 0,.bool false,.int .i64 n,.int .u8 y1,.int .u8 y]/\48<=y/\y<=57/\i<j/\m'=s.length - j.toNat/\lM h' p s j/\h'.get lr=some (.cells [.int .i64 0,.int .i64 0,.str [],.nilSlice 0,.nilSlice 0] bK 0 .yes)/\Mod h h' [p]/\Wf h') [_,_,_,_,_,_] rfl _ ⟨0,y1,i+1,rfl,by omega,by omega,by omega,rfl,zA,ug,aJ,aR⟩ ?_;rintro m' _ h4 ⟨n,y,j,rfl,NW,Rq,zO,dY,pH,xe,aD,aQ⟩;have adh:=pH.lo;have as7:=pH.hi;cbv;refine .af' (by omega) (by omega) λd hd=>?_;cbv;refine .i64 (by omega) (by omega) ?_;cbv;refine .of pH.get rfl ?_;cbv;refine .sub (by omega) (by omega) λj1 hj1=>?_;cbv;refine .of aQ pH.get rfl rfl rfl rfl rfl rfl λh5 we aY bH=>?_;have Hw:lM h5 p s j1:=⟨we,by omega,by omega,qY,hp.Gp⟩;have aL:Mod h h5 [p]:=(aD.trans aY).mono λl o _ hl=>by simpa using hl
     have Iu:=aY.get xe (by simpa using Ie);cbv;refine .sub (by omega) (by omega) λa1 ha1=>?_;cbv;refine .quo (by omega) (by omega) (by omega) λa2 ha2=>?_;cbv;refine .gt (λg1=>?_) λg1=>?_
     ·cbv;refine fL Hw λv hv=>?_
      cbv;exact hx v h5 hv aL bH
     cbv;refine .Zl λb1 cx=>?_;cbv;refine .FO λb2 cR=>?_;cbv;refine .of Hw.get rfl ?_;cbv;refine .add (by omega) (by omega) λj2 Ji=>?_;cbv;refine .of bH Hw.get rfl rfl rfl rfl rfl rfl λh6 Qu bP cy=>?_;have fu:lM h6 p s j2:=⟨Qu,by omega,by omega,qY,hp.Gp⟩;have bT:Mod h h6 [p]:=(aL.trans bP).mono λl o _ hl=>by simpa using hl
     have vP:=bP.get Iu (by simpa using Ie);cbv;refine .of follows 3 ?_;cbv;refine .of fu.get rfl ?_;cbv;refine .of fu.get rfl ?_;cbv;refine .of λn6 aiR RM=>?_;cbv;refine .eq (λe6=>?_) λe6=>?_
     ·cbv;refine .of follows 4 ?_
      cbv;refine .of fu.get rfl ?_;cbv;refine .of fu.get rfl ?_;cbv;refine .of λnT V4 hnT=>?_;cbv;refine .lt (λt1=>?_) λt1=>?_
      ·obtain ⟨cT,KY⟩:∃c,s[j2.toNat]? =some c:=⟨_,List.getElem?_eq_getElem (by omega)⟩
       have V5:=fu.at KY;cbv;refine .of fu.get rfl ?_;cbv;refine .of fu.get rfl ?_;cbv;refine .of (by omega) KY λyT CF hyT=>?_;cbv;refine .Hv <| cL CF (by omega) (λ_=>?_) λrT V6 _=>?_
       ·cbv;refine .nil ?_
        cbv;refine .qp (by omega) ?_;cbv;refine .flat rfl ?_;cbv;refine .flat rfl ?_;cbv;refine .of cy vP rfl rfl rfl rfl rfl rfl λhT CG qO CH=>?_;cbv;refine .of CG rfl ?_;cbv;exact hq _ j2 hT (by omega) (fu.mono qO (by simpa using Ne.symm Ie)) (bT.fr qO (λl hl=>by simp at hl;subst hl;exact .inl dt)) CH
       ·cbv;refine .nil ?_
        cbv;refine .um (by omega) ?_;cbv;refine fL fu λv hv=>?_;cbv;exact hx v h6 hv bT cy
      ·cbv;refine .nil ?_
       cbv;refine .flat rfl ?_;cbv;refine .flat rfl ?_;cbv;refine .of cy vP rfl rfl rfl rfl rfl rfl λhT CG qO CH=>?_;cbv;refine .of CG rfl ?_;cbv;exact hq _ j2 hT (by omega) (fu.mono qO (by simpa using Ne.symm Ie)) (bT.fr qO (λl hl=>by simp at hl;subst hl;exact .inl dt)) CH
     obtain ⟨c6,hc6⟩:∃c,s[j2.toNat]? =some c:=⟨_,List.getElem?_eq_getElem (by omega)⟩;cbv;refine .of follows 3 ?_;cbv;refine .of fu.get rfl ?_;cbv;refine .of fu.get rfl ?_;cbv;refine .of (by omega) hc6 λy6 as8 hy6=>?_;cbv;refine .lt (λq1=>?_) λq1=>?_
     ·cbv;refine .of follows 4 ?_
      cbv;refine .of fu.get rfl ?_;cbv;refine .of fu.get rfl ?_;cbv;refine .of λnT V4 hnT=>?_;cbv;refine .lt (λt1=>?_) λt1=>?_
      ·obtain ⟨cT,KY⟩:∃c,s[j2.toNat]? =some c:=⟨_,List.getElem?_eq_getElem (by omega)⟩
       have V5:=fu.at KY;cbv;refine .of fu.get rfl ?_;cbv;refine .of fu.get rfl ?_;cbv;refine .of (by omega) KY λyT CF hyT=>?_;cbv;refine .Hv <| cL CF (by omega) (λ_=>?_) λrT V6 _=>?_
       ·cbv;refine .nil ?_
        cbv;refine .qp (by omega) ?_;cbv;refine .flat rfl ?_;cbv;refine .flat rfl ?_;cbv;refine .of cy vP rfl rfl rfl rfl rfl rfl λhT CG qO CH=>?_;cbv;refine .of CG rfl ?_;cbv;exact hq _ j2 hT (by omega) (fu.mono qO (by simpa using Ne.symm Ie)) (bT.fr qO (λl hl=>by simp at hl;subst hl;exact .inl dt)) CH
       ·cbv;refine .nil ?_
        cbv;refine .um (by omega) ?_;cbv;refine fL fu λv hv=>?_;cbv;exact hx v h6 hv bT cy
      ·cbv;refine .nil ?_
       cbv;refine .flat rfl ?_;cbv;refine .flat rfl ?_;cbv;refine .of cy vP rfl rfl rfl rfl rfl rfl λhT CG qO CH=>?_;cbv;refine .of CG rfl ?_;cbv;exact hq _ j2 hT (by omega) (fu.mono qO (by simpa using Ne.symm Ie)) (bT.fr qO (λl hl=>by simp at hl;subst hl;exact .inl dt)) CH
     cbv;refine .gt (λq2=>?_) λq2=>?_
     ·cbv;refine .of follows 4 ?_
      cbv;refine .of fu.get rfl ?_;cbv;refine .of fu.get rfl ?_;cbv;refine .of λnT V4 hnT=>?_;cbv;refine .lt (λt1=>?_) λt1=>?_
      ·obtain ⟨cT,KY⟩:∃c,s[j2.toNat]? =some c:=⟨_,List.getElem?_eq_getElem (by omega)⟩
       have V5:=fu.at KY;cbv;refine .of fu.get rfl ?_;cbv;refine .of fu.get rfl ?_;cbv;refine .of (by omega) KY λyT CF hyT=>?_;cbv;refine .Hv <| cL CF (by omega) (λ_=>?_) λrT V6 _=>?_
       ·cbv;refine .nil ?_
        cbv;refine .qp (by omega) ?_;cbv;refine .flat rfl ?_;cbv;refine .flat rfl ?_;cbv;refine .of cy vP rfl rfl rfl rfl rfl rfl λhT CG qO CH=>?_;cbv;refine .of CG rfl ?_;cbv;exact hq _ j2 hT (by omega) (fu.mono qO (by simpa using Ne.symm Ie)) (bT.fr qO (λl hl=>by simp at hl;subst hl;exact .inl dt)) CH
       ·cbv;refine .nil ?_
        cbv;refine .um (by omega) ?_;cbv;refine fL fu λv hv=>?_;cbv;exact hx v h6 hv bT cy
      ·cbv;refine .nil ?_
       cbv;refine .flat rfl ?_;cbv;refine .flat rfl ?_;cbv;refine .of cy vP rfl rfl rfl rfl rfl rfl λhT CG qO CH=>?_;cbv;refine .of CG rfl ?_;cbv;exact hq _ j2 hT (by omega) (fu.mono qO (by simpa using Ne.symm Ie)) (bT.fr qO (λl hl=>by simp at hl;subst hl;exact .inl dt)) CH
     cbv;refine .eq (λq3=>?_) λq3=>?_
     ·cbv;refine .of follows 4 ?_
      cbv;refine .of fu.get rfl ?_;cbv;refine .of fu.get rfl ?_;cbv;refine .of λnT V4 hnT=>?_;cbv;refine .lt (λt1=>?_) λt1=>?_
      ·obtain ⟨cT,KY⟩:∃c,s[j2.toNat]? =some c:=⟨_,List.getElem?_eq_getElem (by omega)⟩
       have V5:=fu.at KY;cbv;refine .of fu.get rfl ?_;cbv;refine .of fu.get rfl ?_;cbv;refine .of (by omega) KY λyT CF hyT=>?_;cbv;refine .Hv <| cL CF (by omega) (λ_=>?_) λrT V6 _=>?_
       ·cbv;refine .nil ?_
        cbv;refine .qp (by omega) ?_;cbv;refine .flat rfl ?_;cbv;refine .flat rfl ?_;cbv;refine .of cy vP rfl rfl rfl rfl rfl rfl λhT CG qO CH=>?_;cbv;refine .of CG rfl ?_;cbv;exact hq _ j2 hT (by omega) (fu.mono qO (by simpa using Ne.symm Ie)) (bT.fr qO (λl hl=>by simp at hl;subst hl;exact .inl dt)) CH
       ·cbv;refine .nil ?_
        cbv;refine .um (by omega) ?_;cbv;refine fL fu λv hv=>?_;cbv;exact hx v h6 hv bT cy
      ·cbv;refine .nil ?_
       cbv;refine .flat rfl ?_;cbv;refine .flat rfl ?_;cbv;refine .of cy vP rfl rfl rfl rfl rfl rfl λhT CG qO CH=>?_;cbv;refine .of CG rfl ?_;cbv;exact hq _ j2 hT (by omega) (fu.mono qO (by simpa using Ne.symm Ie)) (bT.fr qO (λl hl=>by simp at hl;subst hl;exact .inl dt)) CH
     cbv;refine .of fu.get rfl ?_;cbv;refine .add (by omega) (by omega) λj3 X4=>?_;cbv;refine .of cy fu.get rfl rfl rfl rfl rfl rfl λh7 hg7 cH eu=>?_;cbv;exact ⟨rfl,s.length - j3.toNat,by omega,_,y6,j3,rfl,by omega,by omega,by omega,rfl,⟨hg7,by omega,by omega,qY,hp.Gp⟩,cH.get vP (by simpa using Ie),(bT.trans cH).mono (λl o _ hl=>by simpa using hl),eu⟩
    ·cbv;exact hx v h1 hv Tw aM
 ·cbv;exact hx v h1 hv (ar.mono λl o _ hl=>by simp at hl) aM
end K
