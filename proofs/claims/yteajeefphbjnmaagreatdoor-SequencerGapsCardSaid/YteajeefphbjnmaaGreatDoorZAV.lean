/-
  The sequencer's laws. Part ZAV of the proof: strings.Builder: WriteByte, WriteString, Len, String.
-/
import Derived.Shelf.LaysM
import Derived.Shelf.Strconv.Itoa3
import Derived.Shelf.Strings.Repeat
import Derived.Shelf.Strings.OnBuilder
import Derived.Shelf.Strconv.Itoa4
import Derived.Test.YteajeefphbjnmaaGreatDoorZAU
import Derived.Test.YteajeefphbjnmaaGreatDoorZAA
import Derived.Test.YteajeefphbjnmaaGreatDoorZAR
import Derived.Test.YteajeefphbjnmaaGreatDoorZAT
namespace K
open Go Go.Dx Go.RowKit Go.Proofs
set_option maxRecDepth 100000
structure Nj (h:H)(l:Lb)(bv:V)(t:List Nat):Prop where
 get:h.get l=some (.cells [.nilPtr,bv] kV 0 .yes)\/h.get l=some (.cells [.ptr l 0,bv] kV 0 .yes)
 own:aE h 5 1 bv t.length (ae t)
 UD:l∉af bv
 Gp:∀b∈t,b<256
theorem Nj.mono {h h':H}{F:List Lb}{l:Lb}{bv:V}{t:List Nat}(b:Nj h l bv t)(m:Mod h h' F)(n1:l∉F:=by simp) (n2:∀x,x∈af bv->x∉F:=by simp):Nj h' l bv t:=
 ⟨b.get.imp (λe=>m.get e n1) (λe=>m.get e n1),b.own.mono m n2,b.UD,b.Gp⟩
theorem Nj.live {h:H}{l:Lb}{bv:V}{t:List Nat}(b:Nj h l bv t):∃o,h.get l=some o:=b.get.elim (λe=>⟨_,e⟩) λe=>⟨_,e⟩
theorem QC:∀l:Lb,na l l=true
 | []=>rfl
 | true::l=>QC l
 | false::l=>QC l
theorem akf:cb Tryz.prog 225 Extern.AbiNoEscape.same:=⟨⟨_,Tryz.func225,by kernel_rfl,by kernel_rfl,by kernel_rfl,by kernel_rfl⟩⟩
theorem agk {v:V}{h:H}{Q:V->H->Prop} (q:Q v h):CW pf G0 225 [v] h Q:=.ext (SM akf) rfl q
theorem _root_.Go.Dx.uS.whole {h:H}{u:TypeId}{n:Nat}{l:Lb}{vs:List V}{fz:Nat}{own:Own}{K:V->Prop} (hl:h.get l=some (.cells vs u fz own)) (hn:vs.length=n) (k:K (.ptr l 0)):uS h (.whole u n l 0) K:=
 ⟨_,by subst hn;simp only [Q.ask,hl,Nat.beq_refl,Bool.and_self,bN],k⟩
theorem TJ {h:H}{l:Lb}{bv:V}{t:List Nat}(hw:Wf h)(b:Nj h l bv t){Q:V->H->Prop} (hq:∀h',h'.get l=some (.cells [.ptr l 0,bv] kV 0 .yes)->Mod h h' [l]->Wf h'->Q (.tuple []) h'):CW pf G0 gO [.ptr l 0] h Q:=by
 refine pE.enter (by kernel_rfl) ?_;rcases b.get with hg | hg
 ·cbv;refine .of hg rfl ?_
  cbv;refine .row hg (by simp) ?_;cbv;refine agk ?_;cbv;refine .whole hg rfl ?_;cbv;refine .of hw hg rfl rfl rfl rfl rfl rfl λh1 Mf ar aM=>?_;cbv;exact hq h1 Mf ar aM
 ·cbv;refine .of hg rfl ?_
  cbv;refine .of hg rfl ?_;cbv;refine .is (v:=.bool false) (λ_=>?_) ?_
  ·have e:na l l=true:=QC l
   simp [Dx.binOp,Dx.Je,Dx.xD,e,ob,bN]
  cbv;exact hq h hg (Mod.refl _ _) hw
theorem gR {h:H}{l:Lb}{bv:V}{t:List Nat}{c:Int}(hw:Wf h)(b:Nj h l bv t)(ht:t.length<=200000000)(hc0:0<=c)(hc:c.toNat<256){Q:V->H->Prop} (hq:∀Nk h',Nj h' l Nk (t++[c.toNat])->Grow h bv Nk->Mod h h' (l::af bv)->Wf h'->Q .nilIface h'):CW pf G0 gP [.ptr l 0,.int .u8 c] h Q:=by
 obtain ⟨n,rfl⟩:=Int.eq_ofNat_of_zero_le hc0;have hc:n<256:=by simpa using hc
 replace hq:∀Nk h',Nj h' l Nk (t++[n])->Grow h bv Nk->Mod h h' (l::af bv)->Wf h'->Q .nilIface h':=hq
 have dw:[V.int .u8 (n:Int)]=ae [n]:=rfl;generalize hx:(n:Int)=x at*;refine pF.enter (by kernel_rfl) ?_;cbv;refine TJ hw b λh1 Mf ar aM=>?_;have MA:=b.own.mono ar (fk b.UD);cbv;refine .of Mf rfl ?_;cbv;refine .flat rfl ?_;cbv;refine .of aM λl2 h2 jc Bo aq aN=>?_;cbv;refine .own aN (MA.mono aq) (m:=1) (new:=[.int .u8 x]) (by simp only [de,jc];rfl) rfl rfl (by unfold bz;omega) (by decide) λbv3 h3 fT Og aF aR=>?_;have hgl:=aF.get (aq.get Mf) b.UD;rw [dw,<-aK,show t.length+1=(t++[n]).length from by simp] at fT;have hn3:l∉af bv3:=Og.dG (aq.get Mf) b.UD;cbv;refine .one aR hgl fT.sl.flat rfl rfl rfl λh4 Oo aD aQ=>?_;have hgr:Grow h bv bv3:=λy hy=>(Og y hy).imp (λe=>by
  cases e':h.get y with
  | none=>rfl
  | some o=>
    by_cases Wh:y=l
    ·subst Wh;exact absurd hy hn3
    ·rw [aq.get (ar.get e' (by simpa using Wh))] at e;cases e) id
 cbv;refine hq bv3 h4 ⟨.inr Oo,fT.mono aD (fk hn3),hn3,λy hy=>(List.mem_append.1 hy).elim (b.Gp y) λhy=>by simp at hy;omega⟩ hgr ?_ aQ;exact (((ar.trans aq).trans aF).trans aD).mono λy o _ hy=>by
  simp only [List.mem_append,List.mem_cons,List.not_mem_nil,or_false] at hy ⊢;rcases hy with (hy | hy) | hy
  ·exact .inl hy
  ·exact .inr hy
  ·exact .inl hy
theorem X9 {h:H}{l:Lb}{bv:V}{t s:List Nat}(hw:Wf h)(b:Nj h l bv t)(ht:t.length<=200000000)(hs:s.length<=20000000)(hb:∀c∈s,c<256) {Q:V->H->Prop} (hq:∀(n:Int) Nk h',Nj h' l Nk (t++s)->Grow h bv Nk->Mod h h' (l::af bv)->Wf h'->Q (.tuple [.int .i64 n,.nilIface]) h'):CW pf G0 fR [.ptr l 0,.str s] h Q:=by
 refine nN.enter (by kernel_rfl) ?_;cbv;refine TJ hw b λh1 Mf ar aM=>?_;have MA:=b.own.mono ar (fk b.UD);cbv;refine .of Mf rfl ?_;cbv;refine .own aM MA (m:=s.length) (new:=ae s) rfl (by simp [bp]) (az s) (by unfold bz;omega) (by decide) λbv3 h3 fT Og aF aR=>?_;have hgl:=aF.get Mf b.UD;rw [<-aK,show t.length+s.length=(t++s).length from by simp] at fT;have hn3:l∉af bv3:=Og.dG Mf b.UD;cbv;refine .one aR hgl fT.sl.flat rfl rfl rfl λh4 Oo aD aQ=>?_;have hgr:Grow h bv bv3:=λy hy=>(Og y hy).imp (λe=>by
  cases e':h.get y with
  | none=>rfl
  | some o=>
    by_cases Wh:y=l
    ·subst Wh;exact absurd hy hn3
    ·rw [ar.get e' (by simpa using Wh)] at e;cases e) id
 cbv;refine .of λn eT hn=>?_;cbv;refine hq n bv3 h4 ⟨.inr Oo,fT.mono aD (fk hn3),hn3,λy hy=>(List.mem_append.1 hy).elim (b.Gp y) (hb y)⟩ hgr ?_ aQ;exact ((ar.trans aF).trans aD).mono λy o _ hy=>by
  simp only [List.mem_append,List.mem_cons,List.not_mem_nil,or_false] at hy ⊢;rcases hy with (hy | hy) | hy
  ·exact .inl hy
  ·exact .inr hy
  ·exact .inl hy
theorem akh {h:H}{l:Lb}{bv:V}{t:List Nat}(b:Nj h l bv t){Q:V->H->Prop} (hq:∀n:Int,0<=n->n.toNat=t.length->Q (.int .i64 n) h):CW pf G0 lT [.ptr l 0] h Q:=by
 refine wS.enter (by kernel_rfl) ?_;rcases b.get with hg | hg<;>(
  cbv;refine .of hg rfl ?_;cbv;refine .of b.own.sl λn eT hn=>?_;cbv;exact hq n eT hn)
theorem _root_.Go.Dx.PdN.mq {pf:Unit->Program} {x:X} {tp:T V} {v r:V} {K:V->Prop} (hx:x.Vz tp=some v) (hr:nh v=some r) (hk:K r):PdN pf (.mq x) tp K:=
 ⟨λtm s=>⟨r,by simp only [PD.eval,sr s hx,hr],hk⟩⟩
theorem ZX:∀(t:List Nat) (k:Nat),k=t.length->takeN k (ae t)=some (ae t):=λt k e=>by subst e;rw [<-bp t];exact pM _
theorem _root_.Go.Dx.EdN.mr {h:H}{x n:X}{tp:T V}{r:Lb}{m:Int}{t:List Nat}{K:V->H->Prop} (hw:Wf h) (hx:x.Vz tp=some (.ptr r 0)) (hn:n.Vz tp=some (.int .i64 m)) (h0:0<=m) (hm:m.toNat=t.length) (hp:0<t.length) (hs:t.length<=1048576) (hg:h.get r=some (.cells (ae t) 5 0 .yes)) (hb:∀b∈t,b<256)
  (hk:∀h',Mod h h' [r]->Wf h'->K (.str t) h'):EdN (.mr 5 x n) tp h K:=by
 obtain ⟨k,rfl⟩:∃k:Nat,m=Int.ofNat (k+1):=by
  refine ⟨m.toNat - 1,?_⟩;have:m=((m.toNat - 1+1:Nat):Int):=by omega
  exact this
 have Xq:k+1=t.length:=by simpa using hm
 obtain ⟨b1,b2,b3⟩:=H.eM hw hg rfl (.cells (ae t) 5 (Nat.max 0 (k+1)) .yes);refine ⟨λtm s=>⟨.str t,_,?_,hk _ b2 b3⟩⟩;show uE h 5 (x.ev tm) (n.ev tm)=_
 rw [sr s hx,sr s hn];simp only [uE,hg,Nat.beq_refl,Bool.true_and,show Nat.ble k 1048576=true from Nat.ble_eq_true_of_le (by omega),bN,ZX t (k+1) Xq,ob,yE t hb]
theorem ZY {h:H}{l:Lb}{bv:V}{t:List Nat}(hw:Wf h)(b:Nj h l bv t)(hp:0<t.length)(hs:t.length<=1048576){Q:V->H->Prop} (hq:∀h',Mod h h' (af bv)->Wf h'->Q (.str t) h'):CW pf G0 jr [.ptr l 0] h Q:=by
 have mD:=b.own.sl;have Nc:∃r,af bv=[r]/\h.get r=some (.cells (ae t) 5 0 .yes)/\nh bv=some (.ptr r 0):=by
  have ho:=b.own;generalize jQ:ae t=cs at ho;generalize UE:t.length=ln at ho hp;cases ho with
  | nil=>omega
  | @ends r _ _ hg hl=>
    obtain ⟨k,rfl⟩:∃k,ln=k+1:=⟨ln - 1,by omega⟩;exact ⟨r,rfl,hg,rfl⟩
  | @exact r _ _ hg hl=>
    obtain ⟨k,rfl⟩:∃k,ln=k+1:=⟨ln - 1,by omega⟩;exact ⟨r,rfl,hg,rfl⟩
 obtain ⟨r,TE,qN,ug⟩:=Nc;rw [TE] at hq;have hb:=b.Gp;refine sF.enter (by kernel_rfl) ?_;rcases b.get with hg | hg<;>(
  cbv;refine .of follows 4 ?_;cbv;refine .of hg rfl ?_;cbv;refine .mq rfl ug ?_;cbv;refine .of hg rfl ?_;cbv;refine .of mD λn eT hn=>?_;cbv;refine .mr hw rfl rfl eT hn hp hs qN hb λh' dY cG=>?_;cbv;refine .nil ?_;cbv;exact hq h' dY cG)
end K
namespace Go.Proofs
open Go.Shelf
theorem Tryz.EP:Builder.Extra Tryz.prog Tryz.GR:={
 sizeBuilder:=by kernel_rfl
 liesBuilder:=by kernel_rfl
 t5:=Tryz.Dk.t5
 a5:=Tryz.Dk.a5
 z5:=Tryz.Dk.z5
 v5:=Tryz.Dk.v5
 infoByte:=by kernel_rfl
 cellsByte:=by kernel_rfl
 sizeByte:=by kernel_rfl
 neB5:=by decide}
end Go.Proofs
namespace K
open Go Go.Dx Go.RowKit Go.Proofs
def dec (n:Int):List Nat:=(Lib.itoa n).map (·.toNat)
theorem vC (l:List UInt8):ax ⟨l.toArray⟩=l.map (·.toNat):=by simp [ax]
theorem QD {h:H}{n:Int}(h0:-9223372036854775808<=n)(h1:n<=9223372036854775807){Q:V->H->Prop} (hq:Q (.str (dec n)) h):CW pf G0 KF [.int .i64 n] h Q:=by
 refine .text Tryz.func54 rfl rfl λ{B w0 ρ w xs} R hG hx=>?_;cases hx with
 | cons r t=>
   cases r;cases t;refine (Any.strconv_Itoa Tryz.abQ n h0 h1 w (hG.pow w R.below)).mono λe w' ⟨he,k,os,hw⟩=>⟨_,he,?_,?_⟩
   ·subst hw
    refine ⟨rfl,rfl,rfl,?_,λi hi=>?_⟩
    ·simp [«Sort».grow]
    ·simp only [«Sort».grow]
     rw [Array.getElem?_append_left (by exact hi)];rfl
   ·rw [vC];exact hq
theorem ER (t:ByteArray):∀m,(Lib.repeatL t.data.toList m).map (·.toNat)=(List.replicate m (ax t)).flatten
 | 0=>rfl
 | m+1=>by rw [List.replicate_succ,List.flatten_cons,<-ER t m,Lib.repeatL,List.map_append];rfl
theorem Wi (t:ByteArray):(ax t).length=t.size:=by unfold ax;rw [List.length_map];rfl
theorem Ot {h:H}{c:Int}{s:List Nat}(h0:0<=c)(h1:c<=1000000)(hs:s.length<=1000000){Q:V->H->Prop} (hq:∀r,r=(List.replicate c.toNat s).flatten->Q (.str r) h):CW pf G0 FT [.str s,.int .i64 c] h Q:=by
 refine .text Tryz.func61 rfl rfl λ{B w0 ρ w xs} R hG hx=>?_;cases hx with
 | cons r t=>
   cases t with
   | cons r2 t=>
     cases t;cases r2;cases r with
     | str t=>
     obtain ⟨m,rfl⟩:=Int.eq_ofNat_of_zero_le h0;have ft:t.size<=1000000:=by
      have:(ax t).length=t.size:=Wi t;omega
     refine (Any.strings_Repeat Tryz.Dk Tryz.EP t m w (by omega) ?_).mono λe w' ⟨he,hB⟩=>⟨_,he,hB,hq _ ?_⟩
     ·have:t.size*m<=1000000*1000000:=Nat.mul_le_mul ft (by omega)
      omega
     ·rw [vC]
      exact ER t m
end K
namespace Go.Proofs
open Go.Shelf
theorem Tryz.r9:Builder.Extra Tryz.prog Tryz.GU:={
 sizeBuilder:=by kernel_rfl
 liesBuilder:=by kernel_rfl
 t5:=by kernel_rfl
 a5:=λw=>by kernel_rfl
 z5:=λw=>by kernel_rfl
 v5:=λw=>by kernel_rfl
 infoByte:=by kernel_rfl
 cellsByte:=by kernel_rfl
 sizeByte:=by kernel_rfl
 neB5:=by decide}
end Go.Proofs
namespace K
open Go Go.Dx Go.RowKit Go.Proofs
set_option maxRecDepth 100000
theorem QE {h:H}{n:Int}(h0:-9223372036854775808<=n)(h1:n<=9223372036854775807){Q:V->H->Prop} (hq:Q (.str (dec n)) h):CW pf G0 zS [.int .i64 n,.int .i64 10] h Q:=by
 refine .text Tryz.func206 rfl rfl λ{B w0 ρ w xs} R hG hx=>?_;obtain ⟨x1,x2,rfl,r1,r2⟩:=hx.two;cases r1;cases r2;refine (Any.strconv_FormatInt_10 Tryz.abR n h0 h1 w (hG.pow w R.below)).mono λe w' ⟨he,k,os,hw⟩=>⟨_,he,?_,?_⟩
 ·subst hw
  refine ⟨rfl,rfl,rfl,?_,λi hi=>?_⟩
  ·simp [«Sort».grow]
  ·simp only [«Sort».grow]
   rw [Array.getElem?_append_left (by exact hi)];rfl
 ·rw [vC];exact hq
theorem vD {ρ:bE}{b:dZ}{w:World}:∀{l:List (List Nat)} {row:List V} {off n:Nat} {e:TypeId} {fz:Nat} {own:Own},dO ρ b row e fz own w->n=l.length->rowFrom row off n=some (strs l)->∃xs:List ByteArray,xs.map ax=l/\∀(j:Nat) x,xs[j]? =some x->w.cell? ⟨b.block,b.base+off+j,none⟩=some (.string x)
 | [],row,off,n,e,fz,own,c,hn,hr=>⟨[],rfl,λj x h=>by simp at h⟩
 | s::l,row,off,n,e,fz,own,c,hn,hr=>by
   subst hn;have B8:=hr;obtain ⟨g1,g2,g3⟩:=rG hr;have h0:=g3 0 (by simp);simp only [strs,List.getElem?_cons_zero,Nat.add_zero] at h0;obtain ⟨x,uf,lH⟩:=c.cell off _ h0.symm;have Lh:rowFrom row (off+1) l.length=some (strs l):=by
    refine Hg hr (i:=1) (m:=l.length) ?_ (by simp;omega);simp only [strs,rowFrom,bB];have:=pM (strs l)
    rwa [ep] at this
   obtain ⟨xs,aun,auo⟩:=vD c rfl Lh;cases lH with
   | str t=>
     refine ⟨t::xs,by simp [aun],λj y hj=>?_⟩;cases j with
     | zero=>simp at hj;subst hj;simpa [cZ,Nat.add_assoc] using uf
     | succ j=>
       have:=auo j y (by simpa using hj);rw [show b.base+off+(j+1)=b.base+(off+1)+j by omega];exact this
theorem agl {h:H}{v:V}{l:List (List Nat)}(hr:Ro h 1 v l.length (strs l))(hl:l.length<=12)(hs:∀s∈l,s.length<=64) {Q:V->H->Prop} (hq:∀t:List Nat,t.length<=1000->Q (.str t) h):CW pf G0 ye [v,.str []] h Q:=by
 refine .text Tryz.func279 rfl rfl λ{B w0 ρ w xs} R hG hx=>?_;obtain ⟨x1,x2,rfl,r1,r2⟩:=hx.two;have aki:∃t:ByteArray,x2 = .string t/\t.data.toList=[]:=by
  generalize hz:([]:List Nat)=z at r2;cases r2 with
  | str t=>exact ⟨t,rfl,by unfold ax at hz;simpa using hz.symm⟩
 obtain ⟨sep,rfl,aki⟩:=aki;have key:∀(ys:List ByteArray),ys.map ax=l->(Lib.join (ys.map (·.data.toList)) sep.data.toList).length<=1000:=λys hys=>by
  rw [aki];have hlen:∀(zs:List ByteArray),(∀z∈zs,z.data.toList.length<=64)->(Lib.join (zs.map (·.data.toList)) []).length<=64*zs.length:=λzs hz=>by
   cases zs with
   | nil=>simp [Lib.join,List.intercalate]
   | cons z zs=>
     rw [List.map_cons,Lib.join_length];have:∀us:List ByteArray,(∀z∈us,z.data.toList.length<=64)->Lib.lens (us.map (·.data.toList))<=64*us.length:=λus=>by
      induction us with
      | nil=>intro _;simp [Lib.lens]
      | cons u us ih=>
        intro hu;have h1:=hu u (List.mem_cons_self ..);have h2:=ih λz hz=>hu z (List.mem_cons_of_mem _ hz);simp only [Lib.lens,List.map_cons,List.sum_cons,List.length_cons] at h2 ⊢;omega
     have:=this (z::zs) hz;simp only [List.map_cons,List.length_cons,List.length_nil,Nat.zero_mul] at this ⊢;omega
  have h1:=hlen ys λz hz=>by
   have:ax z∈l:=hys▸List.mem_map_of_mem hz;have:=hs _ this;simpa [ax] using this
  have h2:ys.length=l.length:=by rw [<-hys,List.length_map]
  omega
 have fin:∀(bk o c:Nat) (ys:List ByteArray),ys.map ax=l->(∀(j:Nat) x,ys[j]? =some x->w.cell? ⟨bk,o+j,none⟩=some (.string x))->bk<w.heap.size->ys.length<=c->
   Calls (pf ()) ye ⟨[.slice (some ⟨bk,o,none⟩) l.length c,.string sep]⟩ w λe w'=>∃t,e = .returned (.string t)/\Below w.heap.size w w'/\Q (.str (ax t)) h:=λbk o c ys hys hc hb wm=>by
  have UE:l.length=ys.length:=by rw [<-hys,List.length_map]
  have hk:=key ys hys;rw [UE];exact (Any.strings_Join Tryz.Xw Tryz.r9 bk o c ys sep w hc hb (by omega) wm (by omega)).mono λe w' ⟨he,hB⟩=>⟨_,he,hB,by rw [vC];exact hq _ (by rw [List.length_map];exact hk)⟩
 generalize jQ:strs l=cs at hr;generalize vB:l.length=n at hr;cases hr with
 | nil=>
   cases r1 with
   | nilSlice c=>
     have:l=[]:=by cases l with | nil=>rfl | cons a b=>cases jQ
     subst this;exact (Any.strings_Join_none Tryz.Xw Tryz.r9 none 0 sep w).mono λe w' ⟨he,hw⟩=>⟨_,he,hw▸Below.refl _ _,hq _ (by simp [ax])⟩
 | @row q off _ cap row _ e fz hg hr hc=>
   subst vB;rw [Nat.mul_one] at hr;cases r1 with
   | @slice _ b _ _ c hb=>
     obtain ⟨ys,NW,Rq⟩:=vD (R.obj q b _ hb hg:dO ρ b row e fz .no w) rfl (jQ▸hr);exact fin b.block (b.base+off) c ys NW Rq (R.obj q b _ hb hg:sf ρ b w _).lt (by have:l.length<=c:=hc;rw [<-NW,List.length_map] at this;exact this)
   | @sliceEnd _ b _ _ size c hb jc E5=>
     obtain ⟨ys,NW,Rq⟩:=vD (R.obj q b _ hb hg:dO ρ b row e fz .no w) rfl (jQ▸hr);exact fin b.block (b.base+off) c ys NW Rq (R.obj q b _ hb hg:sf ρ b w _).lt (by rw [<-NW,List.length_map] at jc;exact jc)
end K
namespace K
open Go Go.Dx Go.RowKit Go.Proofs
set_option maxRecDepth 100000
def i64 (n:Int):Prop:=-9223372036854775808<=n/\n<=9223372036854775807
inductive Lay:Js->Prop
 | int {i:Int} {t:List Nat} {ns:List (List Nat)} {its:List Js} (h:i64 i):Lay (.mk 2 i t ns its)
 | text {i:Int} {t:List Nat} {ns:List (List Nat)} {its:List Js}:Lay (.mk 3 i t ns its)
 | obj {i:Int} {t:List Nat} {ns:List (List Nat)} {its:List Js} (hl:ns.length=its.length) (hs:ns.length<=12) (hn:∀s∈ns,s.length<=64) (hi:∀x∈its,Lay x):Lay (.mk 5 i t ns its)
theorem adF {h:H}{v:V}{l:List (List Nat)}(hw:Wf h)(hr:Ro h 1 v l.length (strs l))(hl:l.length<=100000)(hb:∀s∈l,bt s) {Q:V->H->Prop} (hq:∀b h',Mod h h' []->Wf h'->Q (.bool b) h'):CW pf G0 Bb [v] h Q:=by
 refine M7.enter (by kernel_rfl) ?_;cbv;refine oE.enter (by kernel_rfl) ?_;cbv;refine rj.enter (by kernel_rfl) ?_;cbv;refine .of hr.sl λn eT hn=>?_;cbv;refine .inv [p0,p1,p6,p7,p8] (λm' aC h'=>∃i:Int,aC=[v,.func 299 [] [],v,.int .i64 n,.int .i64 i]/\0<=i/\i.toNat<=l.length/\m'=l.length - i.toNat/\Mod h h' []/\Wf h') [_,_,_,_,_] rfl _ ⟨0,rfl,by omega,by simp,rfl,Mod.refl _ _,hw⟩ ?_;rintro m' _ h' ⟨i,rfl,jG,hi,dY,hm,cG⟩;cbv;refine .lt (λbA=>?_) λjb=>?_
 ·obtain ⟨x,hx⟩:∃x,l[i.toNat]? =some x:=⟨_,List.getElem?_eq_getElem (by omega)⟩
  have hbx:=hb x (List.mem_of_getElem? hx);cbv;refine .of (hr.mono hm).sl jG rfl (by omega) (eQ hx) λq off he=>?_;cbv;refine .gH he 0 rfl ?_;cbv;refine ⟨299,[],[],rfl,?_⟩;refine Ic.enter (by kernel_rfl) ?_;cbv;refine .of cG (by have:=hbx.1;omega) λbv h2 yZ aq aN=>?_;cbv;refine mL yZ (by have:=hbx.1;omega) λr=>?_;have aO:Mod h h2 []:=(hm.trans aq).mono λl o _ hl=>by simp at hl
  cbv;refine .ge (λe=>?_) λe=>?_
  ·cbv;refine .ge (λe2=>?_) λe2=>?_
   ·cbv;exact hq _ h2 aO aN
   ·cbv;exact hq _ h2 aO aN
  ·cbv;refine .add (by omega) (by omega) λj hj=>?_
   cbv;exact ⟨rfl,l.length - j.toNat,by omega,j,rfl,by omega,by omega,rfl,aO,aN⟩
 ·cbv;refine .qp (by omega) ?_
  cbv;exact hq _ h' hm cG
theorem TK {k i:Int}{tx:List Nat}{ns:List (List Nat)}{its:List Js}{h:H}{cs:List V}(hw:Wf h)(hj:nS h (.mk k i tx ns its) cs)(hl:Lay (.mk k i tx ns its)){Q:V->H->Prop} (bq:∀h',Mod h h' []->Wf h'->Q (.bool false) h') (bw:∀h',(k≠5->ns.length=0/\its.length=0)->Mod h h' []->Wf h'->Q (.bool true) h'):CW pf G0 Ba [.agg cs] h Q:=by
 cases hj with
 | @mk _ _ _ _ _ nv iv rows ht CT Na UC h5 vB hi hr=>
 refine M5.enter (by kernel_rfl) ?_;cbv;refine .agg ?_;cbv;refine .of hw λlb h1 cx gG ar aM=>?_;have Fj:=vB.mono ar;have Fa:=hi.mono ar;cbv;refine .of cx rfl ?_;cases hl with
 | int agn=>
   cbv;refine .cP (by omega) ?_;cbv;refine .cP (by omega) ?_;cbv;refine .mY (by omega) ?_;cbv;refine .of cx rfl ?_;cbv;refine .seq (λe1=>?_) λe1=>?_
   ·cbv;refine .of cx rfl ?_
    cbv;refine .of Fj.sl λa ha0 ha=>?_;cbv;refine .of cx rfl ?_;cbv;refine .of Fa.sl λb fC hb=>?_;cbv;refine .add (by omega) (by omega) λc hc=>?_;cbv;refine .eq (λe2=>?_) λe2=>?_
    ·cbv;exact bw h1 (λ_=>⟨by omega,by omega⟩) ar aM
    ·cbv;exact bq h1 ar aM
   ·cbv;exact bq h1 ar aM
 | text=>
   cbv;refine .cP (by omega) ?_;cbv;refine .cP (by omega) ?_;cbv;refine .cP (by omega) ?_;cbv;refine .mY (by omega) ?_;cbv;refine .of cx rfl ?_;cbv;refine .eq (λe1=>?_) λe1=>?_
   ·cbv;refine .of cx rfl ?_
    cbv;refine .of Fj.sl λa ha0 ha=>?_;cbv;refine .of cx rfl ?_;cbv;refine .of Fa.sl λb fC hb=>?_;cbv;refine .add (by omega) (by omega) λc hc=>?_;cbv;refine .eq (λe2=>?_) λe2=>?_
    ·cbv;refine .of cx rfl ?_
     cbv;refine .of aM (by have:=ht.1;omega) λbv h2 yZ aq aN=>?_;have aO:Mod h h2 []:=(ar.trans aq).mono λl o _ hl=>by simp at hl
     cbv;refine mL yZ (by have:=ht.1;omega) λr=>?_;cbv;refine .lt (λe3=>?_) λe3=>?_
     ·cbv;exact bw h2 (λ_=>⟨by omega,by omega⟩) aO aN
     ·cbv;exact bq h2 aO aN
    ·cbv;exact bq h1 ar aM
   ·cbv;exact bq h1 ar aM
 | obj hll NA UE IN=>
   cbv;refine .cP (by omega) ?_;cbv;refine .cP (by omega) ?_;cbv;refine .cP (by omega) ?_;cbv;refine .cP (by omega) ?_;cbv;refine .cP (by omega) ?_;cbv;refine .mY (by omega) ?_;cbv;refine .of cx rfl ?_;cbv;refine .eq (λe1=>?_) λe1=>?_
   ·cbv;refine .of cx rfl ?_
    cbv;refine .seq (λe2=>?_) λe2=>?_
    ·cbv;refine .of cx rfl ?_
     cbv;refine .of Fj.sl λa ha0 ha=>?_;cbv;refine .of cx rfl ?_;cbv;refine .of Fa.sl λb fC hb=>?_;cbv;refine .eq (λe3=>?_) λe3=>?_
     ·cbv;refine .of cx rfl ?_
      cbv;refine agl Fj NA UE λjt hjt=>?_;cbv;refine .of aM (by omega) λbv h2 yZ aq aN=>?_;have aO:Mod h h2 []:=(ar.trans aq).mono λl o _ hl=>by simp at hl
      cbv;refine mL yZ (by omega) λr=>?_;cbv;refine .lt (λe4=>?_) λe4=>?_
      ·cbv;refine .of (aq.get cx) rfl ?_
       cbv;refine adF aN (Fj.mono aq) Na CT λb h3 aF aR=>?_;have aJ:Mod h h3 []:=(aO.trans aF).mono λl o _ hl=>by simp at hl
       cases b with
       | true=>cbv;exact bw h3 (λq=>absurd rfl q) aJ aR
       | false=>cbv;exact bq h3 aJ aR
      ·cbv;exact bq h2 aO aN
     ·cbv;exact bq h1 ar aM
    ·cbv;exact bq h1 ar aM
   ·cbv;exact bq h1 ar aM
theorem adG (n:Nat):∀{t:Js} {h:H} {cs:List V} {d:Int},sizeOf t<n->Wf h->nS h t cs->Lay t->0<=d->d<=16->∀{Q:V->H->Prop},(∀(e:Int) h',Mod h h' []->Wf h'->Q (.int .i64 e) h')->CW pf G0 A8 [.agg cs,.int .i64 d] h Q:=by
 induction n with
 | zero=>intro t h cs d hn;omega
 | succ n ih=>
   intro t h cs d hn hw hj hl sq hd Q hq;have Uy:=hj;cases hj with
   | @mk k i tx ns its nv iv rows ht CT Na UC h5 vB hi hr=>
   have Fi:∀(j:Nat) x,its[j]? =some x->k=5->Lay x:=λj x hx hk=>by
    cases hl with
    | int=>omega
    | text=>omega
    | obj _ _ _ IN=>exact IN x (List.mem_of_getElem? hx)
   refine M1.enter (by kernel_rfl) ?_;cbv;refine .agg ?_;cbv;refine .of hw λlb h1 cx gG ar aM=>?_;cbv;refine .of cx rfl ?_;cbv;refine .cP (by cases hl<;>omega) ?_;cbv;refine .of cx rfl ?_;cbv;refine .eq (λek=>?_) λek=>?_
   ·cbv;refine .add (by omega) (by omega) λd2 vS=>?_
    cbv;refine .gt (λg=>?_) λg=>?_
    ·cbv;exact hq _ h1 ar aM
    cbv;refine .of cx rfl ?_;cbv;refine TK aM (Uy.mono ar) hl (λh2 aq aN=>?_) λh2 SN aq aN=>?_
    ·cbv;exact hq _ h2 ((ar.trans aq).mono λl o _ hl=>by simp at hl) aN
    have aO:Mod h h2 []:=(ar.trans aq).mono λl o _ hl=>by simp at hl
    have cR:=aq.get cx;cbv;refine .of aN λlm h3 iY CR aF aR=>?_;have aJ:Mod h h3 []:=(aO.trans aF).mono λl o _ hl=>by simp at hl
    have gB:=aF.get cR;have ZM:h.get lm=none:=ai aO (by simp) CR;have fm:∀l,l∈[lm]->h.get l=none:=λl hl=>by simp at hl;subst hl;exact ZM
    have hbm:lb≠lm:=λe=>by subst e;rw [cR] at CR;cases CR
    cbv;refine .of gB rfl ?_;cbv;refine .of (vB.mono aJ).sl λa ha0 ha=>?_;cbv;refine .inv [p1,p2,p5,p28,p29,p30] (λm' aC h'=>∃(x:Int) (mm:bF) (cl:Nat),aC=[.int .i64 d2,.ptr lb 0,.map lm,nv,.int .i64 a,.int .i64 x]/\0<=x/\x.toNat<=ns.length/\m'=ns.length - x.toNat/\h'.get lm=some (.map (cg mm) cl)/\(∀k v,cK mm k=some v->v = .int .i64 1)/\h'.get lb=some (.cells [.int .i64 k,.int .i64 i,.str tx,nv,iv] bK 0 .yes)/\Mod h h' []/\Wf h') [_,_,_,_,_,_] rfl _ ⟨0,[],0,rfl,by omega,by simp,rfl,iY,(λk v e=>by cases e),gB,aJ,aR⟩ ?_;rintro m' _ h4 ⟨x,mm,cl,rfl,lN,hx,dY,vy,AG,dB,ay,aQ⟩;cbv;refine .lt (λbA=>?_) λjb=>?_
    ·obtain ⟨s,hs⟩:∃s,ns[x.toNat]? =some s:=⟨_,List.getElem?_eq_getElem (by omega)⟩
     cbv;refine .of (vB.mono ay).sl lN rfl (by omega) (eQ hs) λq off he=>?_;cbv;refine .gH he 0 rfl ?_;cases hg:cK mm s with
     | some v=>
       have MG:=AG _ _ hg;subst MG;cbv;refine .hit vy hg ?_;cbv;refine .add (by omega) (by omega) λq gV=>?_;cbv;refine .of aQ vy λh8 sQ cO ew=>?_;cbv;refine .hit sQ (by rw [dX,if_pos rfl]) ?_;cbv;refine .Zm (by omega) ?_;cbv;exact hq _ h8 (ay.fr cO λl hl=>.inl (fm l hl)) ew
     | none=>
       cbv;refine .Fp vy hg ?_;cbv;refine .add (by omega) (by omega) λq gV=>?_;have gV:q=1:=by omega
       subst gV;cbv;refine .of aQ vy λh8 sQ cO ew=>?_;cbv;refine .hit sQ (by rw [dX,if_pos rfl]) ?_;cbv;refine .Jk (by omega) ?_;cbv;refine .add (by omega) (by omega) λx2 lH=>?_;have Hz:∀k v,cK (dh mm s (.int .i64 1) cl) k=some v->v = .int .i64 1:=λk v e=>by
        rw [dX] at e;split at e
        ·cases e;rfl
        ·exact AG k v e
       generalize dh mm s (.int .i64 1) cl=mm8 at sQ Hz;generalize dQ mm s cl=cl8 at sQ;cbv;exact ⟨rfl,ns.length - x2.toNat,by omega,x2,mm8,cl8,rfl,by omega,by omega,rfl,sQ,Hz,cO.get dB (by simpa using hbm),ay.fr cO (λl hl=>.inl (fm l hl)),ew⟩
    ·cbv;refine .of dB rfl ?_
     cbv;refine .of (hi.mono ay).sl λc hc0 hc=>?_;cbv;refine .inv [p1,p44,p45,p46] (λm' aC h'=>∃(x:Int),aC=[.int .i64 d2,iv,.int .i64 c,.int .i64 x]/\0<=x/\x.toNat<=its.length/\m'=its.length - x.toNat/\Mod h h' []/\Wf h') [_,_,_,_] rfl _ ⟨0,rfl,by omega,by simp,rfl,ay,aQ⟩ ?_;rintro m2 _ h5 ⟨y,rfl,CU,hy,YO,aL,bH⟩;cbv;refine .lt (λbA=>?_) λUT=>?_
     ·obtain ⟨tz,htz⟩:∃t,its[y.toNat]? =some t:=⟨_,List.getElem?_eq_getElem (by omega)⟩
      have hk5:k=5:=by
       by_cases hk:k=5
       ·exact hk
       ·have:=(SN hk).2;omega
      obtain ⟨ecs,FR,hre⟩:=(hr.mono aL).get htz;have akd:=Js.IM (k:=k) (i:=i) (t:=tx) (ns:=ns) htz;have lA:=FR.bd;obtain ⟨a1,a2,a3,a4,a5,rfl⟩:=FR.five;cbv;refine .of (hi.mono aL).sl CU rfl (by omega) hre λq off he=>?_;cbv;refine .ka he rfl ?_;cbv;refine .of bH λle h6 xq Le bP cy=>?_;have TH:h.get le=none:=ai aL (by simp) Le;cbv;refine .of (cs:=[a1,a2,a3,a4,a5]) cy xq rfl rfl rfl rfl lA rfl λh7 Bp cH eu=>?_;cbv;refine .of Bp rfl ?_;have bT:Mod h h6 []:=(aL.trans bP).mono λl o _ hl=>by simp at hl
      have cM:Mod h h7 []:=bT.fr cH λl hl=>by simp at hl;subst hl;exact .inl TH
      cbv;refine ih (by omega) eu ((FR.mono bP).mono cH) (Fi _ _ htz hk5) (by omega) g λe h8 cO ew=>?_;have dL:Mod h h8 []:=(cM.trans cO).mono λl o _ hl=>by simp at hl
      cbv;refine .ne (λe1=>?_) λe1=>?_
      ·cbv;refine .add (by omega) (by omega) λy2 Rq=>?_
       cbv;exact ⟨rfl,its.length - y2.toNat,by omega,y2,rfl,by omega,by omega,rfl,dL,ew⟩
      ·cbv;exact hq _ h8 dL ew
     ·cbv;exact hq _ h5 aL bH
   ·cbv;refine .Jk (by omega) ?_
    obtain ⟨d2,xP⟩:∃d2,d2=d:=⟨d,rfl⟩;rw [<-xP];have g:d2<=16:=by omega
    cbv;refine .of cx rfl ?_;cbv;refine TK aM (Uy.mono ar) hl (λh2 aq aN=>?_) λh2 SN aq aN=>?_
    ·cbv;exact hq _ h2 ((ar.trans aq).mono λl o _ hl=>by simp at hl) aN
    have aO:Mod h h2 []:=(ar.trans aq).mono λl o _ hl=>by simp at hl
    have cR:=aq.get cx;cbv;refine .of aN λlm h3 iY CR aF aR=>?_;have aJ:Mod h h3 []:=(aO.trans aF).mono λl o _ hl=>by simp at hl
    have gB:=aF.get cR;have ZM:h.get lm=none:=ai aO (by simp) CR;have fm:∀l,l∈[lm]->h.get l=none:=λl hl=>by simp at hl;subst hl;exact ZM
    have hbm:lb≠lm:=λe=>by subst e;rw [cR] at CR;cases CR
    cbv;refine .of gB rfl ?_;cbv;refine .of (vB.mono aJ).sl λa ha0 ha=>?_;cbv;refine .inv [p1,p2,p5,p28,p29,p30] (λm' aC h'=>∃(x:Int) (mm:bF) (cl:Nat),aC=[.int .i64 d2,.ptr lb 0,.map lm,nv,.int .i64 a,.int .i64 x]/\0<=x/\x.toNat<=ns.length/\m'=ns.length - x.toNat/\h'.get lm=some (.map (cg mm) cl)/\(∀k v,cK mm k=some v->v = .int .i64 1)/\h'.get lb=some (.cells [.int .i64 k,.int .i64 i,.str tx,nv,iv] bK 0 .yes)/\Mod h h' []/\Wf h') [_,_,_,_,_,_] rfl _ ⟨0,[],0,rfl,by omega,by simp,rfl,iY,(λk v e=>by cases e),gB,aJ,aR⟩ ?_;rintro m' _ h4 ⟨x,mm,cl,rfl,lN,hx,dY,vy,AG,dB,ay,aQ⟩;cbv;refine .lt (λbA=>?_) λjb=>?_
    ·obtain ⟨s,hs⟩:∃s,ns[x.toNat]? =some s:=⟨_,List.getElem?_eq_getElem (by omega)⟩
     cbv;refine .of (vB.mono ay).sl lN rfl (by omega) (eQ hs) λq off he=>?_;cbv;refine .gH he 0 rfl ?_;cases hg:cK mm s with
     | some v=>
       have MG:=AG _ _ hg;subst MG;cbv;refine .hit vy hg ?_;cbv;refine .add (by omega) (by omega) λq gV=>?_;cbv;refine .of aQ vy λh8 sQ cO ew=>?_;cbv;refine .hit sQ (by rw [dX,if_pos rfl]) ?_;cbv;refine .Zm (by omega) ?_;cbv;exact hq _ h8 (ay.fr cO λl hl=>.inl (fm l hl)) ew
     | none=>
       cbv;refine .Fp vy hg ?_;cbv;refine .add (by omega) (by omega) λq gV=>?_;have gV:q=1:=by omega
       subst gV;cbv;refine .of aQ vy λh8 sQ cO ew=>?_;cbv;refine .hit sQ (by rw [dX,if_pos rfl]) ?_;cbv;refine .Jk (by omega) ?_;cbv;refine .add (by omega) (by omega) λx2 lH=>?_;have Hz:∀k v,cK (dh mm s (.int .i64 1) cl) k=some v->v = .int .i64 1:=λk v e=>by
        rw [dX] at e;split at e
        ·cases e;rfl
        ·exact AG k v e
       generalize dh mm s (.int .i64 1) cl=mm8 at sQ Hz;generalize dQ mm s cl=cl8 at sQ;cbv;exact ⟨rfl,ns.length - x2.toNat,by omega,x2,mm8,cl8,rfl,by omega,by omega,rfl,sQ,Hz,cO.get dB (by simpa using hbm),ay.fr cO (λl hl=>.inl (fm l hl)),ew⟩
    ·cbv;refine .of dB rfl ?_
     cbv;refine .of (hi.mono ay).sl λc hc0 hc=>?_;cbv;refine .inv [p1,p44,p45,p46] (λm' aC h'=>∃(x:Int),aC=[.int .i64 d2,iv,.int .i64 c,.int .i64 x]/\0<=x/\x.toNat<=its.length/\m'=its.length - x.toNat/\Mod h h' []/\Wf h') [_,_,_,_] rfl _ ⟨0,rfl,by omega,by simp,rfl,ay,aQ⟩ ?_;rintro m2 _ h5 ⟨y,rfl,CU,hy,YO,aL,bH⟩;cbv;refine .lt (λbA=>?_) λUT=>?_
     ·obtain ⟨tz,htz⟩:∃t,its[y.toNat]? =some t:=⟨_,List.getElem?_eq_getElem (by omega)⟩
      have hk5:k=5:=by
       by_cases hk:k=5
       ·exact hk
       ·have:=(SN hk).2;omega
      obtain ⟨ecs,FR,hre⟩:=(hr.mono aL).get htz;have akd:=Js.IM (k:=k) (i:=i) (t:=tx) (ns:=ns) htz;have lA:=FR.bd;obtain ⟨a1,a2,a3,a4,a5,rfl⟩:=FR.five;cbv;refine .of (hi.mono aL).sl CU rfl (by omega) hre λq off he=>?_;cbv;refine .ka he rfl ?_;cbv;refine .of bH λle h6 xq Le bP cy=>?_;have TH:h.get le=none:=ai aL (by simp) Le;cbv;refine .of (cs:=[a1,a2,a3,a4,a5]) cy xq rfl rfl rfl rfl lA rfl λh7 Bp cH eu=>?_;cbv;refine .of Bp rfl ?_;have bT:Mod h h6 []:=(aL.trans bP).mono λl o _ hl=>by simp at hl
      have cM:Mod h h7 []:=bT.fr cH λl hl=>by simp at hl;subst hl;exact .inl TH
      cbv;refine ih (by omega) eu ((FR.mono bP).mono cH) (Fi _ _ htz hk5) (by omega) g λe h8 cO ew=>?_;have dL:Mod h h8 []:=(cM.trans cO).mono λl o _ hl=>by simp at hl
      cbv;refine .ne (λe1=>?_) λe1=>?_
      ·cbv;refine .add (by omega) (by omega) λy2 Rq=>?_
       cbv;exact ⟨rfl,its.length - y2.toNat,by omega,y2,rfl,by omega,by omega,rfl,dL,ew⟩
      ·cbv;exact hq _ h8 dL ew
     ·cbv;exact hq _ h5 aL bH
end K
namespace K
open Go Go.Dx Go.RowKit
set_option maxRecDepth 100000
theorem lD (x:Int):bR .i64 x=(x+9223372036854775808) % 18446744073709551616 - 9223372036854775808:=by
 rw [eJ];simp [IntKind.wrap,IntKind.bits,IntKind.signed];omega
theorem ZZ (a b:Int):bR .i64 (bR .i64 a+b)=bR .i64 (a+b):=by
 rw [lD,lD,lD];omega
def jF:bF->Int
 | []=>0
 | (_,.int _ x,_)::r=>x+jF r
 | _::r=>jF r
theorem Z0 (m:bF)(seen:List Nat)(b:Nat):fQ m (seen++[b])=(fQ m seen).filter λx=>!(x.2.2==b):=by
 unfold fQ;rw [List.filter_filter];refine List.filter_congr λx _=>?_;have:dp x.2.2 (seen++[b])=(dp x.2.2 seen||(x.2.2==b)):=by
  rw [Bool.eq_iff_iff,Bool.or_eq_true,mG,mG,List.mem_append];simp
 rw [this];cases dp x.2.2 seen<;>cases (x.2.2==b)<;>rfl
theorem filter_none {m:bF}{b:Nat}(h:b∉m.map λe=>e.2.2):(m.filter λx=>!(x.2.2==b))=m:=by
 rw [List.filter_eq_self];intro e he;have:e.2.2≠b:=λhb=>h (List.mem_map.2 ⟨e,he,hb⟩);simpa using this
theorem Z' {m:bF}(hn:(m.map λe=>e.2.2).Nodup) {k:List Nat} {x:Int} {b:Nat} (h:(k,.int .i64 x,b)∈m):jF (m.filter λe=>!(e.2.2==b))=jF m - x:=by
 induction m with
 | nil=>cases h
 | cons e r ih=>
   simp only [List.map_cons,List.nodup_cons] at hn;rcases List.mem_cons.1 h with e1 | h
   ·subst e1
    rw [List.filter_cons,if_neg (by simp),filter_none hn.1];simp only [jF];omega
   ·have dj:e.2.2≠b:=λhb=>hn.1 (by rw [hb];exact List.mem_map.2 ⟨_,h,rfl⟩)
    rw [List.filter_cons,if_pos (by simpa using dj)];have ih:=ih hn.2 h;obtain ⟨k1,v1,b1⟩:=e;cases v1<;>simp only [jF,ih]<;>omega
theorem y7 {h:H}{ld:Lb}{d:dR}(hw:Wf h)(D:bJ h ld d){Q:V->H->Prop}
  (hq:∀h' x,x=bR .i64 (jF d.held)->Mod h h' []->Wf h'->Q (.int .i64 x) h'):CW pf G0 td [.ptr ld 0] h Q:=by
 obtain ⟨room,ls,ll,lh,seen,last,kcs,ZF,X6,pv,aH,ac,held⟩:=d;obtain ⟨D1,D2,D3,D4,D5,D6,D7,D8,D9,Xo,D11,ZG,V'⟩:=D;dsimp only at D1 D7 D8 D9 hq;refine Gc.enter (by kernel_rfl) ?_;cbv;refine Gr D1 ?_;cbv;refine .of D1 rfl ?_;cbv;refine .rangeMap rfl hw D7 λli h1 IN E9 ar aM=>?_;cbv;refine .inv [p3,p12] (λm' aC h'=>∃seen acc last,aC=[.int .i64 acc,.ptr li 0]/\m'=(fQ held seen).length/\acc=bR .i64 (jF held - jF (fQ held seen))/\h'.get li=some (.mapIter (some lh) X6 seen last)/\X6<=last/\Mod h h' []/\Wf h') [_,_] rfl _
  ⟨[],0,X6,rfl,rfl,?_,IN,by omega,ar,aM⟩ ?_
 ·have:fQ held []=held:=List.filter_eq_self.2 λ_ _=>rfl
  rw [this,Int.sub_self];rfl
 rintro m' _ h' ⟨seen,acc,last,rfl,dY,aoS,hl,pY,aq,aN⟩;have D7':=aq.get D7 (by simp);cbv;refine .of aN hl D7' pY (λe he=>D8.old e he) (λbq=>?_) λk v b gi h3 iY aF aR=>?_
 ·cbv
  refine hq _ _ ?_ aq aN;rw [aoS,bq];simp [jF]
 ·have O8:lh≠li:=by rintro rfl;rw [D7'] at hl;cases hl
  have aur:=aF.get D7' (by simpa using O8);obtain ⟨x,hx⟩:=D9 _ (pT gi);have hx:v = .int .i64 x:=hx;subst hx;cbv;refine .entry iY aur D8 (pT gi) ?_;cbv;refine .FO λy hy=>?_;cbv;refine ⟨rfl,_,(by rw [dY];exact Tb gi),seen++[b],y,X6,rfl,rfl,?_,iY,by omega,?_,aR⟩
  ·rw [hy,aoS,ZZ,Z0,Z' _ gi]
   ·congr 1;omega
   ·exact D8.DV.sublist ((List.filter_sublist).map _)
  ·refine aq.fr aF λl pn=>.inl ?_
   rw [List.mem_singleton] at pn;subst pn;exact E9
theorem bJ.mono {h h':H}{ld:Lb}{d:dR}(D:bJ h ld d){F:List Lb}(m:Mod h h' F)(hF:∀l,l∈d.own ld->l∉F:=by simp):bJ h' ld d:={
 cell:=m.get D.cell (hF _ (by simp [dR.own]))
 seen:=D.seen.mono m (hF _ (by simp [dR.own])) λf hf=>hF _ (by
  have:f.aZ∈(d.seen++d.last).map (·.aZ):=List.mem_map.2 ⟨f,List.mem_append_left _ hf,rfl⟩;simp only [dR.own,List.mem_cons,List.mem_append];simp only [this,or_true])
 last:=D.last.mono m (hF _ (by simp [dR.own])) λf hf=>hF _ (by
  have:f.aZ∈(d.seen++d.last).map (·.aZ):=List.mem_map.2 ⟨f,List.mem_append_right _ hf,rfl⟩;simp only [dR.own,List.mem_cons,List.mem_append];simp only [this,or_true])
 B7:=D.B7.mono m λl hl=>hF _ (by simp [dR.own,hl])
 aH:=D.aH.mono m
 oks:=D.oks
 held:=m.get D.held (hF _ (by simp [dR.own]))
 pX:=D.pX
 ints:=D.ints
 ne1:=D.ne1
 ne2:=D.ne2
 ne3:=D.ne3
 af:=D.af}
def dR.left (d:dR)(nm:List Nat)(at_:Nat):Int:=bR .i64 (bR .i64 (bR .i64 (d.room - bR .i64 (jF d.held))+dC d.held nm) - at_)
theorem aac {h:H}{ld:Lb}{d:dR}{nm:List Nat}(hw:Wf h)(D:bJ h ld d)(ok:yG nm)(hn:d.aH.length<=1000000000){Q:V->H->Prop}
  (bq:bL (said d.seen) nm=none->Q (.int .i64 20) h)
  (hq:∀h' d',bJ h' ld d'->d'.room=d.room->said d'.seen=(Act.drop nm).run (said d.seen)->d'.last=d.last->d'.aH=d.aH++[.drop nm]->d'.held=hdo d.held d.ch nm (bL (said d'.seen) nm)->
   (∀l,l∈d'.own ld->l∈d.own ld\/h.get l=none)->Mod h h' (d.own ld)->Wf h'->bL (said d.seen) nm≠none->Q (.int .i64 0) h'):CW pf G0 tj [.ptr ld 0,.str nm] h Q:=by
 refine Gg.enter (by kernel_rfl) ?_;cbv;refine Gs D.cell ok D.seen (λf hf _ _=>?_) λhf=>?_
 ·generalize f.aZ=lf
  cbv;refine .mY rfl ?_;cbv;refine .flat rfl ?_;cbv;refine .flat rfl ?_;cbv;refine X5 hw D (a:=.drop nm) trivial .drop hn λh' d' a1 a2 a3 a4 a5 a6 a7 a8 a9=>?_;cbv;exact hq h' d' a1 a2 a3 a4 a5 a6 a7 a8 a9 (by rw [fM,hf];simp)
 ·cbv;refine .cP (by decide) ?_
  cbv;exact bq (by rw [fM,hf];rfl)
end K
namespace K
open Go Go.Dx Go.RowKit
set_option maxRecDepth 100000
def dR.full (d:dR)(nm:List Nat)(n:Nat):Prop:=(bL (said d.seen) nm=none/\4096<=d.seen.length)\/d.left nm ((bL (said d.seen) nm).getD []).length<(n:Int)
theorem CJ {h:H}{ld:Lb}{d:dR}{nm:List Nat}{vb:V}{bs:List Nat}(hw:Wf h)(D:bJ h ld d)(ok:yG nm)(hn:d.aH.length<=1000000000)
  (hb:Sl h 1 vb bs.length (ae bs)) (Mv:Ig bs) (dj:0<bs.length) (hat:((bL (said d.seen) nm).getD []).length+bs.length<=400000) {Q:V->H->Prop}
  (X':∀h',d.full nm bs.length->Mod h h' []->Wf h'->Q (.int .i64 7) h')
  (hq:∀h' d',¬d.full nm bs.length->bJ h' ld d'->d'.room=d.room->said d'.seen=(Act.wrote nm ((bL (said d.seen) nm).getD []).length bs).run (said d.seen)->d'.last=d.last->d'.aH=d.aH++[.wrote nm ((bL (said d.seen) nm).getD []).length bs]->d'.held=hdo d.held d.ch nm (bL (said d'.seen) nm)->
   (∀l,l∈d'.own ld->l∈d.own ld\/h.get l=none)->Mod h h' (d.own ld)->Wf h'->Q (.int .i64 0) h'):CW pf G0 rW [.ptr ld 0,.str nm,vb] h Q:=by
 have tail:∀(i:Int) (h1:H) (vb':V),0<=i->i.toNat=((bL (said d.seen) nm).getD []).length->¬d.full nm bs.length->Mod h h1 []->Wf h1->Ro h1 1 vb' bs.length (ae bs)->CW pf G0 qB [.ptr ld 0,.agg [.int .i64 0,.str nm,.int .i64 i,vb']] h1 (λ_ h'=>Q (.int .i64 0) h'):=λi h1 vb' h0 hi hf m1 w1 r1=>by
  refine X5 w1 (D.mono m1 (by simp)) (a:=.wrote nm i.toNat bs) ⟨by omega,Mv,dj⟩ (.wrote h0 r1) hn λh' d' a1 a2 a3 a4 a5 a6 a7 a8 a9=>?_;rw [hi] at a3 a5;refine hq h' d' hf a1 a2 a3 a4 a5 a6 (λl hl=>(a7 l hl).imp_right λhx=>?_) (m1.trans a8) a9;cases hy:h.get l with
  | none=>rfl
  | some o=>have:=m1.get hy (by simp);rw [hx] at this;cases this
 have C:=D.cell;have HL:=D.held;generalize xH:d.room=room at C;have HS:=D.seen.map;generalize d.ls=ls at C HS;generalize d.ll=ll at C;generalize d.pv=pv at C;generalize d.lh=lh at C HL;refine EE.enter (by kernel_rfl) ?_;cbv;refine Gs D.cell ok D.seen (λf hf _ fa=>?_) λhf=>?_
 ·have gG:=tQ hf
  have dw:=fa.cell;have eA:=fa.val;generalize f.aZ=lf at*;generalize f.val=fv at*;generalize f.bytes=fb at*;cbv;refine .mY rfl ?_;cbv;refine .of dw rfl ?_;cbv;refine .of eA.sl λn eT Fj=>?_;have base:d.left nm fb.length=bR .i64 (bR .i64 (bR .i64 (d.room - bR .i64 (jF d.held))+dC d.held nm) - (fb.length:Int)):=rfl;cbv;refine .of C rfl ?_;cbv;refine .held HL D.ints λx hx=>?_;cbv;refine .of follows 4 ?_;cbv;refine .of hb λk Ir Xq=>?_;cbv;refine .of C rfl ?_;cbv;refine y7 hw D λh1 u hu m1 w1=>?_;cbv;refine .load (m1.get C (by simp)) rfl (.nil ?_);cbv;refine .Ks λy1 NW=>?_;cbv;refine .FO λy2 Rq=>?_;cbv;refine .Ks λy3 hy3=>?_;have kF:d.left nm fb.length=y3:=by rw [base,hy3,Rq,NW,hx,hu,xH,show n=(fb.length:Int) by omega]
  cbv;refine .gt (λIq=>?_) λhle=>?_
  ·cbv;refine X' h1 (.inr ?_) m1 w1
   rw [gG];show d.left nm fb.length<_
   rw [kF];omega
  ·cbv;refine qM mJ w1 (hb.mono m1 (by simp)) (az _) (by have:=Mv.1;omega) (by decide) λvb' h2 r2 m2 w2=>?_
   cbv;refine .flat rfl ?_;cbv;refine .flat rfl ?_;cbv;refine .flat rfl ?_;cbv;refine .flat r2.flat ?_;cbv;refine (tail n h2 vb' eT (by rw [gG];exact Fj) ?_ (m1.trans m2) w2 r2).mono λv h' q=>?_
   ·rintro (⟨q,_⟩ | q)
    ·rw [gG] at q;cases q
    ·rw [gG] at q
     have q:d.left nm fb.length<(bs.length:Int):=q;rw [kF] at q;omega
   ·cbv;exact q
 ·have bq:bL (said d.seen) nm=none:=by rw [fM,hf];rfl
  cbv;refine .cP (by decide) ?_;cbv;refine .mY rfl ?_;cbv;refine .of C rfl ?_;cbv;refine .mapLen HS λln Xp xv=>?_;have xv:ln.toNat=d.seen.length:=by rw [xv];simp [fc]
  cbv;refine .ge (λjb=>?_) λbA=>?_
  ·cbv;exact X' h (.inl ⟨bq,by omega⟩) (Mod.refl _ _) hw
  ·skip
   have base:d.left nm 0=bR .i64 (bR .i64 (bR .i64 (d.room - bR .i64 (jF d.held))+dC d.held nm) - ((0:Nat):Int)):=rfl;cbv;refine .of C rfl ?_;cbv;refine .held HL D.ints λx hx=>?_;cbv;refine .of follows 4 ?_;cbv;refine .of hb λk Ir Xq=>?_;cbv;refine .of C rfl ?_;cbv;refine y7 hw D λh1 u hu m1 w1=>?_;cbv;refine .load (m1.get C (by simp)) rfl (.nil ?_);cbv;refine .Ks λy1 NW=>?_;cbv;refine .FO λy2 Rq=>?_;cbv;refine .Ks λy3 hy3=>?_;have kF:d.left nm 0=y3:=by rw [base,hy3,Rq,NW,hx,hu,xH];rfl
   cbv;refine .gt (λIq=>?_) λhle=>?_
   ·cbv;refine X' h1 (.inr ?_) m1 w1
    rw [bq];show d.left nm 0<_
    rw [kF];omega
   ·cbv;refine qM mJ w1 (hb.mono m1 (by simp)) (az _) (by have:=Mv.1;omega) (by decide) λvb' h2 r2 m2 w2=>?_
    cbv;refine .flat rfl ?_;cbv;refine .flat rfl ?_;cbv;refine .flat rfl ?_;cbv;refine .flat r2.flat ?_;cbv;refine (tail 0 h2 vb' (by omega) (by rw [bq];rfl) ?_ (m1.trans m2) w2 r2).mono λv h' q=>?_
    ·rintro (⟨_,q⟩ | q)
     ·omega
     ·rw [bq] at q
      have q:d.left nm 0<(bs.length:Int):=q;rw [kF] at q;omega
    ·cbv;exact q
end K
