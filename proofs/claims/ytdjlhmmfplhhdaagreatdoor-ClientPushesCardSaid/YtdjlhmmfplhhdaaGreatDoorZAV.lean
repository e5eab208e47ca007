/-
  The client's laws. Part ZAV of the proof: strings.Builder: WriteByte, WriteString, Len, String.
-/
import Derived.Shelf.LaysM
import Derived.Shelf.Strconv.Itoa3
import Derived.Shelf.Strings.Repeat
import Derived.Shelf.Strings.OnBuilder
import Derived.Shelf.Strconv.Itoa4
import Derived.Test.YtdjlhmmfplhhdaaGreatDoorZAU
import Derived.Test.YtdjlhmmfplhhdaaGreatDoorZAA
import Derived.Test.YtdjlhmmfplhhdaaGreatDoorZAR
import Derived.Test.YtdjlhmmfplhhdaaGreatDoorZAT
namespace K
open Go Go.Dx Go.RowKit Go.Proofs
set_option maxRecDepth 100000
variable{bv v:V}{l:Lb}{h:H}{tp:T V}
structure N3 (h:H)(l:Lb)(bv:V)(t:List Nat):Prop where
 get:h.get l=some (.cells [.nilPtr,bv] lQ 0 .yes)\/h.get l=some (.cells [.ptr l 0,bv] lQ 0 .yes)
 own:aG h 5 1 bv t.length (ae t)
 VT:l∉ag bv
 GZ:∀b∈t,b<256
theorem N3.mono {h':H}{F:List Lb}{t:List Nat}(b:N3 h l bv t)(m:Mod h h' F)(a:l∉F:=by simp) (c:∀x,x∈ag bv->x∉F:=by simp):N3 h' l bv t:=
 ⟨b.get.imp (λe=>m.get e a) (λe=>m.get e a),b.own.mono m c,b.VT,b.GZ⟩
theorem N3.live {t:List Nat}(b:N3 h l bv t):∃o,h.get l=some o:=b.get.elim (λe=>⟨_,e⟩) λe=>⟨_,e⟩
theorem RB:∀l:Lb,nJ l l=true
 | []=>rfl
 | true::l=>RB l
 | false::l=>RB l
theorem avO:bG Tryz.prog 239 Extern.AbiNoEscape.same:=⟨⟨_,Tryz.func239,by kernel_rfl,by kernel_rfl,by kernel_rfl,by kernel_rfl⟩⟩
theorem ahl {Q:V->H->Prop} (q:Q v h):CW pf G0 239 [v] h Q:=.ext (Ub avO) rfl q
theorem _root_.Go.Dx.u7.whole {u:TypeId}{n:Nat}{vs:List V}{b:Nat}{a:Own}{K:V->Prop} (d:h.get l=some (.cells vs u b a)) (c:vs.length=n) (k:K (.ptr l 0)):u7 h (.whole u n l 0) K:=
 ⟨_,by subst c;simp only [Q.ask,d,Nat.beq_refl,Bool.and_self,bO],k⟩
theorem UU {t:List Nat}(d:Wf h)(b:N3 h l bv t){Q:V->H->Prop} (c:∀h',h'.get l=some (.cells [.ptr l 0,bv] lQ 0 .yes)->Mod h h' [l]->Wf h'->Q (.tuple []) h'):CW pf G0 ig [.ptr l 0] h Q:=by
 refine qe.enter (by kernel_rfl) ?_;rcases b.get with a | a
 ·cbv;refine .of a rfl ?_
  cbv;refine .row a (by simp) ?_;cbv;refine ahl ?_;cbv;refine .whole a rfl ?_;cbv;refine .of d a rfl rfl rfl rfl rfl rfl λg Uj i f=>?_;cbv;exact c g Uj i f
 ·cbv;refine .of a rfl ?_
  cbv;refine .of a rfl ?_;cbv;refine .is (v:=.bool false) (λ_=>?_) ?_
  ·have e:nJ l l=true:=RB l
   simp [Dx.binOp,Dx.DA,Dx.xT,e,ob,bO]
  cbv;exact c h a (Mod.refl _ _) d
theorem iu {t:List Nat}{c:Int}(v:Wf h)(b:N3 h l bv t)(J:t.length<=200000000)(q:0<=c)(r:c.toNat<256){Q:V->H->Prop} (j:∀N4 h',N3 h' l N4 (t++[c.toNat])->Grow h bv N4->Mod h h' (l::ag bv)->Wf h'->Q .nilIface h'):CW pf G0 ie [.ptr l 0,.int .u8 c] h Q:=by
 obtain ⟨n,rfl⟩:=Int.eq_ofNat_of_zero_le q;have r:n<256:=by simpa using r
 replace j:∀N4 h',N3 h' l N4 (t++[n])->Grow h bv N4->Mod h h' (l::ag bv)->Wf h'->Q .nilIface h':=j
 have w:[V.int .u8 (n:Int)]=ae [n]:=rfl;generalize G:(n:Int)=x at*;refine qd.enter (by kernel_rfl) ?_;cbv;refine UU v b λE Uj k z=>?_;have Iw:=b.own.mono k (dJ b.VT);cbv;refine .of Uj rfl ?_;cbv;refine .flat rfl ?_;cbv;refine .of z λF I A JE f B=>?_;cbv;refine .own B (Iw.mono f) (m:=1) (new:=[.int .u8 x]) (by simp only [cW,A];rfl) rfl rfl (by unfold bg;omega) (by decide) λd h3 K O9 u C=>?_;have i:=u.get (f.get Uj) b.VT;rw [w,<-aM,show t.length+1=(t++[n]).length from by simp] at K;have a:l∉ag d:=O9.dp (f.get Uj) b.VT;cbv;refine .one C i K.sl.flat rfl rfl rfl λh4 IY s D=>?_;have g:Grow h bv d:=λy hy=>(O9 y hy).imp (λe=>by
  cases e':h.get y with
  | none=>rfl
  | some o=>
    by_cases MS:y=l
    ·subst MS;exact absurd hy a
    ·rw [f.get (k.get e' (by simpa using MS))] at e;cases e) id
 cbv;refine j d h4 ⟨.inr IY,K.mono s (dJ a),a,λy hy=>(List.mem_append.1 hy).elim (b.GZ y) λhy=>by simp at hy;omega⟩ g ?_ D;exact (((k.trans f).trans u).trans s).mono λy o _ hy=>by
  simp only [List.mem_append,List.mem_cons,List.not_mem_nil,or_false] at hy ⊢;rcases hy with (hy | hy) | hy
  ·exact .inl hy
  ·exact .inr hy
  ·exact .inl hy
theorem Zf {t s:List Nat}(v:Wf h)(b:N3 h l bv t)(C:t.length<=200000000)(hs:s.length<=20000000)(u:∀c∈s,c<256) {Q:V->H->Prop} (r:∀(n:Int) N4 h',N3 h' l N4 (t++s)->Grow h bv N4->Mod h h' (l::ag bv)->Wf h'->Q (.tuple [.int .i64 n,.nilIface]) h'):CW pf G0 gg [.ptr l 0,.str s] h Q:=by
 refine oA.enter (by kernel_rfl) ?_;cbv;refine UU v b λB Uj E q=>?_;have Iw:=b.own.mono E (dJ b.VT);cbv;refine .of Uj rfl ?_;cbv;refine .own q Iw (m:=s.length) (new:=ae s) rfl (by simp [bq]) (aD s) (by unfold bg;omega) (by decide) λa h3 f O9 k w=>?_;have j:=k.get Uj b.VT;rw [<-aM,show t.length+s.length=(t++s).length from by simp] at f;have d:l∉ag a:=O9.dp Uj b.VT;cbv;refine .one w j f.sl.flat rfl rfl rfl λh4 IY p x=>?_;have g:Grow h bv a:=λy hy=>(O9 y hy).imp (λe=>by
  cases e':h.get y with
  | none=>rfl
  | some o=>
    by_cases MS:y=l
    ·subst MS;exact absurd hy d
    ·rw [E.get e' (by simpa using MS)] at e;cases e) id
 cbv;refine .of λn z A=>?_;cbv;refine r n a h4 ⟨.inr IY,f.mono p (dJ d),d,λy hy=>(List.mem_append.1 hy).elim (b.GZ y) (u y)⟩ g ?_ x;exact ((E.trans k).trans p).mono λy o _ hy=>by
  simp only [List.mem_append,List.mem_cons,List.not_mem_nil,or_false] at hy ⊢;rcases hy with (hy | hy) | hy
  ·exact .inl hy
  ·exact .inr hy
  ·exact .inl hy
theorem alu {t:List Nat}(b:N3 h l bv t){Q:V->H->Prop} (c:∀n:Int,0<=n->n.toNat=t.length->Q (.int .i64 n) h):CW pf G0 mM [.ptr l 0] h Q:=by
 refine xl.enter (by kernel_rfl) ?_;rcases b.get with a | a<;>(
  cbv;refine .of a rfl ?_;cbv;refine .of b.own.sl λn d e=>?_;cbv;exact c n d e)
theorem _root_.Go.Dx.PdN.mV {pf:Unit->Program} {x:X}  {r:V} {K:V->Prop} (c:x.VI tp=some v) (b:nL v=some r) (a:K r):PdN pf (.mV x) tp K:=
 ⟨λtm s=>⟨r,by simp only [PD.eval,qz s c,b],a⟩⟩
theorem abb:∀(t:List Nat) (k:Nat),k=t.length->takeN k (ae t)=some (ae t):=λt k e=>by subst e;rw [<-bq t];exact qk _
theorem _root_.Go.Dx.EdN.mW {x n:X}{r:Lb}{m:Int}{t:List Nat}{K:V->H->Prop} (o:Wf h) (l:x.VI tp=some (.ptr r 0)) (e:n.VI tp=some (.int .i64 m)) (h0:0<=m) (j:m.toNat=t.length) (q:0<t.length) (hs:t.length<=1048576) (c:h.get r=some (.cells (ae t) 5 0 .yes)) (g:∀b∈t,b<256)
  (d:∀h',Mod h h' [r]->Wf h'->K (.str t) h'):EdN (.mW 5 x n) tp h K:=by
 obtain ⟨k,rfl⟩:∃k:Nat,m=Int.ofNat (k+1):=by
  refine ⟨m.toNat - 1,?_⟩;have:m=((m.toNat - 1+1:Nat):Int):=by omega
  exact this
 have a:k+1=t.length:=by simpa using j
 obtain ⟨p,i,f⟩:=H.eD o c rfl (.cells (ae t) 5 (Nat.max 0 (k+1)) .yes);refine ⟨λtm s=>⟨.str t,_,?_,d _ i f⟩⟩;show uR h 5 (x.ev tm) (n.ev tm)=_
 rw [qz s l,qz s e];simp only [uR,c,Nat.beq_refl,Bool.true_and,show Nat.ble k 1048576=true from Nat.ble_eq_true_of_le (by omega),bO,abb t (k+1) a,ob,zt t g]
theorem abd {t:List Nat}(u:Wf h)(b:N3 h l bv t)(f:0<t.length)(hs:t.length<=1048576){Q:V->H->Prop} (e:∀h',Mod h h' (ag bv)->Wf h'->Q (.str t) h'):CW pf G0 jM [.ptr l 0] h Q:=by
 have v:=b.own.sl;have Jn:∃r,ag bv=[r]/\h.get r=some (.cells (ae t) 5 0 .yes)/\nL bv=some (.ptr r 0):=by
  have d:=b.own;generalize w:ae t=cs at d;generalize s:t.length=c at d f;cases d with
  | nil=>omega
  | @ends r _ _ a hl=>
    obtain ⟨k,rfl⟩:∃k,c=k+1:=⟨c - 1,by omega⟩;exact ⟨r,rfl,a,rfl⟩
  | @exact r _ _ a hl=>
    obtain ⟨k,rfl⟩:∃k,c=k+1:=⟨c - 1,by omega⟩;exact ⟨r,rfl,a,rfl⟩
 obtain ⟨r,Rr,g,i⟩:=Jn;rw [Rr] at e;have q:=b.GZ;refine sZ.enter (by kernel_rfl) ?_;rcases b.get with a | a<;>(
  cbv;refine .of follows 4 ?_;cbv;refine .of a rfl ?_;cbv;refine .mV rfl i ?_;cbv;refine .of a rfl ?_;cbv;refine .of v λn j p=>?_;cbv;refine .mW u rfl rfl j p f hs g q λh' m o=>?_;cbv;refine .nil ?_;cbv;exact e h' m o)
end K
namespace Go.Proofs
open Go.Shelf
theorem Tryz.Fh:Builder.Extra Tryz.prog Tryz.Ho:={
 sizeBuilder:=by kernel_rfl
 liesBuilder:=by kernel_rfl
 t5:=Tryz.DJ.t5
 a5:=Tryz.DJ.a5
 z5:=Tryz.DJ.z5
 v5:=Tryz.DJ.v5
 infoByte:=by kernel_rfl
 cellsByte:=by kernel_rfl
 sizeByte:=by kernel_rfl
 neB5:=by decide}
end Go.Proofs
namespace K
open Go Go.Dx Go.RowKit Go.Proofs
variable{h:H}
def dec (n:Int):List Nat:=(Lib.itoa n).map (·.toNat)
theorem vK (l:List UInt8):au ⟨l.toArray⟩=l.map (·.toNat):=by simp [au]
theorem Zg {n:Int}(h0:-9223372036854775808<=n)(c:n<=9223372036854775807){Q:V->H->Prop} (a:Q (.str (dec n)) h):CW pf G0 Lx [.int .i64 n] h Q:=by
 refine .text Tryz.func78 rfl rfl λ{B w0 ρ w xs} R j d=>?_;cases d with
 | cons r t=>
   cases r;cases t;refine (Any.strconv_Itoa Tryz.acU n h0 c w (j.pow w R.below)).mono λe w' ⟨g,k,os,f⟩=>⟨_,g,?_,?_⟩
   ·subst f
    refine ⟨rfl,rfl,rfl,?_,λi hi=>?_⟩
    ·simp [«Sort».grow]
    ·simp only [«Sort».grow]
     rw [Array.getElem?_append_left (by exact hi)];rfl
   ·rw [vK];exact a
theorem Fi (t:ByteArray):∀m,(Lib.repeatL t.data.toList m).map (·.toNat)=(List.replicate m (au t)).flatten
 | 0=>rfl
 | m+1=>by rw [List.replicate_succ,List.flatten_cons,<-Fi t m,Lib.repeatL,List.map_append];rfl
theorem XJ (t:ByteArray):(au t).length=t.size:=by unfold au;rw [List.length_map];rfl
theorem Pf {c:Int}{s:List Nat}(h0:0<=c)(j:c<=1000000)(hs:s.length<=1000000){Q:V->H->Prop} (b:∀r,r=(List.replicate c.toNat s).flatten->Q (.str r) h):CW pf G0 Gt [.str s,.int .i64 c] h Q:=by
 refine .text Tryz.func79 rfl rfl λ{B w0 ρ w xs} R i f=>?_;cases f with
 | cons r t=>
   cases t with
   | cons r2 t=>
     cases t;cases r2;cases r with
     | str t=>
     obtain ⟨m,rfl⟩:=Int.eq_ofNat_of_zero_le h0;have a:t.size<=1000000:=by
      have:(au t).length=t.size:=XJ t;omega
     refine (Any.strings_Repeat Tryz.DJ Tryz.Fh t m w (by omega) ?_).mono λe w' ⟨g,d⟩=>⟨_,g,d,b _ ?_⟩
     ·have:t.size*m<=1000000*1000000:=Nat.mul_le_mul a (by omega)
      omega
     ·rw [vK]
      exact Fi t m
end K
namespace Go.Proofs
open Go.Shelf
theorem Tryz.sJ:Builder.Extra Tryz.prog Tryz.Hp:={
 sizeBuilder:=by kernel_rfl
 liesBuilder:=by kernel_rfl
 t5:=by kernel_rfl
 a5:=λw=>by kernel_rfl
 z5:=λw=>by kernel_rfl
 v5:=λw=>by kernel_rfl
 infoByte:=by kernel_rfl
 cellsByte:=by kernel_rfl
 sizeByte:=by kernel_rfl
 neB5:=by decide}
end Go.Proofs
namespace K
open Go Go.Dx Go.RowKit Go.Proofs
set_option maxRecDepth 100000
variable{h:H}
theorem RC {n:Int}(h0:-9223372036854775808<=n)(f:n<=9223372036854775807){Q:V->H->Prop} (c:Q (.str (dec n)) h):CW pf G0 AG [.int .i64 n,.int .i64 10] h Q:=by
 refine .text Tryz.func168 rfl rfl λ{B w0 ρ w xs} R d q=>?_;obtain ⟨m,o,rfl,a,b⟩:=q.two;cases a;cases b;refine (Any.strconv_FormatInt_10 Tryz.acV n h0 f w (d.pow w R.below)).mono λe w' ⟨l,k,os,j⟩=>⟨_,l,?_,?_⟩
 ·subst j
  refine ⟨rfl,rfl,rfl,?_,λi hi=>?_⟩
  ·simp [«Sort».grow]
  ·simp only [«Sort».grow]
   rw [Array.getElem?_append_left (by exact hi)];rfl
 ·rw [vK];exact c
theorem vL {ρ:bD}{b:ej}{w:World}:∀{l:List (List Nat)} {a:List V} {off n:Nat} {e:TypeId} {k:Nat} {d:Own},dE ρ b a e k d w->n=l.length->rowFrom a off n=some (strs l)->∃xs:List ByteArray,xs.map au=l/\∀(j:Nat) x,xs[j]? =some x->w.cell? ⟨b.block,b.base+off+j,none⟩=some (.string x)
 | [],a,off,n,e,k,d,c,hn,hr=>⟨[],rfl,λj x h=>by simp at h⟩
 | s::l,a,off,n,e,k,d,c,hn,hr=>by
   subst hn;have Co:=hr;obtain ⟨u,v,r⟩:=r9 hr;have h0:=r 0 (by simp);simp only [strs,List.getElem?_cons_zero,Nat.add_zero] at h0;obtain ⟨x,p,q⟩:=c.cell off _ h0.symm;have L8:rowFrom a (off+1) l.length=some (strs l):=by
    refine yw hr (i:=1) (m:=l.length) ?_ (by simp;omega);simp only [strs,rowFrom,bz];have:=qk (strs l)
    rwa [eC] at this
   obtain ⟨xs,f,g⟩:=vL c rfl L8;cases q with
   | str t=>
     refine ⟨t::xs,by simp [f],λj y o=>?_⟩;cases j with
     | zero=>simp at o;subst o;simpa [cQ,Nat.add_assoc] using p
     | succ j=>
       have:=g j y (by simpa using o);rw [show b.base+off+(j+1)=b.base+(off+1)+j by omega];exact this
theorem ahm {v:V}{l:List (List Nat)}(m:Ro h 1 v l.length (strs l))(Y:l.length<=12)(hs:∀s∈l,s.length<=64) {Q:V->H->Prop} (I:∀t:List Nat,t.length<=1000->Q (.str t) h):CW pf G0 yJ [v,.str []] h Q:=by
 refine .text Tryz.func271 rfl rfl λ{B w0 ρ w xs} R X W=>?_;obtain ⟨Z,N,rfl,G,J⟩:=W.two;have k:∃t:ByteArray,N = .string t/\t.data.toList=[]:=by
  generalize hz:([]:List Nat)=z at J;cases J with
  | str t=>exact ⟨t,rfl,by unfold au at hz;simpa using hz.symm⟩
 obtain ⟨f,rfl,k⟩:=k;have key:∀(ys:List ByteArray),ys.map au=l->(Lib.join (ys.map (·.data.toList)) f.data.toList).length<=1000:=λys d=>by
  rw [k];have r:∀(zs:List ByteArray),(∀z∈zs,z.data.toList.length<=64)->(Lib.join (zs.map (·.data.toList)) []).length<=64*zs.length:=λzs hz=>by
   cases zs with
   | nil=>simp [Lib.join,List.intercalate]
   | cons z zs=>
     rw [List.map_cons,Lib.join_length];have:∀us:List ByteArray,(∀z∈us,z.data.toList.length<=64)->Lib.lens (us.map (·.data.toList))<=64*us.length:=λus=>by
      induction us with
      | nil=>intro _;simp [Lib.lens]
      | cons u us ih=>
        intro L;have P:=L u (List.mem_cons_self ..);have K:=ih λz hz=>L z (List.mem_cons_of_mem _ hz);simp only [Lib.lens,List.map_cons,List.sum_cons,List.length_cons] at K ⊢;omega
     have:=this (z::zs) hz;simp only [List.map_cons,List.length_cons,List.length_nil,Nat.zero_mul] at this ⊢;omega
  have P:=r ys λz hz=>by
   have:au z∈l:=d▸List.mem_map_of_mem hz;have:=hs _ this;simpa [au] using this
  have K:ys.length=l.length:=by rw [<-d,List.length_map]
  omega
 have A:∀(y o c:Nat) (ys:List ByteArray),ys.map au=l->(∀(j:Nat) x,ys[j]? =some x->w.cell? ⟨y,o+j,none⟩=some (.string x))->y<w.heap.size->ys.length<=c->
   Calls (pf ()) yJ ⟨[.slice (some ⟨y,o,none⟩) l.length c,.string f]⟩ w λe w'=>∃t,e = .returned (.string t)/\Below w.heap.size w w'/\Q (.str (au t)) h:=λy o c ys d C i T=>by
  have F:l.length=ys.length:=by rw [<-d,List.length_map]
  have U:=key ys d;rw [F];exact (Any.strings_Join Tryz.YF Tryz.sJ y o c ys f w C i (by omega) T (by omega)).mono λe w' ⟨D,S⟩=>⟨_,D,S,by rw [vK];exact I _ (by rw [List.length_map];exact U)⟩
 generalize E:strs l=cs at m;generalize M:l.length=n at m;cases m with
 | nil=>
   cases G with
   | nilSlice c=>
     have:l=[]:=by cases l with | nil=>rfl | cons a b=>cases E
     subst this;exact (Any.strings_Join_none Tryz.YF Tryz.sJ none 0 f w).mono λe w' ⟨D,O⟩=>⟨_,D,O▸Below.refl _ _,I _ (by simp [au])⟩
 | @row q off _ cap row _ e fz hg m C=>
   subst M;rw [Nat.mul_one] at m;cases G with
   | @slice _ b _ _ c i=>
     obtain ⟨ys,ON,SG⟩:=vL (R.obj q b _ i hg:dE ρ b row e fz .no w) rfl (E▸m);exact A b.block (b.base+off) c ys ON SG (R.obj q b _ i hg:sS ρ b w _).lt (by have:l.length<=c:=C;rw [<-ON,List.length_map] at this;exact this)
   | @sliceEnd _ b _ _ size c i gb HQ=>
     obtain ⟨ys,ON,SG⟩:=vL (R.obj q b _ i hg:dE ρ b row e fz .no w) rfl (E▸m);exact A b.block (b.base+off) c ys ON SG (R.obj q b _ i hg:sS ρ b w _).lt (by rw [<-ON,List.length_map] at gb;exact gb)
end K
namespace K
open Go Go.Dx Go.RowKit Go.Proofs
set_option maxRecDepth 100000
variable{h:H}
def i64 (n:Int):Prop:=-9223372036854775808<=n/\n<=9223372036854775807
inductive Lay:Js->Prop
 | int {i:Int} {t:List Nat} {ns:List (List Nat)} {its:List Js} (h:i64 i):Lay (.mk 2 i t ns its)
 | text {i:Int} {t:List Nat} {ns:List (List Nat)} {its:List Js}:Lay (.mk 3 i t ns its)
 | obj {i:Int} {t:List Nat} {ns:List (List Nat)} {its:List Js} (hl:ns.length=its.length) (hs:ns.length<=12) (hn:∀s∈ns,s.length<=64) (hi:∀x∈its,Lay x):Lay (.mk 5 i t ns its)
theorem aeM {v:V}{l:List (List Nat)}(A:Wf h)(u:Ro h 1 v l.length (strs l))(m:l.length<=100000)(y:∀s∈l,bt s) {Q:V->H->Prop} (c:∀b h',Mod h h' []->Wf h'->Q (.bool b) h'):CW pf G0 BR [v] h Q:=by
 refine NT.enter (by kernel_rfl) ?_;cbv;refine pg.enter (by kernel_rfl) ?_;cbv;refine rU.enter (by kernel_rfl) ?_;cbv;refine .of u.sl λn G F=>?_;cbv;refine .inv [p0,p1,p6,p7,p8] (λp B h'=>∃i:Int,B=[v,.func 299 [] [],v,.int .i64 n,.int .i64 i]/\0<=i/\i.toNat<=l.length/\p=l.length - i.toNat/\Mod h h' []/\Wf h') [_,_,_,_,_] rfl _ ⟨0,rfl,by omega,by simp,rfl,Mod.refl _ _,A⟩ ?_;rintro p _ h' ⟨i,rfl,E,hi,K,k,t⟩;cbv;refine .lt (λJ=>?_) λL=>?_
 ·obtain ⟨x,w⟩:∃x,l[i.toNat]? =some x:=⟨_,List.getElem?_eq_getElem (by omega)⟩
  have a:=y x (List.mem_of_getElem? w);cbv;refine .of (u.mono k).sl E rfl (by omega) (eZ w) λq off C=>?_;cbv;refine .fR C 0 rfl ?_;cbv;refine ⟨299,[],[],rfl,?_⟩;refine IQ.enter (by kernel_rfl) ?_;cbv;refine .of t (by have:=a.1;omega) λI g B9 z f=>?_;cbv;refine rq B9 (by have:=a.1;omega) λr=>?_;have d:Mod h g []:=(k.trans z).mono λl o _ m=>by simp at m
  cbv;refine .ge (λe=>?_) λe=>?_
  ·cbv;refine .ge (λD=>?_) λD=>?_
   ·cbv;exact c _ g d f
   ·cbv;exact c _ g d f
  ·cbv;refine .add (by omega) (by omega) λj M=>?_
   cbv;exact ⟨rfl,l.length - j.toNat,by omega,j,rfl,by omega,by omega,rfl,d,f⟩
 ·cbv;refine .qQ (by omega) ?_
  cbv;exact c _ h' k t
theorem UW {k i:Int}{tx:List Nat}{ns:List (List Nat)}{its:List Js}{cs:List V}(F:Wf h)(L:oL h (.mk k i tx ns its) cs)(m:Lay (.mk k i tx ns its)){Q:V->H->Prop} (g:∀h',Mod h h' []->Wf h'->Q (.bool false) h') (y:∀h',(k≠5->ns.length=0/\its.length=0)->Mod h h' []->Wf h'->Q (.bool true) h'):CW pf G0 BQ [.agg cs] h Q:=by
 cases L with
 | @mk _ _ _ _ _ nv iv rows ht Ds NV VR h5 xy hi hr=>
 refine NS.enter (by kernel_rfl) ?_;cbv;refine .agg ?_;cbv;refine .of F λM j d O P f=>?_;have Dr:=xy.mono P;have Je:=hi.mono P;cbv;refine .of d rfl ?_;cases m with
 | int aho=>
   cbv;refine .cK (by omega) ?_;cbv;refine .cK (by omega) ?_;cbv;refine .nH (by omega) ?_;cbv;refine .of d rfl ?_;cbv;refine .seq (λw=>?_) λw=>?_
   ·cbv;refine .of d rfl ?_
    cbv;refine .of Dr.sl λa s B=>?_;cbv;refine .of d rfl ?_;cbv;refine .of Je.sl λb D z=>?_;cbv;refine .add (by omega) (by omega) λc E=>?_;cbv;refine .eq (λv=>?_) λv=>?_
    ·cbv;exact y j (λ_=>⟨by omega,by omega⟩) P f
    ·cbv;exact g j P f
   ·cbv;exact g j P f
 | text=>
   cbv;refine .cK (by omega) ?_;cbv;refine .cK (by omega) ?_;cbv;refine .cK (by omega) ?_;cbv;refine .nH (by omega) ?_;cbv;refine .of d rfl ?_;cbv;refine .eq (λw=>?_) λw=>?_
   ·cbv;refine .of d rfl ?_
    cbv;refine .of Dr.sl λa s B=>?_;cbv;refine .of d rfl ?_;cbv;refine .of Je.sl λb D z=>?_;cbv;refine .add (by omega) (by omega) λc E=>?_;cbv;refine .eq (λv=>?_) λv=>?_
    ·cbv;refine .of d rfl ?_
     cbv;refine .of f (by have:=ht.1;omega) λG n B9 R u=>?_;have U:Mod h n []:=(P.trans R).mono λl o _ m=>by simp at m
     cbv;refine rq B9 (by have:=ht.1;omega) λr=>?_;cbv;refine .lt (λx=>?_) λx=>?_
     ·cbv;exact y n (λ_=>⟨by omega,by omega⟩) U u
     ·cbv;exact g n U u
    ·cbv;exact g j P f
   ·cbv;exact g j P f
 | obj hll Pg hln Jp=>
   cbv;refine .cK (by omega) ?_;cbv;refine .cK (by omega) ?_;cbv;refine .cK (by omega) ?_;cbv;refine .cK (by omega) ?_;cbv;refine .cK (by omega) ?_;cbv;refine .nH (by omega) ?_;cbv;refine .of d rfl ?_;cbv;refine .eq (λw=>?_) λw=>?_
   ·cbv;refine .of d rfl ?_
    cbv;refine .seq (λv=>?_) λv=>?_
    ·cbv;refine .of d rfl ?_
     cbv;refine .of Dr.sl λa s B=>?_;cbv;refine .of d rfl ?_;cbv;refine .of Je.sl λb D z=>?_;cbv;refine .eq (λx=>?_) λx=>?_
     ·cbv;refine .of d rfl ?_
      cbv;refine ahm Dr Pg hln λN I=>?_;cbv;refine .of f (by omega) λG n B9 R u=>?_;have U:Mod h n []:=(P.trans R).mono λl o _ m=>by simp at m
      cbv;refine rq B9 (by omega) λr=>?_;cbv;refine .lt (λK=>?_) λK=>?_
      ·cbv;refine .of (R.get d) rfl ?_
       cbv;refine aeM u (Dr.mono R) NV Ds λb h3 J C=>?_;have A:Mod h h3 []:=(U.trans J).mono λl o _ m=>by simp at m
       cases b with
       | true=>cbv;exact y h3 (λq=>absurd rfl q) A C
       | false=>cbv;exact g h3 A C
      ·cbv;exact g n U u
     ·cbv;exact g j P f
    ·cbv;exact g j P f
   ·cbv;exact g j P f
theorem aeN (n:Nat):∀{t:Js} {h:H} {cs:List V} {d:Int},sizeOf t<n->Wf h->oL h t cs->Lay t->0<=d->d<=16->∀{Q:V->H->Prop},(∀(e:Int) h',Mod h h' []->Wf h'->Q (.int .i64 e) h')->CW pf G0 BO [.agg cs,.int .i64 d] h Q:=by
 induction n with
 | zero=>intro t h cs d hn;omega
 | succ n ih=>
   intro t h cs d hn hw hj b sW hd Q D;have YD:=hj;cases hj with
   | @mk k i tx ns its nv iv rows ht Ds NV VR h5 xy hi hr=>
   have FK:∀(j:Nat) x,its[j]? =some x->k=5->Lay x:=λj x hx hk=>by
    cases b with
    | int=>omega
    | text=>omega
    | obj _ _ _ Jp=>exact Jp x (List.mem_of_getElem? hx)
   refine NQ.enter (by kernel_rfl) ?_;cbv;refine .agg ?_;cbv;refine .of hw λY h1 Z gi K aK=>?_;cbv;refine .of Z rfl ?_;cbv;refine .cK (by cases b<;>omega) ?_;cbv;refine .of Z rfl ?_;cbv;refine .eq (λek=>?_) λek=>?_
   ·cbv;refine .add (by omega) (by omega) λI ya=>?_
    cbv;refine .gt (λg=>?_) λg=>?_
    ·cbv;exact D _ h1 K aK
    cbv;refine .of Z rfl ?_;cbv;refine UW aK (YD.mono K) b (λX F S=>?_) λX MT F S=>?_
    ·cbv;exact D _ X ((K.trans F).mono λl o _ b=>by simp at b) S
    have aQ:Mod h X []:=(K.trans F).mono λl o _ b=>by simp at b
    have dh:=F.get Z;cbv;refine .of S λw h3 gQ FC aI aS=>?_;have aN:Mod h h3 []:=(aQ.trans aI).mono λl o _ b=>by simp at b
    have gZ:=aI.get dh;have W:h.get w=none:=aj aQ (by simp) FC;have fm:∀l,l∈[w]->h.get l=none:=λl b=>by simp at b;subst b;exact W
    have M:Y≠w:=λe=>by subst e;rw [dh] at FC;cases FC
    cbv;refine .of gZ rfl ?_;cbv;refine .of (xy.mono aN).sl λa ha0 ha=>?_;cbv;refine .inv [p1,p2,p5,p28,p29,p30] (λG P h'=>∃(x:Int) (m:bH) (A:Nat),P=[.int .i64 I,.ptr Y 0,.map w,nv,.int .i64 a,.int .i64 x]/\0<=x/\x.toNat<=ns.length/\G=ns.length - x.toNat/\h'.get w=some (.map (cd m) A)/\(∀k v,cO m k=some v->v = .int .i64 1)/\h'.get Y=some (.cells [.int .i64 k,.int .i64 i,.str tx,nv,iv] bL 0 .yes)/\Mod h h' []/\Wf h') [_,_,_,_,_,_] rfl _ ⟨0,[],0,rfl,by omega,by simp,rfl,gQ,(λk v e=>by cases e),gZ,aN,aS⟩ ?_;rintro G _ h4 ⟨x,m,A,rfl,kG,hx,eF,E,vM,dH,B,L⟩;cbv;refine .lt (λbA=>?_) λjl=>?_
    ·obtain ⟨s,hs⟩:∃s,ns[x.toNat]? =some s:=⟨_,List.getElem?_eq_getElem (by omega)⟩
     cbv;refine .of (xy.mono B).sl kG rfl (by omega) (eZ hs) λq off R=>?_;cbv;refine .fR R 0 rfl ?_;cases hg:cO m s with
     | some v=>
       have O3:=vM _ _ hg;subst O3;cbv;refine .hit E hg ?_;cbv;refine .add (by omega) (by omega) λq O=>?_;cbv;refine .of L E λC r u p=>?_;cbv;refine .hit r (by rw [eh,if_pos rfl]) ?_;cbv;refine .ZQ (by omega) ?_;cbv;exact D _ C (B.fr u λl b=>.inl (fm l b)) p
     | none=>
       cbv;refine .Gs E hg ?_;cbv;refine .add (by omega) (by omega) λq O=>?_;have O:q=1:=by omega
       subst O;cbv;refine .of L E λC r u p=>?_;cbv;refine .hit r (by rw [eh,if_pos rfl]) ?_;cbv;refine .Ij (by omega) ?_;cbv;refine .add (by omega) (by omega) λx2 ke=>?_;have H6:∀k v,cO (dt m s (.int .i64 1) A) k=some v->v = .int .i64 1:=λk v e=>by
        rw [eh] at e;split at e
        ·cases e;rfl
        ·exact vM k v e
       generalize dt m s (.int .i64 1) A=U at r H6;generalize eB m s A=N at r;cbv;exact ⟨rfl,ns.length - x2.toNat,by omega,x2,U,N,rfl,by omega,by omega,rfl,r,H6,u.get dH (by simpa using M),B.fr u (λl b=>.inl (fm l b)),p⟩
    ·cbv;refine .of dH rfl ?_
     cbv;refine .of (hi.mono B).sl λc hc0 hc=>?_;cbv;refine .inv [p1,p44,p45,p46] (λG P h'=>∃(x:Int),P=[.int .i64 I,iv,.int .i64 c,.int .i64 x]/\0<=x/\x.toNat<=its.length/\G=its.length - x.toNat/\Mod h h' []/\Wf h') [_,_,_,_] rfl _ ⟨0,rfl,by omega,by simp,rfl,B,L⟩ ?_;rintro m2 _ h5 ⟨y,rfl,BV,hy,acN,aT,bK⟩;cbv;refine .lt (λbA=>?_) λZZ=>?_
     ·obtain ⟨tz,f⟩:∃t,its[y.toNat]? =some t:=⟨_,List.getElem?_eq_getElem (by omega)⟩
      have T:k=5:=by
       by_cases hk:k=5
       ·exact hk
       ·have:=(MT hk).2;omega
      obtain ⟨ecs,Gr,J⟩:=(hr.mono aT).get f;have alq:=Js.Jo (k:=k) (i:=i) (t:=tx) (ns:=ns) f;have mS:=Gr.aZ;obtain ⟨a1,a2,a3,a4,a5,rfl⟩:=Gr.five;cbv;refine .of (hi.mono aT).sl BV rfl (by omega) J λq off R=>?_;cbv;refine .jC R rfl ?_;cbv;refine .of bK λle h6 Bu L7 bR cz=>?_;have US:h.get le=none:=aj aT (by simp) L7;cbv;refine .of (cs:=[a1,a2,a3,a4,a5]) cz Bu rfl rfl rfl rfl mS rfl λh7 Fg db eJ=>?_;cbv;refine .of Fg rfl ?_;have bQ:Mod h h6 []:=(aT.trans bR).mono λl o _ b=>by simp at b
      have cH:Mod h h7 []:=bQ.fr db λl b=>by simp at b;subst b;exact .inl US
      cbv;refine ih (by omega) eJ ((Gr.mono bR).mono db) (FK _ _ f T) (by omega) g λe C u p=>?_;have dT:Mod h C []:=(cH.trans u).mono λl o _ b=>by simp at b
      cbv;refine .ne (λe1=>?_) λe1=>?_
      ·cbv;refine .add (by omega) (by omega) λy2 SG=>?_
       cbv;exact ⟨rfl,its.length - y2.toNat,by omega,y2,rfl,by omega,by omega,rfl,dT,p⟩
      ·cbv;exact D _ C dT p
     ·cbv;exact D _ h5 aT bK
   ·cbv;refine .Ij (by omega) ?_
    obtain ⟨I,yh⟩:∃I,I=d:=⟨d,rfl⟩;rw [<-yh];have g:I<=16:=by omega
    cbv;refine .of Z rfl ?_;cbv;refine UW aK (YD.mono K) b (λX F S=>?_) λX MT F S=>?_
    ·cbv;exact D _ X ((K.trans F).mono λl o _ b=>by simp at b) S
    have aQ:Mod h X []:=(K.trans F).mono λl o _ b=>by simp at b
    have dh:=F.get Z;cbv;refine .of S λw h3 gQ FC aI aS=>?_;have aN:Mod h h3 []:=(aQ.trans aI).mono λl o _ b=>by simp at b
    have gZ:=aI.get dh;have W:h.get w=none:=aj aQ (by simp) FC;have fm:∀l,l∈[w]->h.get l=none:=λl b=>by simp at b;subst b;exact W
    have M:Y≠w:=λe=>by subst e;rw [dh] at FC;cases FC
    cbv;refine .of gZ rfl ?_;cbv;refine .of (xy.mono aN).sl λa ha0 ha=>?_;cbv;refine .inv [p1,p2,p5,p28,p29,p30] (λG P h'=>∃(x:Int) (m:bH) (A:Nat),P=[.int .i64 I,.ptr Y 0,.map w,nv,.int .i64 a,.int .i64 x]/\0<=x/\x.toNat<=ns.length/\G=ns.length - x.toNat/\h'.get w=some (.map (cd m) A)/\(∀k v,cO m k=some v->v = .int .i64 1)/\h'.get Y=some (.cells [.int .i64 k,.int .i64 i,.str tx,nv,iv] bL 0 .yes)/\Mod h h' []/\Wf h') [_,_,_,_,_,_] rfl _ ⟨0,[],0,rfl,by omega,by simp,rfl,gQ,(λk v e=>by cases e),gZ,aN,aS⟩ ?_;rintro G _ h4 ⟨x,m,A,rfl,kG,hx,eF,E,vM,dH,B,L⟩;cbv;refine .lt (λbA=>?_) λjl=>?_
    ·obtain ⟨s,hs⟩:∃s,ns[x.toNat]? =some s:=⟨_,List.getElem?_eq_getElem (by omega)⟩
     cbv;refine .of (xy.mono B).sl kG rfl (by omega) (eZ hs) λq off R=>?_;cbv;refine .fR R 0 rfl ?_;cases hg:cO m s with
     | some v=>
       have O3:=vM _ _ hg;subst O3;cbv;refine .hit E hg ?_;cbv;refine .add (by omega) (by omega) λq O=>?_;cbv;refine .of L E λC r u p=>?_;cbv;refine .hit r (by rw [eh,if_pos rfl]) ?_;cbv;refine .ZQ (by omega) ?_;cbv;exact D _ C (B.fr u λl b=>.inl (fm l b)) p
     | none=>
       cbv;refine .Gs E hg ?_;cbv;refine .add (by omega) (by omega) λq O=>?_;have O:q=1:=by omega
       subst O;cbv;refine .of L E λC r u p=>?_;cbv;refine .hit r (by rw [eh,if_pos rfl]) ?_;cbv;refine .Ij (by omega) ?_;cbv;refine .add (by omega) (by omega) λx2 ke=>?_;have H6:∀k v,cO (dt m s (.int .i64 1) A) k=some v->v = .int .i64 1:=λk v e=>by
        rw [eh] at e;split at e
        ·cases e;rfl
        ·exact vM k v e
       generalize dt m s (.int .i64 1) A=U at r H6;generalize eB m s A=N at r;cbv;exact ⟨rfl,ns.length - x2.toNat,by omega,x2,U,N,rfl,by omega,by omega,rfl,r,H6,u.get dH (by simpa using M),B.fr u (λl b=>.inl (fm l b)),p⟩
    ·cbv;refine .of dH rfl ?_
     cbv;refine .of (hi.mono B).sl λc hc0 hc=>?_;cbv;refine .inv [p1,p44,p45,p46] (λG P h'=>∃(x:Int),P=[.int .i64 I,iv,.int .i64 c,.int .i64 x]/\0<=x/\x.toNat<=its.length/\G=its.length - x.toNat/\Mod h h' []/\Wf h') [_,_,_,_] rfl _ ⟨0,rfl,by omega,by simp,rfl,B,L⟩ ?_;rintro m2 _ h5 ⟨y,rfl,BV,hy,acN,aT,bK⟩;cbv;refine .lt (λbA=>?_) λZZ=>?_
     ·obtain ⟨tz,f⟩:∃t,its[y.toNat]? =some t:=⟨_,List.getElem?_eq_getElem (by omega)⟩
      have T:k=5:=by
       by_cases hk:k=5
       ·exact hk
       ·have:=(MT hk).2;omega
      obtain ⟨ecs,Gr,J⟩:=(hr.mono aT).get f;have alq:=Js.Jo (k:=k) (i:=i) (t:=tx) (ns:=ns) f;have mS:=Gr.aZ;obtain ⟨a1,a2,a3,a4,a5,rfl⟩:=Gr.five;cbv;refine .of (hi.mono aT).sl BV rfl (by omega) J λq off R=>?_;cbv;refine .jC R rfl ?_;cbv;refine .of bK λle h6 Bu L7 bR cz=>?_;have US:h.get le=none:=aj aT (by simp) L7;cbv;refine .of (cs:=[a1,a2,a3,a4,a5]) cz Bu rfl rfl rfl rfl mS rfl λh7 Fg db eJ=>?_;cbv;refine .of Fg rfl ?_;have bQ:Mod h h6 []:=(aT.trans bR).mono λl o _ b=>by simp at b
      have cH:Mod h h7 []:=bQ.fr db λl b=>by simp at b;subst b;exact .inl US
      cbv;refine ih (by omega) eJ ((Gr.mono bR).mono db) (FK _ _ f T) (by omega) g λe C u p=>?_;have dT:Mod h C []:=(cH.trans u).mono λl o _ b=>by simp at b
      cbv;refine .ne (λe1=>?_) λe1=>?_
      ·cbv;refine .add (by omega) (by omega) λy2 SG=>?_
       cbv;exact ⟨rfl,its.length - y2.toNat,by omega,y2,rfl,by omega,by omega,rfl,dT,p⟩
      ·cbv;exact D _ C dT p
     ·cbv;exact D _ h5 aT bK
end K
namespace K
open Go Go.Dx Go.RowKit
set_option maxRecDepth 100000
variable{m:bH}{h:H}
theorem ma (x:Int):bU .i64 x=(x+9223372036854775808) % 18446744073709551616 - 9223372036854775808:=by
 rw [eT];simp [IntKind.wrap,IntKind.bits,IntKind.signed];omega
theorem abe (a b:Int):bU .i64 (bU .i64 a+b)=bU .i64 (a+b):=by
 rw [ma,ma,ma];omega
def rB:bH->Int
 | []=>0
 | (_,.int _ x,_)::r=>x+rB r
 | _::r=>rB r
theorem abf (m:bH)(a:List Nat)(b:Nat):gd m (a++[b])=(gd m a).filter λx=>!(x.2.2==b):=by
 unfold gd;rw [List.filter_filter];refine List.filter_congr λx _=>?_;have:dr x.2.2 (a++[b])=(dr x.2.2 a||(x.2.2==b)):=by
  rw [Bool.eq_iff_iff,Bool.or_eq_true,nj,nj,List.mem_append];simp
 rw [this];cases dr x.2.2 a<;>cases (x.2.2==b)<;>rfl
theorem filter_none {b:Nat}(h:b∉m.map λe=>e.2.2):(m.filter λx=>!(x.2.2==b))=m:=by
 rw [List.filter_eq_self];intro e a;have:e.2.2≠b:=λc=>h (List.mem_map.2 ⟨e,a,c⟩);simpa using this
theorem abg (a:(m.map λe=>e.2.2).Nodup) {k:List Nat} {x:Int} {b:Nat} (h:(k,.int .i64 x,b)∈m):rB (m.filter λe=>!(e.2.2==b))=rB m - x:=by
 induction m with
 | nil=>cases h
 | cons e r c=>
   simp only [List.map_cons,List.nodup_cons] at a;rcases List.mem_cons.1 h with d | h
   ·subst d
    rw [List.filter_cons,if_neg (by simp),filter_none a.1];simp only [rB];omega
   ·have g:e.2.2≠b:=λf=>a.1 (by rw [f];exact List.mem_map.2 ⟨_,h,rfl⟩)
    rw [List.filter_cons,if_pos (by simpa using g)];have c:=c a.2 h;obtain ⟨l,i,j⟩:=e;cases i<;>simp only [rB,c]<;>omega
theorem Ph {ld:Lb}{d:ei}(A:Wf h)(D:bF h ld d){Q:V->H->Prop}
  (q:∀h' x,x=bU .i64 (rB d.held)->Mod h h' []->Wf h'->Q (.int .i64 x) h'):CW pf G0 tS [.ptr ld 0] h Q:=by
 obtain ⟨room,ls,O,s,a,last,F,L,Zc,R,P,ac,c⟩:=d;obtain ⟨D1,D2,D3,D4,D5,D6,D7,D8,D9,D10,D11,D12,XC⟩:=D;dsimp only at D1 D7 D8 D9 q;refine GU.enter (by kernel_rfl) ?_;cbv;refine G2 D1 ?_;cbv;refine .of D1 rfl ?_;cbv;refine .rangeMap rfl A D7 λi N Jp FD E B=>?_;cbv;refine .inv [p3,SB] (λt C h'=>∃a acc last,C=[.int .i64 acc,.ptr i 0]/\t=(gd c a).length/\acc=bU .i64 (rB c - rB (gd c a))/\h'.get i=some (.mapIter (some s) Zc a last)/\Zc<=last/\Mod h h' []/\Wf h') [_,_] rfl _
  ⟨[],0,Zc,rfl,rfl,?_,Jp,by omega,E,B⟩ ?_
 ·have:gd c []=c:=List.filter_eq_self.2 λ_ _=>rfl
  rw [this,Int.sub_self];rfl
 rintro t _ h' ⟨a,acc,last,rfl,K,f,o,G,j,w⟩;have D7':=j.get D7 (by simp);cbv;refine .of w o D7' G (λe I=>D8.old e I) (λM=>?_) λk v b g h3 z u J=>?_
 ·cbv
  refine q _ _ ?_ j w;rw [f,M];simp [rB]
 ·have n:s≠i:=by rintro rfl;rw [D7'] at o;cases o
  have m:=u.get D7' (by simpa using n);obtain ⟨x,p⟩:=D9 _ (qu g);have p:v = .int .i64 x:=p;subst p;cbv;refine .entry z m D8 (qu g) ?_;cbv;refine .Gp λy hy=>?_;cbv;refine ⟨rfl,_,(by rw [K];exact Uo g),a++[b],y,Zc,rfl,rfl,?_,z,by omega,?_,J⟩
  ·rw [hy,f,abe,abf,abg _ g]
   ·congr 1;omega
   ·exact D8.Eu.sublist ((List.filter_sublist).map _)
  ·refine j.fr u λl r=>.inl ?_
   rw [List.mem_singleton] at r;subst r;exact FD
theorem bF.mono {h':H}{ld:Lb}{d:ei}(D:bF h ld d){F:List Lb}(m:Mod h h' F)(a:∀l,l∈d.own ld->l∉F:=by simp):bF h' ld d:={
 cell:=m.get D.cell (a _ (by simp [ei.own]))
 seen:=D.seen.mono m (a _ (by simp [ei.own])) λf b=>a _ (by
  have:f.bw∈(d.seen++d.last).map (·.bw):=List.mem_map.2 ⟨f,List.mem_append_left _ b,rfl⟩;simp only [ei.own,List.mem_cons,List.mem_append];simp only [this,or_true])
 last:=D.last.mono m (a _ (by simp [ei.own])) λf b=>a _ (by
  have:f.bw∈(d.seen++d.last).map (·.bw):=List.mem_map.2 ⟨f,List.mem_append_right _ b,rfl⟩;simp only [ei.own,List.mem_cons,List.mem_append];simp only [this,or_true])
 Cn:=D.Cn.mono m λl c=>a _ (by simp [ei.own,c])
 aJ:=D.aJ.mono m
 oks:=D.oks
 held:=m.get D.held (a _ (by simp [ei.own]))
 rJ:=D.rJ
 ints:=D.ints
 ne1:=D.ne1
 ne2:=D.ne2
 ne3:=D.ne3
 ag:=D.ag}
def ei.left (d:ei)(a:List Nat)(at_:Nat):Int:=bU .i64 (bU .i64 (bU .i64 (d.room - bU .i64 (rB d.held))+dI d.held a) - at_)
theorem abh {ld:Lb}{d:ei}{b:List Nat}(n:Wf h)(D:bF h ld d)(i:zw b)(k:d.aJ.length<=1000000000){Q:V->H->Prop}
  (q:bM (said d.seen) b=none->Q (.int .i64 20) h)
  (j:∀h' d',bF h' ld d'->d'.room=d.room->said d'.seen=(Act.drop b).run (said d.seen)->d'.last=d.last->d'.aJ=d.aJ++[.drop b]->d'.held=hdo d.held d.ch b (bM (said d'.seen) b)->
   (∀l,l∈d'.own ld->l∈d.own ld\/h.get l=none)->Mod h h' (d.own ld)->Wf h'->bM (said d.seen) b≠none->Q (.int .i64 0) h'):CW pf G0 tN [.ptr ld 0,.str b] h Q:=by
 refine GL.enter (by kernel_rfl) ?_;cbv;refine G3 D.cell i D.seen (λf c _ _=>?_) λc=>?_
 ·generalize f.bw=t
  cbv;refine .nH rfl ?_;cbv;refine .flat rfl ?_;cbv;refine .flat rfl ?_;cbv;refine Zb n D (a:=.drop b) trivial .drop k λh' d' a1 a2 s g p m o e r=>?_;cbv;exact j h' d' a1 a2 s g p m o e r (by rw [fY,c];simp)
 ·cbv;refine .cK (by decide) ?_
  cbv;exact q (by rw [fY,c];rfl)
end K
namespace K
open Go Go.Dx Go.RowKit
set_option maxRecDepth 100000
def ei.full (d:ei)(a:List Nat)(n:Nat):Prop:=(bM (said d.seen) a=none/\4096<=d.seen.length)\/d.left a ((bM (said d.seen) a).getD []).length<(n:Int)
theorem Dc {h:H}{ld:Lb}{d:ei}{b:List Nat}{vb:V}{bs:List Nat}(F:Wf h)(D:bF h ld d)(ok:zw b)(S:d.aJ.length<=1000000000)
  (y:Sl h 1 vb bs.length (ae bs)) (Nn:IV bs) (X:0<bs.length) (hat:((bM (said d.seen) b).getD []).length+bs.length<=400000) {Q:V->H->Prop}
  (Pj:∀h',d.full b bs.length->Mod h h' []->Wf h'->Q (.int .i64 7) h')
  (hq:∀h' d',¬d.full b bs.length->bF h' ld d'->d'.room=d.room->said d'.seen=(Act.wrote b ((bM (said d.seen) b).getD []).length bs).run (said d.seen)->d'.last=d.last->d'.aJ=d.aJ++[.wrote b ((bM (said d.seen) b).getD []).length bs]->d'.held=hdo d.held d.ch b (bM (said d'.seen) b)->
   (∀l,l∈d'.own ld->l∈d.own ld\/h.get l=none)->Mod h h' (d.own ld)->Wf h'->Q (.int .i64 0) h'):CW pf G0 sD [.ptr ld 0,.str b,vb] h Q:=by
 have tail:∀(i:Int) (g:H) (c:V),0<=i->i.toNat=((bM (said d.seen) b).getD []).length->¬d.full b bs.length->Mod h g []->Wf g->Ro g 1 c bs.length (ae bs)->CW pf G0 qY [.ptr ld 0,.agg [.int .i64 0,.str b,.int .i64 i,c]] g (λ_ h'=>Q (.int .i64 0) h'):=λi g c h0 hi s m1 m W=>by
  refine Zb m (D.mono m1 (by simp)) (a:=.wrote b i.toNat bs) ⟨by omega,Nn,X⟩ (.wrote h0 W) S λh' d' a1 a2 O a4 M T a7 a8 a9=>?_;rw [hi] at O M;refine hq h' d' s a1 a2 O a4 M T (λl hl=>(a7 l hl).imp_right λw=>?_) (m1.trans a8) a9;cases hy:h.get l with
  | none=>rfl
  | some o=>have:=m1.get hy (by simp);rw [w] at this;cases this
 have C:=D.cell;have HL:=D.held;generalize P:d.room=room at C;have HS:=D.seen.map;generalize d.ls=ls at C HS;generalize d.ll=ll at C;generalize d.pv=pv at C;generalize d.lh=lh at C HL;refine E7.enter (by kernel_rfl) ?_;cbv;refine G3 D.cell ok D.seen (λf s _ R=>?_) λs=>?_
 ·have z:=uq s
  have Y:=R.cell;have U:=R.val;generalize f.bw=lf at*;generalize f.val=fv at*;generalize f.bytes=fb at*;cbv;refine .nH rfl ?_;cbv;refine .of Y rfl ?_;cbv;refine .of U.sl λn Z Dr=>?_;have base:d.left b fb.length=bU .i64 (bU .i64 (bU .i64 (d.room - bU .i64 (rB d.held))+dI d.held b) - (fb.length:Int)):=rfl;cbv;refine .of C rfl ?_;cbv;refine .held HL D.ints λx w=>?_;cbv;refine .of follows 4 ?_;cbv;refine .of y λk zQ B=>?_;cbv;refine .of C rfl ?_;cbv;refine Ph F D λg u L m1 m=>?_;cbv;refine .load (m1.get C (by simp)) rfl (.nil ?_);cbv;refine .Ll λy1 ON=>?_;cbv;refine .Gp λy2 SG=>?_;cbv;refine .Ll λE j=>?_;have r:d.left b fb.length=E:=by rw [base,j,SG,ON,w,L,P,show n=(fb.length:Int) by omega]
  cbv;refine .gt (λYV=>?_) λJ=>?_
  ·cbv;refine Pj g (.inr ?_) m1 m
   rw [z];show d.left b fb.length<_
   rw [r];omega
  ·cbv;refine rn nk m (y.mono m1 (by simp)) (aD _) (by have:=Nn.1;omega) (by decide) λc K r2 G I=>?_
   cbv;refine .flat rfl ?_;cbv;refine .flat rfl ?_;cbv;refine .flat rfl ?_;cbv;refine .flat r2.flat ?_;cbv;refine (tail n K c Z (by rw [z];exact Dr) ?_ (m1.trans G) I r2).mono λv h' q=>?_
   ·rintro (⟨q,_⟩ | q)
    ·rw [z] at q;cases q
    ·rw [z] at q
     have q:d.left b fb.length<(bs.length:Int):=q;rw [r] at q;omega
   ·cbv;exact q
 ·have A:bM (said d.seen) b=none:=by rw [fY,s];rfl
  cbv;refine .cK (by decide) ?_;cbv;refine .nH rfl ?_;cbv;refine .of C rfl ?_;cbv;refine .mapLen HS λln VJ N=>?_;have N:ln.toNat=d.seen.length:=by rw [N];simp [fA]
  cbv;refine .ge (λjl=>?_) λbA=>?_
  ·cbv;exact Pj h (.inl ⟨A,by omega⟩) (Mod.refl _ _) F
  ·skip
   have base:d.left b 0=bU .i64 (bU .i64 (bU .i64 (d.room - bU .i64 (rB d.held))+dI d.held b) - ((0:Nat):Int)):=rfl;cbv;refine .of C rfl ?_;cbv;refine .held HL D.ints λx w=>?_;cbv;refine .of follows 4 ?_;cbv;refine .of y λk zQ B=>?_;cbv;refine .of C rfl ?_;cbv;refine Ph F D λg u L m1 m=>?_;cbv;refine .load (m1.get C (by simp)) rfl (.nil ?_);cbv;refine .Ll λy1 ON=>?_;cbv;refine .Gp λy2 SG=>?_;cbv;refine .Ll λE j=>?_;have r:d.left b 0=E:=by rw [base,j,SG,ON,w,L,P];rfl
   cbv;refine .gt (λYV=>?_) λJ=>?_
   ·cbv;refine Pj g (.inr ?_) m1 m
    rw [A];show d.left b 0<_
    rw [r];omega
   ·cbv;refine rn nk m (y.mono m1 (by simp)) (aD _) (by have:=Nn.1;omega) (by decide) λc K r2 G I=>?_
    cbv;refine .flat rfl ?_;cbv;refine .flat rfl ?_;cbv;refine .flat rfl ?_;cbv;refine .flat r2.flat ?_;cbv;refine (tail 0 K c (by omega) (by rw [A];rfl) ?_ (m1.trans G) I r2).mono λv h' q=>?_
    ·rintro (⟨_,q⟩ | q)
     ·omega
     ·rw [A] at q
      have q:d.left b 0<(bs.length:Int):=q;rw [r] at q;omega
    ·cbv;exact q
end K
