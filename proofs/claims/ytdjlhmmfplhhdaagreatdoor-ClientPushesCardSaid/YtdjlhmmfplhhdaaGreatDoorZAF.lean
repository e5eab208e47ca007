/-
  The client's laws. Part ZAF of the proof: The deterministic machine over labels against the model: operations that read memory.
-/
import Derived.Lib.AppendZerosOnto
import Derived.Laws.MakeOwn
import Derived.Lib.UnsafeStr
import Derived.Test.YtdjlhmmfplhhdaaGreatDoorZAE
namespace Go.Dx
open Go Go.RowKit
variable{fz n:Nat}{vs:List V}{v k:V}{rd:Rd}{pk:PK}{d:TypeDesc}{l:Lb}{y:Operand}{kt s:TypeId}
section
variable {P:Program} {B:Nat} {w0:World} {ρ:bD} {h:H} {w:World}
theorem dE.range {b:ej}{e:TypeId}{f:Own}(c:dE ρ b vs e fz f w):∀{n off:Nat} {r:List V},rowFrom vs off n=some r->
  ∃xs:List Value,cZ ρ r xs/\xs.length=n/\w.rangeAt b.block (b.base+off) xs:=by
 intro n;induction n with
 | zero=>intro off r a;simp [rowFrom,takeN] at a;subst a;exact ⟨[],.nil,rfl,λj v d=>by simp at d⟩
 | succ n ih=>
   intro off r a;obtain ⟨s,t,h3⟩:=r9 a;have h:off<vs.length:=by omega
   have k:bz off vs=vs[off]::bz (off+1) vs:=by
    rw [dM,dM];exact List.drop_eq_getElem_cons h
   unfold rowFrom at a;rw [k] at a;simp only [takeN,ad,Option.some.injEq] at a;obtain ⟨q,m,rfl⟩:=a;obtain ⟨xs,i,l,p⟩:=ih (off:=off+1) m;obtain ⟨x,g,o⟩:=c.cell off vs[off] (List.getElem?_eq_getElem h);refine ⟨x::xs,.cons o i,by simp [l],λj v d=>?_⟩;cases j with
   | zero=>
     simp at d;subst d;unfold cQ at g;simpa using g
   | succ j=>
     simp at d;have:=p j v d;rw [show b.base+off+(j+1)=b.base+(off+1)+j from by omega];exact this
theorem YO {t:TypeId}(k:Oy P t=some rd){b:ej}{e:TypeId}{f:Own}(c:dE ρ b vs e fz f w){off:Nat}(a:dB rd vs off=some v):
  ∃x,RV ρ v x/\(loadVar t ⟨b.block,b.base+off,none⟩).run P w = .ok x w:=by
 rcases Qg k with ⟨rfl,g⟩ | ⟨n,rfl,hs,g⟩
 ·simp only [dB] at a
  rw [dM,List.head?_drop] at a;obtain ⟨x,d,o⟩:=c.cell off v a;unfold cQ at d;exact ⟨x,o,by simp [loadVar,g,d]⟩
 ·simp only [dB,ad,Option.some.injEq] at a
  obtain ⟨r,d,rfl⟩:=a;obtain ⟨xs,m,i,l⟩:=c.range d;refine ⟨_,.agg m,?_⟩;have h:(loadCells ⟨b.block,b.base+off,none⟩ xs.length).run P w = .ok xs.toArray w:=
   run_loadCells_list (P:=P) w _ xs (λj v a=>by rw [dk];exact l j v a)
  rw [i] at h;simp [loadVar,g,cC hs,h]
def agD (d:TypeDesc)(pk:PK):Prop:=(pk = .str/\d = .string)\/(pk = .int/\∃k,d = .int k)
theorem Jd {t:TypeId}(h:plainKey (F7 P t) k=true):∃d,P.underlying t=some d/\agD d (F7 P t):=by
 unfold F7 at h ⊢;cases hu:P.underlying t with
 | none=>simp [hu] at h;cases k<;>simp [plainKey] at h
 | some d=>
   simp only [hu] at h ⊢;cases d<;>first | (exact ⟨_,rfl,.inl ⟨rfl,rfl⟩⟩) | (exact ⟨_,rfl,.inr ⟨rfl,_,rfl⟩⟩) | (cases k<;>simp [plainKey] at h)
theorem eU {t:TypeId}(a:P.underlying t=some d)(b:agD d pk)(empty:Bool)(x:Value)(n:Nat):(Instr.checkKey empty (n+1) t x).run P w = .ok () w:=by
 unfold Instr.checkKey;simp only [Sem.run_bind,run_underlying a,Result.andThen_ok];rcases b with ⟨_,rfl⟩ | ⟨_,k,rfl⟩<;>rfl
theorem WA (a:agD d pk){u:V}{x y:Value}{b:Bool}(f:RV ρ k x)(g:RV ρ u y)(h:gh pk k u=some b):Instr.sameNow d x y=some b:=by
 rcases ql f g h with ⟨e,c,d',rfl,rfl,rfl⟩ | ⟨e,l,c,d',rfl,rfl,rfl⟩ | ⟨e,s,i,rfl,rfl,rfl⟩
 ·subst e;rcases a with ⟨e,_⟩ | ⟨e,_⟩<;>cases e
 ·subst e
  rcases a with ⟨e,_⟩ | ⟨_,j,rfl⟩
  ·cases e
  ·simp [Instr.sameNow]
 ·subst e
  rcases a with ⟨_,rfl⟩ | ⟨e,_⟩
  ·rfl
  ·cases e
theorem uW (o:agD d pk){x:Value}(f:RV ρ k x):∀{es:List (V×V×Nat)} {ms:List MapEntry},pO ρ es ms->∀{r:Option (Nat×V)},rY pk k es=some r->∀i,
  (r=none->Instr.findNow d x ms i=some none)/\(∀j v,r=some (j,v)->∃e,ms[j]? =some e/\RV ρ v e.val/\Instr.findNow d x ms i=some (some (i+j,e.val))):=by
 intro es ms y;induction y with
 | nil=>
   intro r a i;simp [rY] at a;subst a;exact ⟨λ_=>rfl,λj v h=>by cases h⟩
 | @cons k' l n m es ms Hz MX hn hs ih=>
   intro r a i;simp only [rY,ad] at a;obtain ⟨b,u,a⟩:=a;have c:=WA o f Hz u;cases b with
   | true=>
     simp only [Option.some.injEq] at a;subst a;refine ⟨λh=>(by cases h),λj v h=>?_⟩;cases h;exact ⟨m,rfl,MX,by simp [Instr.findNow,c]⟩
   | false=>
     simp only [ad,Option.some.injEq] at a;obtain ⟨q,s,a⟩:=a;obtain ⟨t,A⟩:=ih s (i+1);cases q with
     | none=>
       subst a;exact ⟨λ_=>(by simp [Instr.findNow,c,t rfl]),λj v h=>(by cases h)⟩
     | some p=>
       obtain ⟨j,v⟩:=p;simp only at a;subst a;refine ⟨λh=>(by simp at h),λB l h=>?_⟩;simp at h;obtain ⟨rfl,rfl⟩:=h;obtain ⟨e,g,z,w⟩:=A j v rfl;exact ⟨e,(by simpa using g),z,(by simp [Instr.findNow,c,w];omega)⟩
theorem eV {t:TypeId}(a:P.underlying t=some d){x:Value}{ms:List MapEntry}{r:Option (Nat×Value)}(h:Instr.findNow d x ms 0=some r):(Instr.findKey t x ms).run P w = .ok r w:=by
 unfold Instr.findKey;simp [run_underlying a,h]
theorem aA.TJ (R:aA B w0 ρ h w){b:ej}{es:List (V×V×Nat)}{a:Nat}(e:ρ l=some b)(c:h.get l=some (.map es a)):
  ∃ms:Array MapEntry,(getObj b.block).run P w = .ok (.map ms a) w/\pO ρ es ms.toList:=by
 obtain ⟨ms,d,f⟩:=R.obj l b _ e c;exact ⟨ms,by simp [getObj,Sem.run,d],f⟩
def TK (C:CE)(o:Op)(d:RD):Prop:=∀{ρ:bD} {tm:T V} {a:Act},jx ρ C.n tm a.tmps->gM ρ C.G->∀q,d.px tm=some q->
 ∀{B:Nat} {w0:World} {h:H} {w:World} (v:V),aA B w0 ρ h w->q.ask h=some v->∃x,RV ρ v x/\∀(p:Oper),p.op=o->(execOp a.eval p).run C.P w = .ok (.value x) w
theorem gR {s:Sem Value}{x:Value}(h:s.run P w = .ok x w):(do let y<-s;pure (Next.value y):Sem Next).run P w = .ok (.value x) w:=by simp [h]
theorem sb {f:Lb->Nat->Q}  {q:Q} (h:eK f v=some q):∃l off,v = .ptr l off/\q=f l off:=by
 unfold eK at h;split at h
 ·cases h;exact ⟨_,_,rfl,rfl⟩
 ·cases h
theorem dy {off:Nat}{x:Value}(h:RV ρ (.ptr l off) x):∃b,ρ l=some b/\x = .pointer (some ⟨b.block,b.base+off,none⟩):=by
 cases h with | ptr _ h=>exact ⟨_,h,rfl⟩
theorem agE {C:CE}{t:TypeId}{x:X}(m:Oy C.P t=some rd)(n:ay C y=some x):TK C (.load t y) (.load rd x):=by
 intro ρ tm A j f q d B w0 h w v R a;obtain ⟨l,off,e,rfl⟩:=sb d;have r:=aw j f n;rw [e] at r;obtain ⟨b,i,hy⟩:=dy r;simp only [Q.ask] at a;split at a
 ·rename_i vs u fz c g
  obtain ⟨z,k,o⟩:=YO m (R.obj l b _ i g) a;refine ⟨z,k,λp s=>?_⟩;unfold execOp;rw [s];simp only [hy,Instr.loadAt,Instr.sureAddr];exact gR (by simpa using o)
 ·cases a
theorem aal {C:CE}{t I:TypeId}{z:V}{c:Bool}{m k:Operand}{x i:X}(D:C.P.underlying t=some (.map kt I))(hz:fD C.P I=some z)(Y:ay C m=some x)(hi:ay C k=some i):
  TK C (.lookup t m k c) (.lookup (F7 C.P kt) z c x i):=by
 intro ρ tm A K F q H B w0 h w v R a;have r:=aw K F Y;have E:=aw K F hi;obtain ⟨zx,Is,J⟩:=fN (ρ:=ρ) hz;simp only [RD.px,ai,Option.some.injEq] at H;obtain ⟨T,rfl⟩:=H;obtain ⟨d,Ee,n⟩:=Jd T;simp only [Q.ask] at a;generalize hm:A.eval m=M at r;generalize y:A.eval k=G at E;have Ci:∀(p:Oper),p.op = .lookup t m k c->execOp A.eval p=(do pure (.value (<-Instr.lookup t M G c))):=λp g=>by unfold execOp;rw [g];simp only [hm,y]
 split at a
 ·rename_i e
  rw [e] at r;cases r;have MX:v=okV c z false:=by cases c<;>(cases a;rfl)
  subst MX;refine ⟨_,uV Is c false,λp g=>?_⟩;rw [Ci p g];refine gR ?_;have o:(Instr.findKey kt G []).run C.P w = .ok none w:=eV Ee rfl;unfold Instr.lookup;simp only [Sem.run_bind,run_underlying D,Result.andThen_ok,Sem.run_pure,eU Ee n,o,J]
 ·rename_i l e
  rw [e] at r;cases r;rename_i b N;split at a
  ·rename_i es s S
   obtain ⟨ms,OJ,O⟩:=R.TJ (P:=C.P) N S;simp only [ad,Option.some.injEq] at a;obtain ⟨f,o,a⟩:=a;obtain ⟨W,L⟩:=uW n E O o 0;cases f with
   | none=>
     simp only at a;subst a;refine ⟨_,uV Is c false,λp g=>?_⟩;rw [Ci p g];refine gR ?_;unfold Instr.lookup;simp only [Sem.run_bind,run_underlying D,Result.andThen_ok,Sem.run_pure,OJ,eU Ee n,eV Ee (W rfl),J]
   | some p0=>
     obtain ⟨j,u⟩:=p0;simp only at a;subst a;obtain ⟨en,_,Z,U⟩:=L j u rfl;refine ⟨_,uV Z c true,λp g=>?_⟩;rw [Ci p g];refine gR ?_;unfold Instr.lookup;simp only [Sem.run_bind,run_underlying D,Result.andThen_ok,Sem.run_pure,OJ,eU Ee n,eV Ee U]
  ·cases a
 ·cases a
theorem Cj:∀{cs:List V} {l:List Nat},ny cs=some l->∀{xs:List Value},cZ ρ cs xs->∃u:List UInt8,l=u.map (·.toNat)/\xs=u.map λb=>Value.int .u8 (b.toNat:Int)
 | [],l,h,xs,r=>by simp [ny] at h;subst h;cases r;exact ⟨[],rfl,rfl⟩
 | c::cs,l,h,xs,r=>by
   unfold ny at h;split at h
   ·rename_i heq;cases heq
   ·rename_i n f heq
    cases heq;simp only [ai,ad,Option.some.injEq] at h;obtain ⟨d,q,a,rfl⟩:=h;cases r with
    | cons r1 r2=>
      cases r1;obtain ⟨u,rfl,rfl⟩:=Cj a r2;have B8:n<256:=by simpa using d
      have e:(UInt8.ofNat n).toNat=n:=by simp [Nat.mod_eq_of_lt B8]
      exact ⟨UInt8.ofNat n::u,by simp [e],by simp [e]⟩
   ·cases h
theorem OL (u:List UInt8):au ⟨u.toArray⟩=u.map (·.toNat):=by simp [au]
theorem Af {off:Nat}{c:Cap}{x:Value}(h:RV ρ (.slice l off n c) x):∃b m,ρ l=some b/\x = .slice (some ⟨b.block,b.base+off,none⟩) n m:=by
 cases h
 ·exact ⟨_,_,by assumption,rfl⟩
 ·exact ⟨_,_,by assumption,rfl⟩
theorem adi {C:CE}{t e:TypeId}{x:X}(hs:C.P.underlying s=some (.slice e))(i:C.P.underlying e=some (.int .u8))(k:C.P.underlying t=some .string)(O:ay C y=some x):
  TK C (.convert s t y) (.bytesStr x):=by
 intro ρ tm A N D q G B w0 h w v R d;have r:=aw N D O;cases G;generalize hy:A.eval y=L at r;have Ci:∀(p:Oper),p.op = .convert s t y->execOp A.eval p=(do pure (.value (<-convert s t L))):=λp f=>by unfold execOp;rw [f];simp only [hy]
 simp only [Q.ask] at d;split at d
 ·rename_i c g
  rw [g] at r;cases r;cases d;refine ⟨_,.str ByteArray.empty,λp f=>?_⟩;rw [Ci p f];refine gR ?_;rw [run_convert_bytes_string w s t e _ _ _ hs i k]
  rfl
 ·rename_i l off n c g
  rw [g] at r;obtain ⟨b,m,E,rfl⟩:=Af r;split at d
  ·rename_i vs T fz z H
   simp only [ad,Option.some.injEq] at d;obtain ⟨cs,I,U,S,rfl⟩:=d;have c:=R.obj l b _ E H;obtain ⟨xs,F,M,J⟩:=dE.range c I;obtain ⟨u,rfl,rfl⟩:=Cj S F;refine ⟨.string ⟨u.toArray⟩,by rw [<-OL];exact .str _,λp f=>?_⟩;rw [Ci p f];refine gR ?_;have K:u.length=n:=by simpa using M
   have:=run_convert_bytes_back (P:=C.P) w s t e ⟨b.block,b.base+off,none⟩ m u hs i k (λj o=>by
    rw [dk];exact J j _ (by simp [List.getElem?_eq_getElem o]))
   rw [K] at this;exact this
  ·cases d
 ·rename_i g
  rw [g] at r;cases r;cases d;rename_i a c;refine ⟨.string ⟨([]:List UInt8).toArray⟩,(RV.str (ρ:=ρ) ⟨([]:List UInt8).toArray⟩:RV ρ (.str []) _),λp f=>?_⟩;rw [Ci p f];refine gR ?_;exact run_convert_bytes_back (P:=C.P) w s t e a c [] hs i k (λj o=>absurd o (by simp))
 ·cases d
theorem aam {C:CE}{args:Array Operand}{ts:Array TypeId}{t u:TypeId}{rest:List TypeId}{x:X}(f:ts.toList=t::rest)(g:C.P.underlying t=some (.map kt u))(s:cG C args.toList=some [x]):
  TK C (.call {callee:=.builtin .len,args:=args,argTypes:=ts}) (.mapLen x):=by
 intro ρ tm A n j q i B w0 h w v R a;obtain ⟨y,hy,r⟩:=Ky s n j;cases i;simp only [Q.ask] at a;split at a
 ·rename_i e
  rw [e] at r;cases r;cases a;refine ⟨_,.int .i64 _,λp d=>?_⟩;rw [cy p d,hy];simp [Go.builtin,Builtin.len_,qN f,run_underlying g,goInt]
 ·rename_i m e
  rw [e] at r;cases r;rename_i b l;split at a
  ·rename_i es c k
   cases a;obtain ⟨ms,OJ,o⟩:=R.TJ (P:=C.P) l k;refine ⟨_,.int .i64 _,λp d=>?_⟩;rw [cy p d,hy];have:es.length=ms.size:=by simpa using o.length
   simp [Go.builtin,Builtin.len_,qN f,run_underlying g,goInt,OJ,this]
  ·cases a
 ·cases a
theorem KD:∀{l:List Nat} {b:Nat},Tq l=some b->(⟨l⟩:Array Nat).back? =some b
 | [],b,h=>by cases h
 | [x],b,h=>by cases h;rfl
 | x::y::r,b,h=>by
   have:=KD (l:=y::r) (b:=b) h;simp only [Array.back?] at this ⊢;simpa using this
theorem KE {b:Nat}{k v:V}:∀{es:List (V×V×Nat)} {ms:List MapEntry},pO ρ es ms->Ow b es=some (k,v)->∃d,ms.find? (·.born==b)=some d/\RV ρ k d.key/\RV ρ v d.val
 | [],ms,mz,h=>by cases h
 | (k',v',c)::es,ms,mz,h=>by
   cases mz with
   | cons h1 h2 h3 h4=>
     rename_i d ms;simp only [Ow] at h;split at h
     ·rename_i a
      have a:=Nat.eq_of_beq_eq_true a;cases h;exact ⟨d,by rw [List.find?_cons_of_pos (by simp [h3,a])],h1,h2⟩
     ·rename_i a
      obtain ⟨f,g,j,i⟩:=KE h4 h;have l:d.born≠b:=λe=>by
       rw [h3] at e;rw [e,Nat.beq_refl] at a;cases a
      exact ⟨f,by rw [List.find?_cons_of_neg (by simpa using l)];exact g,j,i⟩
theorem adj {C:CE}{x:X}(N:ay C y=some x):TK C (.entry y) (.entry x):=by
 intro ρ tm A L s q H B w0 h w v R a;obtain ⟨l,off,G,rfl⟩:=sb H;have r:=aw L s N;rw [G] at r;obtain ⟨b,z,hy⟩:=dy r;simp only [Q.ask] at a;split at a
 ·rename_i m since e last I
  split at a
  ·rename_i es d g
   simp only [ai,Bool.and_eq_true,ad,Option.some.injEq] at a;obtain ⟨⟨h0,P7⟩,n,t,⟨k,u⟩,K,rfl⟩:=a;have h0:=Nat.eq_of_beq_eq_true h0;have P7:=Nat.eq_of_beq_eq_true P7;subst h0;subst P7;obtain ⟨S,U,J,c,o,O⟩:=R.obj l b _ z I;subst O;obtain ⟨ms,OJ,E⟩:=R.TJ (P:=C.P) o g;obtain ⟨f,M,D,F⟩:=KE E K;refine ⟨.tuple ⟨[f.key,f.val]⟩,.tuple (.cons D (.cons F .nil)),λp T=>?_⟩;unfold execOp;rw [T];simp only [hy,S];refine gR ?_;have j:(getObj b.block).run C.P w = .ok (.mapIter (some c.block) since ⟨e⟩ d) w:=by simp [getObj,Sem.run,J]
   unfold Instr.entry;have i:=KD t;have FD:ms.find? (·.born==n)=some f:=by rw [<-Array.find?_toList];exact M
   simp [j,OJ,i,FD]
  ·cases a
 ·cases a
theorem HA {r:Nat}{s:TypeId×Nat}(h:w.shape? r=some s):(viewAt r).run P w = .ok none w:=by
 simp [viewAt,h]
theorem Qo {C:CE}{t e:TypeId}{x:X}(hs:C.P.underlying s=some (.pointer e))(g:C.P.underlying t=some .unsafePointer)(k:cg C.P e=some (n+1))(D:ay C y=some x):
  TK C (.convert s t y) (.ptrUnsafe x):=by
 intro ρ tm A o j q i B w0 h w v R a;obtain ⟨l,off,E,rfl⟩:=sb i;have r:=aw o j D;rw [E] at r;obtain ⟨b,f,hy⟩:=dy r;simp only [Q.ask] at a;split at a
 ·rename_i vs z fz d m
  simp only [ai,Option.some.injEq] at a;obtain ⟨u,rfl⟩:=a;have c:dE ρ b vs z fz d w:=R.obj l b _ f m;have G:off<vs.length:=by simpa using u
  have H:=c.fits;refine ⟨_,.ptr off f,λp F=>?_⟩;unfold execOp;rw [F];simp only [hy];refine gR ?_;unfold convert;simp only [Sem.run_bind,run_underlying hs,run_underlying g,Result.andThen_ok];unfold Conv.unsafePointer;simp only [Sem.run_bind,run_underlying hs,run_underlying g,Result.andThen_ok,Conv.seenAt,HA c.shape,Sem.run_pure,cellsIn,run_shape,c.shape,cC k];have:¬(b.base+off>=b.total):=by omega
  simp [this]
 ·cases a
theorem Ef {t:TypeId}(h:cg P t=some n):P.cellsOf t=n:=by
 obtain ⟨i,a,rfl⟩:=xY h;simp [Program.cellsOf,a]
theorem WB {e:TypeId}{s:Nat}(d:P.cellsOf e=s)(hs:0<s)(a n:Nat)(c:n<=a):liesAt P P.depth e a 0 e n=true:=by
 have b:P.depth=(2*(P.types.size+Made.depth)+1)+1:=rfl;rw [b];simp only [liesAt,Bool.or_eq_true]
 left
 rw [b];have:s≠0:=by omega
 simp [rowAt,d,c,sameLayout,this]
theorem Qp {C:CE}{t u:TypeId}{x:X}(hs:C.P.underlying s=some .unsafePointer)(m:C.P.underlying t=some (.pointer u))(j:cg C.P u=some (n+1))(I:ay C y=some x):
  TK C (.convert s t y) (.unsafePtr u (n+1) x):=by
 intro ρ tm A H o q D B w0 h w v R a;obtain ⟨l,off,z,rfl⟩:=sb D;have r:=aw H o I;rw [z] at r;obtain ⟨b,e,hy⟩:=dy r;simp only [Q.ask] at a;split at a
 ·rename_i vs i fz d E
  simp only [ai,Option.some.injEq,Bool.and_eq_true] at a;obtain ⟨⟨⟨F,J⟩,h3⟩,rfl⟩:=a;have g:i=u:=Nat.eq_of_beq_eq_true F;have L:vs.length=n+1:=Nat.eq_of_beq_eq_true J;have f:off=0:=Nat.eq_of_beq_eq_true h3;subst g;subst f;have c:dE ρ b vs i fz d w:=R.obj l b _ e E;have N:=c.fits;have K:=(R.base l b e).1;refine ⟨_,.ptr 0 e,λp M=>?_⟩;unfold execOp;rw [M];simp only [hy];refine gR ?_;have k:=Ef j;have G:=WB k (by omega) (b.total / C.P.cellsOf i) 1 (by rw [k];exact (Nat.le_div_iff_mul_le (by omega)).2 (by omega));unfold convert;simp only [Sem.run_bind,run_underlying hs,run_underlying m,Result.andThen_ok];unfold Conv.unsafePointer;simp only [Sem.run_bind,run_underlying hs,run_underlying m,Result.andThen_ok,Conv.seenAt,HA c.shape,Sem.run_pure,cC j,variablesAt,run_program,run_shape,c.shape,K];simp [G]
 ·cases a
end
end Go.Dx
namespace Go.Dx
open Go Go.RowKit
variable{h h':H}{ρ ρ':bD}{w0 w w':World}{o:Op}{y:Operand}{n size:Nat}
structure Step (ρ ρ':bD)(h h':H):Prop where
 old:∀l,val l<val h.next->ρ' l=ρ l
 next:val h.next<=val h'.next
theorem Step.refl (ρ:bD)(h:H):Step ρ ρ h h:=⟨λ_ _=>rfl,Nat.le_refl _⟩
theorem Step.trans {Nj:bD}{Eg:H}(s:Step ρ ρ' h h')(t:Step ρ' Nj h' Eg):Step ρ Nj h Eg:=
 ⟨λl a=>(t.old l (Nat.lt_of_lt_of_le a s.next)).trans (s.old l a),Nat.le_trans s.next t.next⟩
theorem Step.same (e:h'.next=h.next):Step ρ ρ h h':=⟨λ_ _=>rfl,by rw [e];exact Nat.le_refl _⟩
section
variable {P:Program} {B:Nat} {w0:World} {ρ ρ':bD} {h h':H} {w:World}
theorem Step.ext (s:Step ρ ρ' h h')(R:aA B w0 ρ h w):j8 ρ ρ':=λl b e=>(s.old l (R.lt l b e)).trans e
theorem Step.add (ρ:bD)(h:H)(b:ej)(o:Obj):Step ρ (uG ρ h.next b) h (h.add o):=
 ⟨λl a=>ca λe=>by rw [e] at a;exact absurd a (Nat.lt_irrefl _),by show val h.next<=val (inc h.next);rw [jc];omega⟩
def cI (C:CE)(o:Op)(d:ED):Prop:=∀{ρ:bD} {tm:T V} {A:Act},jx ρ C.n tm A.tmps->gM ρ C.G->∀{B:Nat} {w0:World} {h:H} {w:World},aA B w0 ρ h w->∀{v:V} {h':H},d.run tm h=some (v,h')->
 ∃ρ' x w',Step ρ ρ' h h'/\RV ρ' v x/\aA B w0 ρ' h' w'/\∀p:Oper,p.op=o->((execOp A.eval p).run C.P w = .ok (.value x) w'\/((execOp A.eval p).run C.P w = .ok .skip w'/\x=Go.undef))
theorem cI.ret {C:CE}{A:Act}{s:Sem Value}{x:Value}{v:V}{B:Nat}(a:Step ρ ρ' h h')(b:RV ρ' v x)(R:aA B w0 ρ' h' w')(hs:s.run C.P w = .ok x w')
  (e:∀p:Oper,p.op=o->execOp A.eval p=(do pure (.value (<-s)))):
  ∃ρ' x w',Step ρ ρ' h h'/\RV ρ' v x/\aA B w0 ρ' h' w'/\∀p:Oper,p.op=o->((execOp A.eval p).run C.P w = .ok (.value x) w'\/((execOp A.eval p).run C.P w = .ok .skip w'/\x=Go.undef)):=
 ⟨ρ',x,w',a,b,R,λp c=>.inl (by rw [e p c];simp [hs])⟩
theorem cI.none {C:CE}{A:Act}{s:Sem Unit}{B:Nat}(a:Step ρ ρ' h h')(R:aA B w0 ρ' h' w')(hs:s.run C.P w = .ok () w')
  (e:∀p:Oper,p.op=o->execOp A.eval p=(do s;pure .skip)):
  ∃ρ' x w',Step ρ ρ' h h'/\RV ρ' undef x/\aA B w0 ρ' h' w'/\∀p:Oper,p.op=o->((execOp A.eval p).run C.P w = .ok (.value x) w'\/((execOp A.eval p).run C.P w = .ok .skip w'/\x=Go.undef)):=
 ⟨ρ',Go.undef,w',a,.tuple .nil,R,λp b=>.inr ⟨by rw [e p b];simp [hs],rfl⟩⟩
theorem aao {C:CE}{t:TypeId}{z:Operand}{a x:X}(m:cg C.P t=some n)(u:ay C y=some a)(E:ay C z=some x):cI C (.store t y z) (.store n a x):=by
 intro ρ tm A f d B w0 h w R v h' c;simp only [ED.run] at c;split at c
 ·rename_i l off e
  have r:=aw f d u;rw [e] at r;obtain ⟨b,D,hy⟩:=dy r;simp only [ai,ad,Option.some.injEq,Prod.mk.injEq] at c;obtain ⟨o,H,h3,rfl,rfl⟩:=c;have J:=(aw f d E).cells;obtain ⟨q,i⟩:=R.store D h3 J;obtain ⟨vs,I,G,j,vs',_,_,_,_,_,rfl⟩:=iJ h3;refine cI.none (s:=Instr.storeAt t (A.eval y) (A.eval z)) (Step.same rfl) i ?_ λp F=>by unfold execOp;rw [F]
  have k:(A.eval z).cells.size=n:=by have:=J.length;have:=Nat.eq_of_beq_eq_true o;simp at *;omega
  simp [Instr.storeAt,hy,Instr.sureAddr,storeVar,cC m,k,q]
 ·cases c
theorem aap {C:CE}{t:TypeId}{z:V}(b:fD C.P t=some z):cI C (.alloc t) (.alloc t z.cells):=by
 intro ρ tm A f e B w0 h w R v h' a;cases a;obtain ⟨x,j,a⟩:=fN (ρ:=ρ) b;have R':=R.row (vs:=z.cells) (xs:=x.cells.toList) j.cells [] t 0 .yes;simp only [List.append_nil] at R';refine cI.ret (s:=Instr.alloc t true (.tuple #[])) (Step.add _ _ _ _) (.ptr 0 (aU _ _ _)) R' ?_ λp d=>by unfold execOp;rw [d]
 simp [Instr.alloc,a,newVar,newRow]
theorem agF {C:CE}{t:TypeId}{x:X}(d:ay C y=some x):cI C (.box t y) (.box t x):=by
 intro ρ tm A b a B w0 h w R v h' c;cases c;have j:=aw b a d;have R':=R.row (vs:=(x.ev tm).cells) (xs:=(A.eval y).cells.toList) j.cells [] t 0 .yes;simp only [List.append_nil] at R';refine cI.ret (s:=Instr.box t (A.eval y)) (Step.add _ _ _ _) (.ptr 0 (aU _ _ _)) R' ?_ λp f=>by unfold execOp;rw [f]
 simp [Instr.box,newVar,newRow]
theorem vY {z:List V}{s:Nat}(hs:z.length=s):∀(c i:Nat),i<c*s->(aH z c)[i]? =z[i % s]?
 | 0,i,hi=>by omega
 | c+1,i,hi=>by
   unfold aH
   by_cases h:i<s
   ·rw [List.getElem?_append_left (by omega),Nat.mod_eq_of_lt h]
   ·rw [List.getElem?_append_right (by omega),hs,vY hs c (i - s) (by rw [Nat.add_mul] at hi;omega)]
    congr 1
    exact (Nat.mod_eq_sub_mod (by omega)).symm
theorem gp {z:List V}:∀c,(aH z c).length=c*z.length
 | 0=>by simp [aH]
 | c+1=>by simp [aH,gp c,Nat.add_mul];omega
theorem cZ.repeat {z:List V}{x:Array Value}(h:cZ ρ z x.toList){s:Nat}(hs:z.length=s)(h0:0<s)(c:Nat):cZ ρ (aH z c) ((Array.range (c*s)).map (x[· % x.size]!)).toList:=by
 have e:x.size=s:=by have:=h.length;simp at this;omega
 refine cZ.Wz (by simp [gp,hs]) λi v a=>?_;have hi:i<c*s:=by
  have:=(List.getElem?_eq_some_iff.1 a).1;rw [gp,hs] at this;exact this
 rw [vY hs c i hi] at a;obtain ⟨y,hy,f⟩:=h.get a;have d:i % s<x.size:=by rw [e];exact Nat.mod_lt _ h0
 refine ⟨y,?_,f⟩;have:x[i % s]! =y:=by
  rw [getElem!_pos x (i % s) d];rw [Array.getElem?_toList,Array.getElem?_eq_getElem d] at hy;exact Option.some.inj hy
 simp [hi,e,this]
theorem uX {A:Act}{C:CE}{ρ:bD}{tm:T V}{size:Nat}(f:jx ρ C.n tm A.tmps)(e:gM ρ C.G):∀{ps:List (Nat×Operand)} {l:List (Nat×X)},eN C ps=some l->∀{vs r:List V} {B:Array Value},cZ ρ vs B.toList->eb tm size l vs=some r->
  ∃Qn,Instr.fill (λi=>some (i*size,size)) B (ps.map λp=>(p.1,A.eval p.2))=some Qn/\cZ ρ r Qn.toList
 | [],l,h,vs,r,B,hv,hf=>by
   simp [eN] at h;subst h;simp [eb] at hf;subst hf;exact ⟨B,rfl,hv⟩
 | (i,x)::ps,l,h,vs,r,B,hv,hf=>by
   simp only [eN,ad,Option.some.injEq] at h;obtain ⟨d,n,ds,m,rfl⟩:=h;simp only [eb,ai,ad] at hf;obtain ⟨h3,q,h4,s⟩:=hf;have E:=(aw (a:=A) f e n).cells;have j:(d.ev tm).cells.length=size:=Nat.eq_of_beq_eq_true h3;have y:(A.eval x).cells.size=size:=by have:=E.length;simp at this;omega
   have o:=iI h4;have c:=hv.length;obtain ⟨w,v⟩:=adh hv E h4;obtain ⟨Qn,t,u⟩:=uX f e m v s;refine ⟨Qn,?_,u⟩;simp only [List.map_cons,Instr.fill];simp at c;have k:(decide ((A.eval x).cells.size≠size)||decide (i*size+(A.eval x).cells.size>B.size))=false:=by
    simp only [Bool.or_eq_false_iff,decide_eq_false_iff_not];omega
   rw [if_neg (by rw [k];exact Bool.false_ne_true)];exact t
theorem KF {C:CE}{t e:TypeId}{size n:Nat}{z:V}{ps:Array (Nat×Operand)}{l:List (Nat×X)}(j:C.P.underlying t=some (.slice e))(hs:cg C.P e=some size)(q:fD C.P e=some z)
  (G:n*size<=65536) (OM:z.cells.length=size) (h0:0<size) (E:eN C ps.toList=some l):cI C (.buildSlice t n ps) (.buildSlice e size n (aH z.cells n) l):=by
 intro ρ tm A y r B w0 h w R v h' f;simp only [ED.run,ad,Option.some.injEq,Prod.mk.injEq] at f;obtain ⟨cs,o,rfl,rfl⟩:=f;obtain ⟨x,J,d⟩:=fN (ρ:=ρ) q;have c:=J.cells.repeat OM h0 n;obtain ⟨b,g,u⟩:=uX (A:=A) y r E c o;have R':=R.row u [] e 0 .yes;simp only [List.append_nil] at R';refine cI.ret (s:=Instr.buildSlice t n (ps.map λ(i,x)=>(i,A.eval x))) (Step.add _ _ _ _) (.slice 0 n n (aU _ _ _)) R' ?_ λp F=>by unfold execOp;rw [F]
 have m:(ps.map λ(i,x)=>(i,A.eval x)).toList=ps.toList.map λp=>(p.1,A.eval p.2):=by simp
 by_cases Ds:n*size=0
 ·have k:n=0:=by rcases Nat.mul_eq_zero.1 Ds with h | h<;>omega
  subst k;have a:Instr.fill (λi=>some (i*size,size)) ((Array.range 0).map ((#[]:Array Value)[· % 0]!)) (ps.toList.map λp=>(p.1,A.eval p.2))=some b:=by
   rw [<-g];congr 1;simp
  simp only [Instr.buildSlice,Sem.run_bind,run_underlying j,Result.andThen_ok,cC hs,Nat.zero_mul];simp [newRow];simp at a;rw [a];simp
 ·have:¬(n*size>2 ^ 24):=by omega
  simp only [Instr.buildSlice,Sem.run_bind,run_underlying j,Result.andThen_ok,cC hs,if_neg this,Sem.run_pure,if_neg Ds,d,m];rw [g];simp [newRow]
theorem Nk {C:CE}{t e:TypeId}{bytes:Nat}{z:V}{E x:Operand}{n c:X}(Y:C.P.underlying t=some (.slice e))(hs:cg C.P e=some size)(G:xV C.P e=some bytes)(M:fD C.P e=some z)
  (O:ay C E=some n) (T:ay C x=some c):cI C (.makeSlice t E x) (.makeSlice e size bytes z.cells n c):=by
 intro ρ tm A K F B w0 h w R v h' b;simp only [ED.run] at b;unfold Cc at b;split at b
 ·rename_i D d U Q
  simp only [ai,Option.some.injEq,Bool.and_eq_true,Prod.mk.injEq] at b;obtain ⟨⟨⟨⟨⟨J,L⟩,H⟩,u⟩,r⟩,rfl,rfl⟩:=b;have J:=Nat.le_of_ble_eq_true J;have L:d*bytes<=1099511627776:=Nat.le_of_ble_eq_true L;have H:=Nat.le_of_ble_eq_true H;have u:=Nat.eq_of_beq_eq_true u;have r:0<size:=by simpa using r
  have k:=aw K F O;have q:=aw K F T;rw [U] at k;rw [Q] at q;generalize ON:A.eval E=v1 at k;generalize SG:A.eval x=v2 at q;cases k;cases q;simp only [fD,ad] at M;obtain ⟨i,hi,I,m,l⟩:=M;have hx:RV ρ z I:=qL l;have W:i.size=size:=by obtain ⟨j,f,e⟩:=xY hs;rw [hi] at f;cases f;exact e
  have o:i.bytes=bytes:=by
   simp only [xV,ad,Option.some.injEq] at G;obtain ⟨j,f,e⟩:=G;rw [hi] at f;cases f;exact e
  have g:=hx.cells.repeat u r d;have R':=R.row g [] e 0 .yes;simp only [List.append_nil] at R';refine cI.ret (s:=Instr.makeSlice t (.int .i64 (Int.ofNat D)) (.int .i64 (Int.ofNat d))) (Step.add _ _ _ _) (.slice 0 D d (aU _ _ _)) R' ?_ λp Z=>by unfold execOp;rw [Z];simp only [ON,SG]
  have y:(i.bytes:Int)*(d:Int)<=281474976710656:=by
   rw [o,<-Int.natCast_mul,Nat.mul_comm];omega
  have:=run_make (P:=C.P) w t e i I Y hi m .i64 .i64 D d (by omega) (by omega) y (by omega);rw [W] at this;have N:∀a:Array Value,(⟨a.toList⟩:Array Value)=a:=λa=>by cases a;rfl
  rw [N];simpa only [madeCells,Int.toNat_natCast,Int.ofNat_eq_natCast] using this
 ·cases b
theorem oU {size:Nat}(tm:T V):∀{l:List (Nat×X)} {a r:List V},fj size l a=some r->eb tm size l a=some r
 | [],a,r,h=>by simpa [fj,eb] using h
 | (i,.c v)::l,a,r,h=>by
   simp only [fj,ai,ad] at h;obtain ⟨d,c,b,h3⟩:=h;simp only [eb,ai,ad,X.ev];exact ⟨d,c,b,oU tm h3⟩
 | (_,.t _)::_,_,_,h=>by cases h
theorem Qq {C:CE}{e:TypeId}{a cs:List V}{l:List (Nat×X)}(c:cI C o (.buildSlice e size n a l))(d:fj size l a=some cs):cI C o (.cL e cs n):=by
 intro ρ tm A g f B w0 h w R v h' b;refine c g f R ?_;simp only [ED.run,Option.some.injEq,Prod.mk.injEq] at b;obtain ⟨rfl,rfl⟩:=b;simp only [ED.run,ad,Option.some.injEq];exact ⟨cs,oU tm d,rfl⟩
end
end Go.Dx
