/-
  The sequencer's laws. Part ZAF of the proof: The deterministic machine over labels against the model: operations that read memory.
-/
import Derived.Lib.AppendZerosOnto
import Derived.Laws.MakeOwn
import Derived.Lib.UnsafeStr
import Derived.Test.YteajeefphbjnmaaGreatDoorZAE
namespace Go.Dx
open Go Go.RowKit
section
variable {P:Program} {B:Nat} {w0:World} {ρ:bE} {h:H} {w:World}
theorem dO.range {b:dZ}{vs:List V}{e:TypeId}{fz:Nat}{own:Own}(c:dO ρ b vs e fz own w):∀{n off:Nat} {r:List V},rowFrom vs off n=some r->
  ∃xs:List Value,cU ρ r xs/\xs.length=n/\w.rangeAt b.block (b.base+off) xs:=by
 intro n;induction n with
 | zero=>intro off r hr;simp [rowFrom,takeN] at hr;subst hr;exact ⟨[],.nil,rfl,λj v hv=>by simp at hv⟩
 | succ n ih=>
   intro off r hr;obtain ⟨h1,h2,h3⟩:=rG hr;have bA:off<vs.length:=by omega
   have hd:bB off vs=vs[off]::bB (off+1) vs:=by
    rw [dq,dq];exact List.drop_eq_getElem_cons bA
   unfold rowFrom at hr;rw [hd] at hr;simp only [takeN,ad,Option.some.injEq] at hr;obtain ⟨q,hq,rfl⟩:=hr;obtain ⟨xs,r1,r2,r3⟩:=ih (off:=off+1) hq;obtain ⟨x,uf,lH⟩:=c.cell off vs[off] (List.getElem?_eq_getElem bA);refine ⟨x::xs,.cons lH r1,by simp [r2],λj v hv=>?_⟩;cases j with
   | zero=>
     simp at hv;subst hv;unfold cZ at uf;simpa using uf
   | succ j=>
     simp at hv;have:=r3 j v hv;rw [show b.base+off+(j+1)=b.base+(off+1)+j from by omega];exact this
theorem XE {t:TypeId}{rd:Rd}(ht:NJ P t=some rd){b:dZ}{vs:List V}{e:TypeId}{fz:Nat}{own:Own}(c:dO ρ b vs e fz own w){off:Nat}{v:V}(hv:dI rd vs off=some v):
  ∃x,RV ρ v x/\(loadVar t ⟨b.block,b.base+off,none⟩).run P w = .ok x w:=by
 rcases Ph ht with ⟨rfl,ha⟩ | ⟨n,rfl,hs,ha⟩
 ·simp only [dI] at hv
  rw [dq,List.head?_drop] at hv;obtain ⟨x,h1,h2⟩:=c.cell off v hv;unfold cZ at h1;exact ⟨x,h2,by simp [loadVar,ha,h1]⟩
 ·simp only [dI,ad,Option.some.injEq] at hv
  obtain ⟨r,h1,rfl⟩:=hv;obtain ⟨xs,r1,r2,r3⟩:=c.range h1;refine ⟨_,.agg r1,?_⟩;have hl:(loadCells ⟨b.block,b.base+off,none⟩ xs.length).run P w = .ok xs.toArray w:=
   run_loadCells_list (P:=P) w _ xs (λj v hv=>by rw [c8];exact r3 j v hv)
  rw [r2] at hl;simp [loadVar,ha,cA hs,hl]
def afv (d:TypeDesc)(pk:PK):Prop:=(pk = .str/\d = .string)\/(pk = .int/\∃k,d = .int k)
theorem IA {t:TypeId}{k:V}(h:plainKey (Fw P t) k=true):∃d,P.underlying t=some d/\afv d (Fw P t):=by
 unfold Fw at h ⊢;cases hu:P.underlying t with
 | none=>simp [hu] at h;cases k<;>simp [plainKey] at h
 | some d=>
   simp only [hu] at h ⊢;cases d<;>first | (exact ⟨_,rfl,.inl ⟨rfl,rfl⟩⟩) | (exact ⟨_,rfl,.inr ⟨rfl,_,rfl⟩⟩) | (cases k<;>simp [plainKey] at h)
theorem eK {t:TypeId}{d:TypeDesc}{pk:PK}(hu:P.underlying t=some d)(hd:afv d pk)(empty:Bool)(x:Value)(n:Nat):(Instr.checkKey empty (n+1) t x).run P w = .ok () w:=by
 unfold Instr.checkKey;simp only [Sem.run_bind,run_underlying hu,Result.andThen_ok];rcases hd with ⟨_,rfl⟩ | ⟨_,k,rfl⟩<;>rfl
theorem Vg {d:TypeDesc}{pk:PK}(hd:afv d pk){k u:V}{x y:Value}{b:Bool}(hk:RV ρ k x)(hu:RV ρ u y)(h:gY pk k u=some b):Instr.sameNow d x y=some b:=by
 rcases pN hk hu h with ⟨e,c,d',rfl,rfl,rfl⟩ | ⟨e,k',c,d',rfl,rfl,rfl⟩ | ⟨e,s,t',rfl,rfl,rfl⟩
 ·subst e;rcases hd with ⟨e,_⟩ | ⟨e,_⟩<;>cases e
 ·subst e
  rcases hd with ⟨e,_⟩ | ⟨_,j,rfl⟩
  ·cases e
  ·simp [Instr.sameNow]
 ·subst e
  rcases hd with ⟨_,rfl⟩ | ⟨e,_⟩
  ·rfl
  ·cases e
theorem uL {d:TypeDesc}{pk:PK}(hd:afv d pk){k:V}{x:Value}(hk:RV ρ k x):∀{es:List (V×V×Nat)} {ms:List MapEntry},pj ρ es ms->∀{r:Option (Nat×V)},rE pk k es=some r->∀i,
  (r=none->Instr.findNow d x ms i=some none)/\(∀j v,r=some (j,v)->∃e,ms[j]? =some e/\RV ρ v e.val/\Instr.findNow d x ms i=some (some (i+j,e.val))):=by
 intro es ms lP;induction lP with
 | nil=>
   intro r hr i;simp [rE] at hr;subst hr;exact ⟨λ_=>rfl,λj v h=>by cases h⟩
 | @cons k' v' n m es ms G6 Me hn hs ih=>
   intro r hr i;simp only [rE,ad] at hr;obtain ⟨b,hb,hr⟩:=hr;have lJ:=Vg hd hk G6 hb;cases b with
   | true=>
     simp only [Option.some.injEq] at hr;subst hr;refine ⟨λh=>(by cases h),λj v h=>?_⟩;cases h;exact ⟨m,rfl,Me,by simp [Instr.findNow,lJ]⟩
   | false=>
     simp only [ad,Option.some.injEq] at hr;obtain ⟨q,hq,hr⟩:=hr;obtain ⟨h1,h2⟩:=ih hq (i+1);cases q with
     | none=>
       subst hr;exact ⟨λ_=>(by simp [Instr.findNow,lJ,h1 rfl]),λj v h=>(by cases h)⟩
     | some p=>
       obtain ⟨j,v⟩:=p;simp only at hr;subst hr;refine ⟨λh=>(by simp at h),λj' v' h=>?_⟩;simp at h;obtain ⟨rfl,rfl⟩:=h;obtain ⟨e,e1,e2,e3⟩:=h2 j v rfl;exact ⟨e,(by simpa using e1),e2,(by simp [Instr.findNow,lJ,e3];omega)⟩
theorem eL {t:TypeId}{d:TypeDesc}(hu:P.underlying t=some d){x:Value}{ms:List MapEntry}{r:Option (Nat×Value)}(h:Instr.findNow d x ms 0=some r):(Instr.findKey t x ms).run P w = .ok r w:=by
 unfold Instr.findKey;simp [run_underlying hu,h]
theorem aA.Sn (R:aA B w0 ρ h w){l:Lb}{b:dZ}{es:List (V×V×Nat)}{clock:Nat}(hl:ρ l=some b)(hg:h.get l=some (.map es clock)):
  ∃ms:Array MapEntry,(getObj b.block).run P w = .ok (.map ms clock) w/\pj ρ es ms.toList:=by
 obtain ⟨ms,h1,h2⟩:=R.obj l b _ hl hg;exact ⟨ms,by simp [getObj,Sem.run,h1],h2⟩
def Sp (C:CE)(o:Op)(d:RD):Prop:=∀{ρ:bE} {tm:T V} {a:Act},iU ρ C.n tm a.tmps->gv ρ C.G->∀q,d.oO tm=some q->
 ∀{B:Nat} {w0:World} {h:H} {w:World} (v:V),aA B w0 ρ h w->q.ask h=some v->∃x,RV ρ v x/\∀(p:Oper),p.op=o->(execOp a.eval p).run C.P w = .ok (.value x) w
theorem gD {s:Sem Value}{x:Value}(h:s.run P w = .ok x w):(do let y<-s;pure (Next.value y):Sem Next).run P w = .ok (.value x) w:=by simp [h]
theorem rI {f:Lb->Nat->Q} {v:V} {q:Q} (h:eD f v=some q):∃l off,v = .ptr l off/\q=f l off:=by
 unfold eD at h;split at h
 ·cases h;exact ⟨_,_,rfl,rfl⟩
 ·cases h
theorem dP {l:Lb}{off:Nat}{x:Value}(h:RV ρ (.ptr l off) x):∃b,ρ l=some b/\x = .pointer (some ⟨b.block,b.base+off,none⟩):=by
 cases h with | ptr _ h=>exact ⟨_,h,rfl⟩
theorem afw {C:CE}{t:TypeId}{rd:Rd}{y:Operand}{x:X}(ht:NJ C.P t=some rd)(hx:aw C y=some x):Sp C (.load t y) (.load rd x):=by
 intro ρ tm A hT hG q hq B w0 h w v R hv;obtain ⟨l,off,e,rfl⟩:=rI hq;have r:=au hT hG hx;rw [e] at r;obtain ⟨b,hb,hy⟩:=dP r;simp only [Q.ask] at hv;split at hv
 ·rename_i vs el fz own hg
  obtain ⟨z,h1,h2⟩:=XE ht (R.obj l b _ hb hg) hv;refine ⟨z,h1,λp hp=>?_⟩;unfold execOp;rw [hp];simp only [hy,Instr.loadAt,Instr.sureAddr];exact gD (by simpa using h2)
 ·cases hv
theorem Y4 {C:CE}{t kt et:TypeId}{z:V}{ok:Bool}{m k:Operand}{x i:X}(hu:C.P.underlying t=some (.map kt et))(hz:fg C.P et=some z)(hx:aw C m=some x)(hi:aw C k=some i):
  Sp C (.lookup t m k ok) (.lookup (Fw C.P kt) z ok x i):=by
 intro ρ tm A hT hG q hq B w0 h w v R hv;have r:=au hT hG hx;have ri:=au hT hG hi;obtain ⟨zx,FC,pV⟩:=fD (ρ:=ρ) hz;simp only [RD.oO,ag,Option.some.injEq] at hq;obtain ⟨hk,rfl⟩:=hq;obtain ⟨d,DE,vS⟩:=IA hk;simp only [Q.ask] at hv;generalize hm:A.eval m=mx at r;generalize hkx:A.eval k=kx at ri;have B0:∀(p:Oper),p.op = .lookup t m k ok->execOp A.eval p=(do pure (.value (<-Instr.lookup t mx kx ok))):=λp hp=>by unfold execOp;rw [hp];simp only [hm,hkx]
 split at hv
 ·rename_i e
  rw [e] at r;cases r;have Me:v=okV ok z false:=by cases ok<;>(cases hv;rfl)
  subst Me;refine ⟨_,uK FC ok false,λp hp=>?_⟩;rw [B0 p hp];refine gD ?_;have hf:(Instr.findKey kt kx []).run C.P w = .ok none w:=eL DE rfl;unfold Instr.lookup;simp only [Sem.run_bind,run_underlying hu,Result.andThen_ok,Sem.run_pure,eK DE vS,hf,pV]
 ·rename_i l e
  rw [e] at r;cases r;rename_i b hb;split at hv
  ·rename_i es clock hg
   obtain ⟨ms,NT,lP⟩:=R.Sn (P:=C.P) hb hg;simp only [ad,Option.some.injEq] at hv;obtain ⟨f,hf,hv⟩:=hv;obtain ⟨f1,f2⟩:=uL vS ri lP hf 0;cases f with
   | none=>
     simp only at hv;subst hv;refine ⟨_,uK FC ok false,λp hp=>?_⟩;rw [B0 p hp];refine gD ?_;unfold Instr.lookup;simp only [Sem.run_bind,run_underlying hu,Result.andThen_ok,Sem.run_pure,NT,eK DE vS,eL DE (f1 rfl),pV]
   | some p0=>
     obtain ⟨j,u⟩:=p0;simp only at hv;subst hv;obtain ⟨en,_,e2,e3⟩:=f2 j u rfl;refine ⟨_,uK e2 ok true,λp hp=>?_⟩;rw [B0 p hp];refine gD ?_;unfold Instr.lookup;simp only [Sem.run_bind,run_underlying hu,Result.andThen_ok,Sem.run_pure,NT,eK DE vS,eL DE e3]
  ·cases hv
 ·cases hv
theorem B3:∀{cs:List V} {l:List Nat},mQ cs=some l->∀{xs:List Value},cU ρ cs xs->∃u:List UInt8,l=u.map (·.toNat)/\xs=u.map λb=>Value.int .u8 (b.toNat:Int)
 | [],l,h,xs,r=>by simp [mQ] at h;subst h;cases r;exact ⟨[],rfl,rfl⟩
 | c::cs,l,h,xs,r=>by
   unfold mQ at h;split at h
   ·rename_i heq;cases heq
   ·rename_i n r' heq
    cases heq;simp only [ag,ad,Option.some.injEq] at h;obtain ⟨hn,q,hq,rfl⟩:=h;cases r with
    | cons r1 r2=>
      cases r1;obtain ⟨u,rfl,rfl⟩:=B3 hq r2;have Bj:n<256:=by simpa using hn
      have e:(UInt8.ofNat n).toNat=n:=by simp [Nat.mod_eq_of_lt Bj]
      exact ⟨UInt8.ofNat n::u,by simp [e],by simp [e]⟩
   ·cases h
theorem NU (u:List UInt8):ax ⟨u.toArray⟩=u.map (·.toNat):=by simp [ax]
theorem zm {l:Lb}{off n:Nat}{c:Cap}{x:Value}(h:RV ρ (.slice l off n c) x):∃b m,ρ l=some b/\x = .slice (some ⟨b.block,b.base+off,none⟩) n m:=by
 cases h
 ·exact ⟨_,_,by assumption,rfl⟩
 ·exact ⟨_,_,by assumption,rfl⟩
theorem ace {C:CE}{s t e:TypeId}{y:Operand}{x:X}(hs:C.P.underlying s=some (.slice e))(he:C.P.underlying e=some (.int .u8))(ht:C.P.underlying t=some .string)(hx:aw C y=some x):
  Sp C (.convert s t y) (.bytesStr x):=by
 intro ρ tm A hT hG q hq B w0 h w v R hv;have r:=au hT hG hx;cases hq;generalize hy:A.eval y=yx at r;have B0:∀(p:Oper),p.op = .convert s t y->execOp A.eval p=(do pure (.value (<-convert s t yx))):=λp hp=>by unfold execOp;rw [hp];simp only [hy]
 simp only [Q.ask] at hv;split at hv
 ·rename_i c e'
  rw [e'] at r;cases r;cases hv;refine ⟨_,.str ByteArray.empty,λp hp=>?_⟩;rw [B0 p hp];refine gD ?_;rw [run_convert_bytes_string w s t e _ _ _ hs he ht]
  rfl
 ·rename_i l off n c e'
  rw [e'] at r;obtain ⟨b,m,hb,rfl⟩:=zm r;split at hv
  ·rename_i vs el fz own hg
   simp only [ad,Option.some.injEq] at hv;obtain ⟨cs,h1,l',h2,rfl⟩:=hv;have c:=R.obj l b _ hb hg;obtain ⟨xs,r1,r2,r3⟩:=dO.range c h1;obtain ⟨u,rfl,rfl⟩:=B3 h2 r1;refine ⟨.string ⟨u.toArray⟩,by rw [<-NU];exact .str _,λp hp=>?_⟩;rw [B0 p hp];refine gD ?_;have hl:u.length=n:=by simpa using r2
   have:=run_convert_bytes_back (P:=C.P) w s t e ⟨b.block,b.base+off,none⟩ m u hs he ht (λj hj=>by
    rw [c8];exact r3 j _ (by simp [List.getElem?_eq_getElem hj]))
   rw [hl] at this;exact this
  ·cases hv
 ·rename_i e'
  rw [e'] at r;cases r;cases hv;rename_i a c;refine ⟨.string ⟨([]:List UInt8).toArray⟩,(RV.str (ρ:=ρ) ⟨([]:List UInt8).toArray⟩:RV ρ (.str []) _),λp hp=>?_⟩;rw [B0 p hp];refine gD ?_;exact run_convert_bytes_back (P:=C.P) w s t e a c [] hs he ht (λj hj=>absurd hj (by simp))
 ·cases hv
theorem Y5 {C:CE}{args:Array Operand}{ts:Array TypeId}{t kt et:TypeId}{rest:List TypeId}{x:X}(ht:ts.toList=t::rest)(hu:C.P.underlying t=some (.map kt et))(hx:cD C args.toList=some [x]):
  Sp C (.call {callee:=.builtin .len,args:=args,argTypes:=ts}) (.mapLen x):=by
 intro ρ tm A hT hG q hq B w0 h w v R hv;obtain ⟨y,hy,r⟩:=JT hx hT hG;cases hq;simp only [Q.ask] at hv;split at hv
 ·rename_i e
  rw [e] at r;cases r;cases hv;refine ⟨_,.int .i64 _,λp hp=>?_⟩;rw [cv p hp,hy];simp [Go.builtin,Builtin.len_,ql ht,run_underlying hu,goInt]
 ·rename_i m e
  rw [e] at r;cases r;rename_i b hb;split at hv
  ·rename_i es clock hg
   cases hv;obtain ⟨ms,NT,lP⟩:=R.Sn (P:=C.P) hb hg;refine ⟨_,.int .i64 _,λp hp=>?_⟩;rw [cv p hp,hy];have:es.length=ms.size:=by simpa using lP.length
   simp [Go.builtin,Builtin.len_,ql ht,run_underlying hu,goInt,NT,this]
  ·cases hv
 ·cases hv
theorem JX:∀{l:List Nat} {b:Nat},RS l=some b->(⟨l⟩:Array Nat).back? =some b
 | [],b,h=>by cases h
 | [x],b,h=>by cases h;rfl
 | x::y::r,b,h=>by
   have:=JX (l:=y::r) (b:=b) h;simp only [Array.back?] at this ⊢;simpa using this
theorem JY {b:Nat}{k v:V}:∀{es:List (V×V×Nat)} {ms:List MapEntry},pj ρ es ms->NH b es=some (k,v)->∃en,ms.find? (·.born==b)=some en/\RV ρ k en.key/\RV ρ v en.val
 | [],ms,lP,h=>by cases h
 | (k',v',c)::es,ms,lP,h=>by
   cases lP with
   | cons h1 h2 h3 h4=>
     rename_i en ms;simp only [NH] at h;split at h
     ·rename_i hc
      have hc:=Nat.eq_of_beq_eq_true hc;cases h;exact ⟨en,by rw [List.find?_cons_of_pos (by simp [h3,hc])],h1,h2⟩
     ·rename_i hc
      obtain ⟨en',e1,e2,e3⟩:=JY h4 h;have dj:en.born≠b:=λe=>by
       rw [h3] at e;rw [e,Nat.beq_refl] at hc;cases hc
      exact ⟨en',by rw [List.find?_cons_of_neg (by simpa using dj)];exact e1,e2,e3⟩
theorem acf {C:CE}{y:Operand}{x:X}(hx:aw C y=some x):Sp C (.entry y) (.entry x):=by
 intro ρ tm A hT hG q hq B w0 h w v R hv;obtain ⟨l,off,e',rfl⟩:=rI hq;have r:=au hT hG hx;rw [e'] at r;obtain ⟨b,hb,hy⟩:=dP r;simp only [Q.ask] at hv;split at hv
 ·rename_i m since seen last hg
  split at hv
  ·rename_i es clock Y6
   simp only [ag,Bool.and_eq_true,ad,Option.some.injEq] at hv;obtain ⟨⟨h0,uj⟩,n,hn,⟨k,u⟩,hk,rfl⟩:=hv;have h0:=Nat.eq_of_beq_eq_true h0;have uj:=Nat.eq_of_beq_eq_true uj;subst h0;subst uj;obtain ⟨fC,m',h1,c,hc,h2⟩:=R.obj l b _ hb hg;subst h2;obtain ⟨ms,NT,lP⟩:=R.Sn (P:=C.P) hc Y6;obtain ⟨en,f1,f2,f3⟩:=JY lP hk;refine ⟨.tuple ⟨[en.key,en.val]⟩,.tuple (.cons f2 (.cons f3 .nil)),λp hp=>?_⟩;unfold execOp;rw [hp];simp only [hy,fC];refine gD ?_;have hit:(getObj b.block).run C.P w = .ok (.mapIter (some c.block) since ⟨seen⟩ clock) w:=by simp [getObj,Sem.run,h1]
   unfold Instr.entry;have hbk:=JX hn;have E9:ms.find? (·.born==n)=some en:=by rw [<-Array.find?_toList];exact f1
   simp [hit,NT,hbk,E9]
  ·cases hv
 ·cases hv
theorem G7 {r:Nat}{s:TypeId×Nat}(h:w.shape? r=some s):(viewAt r).run P w = .ok none w:=by
 simp [viewAt,h]
theorem Pt {C:CE}{s t e:TypeId}{n:Nat}{y:Operand}{x:X}(hs:C.P.underlying s=some (.pointer e))(ht:C.P.underlying t=some .unsafePointer)(hn:cd C.P e=some (n+1))(hx:aw C y=some x):
  Sp C (.convert s t y) (.ptrUnsafe x):=by
 intro ρ tm A hT hG q hq B w0 h w v R hv;obtain ⟨l,off,e',rfl⟩:=rI hq;have r:=au hT hG hx;rw [e'] at r;obtain ⟨b,hb,hy⟩:=dP r;simp only [Q.ask] at hv;split at hv
 ·rename_i vs el fz own hg
  simp only [ag,Option.some.injEq] at hv;obtain ⟨bA,rfl⟩:=hv;have c:dO ρ b vs el fz own w:=R.obj l b _ hb hg;have qX:off<vs.length:=by simpa using bA
  have uH:=c.fits;refine ⟨_,.ptr off hb,λp hp=>?_⟩;unfold execOp;rw [hp];simp only [hy];refine gD ?_;unfold convert;simp only [Sem.run_bind,run_underlying hs,run_underlying ht,Result.andThen_ok];unfold Conv.unsafePointer;simp only [Sem.run_bind,run_underlying hs,run_underlying ht,Result.andThen_ok,Conv.seenAt,G7 c.shape,Sem.run_pure,cellsIn,run_shape,c.shape,cA hn];have:¬(b.base+off>=b.total):=by omega
  simp [this]
 ·cases hv
theorem DF {t:TypeId}{n:Nat}(h:cd P t=some n):P.cellsOf t=n:=by
 obtain ⟨i,h1,rfl⟩:=xI h;simp [Program.cellsOf,h1]
theorem Vh {e:TypeId}{s:Nat}(hc:P.cellsOf e=s)(hs:0<s)(count n:Nat)(hn:n<=count):liesAt P P.depth e count 0 e n=true:=by
 have hd:P.depth=(2*(P.types.size+Made.depth)+1)+1:=rfl;rw [hd];simp only [liesAt,Bool.or_eq_true]
 left
 rw [hd];have:s≠0:=by omega
 simp [rowAt,hc,hn,sameLayout,this]
theorem Pu {C:CE}{s t u:TypeId}{n:Nat}{y:Operand}{x:X}(hs:C.P.underlying s=some .unsafePointer)(ht:C.P.underlying t=some (.pointer u))(hn:cd C.P u=some (n+1))(hx:aw C y=some x):
  Sp C (.convert s t y) (.unsafePtr u (n+1) x):=by
 intro ρ tm A hT hG q hq B w0 h w v R hv;obtain ⟨l,off,e',rfl⟩:=rI hq;have r:=au hT hG hx;rw [e'] at r;obtain ⟨b,hb,hy⟩:=dP r;simp only [Q.ask] at hv;split at hv
 ·rename_i vs el fz own hg
  simp only [ag,Option.some.injEq,Bool.and_eq_true] at hv;obtain ⟨⟨⟨h1,h2⟩,h3⟩,rfl⟩:=hv;have h1':el=u:=Nat.eq_of_beq_eq_true h1;have h2':vs.length=n+1:=Nat.eq_of_beq_eq_true h2;have h3':off=0:=Nat.eq_of_beq_eq_true h3;subst h1';subst h3';have c:dO ρ b vs el fz own w:=R.obj l b _ hb hg;have uH:=c.fits;have fC:=(R.base l b hb).1;refine ⟨_,.ptr 0 hb,λp hp=>?_⟩;unfold execOp;rw [hp];simp only [hy];refine gD ?_;have dw:=DF hn;have hl:=Vh dw (by omega) (b.total / C.P.cellsOf el) 1 (by rw [dw];exact (Nat.le_div_iff_mul_le (by omega)).2 (by omega));unfold convert;simp only [Sem.run_bind,run_underlying hs,run_underlying ht,Result.andThen_ok];unfold Conv.unsafePointer;simp only [Sem.run_bind,run_underlying hs,run_underlying ht,Result.andThen_ok,Conv.seenAt,G7 c.shape,Sem.run_pure,cA hn,variablesAt,run_program,run_shape,c.shape,fC];simp [hl]
 ·cases hv
end
end Go.Dx
namespace Go.Dx
open Go Go.RowKit
structure Step (ρ ρ':bE)(h h':H):Prop where
 old:∀l,val l<val h.next->ρ' l=ρ l
 next:val h.next<=val h'.next
theorem Step.refl (ρ:bE)(h:H):Step ρ ρ h h:=⟨λ_ _=>rfl,Nat.le_refl _⟩
theorem Step.trans {ρ ρ' Mr:bE}{h h' DG:H}(s:Step ρ ρ' h h')(t:Step ρ' Mr h' DG):Step ρ Mr h DG:=
 ⟨λl hl=>(t.old l (Nat.lt_of_lt_of_le hl s.next)).trans (s.old l hl),Nat.le_trans s.next t.next⟩
theorem Step.same {ρ:bE}{h h':H}(e:h'.next=h.next):Step ρ ρ h h':=⟨λ_ _=>rfl,by rw [e];exact Nat.le_refl _⟩
section
variable {P:Program} {B:Nat} {w0:World} {ρ ρ':bE} {h h':H} {w:World}
theorem Step.ext (s:Step ρ ρ' h h')(R:aA B w0 ρ h w):jI ρ ρ':=λl b e=>(s.old l (R.lt l b e)).trans e
theorem Step.add (ρ:bE)(h:H)(b:dZ)(o:Obj):Step ρ (uc ρ h.next b) h (h.add o):=
 ⟨λl hl=>bW λe=>by rw [e] at hl;exact absurd hl (Nat.lt_irrefl _),by show val h.next<=val (inc h.next);rw [iG];omega⟩
def cE (C:CE)(o:Op)(d:ED):Prop:=∀{ρ:bE} {tm:T V} {A:Act},iU ρ C.n tm A.tmps->gv ρ C.G->∀{B:Nat} {w0:World} {h:H} {w:World},aA B w0 ρ h w->∀{v:V} {h':H},d.run tm h=some (v,h')->
 ∃ρ' x w',Step ρ ρ' h h'/\RV ρ' v x/\aA B w0 ρ' h' w'/\∀p:Oper,p.op=o->((execOp A.eval p).run C.P w = .ok (.value x) w'\/((execOp A.eval p).run C.P w = .ok .skip w'/\x=Go.undef))
theorem cE.ret {C:CE}{o:Op}{A:Act}{s:Sem Value}{ρ':bE}{x:Value}{v:V}{w w':World}{B:Nat}{w0:World}{ρ:bE}{h h':H}(st:Step ρ ρ' h h')(hv:RV ρ' v x)(R:aA B w0 ρ' h' w')(hs:s.run C.P w = .ok x w')
  (e:∀p:Oper,p.op=o->execOp A.eval p=(do pure (.value (<-s)))):
  ∃ρ' x w',Step ρ ρ' h h'/\RV ρ' v x/\aA B w0 ρ' h' w'/\∀p:Oper,p.op=o->((execOp A.eval p).run C.P w = .ok (.value x) w'\/((execOp A.eval p).run C.P w = .ok .skip w'/\x=Go.undef)):=
 ⟨ρ',x,w',st,hv,R,λp hp=>.inl (by rw [e p hp];simp [hs])⟩
theorem cE.none {C:CE}{o:Op}{A:Act}{s:Sem Unit}{ρ':bE}{w w':World}{B:Nat}{w0:World}{ρ:bE}{h h':H}(st:Step ρ ρ' h h')(R:aA B w0 ρ' h' w')(hs:s.run C.P w = .ok () w')
  (e:∀p:Oper,p.op=o->execOp A.eval p=(do s;pure .skip)):
  ∃ρ' x w',Step ρ ρ' h h'/\RV ρ' undef x/\aA B w0 ρ' h' w'/\∀p:Oper,p.op=o->((execOp A.eval p).run C.P w = .ok (.value x) w'\/((execOp A.eval p).run C.P w = .ok .skip w'/\x=Go.undef)):=
 ⟨ρ',Go.undef,w',st,.tuple .nil,R,λp hp=>.inr ⟨by rw [e p hp];simp [hs],rfl⟩⟩
theorem Y7 {C:CE}{t:TypeId}{n:Nat}{y z:Operand}{a x:X}(hn:cd C.P t=some n)(ha:aw C y=some a)(hx:aw C z=some x):cE C (.store t y z) (.store n a x):=by
 intro ρ tm A hT hG B w0 h w R v h' hr;simp only [ED.run] at hr;split at hr
 ·rename_i l off e
  have r:=au hT hG ha;rw [e] at r;obtain ⟨b,hb,hy⟩:=dP r;simp only [ag,ad,Option.some.injEq,Prod.mk.injEq] at hr;obtain ⟨h1,h2,h3,rfl,rfl⟩:=hr;have rx:=(au hT hG hx).cells;obtain ⟨s1,s2⟩:=R.store hb h3 rx;obtain ⟨vs,el,fz,own,vs',_,_,_,_,_,rfl⟩:=jN h3;refine cE.none (s:=Instr.storeAt t (A.eval y) (A.eval z)) (Step.same rfl) s2 ?_ λp hp=>by unfold execOp;rw [hp]
  have ft:(A.eval z).cells.size=n:=by have:=rx.length;have:=Nat.eq_of_beq_eq_true h1;simp at *;omega
  simp [Instr.storeAt,hy,Instr.sureAddr,storeVar,cA hn,ft,s1]
 ·cases hr
theorem Y8 {C:CE}{t:TypeId}{z:V}(hz:fg C.P t=some z):cE C (.alloc t) (.alloc t z.cells):=by
 intro ρ tm A hT hG B w0 h w R v h' hr;cases hr;obtain ⟨x,hx,hr⟩:=fD (ρ:=ρ) hz;have R':=R.row (vs:=z.cells) (xs:=x.cells.toList) hx.cells [] t 0 .yes;simp only [List.append_nil] at R';refine cE.ret (s:=Instr.alloc t true (.tuple #[])) (Step.add _ _ _ _) (.ptr 0 (aS _ _ _)) R' ?_ λp hp=>by unfold execOp;rw [hp]
 simp [Instr.alloc,hr,newVar,newRow]
theorem afx {C:CE}{t:TypeId}{y:Operand}{x:X}(hx:aw C y=some x):cE C (.box t y) (.box t x):=by
 intro ρ tm A hT hG B w0 h w R v h' hr;cases hr;have rx:=au hT hG hx;have R':=R.row (vs:=(x.ev tm).cells) (xs:=(A.eval y).cells.toList) rx.cells [] t 0 .yes;simp only [List.append_nil] at R';refine cE.ret (s:=Instr.box t (A.eval y)) (Step.add _ _ _ _) (.ptr 0 (aS _ _ _)) R' ?_ λp hp=>by unfold execOp;rw [hp]
 simp [Instr.box,newVar,newRow]
theorem vT {z:List V}{s:Nat}(hs:z.length=s):∀(c i:Nat),i<c*s->(aG z c)[i]? =z[i % s]?
 | 0,i,hi=>by omega
 | c+1,i,hi=>by
   unfold aG
   by_cases h:i<s
   ·rw [List.getElem?_append_left (by omega),Nat.mod_eq_of_lt h]
   ·rw [List.getElem?_append_right (by omega),hs,vT hs c (i - s) (by rw [Nat.add_mul] at hi;omega)]
    congr 1
    exact (Nat.mod_eq_sub_mod (by omega)).symm
theorem gb {z:List V}:∀c,(aG z c).length=c*z.length
 | 0=>by simp [aG]
 | c+1=>by simp [aG,gb c,Nat.add_mul];omega
theorem cU.repeat {z:List V}{x:Array Value}(hr:cU ρ z x.toList){s:Nat}(hs:z.length=s)(h0:0<s)(c:Nat):cU ρ (aG z c) ((Array.range (c*s)).map (x[· % x.size]!)).toList:=by
 have hx:x.size=s:=by have:=hr.length;simp at this;omega
 refine cU.Vf (by simp [gb,hs]) λi v hv=>?_;have hi:i<c*s:=by
  have:=(List.getElem?_eq_some_iff.1 hv).1;rw [gb,hs] at this;exact this
 rw [vT hs c i hi] at hv;obtain ⟨y,hy,ry⟩:=hr.get hv;have bA:i % s<x.size:=by rw [hx];exact Nat.mod_lt _ h0
 refine ⟨y,?_,ry⟩;have:x[i % s]! =y:=by
  rw [getElem!_pos x (i % s) bA];rw [Array.getElem?_toList,Array.getElem?_eq_getElem bA] at hy;exact Option.some.inj hy
 simp [hi,hx,this]
theorem uM {A:Act}{C:CE}{ρ:bE}{tm:T V}{size:Nat}(hT:iU ρ C.n tm A.tmps)(hG:gv ρ C.G):∀{ps:List (Nat×Operand)} {l:List (Nat×X)},eF C ps=some l->∀{vs r:List V} {arr:Array Value},cU ρ vs arr.toList->dV tm size l vs=some r->
  ∃Ps,Instr.fill (λi=>some (i*size,size)) arr (ps.map λp=>(p.1,A.eval p.2))=some Ps/\cU ρ r Ps.toList
 | [],l,h,vs,r,arr,hv,hf=>by
   simp [eF] at h;subst h;simp [dV] at hf;subst hf;exact ⟨arr,rfl,hv⟩
 | (i,x)::ps,l,h,vs,r,arr,hv,hf=>by
   simp only [eF,ad,Option.some.injEq] at h;obtain ⟨d,h1,ds,h2,rfl⟩:=h;simp only [dV,ag,ad] at hf;obtain ⟨h3,q,h4,h5⟩:=hf;have rx:=(au (a:=A) hT hG h1).cells;have h3':(d.ev tm).cells.length=size:=Nat.eq_of_beq_eq_true h3;have ft:(A.eval x).cells.size=size:=by have:=rx.length;simp at this;omega
   have hle:=jJ h4;have hlv:=hv.length;obtain ⟨e1,e2⟩:=acd hv rx h4;obtain ⟨Ps,e3,e4⟩:=uM hT hG h2 e2 h5;refine ⟨Ps,?_,e4⟩;simp only [List.map_cons,Instr.fill];simp at hlv;have c1:(decide ((A.eval x).cells.size≠size)||decide (i*size+(A.eval x).cells.size>arr.size))=false:=by
    simp only [Bool.or_eq_false_iff,decide_eq_false_iff_not];omega
   rw [if_neg (by rw [c1];exact Bool.false_ne_true)];exact e3
theorem JZ {C:CE}{t e:TypeId}{size n:Nat}{z:V}{ps:Array (Nat×Operand)}{l:List (Nat×X)}(hu:C.P.underlying t=some (.slice e))(hs:cd C.P e=some size)(hz:fg C.P e=some z)
  (hn:n*size<=65536) (NV:z.cells.length=size) (h0:0<size) (hl:eF C ps.toList=some l):cE C (.buildSlice t n ps) (.buildSlice e size n (aG z.cells n) l):=by
 intro ρ tm A hT hG B w0 h w R v h' hr;simp only [ED.run,ad,Option.some.injEq,Prod.mk.injEq] at hr;obtain ⟨cs,hf,rfl,rfl⟩:=hr;obtain ⟨x,hx,hzr⟩:=fD (ρ:=ρ) hz;have acg:=hx.cells.repeat NV h0 n;obtain ⟨arr,f1,f2⟩:=uM (A:=A) hT hG hl acg hf;have R':=R.row f2 [] e 0 .yes;simp only [List.append_nil] at R';refine cE.ret (s:=Instr.buildSlice t n (ps.map λ(i,x)=>(i,A.eval x))) (Step.add _ _ _ _) (.slice 0 n n (aS _ _ _)) R' ?_ λp hp=>by unfold execOp;rw [hp]
 have e1:(ps.map λ(i,x)=>(i,A.eval x)).toList=ps.toList.map λp=>(p.1,A.eval p.2):=by simp
 by_cases CT:n*size=0
 ·have eT:n=0:=by rcases Nat.mul_eq_zero.1 CT with h | h<;>omega
  subst eT;have f1':Instr.fill (λi=>some (i*size,size)) ((Array.range 0).map ((#[]:Array Value)[· % 0]!)) (ps.toList.map λp=>(p.1,A.eval p.2))=some arr:=by
   rw [<-f1];congr 1;simp
  simp only [Instr.buildSlice,Sem.run_bind,run_underlying hu,Result.andThen_ok,cA hs,Nat.zero_mul];simp [newRow];simp at f1';rw [f1'];simp
 ·have:¬(n*size>2 ^ 24):=by omega
  simp only [Instr.buildSlice,Sem.run_bind,run_underlying hu,Result.andThen_ok,cA hs,if_neg this,Sem.run_pure,if_neg CT,hzr,e1];rw [f1];simp [newRow]
theorem Ms {C:CE}{t e:TypeId}{size bytes:Nat}{z:V}{y1 y2:Operand}{n c:X}(hu:C.P.underlying t=some (.slice e))(hs:cd C.P e=some size)(hb:xF C.P e=some bytes)(hz:fg C.P e=some z)
  (h1:aw C y1=some n) (h2:aw C y2=some c):cE C (.makeSlice t y1 y2) (.makeSlice e size bytes z.cells n c):=by
 intro ρ tm A hT hG B w0 h w R v h' hr;simp only [ED.run] at hr;unfold BU at hr;split at hr
 ·rename_i n' c' e1 e2
  simp only [ag,Option.some.injEq,Bool.and_eq_true,Prod.mk.injEq] at hr;obtain ⟨⟨⟨⟨⟨g1,g2⟩,g3⟩,g4⟩,g5⟩,rfl,rfl⟩:=hr;have g1:=Nat.le_of_ble_eq_true g1;have g2:c'*bytes<=1099511627776:=Nat.le_of_ble_eq_true g2;have g3:=Nat.le_of_ble_eq_true g3;have g4:=Nat.eq_of_beq_eq_true g4;have g5:0<size:=by simpa using g5
  have r1:=au hT hG h1;have r2:=au hT hG h2;rw [e1] at r1;rw [e2] at r2;generalize NW:A.eval y1=v1 at r1;generalize Rq:A.eval y2=v2 at r2;cases r1;cases r2;simp only [fg,ad] at hz;obtain ⟨i,hi,zx,hzx,hzc⟩:=hz;have hx:RV ρ z zx:=qj hzc;have ft:i.size=size:=by obtain ⟨j,hj,e⟩:=xI hs;rw [hi] at hj;cases hj;exact e
  have hby:i.bytes=bytes:=by
   simp only [xF,ad,Option.some.injEq] at hb;obtain ⟨j,hj,e⟩:=hb;rw [hi] at hj;cases hj;exact e
  have acg:=hx.cells.repeat g4 g5 c';have R':=R.row acg [] e 0 .yes;simp only [List.append_nil] at R';refine cE.ret (s:=Instr.makeSlice t (.int .i64 (Int.ofNat n')) (.int .i64 (Int.ofNat c'))) (Step.add _ _ _ _) (.slice 0 n' c' (aS _ _ _)) R' ?_ λp hp=>by unfold execOp;rw [hp];simp only [NW,Rq]
  have Y9:(i.bytes:Int)*(c':Int)<=281474976710656:=by
   rw [hby,<-Int.natCast_mul,Nat.mul_comm];omega
  have:=run_make (P:=C.P) w t e i zx hu hi hzx .i64 .i64 n' c' (by omega) (by omega) Y9 (by omega);rw [ft] at this;have em:∀a:Array Value,(⟨a.toList⟩:Array Value)=a:=λa=>by cases a;rfl
  rw [em];simpa only [madeCells,Int.toNat_natCast,Int.ofNat_eq_natCast] using this
 ·cases hr
theorem oh {size:Nat}(tm:T V):∀{l:List (Nat×X)} {cells r:List V},eW size l cells=some r->dV tm size l cells=some r
 | [],cells,r,h=>by simpa [eW,dV] using h
 | (i,.c v)::l,cells,r,h=>by
   simp only [eW,ag,ad] at h;obtain ⟨h1,c,h2,h3⟩:=h;simp only [dV,ag,ad,X.ev];exact ⟨h1,c,h2,oh tm h3⟩
 | (_,.t _)::_,_,_,h=>by cases h
theorem Pv {C:CE}{o:Op}{e:TypeId}{size n:Nat}{cells cs:List V}{l:List (Nat×X)}(hk:cE C o (.buildSlice e size n cells l))(hc:eW size l cells=some cs):cE C o (.cI e cs n):=by
 intro ρ tm A hT hG B w0 h w R v h' hr;refine hk hT hG R ?_;simp only [ED.run,Option.some.injEq,Prod.mk.injEq] at hr;obtain ⟨rfl,rfl⟩:=hr;simp only [ED.run,ad,Option.some.injEq];exact ⟨cs,oh tm hc,rfl⟩
end
end Go.Dx
