/-
  The sequencer's laws. Part ZAE of the proof: The deterministic machine over labels against the model: an operation that hangs on its operands alone.
-/
import Derived.Test.YteajeefphbjnmaaGreatDoorZAD
namespace Go.Dx
open Go Go.RowKit
def Yields (P:Program)(ρ:bE)(a:Act)(o:Op)(v:V):Prop:=∃x,RV ρ v x/\∀(q:Oper),q.op=o->∀w,(execOp a.eval q).run P w = .ok (.value x) w
theorem Yields.of {P:Program}{ρ:bE}{a:Act}{o:Op}{v:V}{s:Sem Value}(h:vR P ρ v s)(e:∀(q:Oper),q.op=o->execOp a.eval q=(do pure (.value (<-s)))):Yields P ρ a o v:=by
 obtain ⟨x,hx,hr⟩:=h;exact ⟨x,hx,λq hq w=>by rw [e q hq];simp [hr]⟩
def BY (C:CE)(o:Op)(d:PD):Prop:=∀{ρ:bE} {tm:T V} {a:Act},iU ρ C.n tm a.tmps->gv ρ C.G->∀v,d.eval (dz C.P) tm=some v->Yields C.P ρ a o v
def MOk (C:CE)(o:Op)(x:X):Prop:=∀{ρ:bE} {tm:T V} {a:Act},iU ρ C.n tm a.tmps->gv ρ C.G->Yields C.P ρ a o (x.ev tm)
section
variable {C:CE}
theorem afr {y:Operand}{x:X}(h:aw C y=some x):MOk C (.move y) x:=
 λhT hG=>⟨_,au hT hG h,λq hq w=>by unfold execOp;rw [hq];rfl⟩
theorem YZ {y:Operand}{x:X}(h:aw C y=some x):MOk C (.assign y) x:=
 λhT hG=>⟨_,au hT hG h,λq hq w=>by unfold execOp;rw [hq];rfl⟩
theorem afs {c a b:Operand}{x y z:X}(hc:aw C c=some x)(ha:aw C a=some y)(hb:aw C b=some z):BY C (.pick c a b) (.pick x y z):=by
 intro ρ tm A hT hG v h;have r:=au hT hG hc;simp only [PD.eval] at h;split at h
 ·rename_i e
  rw [e] at r;cases h;generalize hz:A.eval c=u at r;cases r;exact ⟨_,au hT hG ha,λq hq w=>by unfold execOp;rw [hq];simp [hz,asBool]⟩
 ·rename_i e
  rw [e] at r;cases h;generalize hz:A.eval c=u at r;cases r;exact ⟨_,au hT hG hb,λq hq w=>by unfold execOp;rw [hq];simp [hz,asBool]⟩
 ·cases h
theorem Sb {y:Operand}{x:X}(h:aw C y=some x):BY C (.nilCheck y) (.nilCheck x):=by
 intro ρ tm A hT hG v hv;have r:=au hT hG h;simp only [PD.eval] at hv;unfold uC at hv;generalize hz:A.eval y=u at r;split at hv
 ·rename_i e
  rw [e] at r;cases hv;cases r;rename_i b hb;exact ⟨_,.ptr _ hb,λq hq w=>by unfold execOp;rw [hq];simp [hz]⟩
 ·rename_i e
  rw [e] at r;cases hv;cases r;rename_i hb hc;exact ⟨_,.func _ hb hc,λq hq w=>by unfold execOp;rw [hq];simp [hz]⟩
 ·cases hv
theorem aiU {op:BinOp}{t u:TypeId}{y z:Operand}{x1 x2:X}(h1:aw C y=some x1)(h2:aw C z=some x2):BY C (.binOp op t y z u) (.bin op (JG C.P t y z) x1 x2):=by
 intro ρ tm A hT hG v hv;have g:=ab9 (P:=C.P) (au hT hG h1) (au hT hG h2) hv;exact Yields.of g λq hq=>by unfold execOp;rw [hq]
theorem am8 {op:UnOp}{t:TypeId}{y:Operand}{x:X}(h:aw C y=some x):BY C (.unOp op t y) (.un op x):=by
 intro ρ tm A hT hG v hv;have r:=au hT hG h;simp only [PD.eval] at hv;generalize hz:A.eval y=u at r;have e:∀(q:Oper),q.op = .unOp op t y->execOp A.eval q=(do pure (.value (<-Op.unary op u))):=λq hq=>by unfold execOp;rw [hq];simp only [hz]
 unfold unOp at hv;split at hv
 ·rename_i k n e'
  rw [e'] at r;cases r;have g:vR C.P ρ v (Go.binOp .sub 0 (.int k 0) (.int k n)):=np hv (by simp) (by simp) 0;exact Yields.of (s:=Op.intArith .sub k 0 n) (by simpa [Go.binOp] using g) (λq hq=>by rw [e q hq];rfl)
 ·rename_i k n e'
  rw [e'] at r;cases r;have em:allOnes k=(if k.signed then -1 else k.max):=by cases k<;>rfl
  rw [em] at hv;have g:vR C.P ρ v (Go.binOp .xor 0 (.int k (if k.signed then -1 else k.max)) (.int k n)):=np hv (by simp) (by simp) 0;exact Yields.of (s:=Op.intBits .xor k (if k.signed then -1 else k.max) n) (by simpa [Go.binOp] using g) (λq hq=>by rw [e q hq];rfl)
 ·rename_i b e'
  rw [e'] at r;cases r;cases hv;exact Yields.of (s:=pure (.bool !b)) (.pure (.bool _)) (λq hq=>by rw [e q hq];rfl)
 ·cases hv
theorem U6 {t:TypeId}{d:TypeDesc}{y:Operand}{x:X}(hu:C.P.underlying t=some d)(hd:∀ms,d≠.interface ms) (h:aw C y=some x):BY C (.makeInterface t y) (.Dq t x):=by
 intro ρ tm A hT hG v hv;cases hv;refine Yields.of (s:=Instr.makeInterface t (A.eval y)) ⟨_,.iface t (au hT hG h),λw=>?_⟩ λq hq=>by unfold execOp;rw [hq]
 unfold Instr.makeInterface;rw [Sem.run_bind,run_underlying hu,Result.andThen_ok];cases d<;>first | rfl | (exact absurd rfl (hd _))
theorem Y0 {f:FuncId}{aGn bs:Array Operand}{xs ys:List X}(h1:cD C aGn.toList=some xs)(h2:cD C bs.toList=some ys):BY C (.makeFunc (.func f) aGn bs) (.Jz f xs ys):=by
 intro ρ tm A hT hG v hv;cases hv;have r1:=mz hT hG h1;have r2:=mz hT hG h2;refine Yields.of (s:=Instr.makeFunc (.func f) (aGn.map A.eval) (bs.map A.eval)) ⟨_,.func f r1 r2,λw=>?_⟩ λq hq=>by unfold execOp;rw [hq]
 unfold Instr.makeFunc;have e1:aGn.map A.eval=⟨aGn.toList.map A.eval⟩:=by apply Array.ext';simp
 have e2:bs.map A.eval=⟨bs.toList.map A.eval⟩:=by apply Array.ext';simp
 rw [e1,e2];rfl
theorem c8 (b o n:Nat):(⟨b,o,none⟩:Addr).add n=⟨b,o+n,none⟩:=Addr.add_mid b o n
theorem Pm {t:TypeId}{fs:Array Field}{f:Nat}{fd:Field}{y:Operand}{x:X}(hu:C.P.underlying t=some (.struct fs))(hf:fs[f]? =some fd){n:Nat}(hn:cd C.P fd.type=some n)(hp:Nat.blt 0 n=true)(h:aw C y=some x):BY C (.fieldAddr t y f) (.fieldAddr fd.offset x):=by
 intro ρ tm A hT hG v hv;have r:=au hT hG h;simp only [PD.eval] at hv;generalize hz:A.eval y=u at r;split at hv
 ·rename_i l o e
  rw [e] at r;cases hv;cases r;rename_i b hb;have r2:=RV.ptr (ρ:=ρ) (o+fd.offset) hb;refine Yields.of (s:=Instr.fieldAt t (.pointer (some ⟨b.block,b.base+o,none⟩)) f) ⟨_,r2,λw=>?_⟩ λq hq=>by unfold execOp;rw [hq];simp only [hz]
  have eT:n≠0:=by have:0<n:=by simpa using hp
                  omega
  simp [Instr.fieldAt,run_underlying hu,hf,Instr.sureAddr,fieldPlace,c8,Nat.add_assoc,cA hn,eT]
 ·cases hv
theorem ab' {s t:TypeId}{d:TypeDesc}{k:IntKind}{y:Operand}{x:X}(hs:C.P.underlying s=some d)(ht:C.P.underlying t=some (.int k))(h:aw C y=some x):BY C (.convert s t y) (.toInt k x):=by
 intro ρ tm A hT hG v hv;have r:=au hT hG h;simp only [PD.eval] at hv;generalize hz:A.eval y=u at r;split at hv
 ·rename_i j n e
  rw [e] at r;cases r;cases hv;rw [eJ];refine Yields.of (s:=convert s t (.int j n)) ⟨_,.int k _,λw=>?_⟩ λq hq=>by unfold execOp;rw [hq];simp only [hz]
  unfold convert;simp only [Sem.run_bind,run_underlying hs,run_underlying ht,Result.andThen_ok];cases d<;>rfl
 ·cases hv
theorem U7 {s t:TypeId}{k:IntKind}{y:Operand}{x:X}(hs:C.P.underlying s=some (.int k))(ht:C.P.underlying t=some .string)(h:aw C y=some x):BY C (.convert s t y) (.Dn x):=by
 intro ρ tm A hT hG v hv;have r:=au hT hG h;simp only [PD.eval] at hv;generalize hz:A.eval y=u at r;split at hv
 ·rename_i j n e
  rw [e] at r;cases r;cases hv;refine Yields.of (s:=convert s t (.int j n)) ⟨_,.str (Utf8.encode n),λw=>?_⟩ λq hq=>by unfold execOp;rw [hq];simp only [hz]
  unfold convert;simp only [Sem.run_bind,run_underlying hs,run_underlying ht,Result.andThen_ok]
  rfl
 ·cases hv
theorem Y1 {s t:TypeId}{y:Operand}{x:X}(hs:C.P.underlying s=some .string)(ht:C.P.underlying t=some .string)(h:aw C y=some x)
  {ρ:bE} {tm:T V} {A:Act} (hT:iU ρ C.n tm A.tmps) (hG:gv ρ C.G) {l:List Nat} (e:x.ev tm = .str l):Yields C.P ρ A (.convert s t y) (.str l):=by
 have r:=au hT hG h;generalize hz:A.eval y=u at r;rw [e] at r;cases r with | str b=>
 refine Yields.of (s:=convert s t (.string b)) ⟨_,.str b,λw=>?_⟩ λq hq=>by unfold execOp;rw [hq];simp only [hz]
 unfold convert;simp only [Sem.run_bind,run_underlying hs,run_underlying ht,Result.andThen_ok]
 rfl
theorem U8 {s t:TypeId}{y:Operand}{x:X}(hs:C.P.underlying s=some .string)(ht:C.P.underlying t=some .string)(h:aw C y=some x):BY C (.convert s t y) (.Dp x):=by
 intro ρ tm A hT hG v hv;simp only [PD.eval] at hv;unfold Fv at hv;split at hv
 ·rename_i l e
  cases hv;exact Y1 hs ht h hT hG e
 ·cases hv
theorem sX {ρ:bE}{v:V}{x:Value}(hr:RV ρ v x){y i:Nat}(h:bound v y=some i)(code:BoundsCode){P:Program}(w:World):(Instr.sliceBound x y code).run P w = .ok i w/\i<=y:=by
 unfold bound at h;split at h
 ·rename_i e0 k n
  cases hr;simp only [ag,Option.some.injEq] at h;obtain ⟨h1,rfl⟩:=h;have h2:n<=y:=Nat.le_of_ble_eq_true h1;refine ⟨?_,h2⟩;simp only [Instr.sliceBound,asIntOf,Sem.run_bind,Sem.run_pure,Result.andThen_ok];rw [if_pos ⟨by simp,by simpa using h2⟩];simp
 ·cases h
theorem jP {P:Program}{ρ:bE}{isS:Bool}{len cap:Nat}{lo hi mx:Option V}{Md ja mx':Option Value}(r1:Pg ρ lo Md)(r2:Pg ρ hi ja)(r3:Pg ρ mx mx'){m h l:Nat}
  (e1:bD mx cap cap=some m) (e2:bD hi m len=some h) (e3:bD lo h 0=some l) (hd:mx=none\/hi≠none) (w:World):
  (Instr.sliceBounds isS len cap Md ja mx').run P w = .ok (l,h,m) w:=by
 unfold Instr.sliceBounds;cases r3 with
 | none=>
   simp only [bD,Option.some.injEq] at e1;subst e1;simp only [Sem.run_bind,Sem.run_pure,Result.andThen_ok];cases r2 with
   | none=>
     simp only [bD,Option.some.injEq] at e2;subst e2;simp only [Sem.run_bind,Sem.run_pure,Result.andThen_ok];cases r1 with
     | none=>simp only [bD,Option.some.injEq] at e3;subst e3;rfl
     | some r1=>simp only [bD] at e3;simp only [Sem.run_bind,(sX r1 e3 _ w).1,Result.andThen_ok];rfl
   | some r2=>
     simp only [bD] at e2;simp only [Sem.run_bind,(sX r2 e2 _ w).1,Result.andThen_ok];cases r1 with
     | none=>simp only [bD,Option.some.injEq] at e3;subst e3;rfl
     | some r1=>simp only [bD] at e3;simp only [Sem.run_bind,(sX r1 e3 _ w).1,Result.andThen_ok];rfl
 | some r3=>
   simp only [bD] at e1;simp only [Sem.run_bind,(sX r3 e1 _ w).1,Result.andThen_ok];cases r2 with
   | none=>rcases hd with hd | hd<;>simp at hd
   | some r2=>
     simp only [bD] at e2;simp only [Sem.run_bind,(sX r2 e2 _ w).1,Result.andThen_ok];cases r1 with
     | none=>simp only [bD,Option.some.injEq] at e3;subst e3;rfl
     | some r1=>simp only [bD] at e3;simp only [Sem.run_bind,(sX r1 e3 _ w).1,Result.andThen_ok];rfl
theorem JS (s:ByteArray)(l h:Nat):ax (s.extract l h)=((ax s).take h).drop l:=by
 unfold ax;rw [Go.Lib.extract_data,List.drop_take];simp [List.map_drop,List.map_take]
theorem Sc {t:TypeId}{y:Operand}{lo hi:Option Operand}{x:X}{l h:Option X}(hu:C.P.underlying t=some .string)(hx:aw C y=some x)(hl:gJ C lo=some l)(hh:gJ C hi=some h):
  BY C (.slice t y lo hi none) (.xy x l h):=by
 intro ρ tm A hT hG v hv;have r:=au hT hG hx;have r1:=jO hT hG hl;have r2:=jO hT hG hh;simp only [PD.eval] at hv;generalize hz:A.eval y=u at r;split at hv
 ·rename_i s e
  rw [e] at r;cases r with | str b=>
  simp only [mw,ad,Option.some.injEq,cw] at hv;obtain ⟨i,e2,j,e3,rfl⟩:=hv;refine Yields.of (s:=Instr.sliceAt t (.string b) (lo.map A.eval) (hi.map A.eval) none) ⟨.string (b.extract j i),by rw [<-JS];exact .str _,λw=>?_⟩ λq hq=>by unfold execOp;rw [hq];simp only [hz,Option.map_none]
  have:=jP (P:=C.P) (isS:=false) (len:=b.size) (cap:=b.size) r1 r2 (.none) rfl e2 e3 (.inl rfl) w;unfold Instr.sliceAt;simp only [Sem.run_bind,run_underlying hu,Result.andThen_ok];unfold Instr.slice;simp only [Sem.run_bind,run_underlying hu,Result.andThen_ok];simp [this]
 ·cases hv
theorem xK {ρ:bE}{l:Lb}{b:dZ}(hb:ρ l=some b)(off size i h m:Nat):
  RV ρ (sliceEnd l off size i h m) (.slice (if m=i then some ⟨b.block,b.base+off,none⟩ else (some ⟨b.block,b.base+off,none⟩:Option Addr).map (·.add (i*size))) (h - i) (m - i)):=by
 unfold sliceEnd
 by_cases e:m=i
 ·subst e
  rw [Nat.beq_refl,if_pos rfl];exact .slice _ _ _ hb
 ·have:Nat.beq m i=false:=by rw [<-Bool.not_eq_true,Nat.beq_eq];exact e
  rw [this,if_neg e];simp only [Option.map_some,c8,Nat.add_assoc];exact .slice _ _ _ hb
theorem BZ {v:V}{n m i:Nat}(h:bound v n=some i)(hn:n<=m):bound v m=some i/\i<=n:=by
 unfold bound at h ⊢;split at h
 ·simp only [ag,Option.some.injEq] at h ⊢
  obtain ⟨h1,rfl⟩:=h;have:=Nat.le_of_ble_eq_true h1;exact ⟨⟨Nat.ble_eq_true_of_le (Nat.le_trans this hn),rfl⟩,this⟩
 ·cases h
theorem FA {o:Option V}{n d i:Nat}(h:bD o n d=some i)(hd:d<=n):i<=n:=by
 cases o with
 | none=>simp only [bD,Option.some.injEq] at h;omega
 | some v=>exact (BZ h (Nat.le_refl _)).2
theorem U9 {P:Program}{t e:TypeId}{size:Nat}{ρ:bE}{v r:V}{x:Value}{lo hi mx:Option V}{Md ja mx':Option Value}(hu:P.underlying t=some (.slice e))(hs:cd P e=some size)
  (hr:RV ρ v x) (r1:Pg ρ lo Md) (r2:Pg ρ hi ja) (r3:Pg ρ mx mx') (hd:mx=none\/hi≠none) (h:ez size v lo hi mx=some r):vR P ρ r (Instr.sliceAt t x Md ja mx'):=by
 have B0:∀w a len cap,(Instr.sliceAt t (.slice a len cap) Md ja mx').run P w=((Instr.sliceBounds true len cap Md ja mx').run P w).andThen λp w=>.ok (.slice (if p.2.2=p.1 then a else a.map (·.add (p.1*size))) (p.2.1 - p.1) (p.2.2 - p.1)) w:=λw a len cap=>by
  unfold Instr.sliceAt;simp only [Sem.run_bind,run_underlying hu,Result.andThen_ok];unfold Instr.slice;simp only [Sem.run_bind,run_underlying hu,Result.andThen_ok,cA hs];cases (Instr.sliceBounds true len cap Md ja mx').run P w with
  | ok p w=>rfl
  | halt p w=>rfl
 unfold ez at h;cases hr<;>simp only [reduceCtorEq] at h
 case nilSlice c=>
  simp only [ad,ag,Option.some.injEq] at h;obtain ⟨m,e1,i,e2,j,e3,hb,rfl⟩:=h;have jG:i=0:=Nat.eq_of_beq_eq_true hb;subst jG;have hj:j=0:=Nat.le_zero.1 (FA e3 (Nat.le_refl _));subst hj;refine ⟨_,.nilSlice (m - 0),λw=>?_⟩;rw [B0,jP r1 r2 r3 e1 e2 e3 hd w];simp
 case slice l b off len c hb=>
  simp only [ad,Option.some.injEq] at h;obtain ⟨m,e1,i,e2,j,e3,rfl⟩:=h;refine ⟨_,xK hb off size j i m,λw=>?_⟩;rw [B0,jP r1 r2 r3 e1 e2 e3 hd w]
  rfl
 case sliceEnd l b off len es c hb hlen hc=>
  simp only [ag] at h;obtain ⟨lP,h⟩:=h;have:es=size:=Nat.eq_of_beq_eq_true lP;subst this;cases mx with
  | some q=>
    simp only [ad,Option.some.injEq] at h;obtain ⟨m,e1,i,e2,j,e3,rfl⟩:=h;have HP:∃q',hi=some q':=by
     rcases hd with hd | hd
     ·cases hd
     ·cases hi with
      | none=>exact absurd rfl hd
      | some q'=>exact ⟨q',rfl⟩
    obtain ⟨q',rfl⟩:=HP;refine ⟨_,xK hb off es j i m,λw=>?_⟩;rw [B0,jP (len:=len) r1 r2 r3 (m:=m) (BZ e1 hlen).1 (show bD (some q') m len=some i from e2) e3 hd w]
    rfl
  | none=>
    simp only [ad] at h;obtain ⟨i,e2,j,e3,h⟩:=h;have ja:i<=len:=FA e2 (Nat.le_refl _);have hj':j<=i:=FA e3 (Nat.zero_le _);have e2':bD hi c len=some i:=by
     cases hi with
     | none=>simpa [bD] using e2
     | some q=>exact (BZ e2 hlen).1
    cases hj:Nat.blt j len||Nat.beq j 0 with
    | true=>
      rw [hj] at h;simp only [Option.some.injEq] at h;subst h;have dj:(j<len\/j=0):=by
       rw [Bool.or_eq_true] at hj;rcases hj with hj | hj
       ·exact .inl (by simpa using hj)
       ·exact .inr (Nat.eq_of_beq_eq_true hj)
      have rr:=RV.sliceEnd (ρ:=ρ) (off+j*es) (i - j) es (c - j) hb (by omega) (by
       have:(c - j)*es+j*es=c*es:=by rw [<-Nat.add_mul];congr 1;omega
       omega)
      refine ⟨_,rr,λw=>?_⟩;rw [B0,jP r1 r2 r3 (m:=c) rfl e2' e3 hd w];simp only [Result.andThen_ok]
      by_cases hcj:c=j
      ·have Uy:j=0:=by omega
       subst Uy;rw [if_pos hcj];simp
      ·rw [if_neg hcj]
       simp only [Option.map_some,c8,Nat.add_assoc]
    | false=>
      rw [hj] at h;simp only [Option.some.injEq] at h;subst h;have uJ:¬j<len:=λq=>by
       rw [Bool.or_eq_false_iff] at hj;have:=hj.1;rw [<-Bool.not_eq_true] at this;exact this (by simpa using q)
      have zO:i - j=0:=by omega
      have rr:∀a:Addr,RV ρ .empty (.slice (some a) (i - j) (c - j)):=λa=>by rw [zO];exact .empty a _
      by_cases hcj:c=j
      ·refine ⟨_,rr ⟨b.block,b.base+off,none⟩,λw=>?_⟩
       rw [B0,jP r1 r2 r3 (m:=c) rfl e2' e3 hd w];simp only [Result.andThen_ok];rw [if_pos hcj]
      ·refine ⟨_,rr ((⟨b.block,b.base+off,none⟩:Addr).add (j*es)),λw=>?_⟩
       rw [B0,jP r1 r2 r3 (m:=c) rfl e2' e3 hd w];simp only [Result.andThen_ok];rw [if_neg hcj];simp only [Option.map_some]
theorem Sd {tm:T V}{mx hi:Option X}(h:mx.isNone||hi.isSome):Rn tm mx=none\/Rn tm hi≠none:=by
 cases mx with
 | none=>exact .inl rfl
 | some x=>
   cases hi with
   | none=>simp at h
   | some y=>exact .inr (by simp [Rn])
theorem aca {t e:TypeId}{size:Nat}{y:Operand}{lo hi mx:Option Operand}{x:X}{l h m:Option X}(hu:C.P.underlying t=some (.slice e))(hs:cd C.P e=some size)(hx:aw C y=some x)(hl:gJ C lo=some l)(hh:gJ C hi=some h)(hm:gJ C mx=some m)
  (hd:(m.isNone||h.isSome)=true):BY C (.slice t y lo hi mx) (.slice size x l h m):=by
 intro ρ tm A hT hG v hv;simp only [PD.eval] at hv;have g:=U9 hu hs (au hT hG hx) (jO hT hG hl) (jO hT hG hh) (jO hT hG hm) (Sd hd) hv;exact Yields.of g λq hq=>by unfold execOp;rw [hq]
theorem Se {t e:TypeId}{n size:Nat}{y:Operand}{lo hi mx:Option Operand}{x:X}{l h m:Option X}(hu:C.P.underlying t=some (.array n e))(hs:cd C.P e=some size)(hx:aw C y=some x)(hl:gJ C lo=some l)(hh:gJ C hi=some h)(hm:gJ C mx=some m)
  (hd:(m.isNone||h.isSome)=true):BY C (.slice t y lo hi mx) (.xA n size x l h m):=by
 intro ρ tm A hT hG v hv;simp only [PD.eval] at hv;have r:=au hT hG hx;have r1:=jO hT hG hl;have r2:=jO hT hG hh;have r3:=jO hT hG hm;have Sf:=Sd (tm:=tm) hd;generalize hz:A.eval y=u at r;unfold uy at hv;split at hv
 ·rename_i a off e'
  rw [e'] at r;cases r;rename_i b hb;simp only [ad,Option.some.injEq] at hv;obtain ⟨m',e1,i,e2,j,e3,rfl⟩:=hv;refine Yields.of (s:=Instr.sliceAt t (.pointer (some ⟨b.block,b.base+off,none⟩)) (lo.map A.eval) (hi.map A.eval) (mx.map A.eval)) ⟨_,xK hb off size j i m',λw=>?_⟩ λq hq=>by unfold execOp;rw [hq];simp only [hz]
  unfold Instr.sliceAt;simp only [Sem.run_bind,run_underlying hu,Result.andThen_ok,Instr.sureAddr,Sem.run_pure,jP r1 r2 r3 e1 e2 e3 Sf w,cA hs]
  by_cases e0:m'=j
  ·rw [if_pos e0,if_pos e0]
  ·rw [if_neg e0,if_neg e0];rfl
 ·cases hv
theorem FB {ρ:bE}{v:V}{x:Value}(hr:RV ρ v x){n i:Nat}(h:JD v n=some i):(∃k,x = .int k (i:Int))/\i<n:=by
 unfold JD at h;split at h
 ·rename_i e0 k m
  cases hr;simp only [ag,Option.some.injEq] at h;obtain ⟨h1,rfl⟩:=h;exact ⟨⟨_,rfl⟩,by simpa using h1⟩
 ·cases h
theorem acb {t:TypeId}{fs:Array Field}{f:Nat}{fd:Field}{rd:Rd}{y:Operand}{x:X}(hu:C.P.underlying t=some (.struct fs))(hf:fs[f]? =some fd)(uI:NJ C.P fd.type=some rd)(h:aw C y=some x):
  BY C (.field t y f) (.field rd fd.offset x):=by
 intro ρ tm A hT hG v hv;have r:=au hT hG h;simp only [PD.eval] at hv;generalize hz:A.eval y=u at r;split at hv
 ·rename_i cs e
  rw [e] at r;cases r with | agg jQ=>
  rename_i xs;obtain ⟨z,FC,pV⟩:=zj uI jQ hv;refine Yields.of (s:=Instr.field t (.agg ⟨xs⟩) f) ⟨z,FC,λw=>?_⟩ λq hq=>by unfold execOp;rw [hq];simp only [hz]
  simp [Instr.field,run_underlying hu,hf,asAgg,pV]
 ·cases hv
theorem Po {t e:TypeId}{size:Nat}{y z:Operand}{x i:X}(hu:C.P.underlying t=some (.slice e))(hs:cd C.P e=some size)(hx:aw C y=some x)(hi:aw C z=some i):
  BY C (.indexAddr t y z) (.indexAddr size x i):=by
 intro ρ tm A hT hG v hv;have r:=au hT hG hx;have ri:=au hT hG hi;simp only [PD.eval] at hv;generalize hz:A.eval y=u at r;generalize pV:A.eval z=u2 at ri;unfold rD at hv;split at hv
 ·rename_i l off len cap e'
  rw [e'] at r;simp only [ad,Option.some.injEq] at hv;obtain ⟨j,hj,rfl⟩:=hv;obtain ⟨⟨k,rfl⟩,bA⟩:=FB ri hj;obtain ⟨b,hb,c,rfl⟩:∃b,ρ l=some b/\∃c,u = .slice (some ⟨b.block,b.base+off,none⟩) len c:=by
   cases r
   ·rename_i b c hb;exact ⟨b,hb,_,rfl⟩
   ·rename_i b size c hb hl hc;exact ⟨b,hb,_,rfl⟩
  refine Yields.of (s:=Instr.indexAt t (.slice (some ⟨b.block,b.base+off,none⟩) len c) (.int k j)) ⟨_,.ptr (off+j*size) hb,λw=>?_⟩ λq hq=>by unfold execOp;rw [hq];simp only [hz,pV]
  have U':(0:Int)<=(j:Int)/\(j:Int)<(len:Int):=⟨by omega,by omega⟩;simp [Instr.indexAt,asIntOf,run_underlying hu,bA,cA hs,c8,Nat.add_assoc]
 ·cases hv
theorem Sg {t e:TypeId}{n size:Nat}{y z:Operand}{x i:X}(hu:C.P.underlying t=some (.array n e))(hs:cd C.P e=some size)(hx:aw C y=some x)(hi:aw C z=some i):
  BY C (.indexAddr t y z) (.kq n size x i):=by
 intro ρ tm A hT hG v hv;have r:=au hT hG hx;have ri:=au hT hG hi;simp only [PD.eval] at hv;generalize hz:A.eval y=u at r;generalize pV:A.eval z=u2 at ri;unfold uz at hv;split at hv
 ·rename_i l off e'
  rw [e'] at r;simp only [ad,Option.some.injEq] at hv;obtain ⟨j,hj,rfl⟩:=hv;obtain ⟨⟨k,rfl⟩,bA⟩:=FB ri hj;cases r;rename_i b hb;refine Yields.of (s:=Instr.indexAt t (.pointer (some ⟨b.block,b.base+off,none⟩)) (.int k j)) ⟨_,.ptr (off+j*size) hb,λw=>?_⟩ λq hq=>by unfold execOp;rw [hq];simp only [hz,pV]
  simp [Instr.indexAt,asIntOf,run_underlying hu,bA,cA hs,c8,Nat.add_assoc,Instr.sureAddr]
 ·cases hv
theorem Va {s:ByteArray}{i b:Nat}(h:(ax s)[i]? =some b):∃c:UInt8,s[i]? =some c/\c.toNat=b:=by
 unfold ax at h;simp only [List.getElem?_map,Option.map_eq_some_iff] at h;obtain ⟨c,h1,h2⟩:=h;refine ⟨c,?_,h2⟩;have bA:i<s.size:=by
  have:=(List.getElem?_eq_some_iff.1 h1).1;simpa using this
 rw [ByteArray.getElem?_lt' s i bA];have:=(List.getElem?_eq_some_iff.1 h1).2
 congr 1
theorem Sh {t:TypeId}{y z:Operand}{x i:X}(hu:C.P.underlying t=some .string)(hx:aw C y=some x)(hi:aw C z=some i):BY C (.index t y z) (.xB x i):=by
 intro ρ tm A hT hG v hv;have r:=au hT hG hx;have ri:=au hT hG hi;simp only [PD.eval] at hv;generalize hz:A.eval y=u at r;generalize pV:A.eval z=u2 at ri;unfold uA at hv;split at hv
 ·rename_i s k j e1 e2
  rw [e1] at r;rw [e2] at ri;cases r with | str t'=>
  cases ri;simp only [ad,Option.some.injEq] at hv;obtain ⟨b,hb,rfl⟩:=hv;obtain ⟨c,hc,rfl⟩:=Va hb;refine Yields.of (s:=Instr.index t (.string t') (.int k (Int.ofNat j))) ⟨_,.int .u8 (Int.ofNat c.toNat),λw=>?_⟩ λq hq=>by unfold execOp;rw [hq];simp only [hz,pV]
  simp [Instr.index,asIntOf,run_underlying hu,hc]
 ·cases hv
theorem Si {t e:TypeId}{n size:Nat}{rd:Rd}{y z:Operand}{x i:X}(hu:C.P.underlying t=some (.array n e))(hs:cd C.P e=some size)(uI:NJ C.P e=some rd)(hx:aw C y=some x)(hi:aw C z=some i):
  BY C (.index t y z) (.Dr rd n size x i):=by
 intro ρ tm A hT hG v hv;have r:=au hT hG hx;have ri:=au hT hG hi;simp only [PD.eval] at hv;generalize hz:A.eval y=u at r;generalize pV:A.eval z=u2 at ri;unfold BS at hv;split at hv
 ·rename_i cs e'
  rw [e'] at r;cases r with | agg jQ=>
  rename_i xs;simp only [ad] at hv;obtain ⟨j,hj,hv⟩:=hv;obtain ⟨⟨k,rfl⟩,bA⟩:=FB ri hj;obtain ⟨q,sj,gV⟩:=zj uI jQ hv;refine Yields.of (s:=Instr.index t (.agg ⟨xs⟩) (.int k j)) ⟨q,sj,λw=>?_⟩ λq hq=>by unfold execOp;rw [hq];simp only [hz,pV]
  simp [Instr.index,asIntOf,run_underlying hu,bA,cA hs,gV]
 ·cases hv
theorem uK {ρ:bE}{v:V}{x:Value}(h:RV ρ v x)(ok b:Bool):RV ρ (okV ok v b) (if ok then .tuple #[x,.bool b] else x):=by
 cases ok with
 | true=>exact .tuple (.cons h (.cons (.bool b) .nil))
 | false=>exact h
theorem Vb {t xt:TypeId}{d:TypeDesc}{z:V}{ok:Bool}{y:Operand}{x:X}(hu:C.P.underlying t=some d)(hd:∀ms,d≠.interface ms) (hz:fg C.P t=some z) (h:aw C y=some x):
  BY C (.typeAssert y xt t ok) (.Ds t z ok x):=by
 intro ρ tm A hT hG v hv;have r:=au hT hG h;obtain ⟨zx,FC,pV⟩:=fD (ρ:=ρ) hz;simp only [PD.eval] at hv;generalize he:A.eval y=u at r;unfold za at hv;split at hv
 ·rename_i e
  rw [e] at r;cases r;simp only [ag,Option.some.injEq] at hv;obtain ⟨rfl,rfl⟩:=hv;refine Yields.of (s:=Instr.typeAssert .nilIface xt t true) ⟨_,uK FC true false,λw=>?_⟩ λq hq=>by unfold execOp;rw [hq];simp only [he]
  unfold Instr.typeAssert;simp only [Sem.run_bind,run_underlying hu,Result.andThen_ok];cases d<;>first | (exact absurd rfl (hd _)) | simp [pV]
 ·rename_i a v' e
  rw [e] at r;cases r;rename_i x' Df;split at hv
  ·rename_i hb
   have:a=t:=Nat.eq_of_beq_eq_true hb;subst this;cases hv;refine Yields.of (s:=Instr.typeAssert (.iface a x') xt a ok) ⟨_,uK Df ok true,λw=>?_⟩ λq hq=>by unfold execOp;rw [hq];simp only [he]
   unfold Instr.typeAssert;simp only [Sem.run_bind,run_underlying hu,Result.andThen_ok];cases d<;>first | (exact absurd rfl (hd _)) | simp
  ·rename_i hb
   have dj:a≠t:=by intro e';subst e';rw [Nat.beq_refl] at hb;cases hb
   simp only [ag,Option.some.injEq] at hv;obtain ⟨rfl,rfl⟩:=hv;refine Yields.of (s:=Instr.typeAssert (.iface a x') xt t true) ⟨_,uK FC true false,λw=>?_⟩ λq hq=>by unfold execOp;rw [hq];simp only [he]
   unfold Instr.typeAssert;simp only [Sem.run_bind,run_underlying hu,Result.andThen_ok];cases d<;>first | (exact absurd rfl (hd _)) | simp [pV,dj]
 ·cases hv
theorem Vc {l:List String}:Instr.least l=none<->l=[]:=by cases l<;>simp [Instr.least]
theorem DD {want:Array (String×TypeId)}{got:Array Method}:(Instr.missingMethod want got=none)<->(want.toList.all λw=>got.toList.any λm=>m.sig==w.2&&m.name==w.1)=true:=by
 have e:(want.toList.filter λ(name,sig)=>!got.any λm=>m.name==name&&m.sig==sig)=[]<->(want.toList.all λw=>got.toList.any λm=>m.sig==w.2&&m.name==w.1)=true:=by
  rw [List.filter_eq_nil_iff,List.all_eq_true];refine forall_congr' λw=>forall_congr' λ_=>?_;obtain ⟨name,sig⟩:=w;have:(got.toList.any λm=>m.name==name&&m.sig==sig)=(got.toList.any λm=>m.sig==sig&&m.name==name):=by
   congr 1;funext m;rw [Bool.and_comm]
  show ¬(!got.any λm=>m.name==name&&m.sig==sig)=true<->(got.toList.any λm=>m.sig==sig&&m.name==name)=true
  rw [<-this,Array.any_toList];cases (got.any λm=>m.name==name&&m.sig==sig)<;>simp
 rw [<-e];unfold Instr.missingMethod;generalize (want.toList.filter λ(name,sig)=>!got.any λm=>m.name==name&&m.sig==sig)=l;cases l with
 | nil=>simp [Instr.least]
 | cons p l=>
   simp only [List.map_cons,reduceCtorEq,iff_false];intro hn;rw [List.partition_eq_filter_filter] at hn;have orn:∀(a b:Option String),(a <|>b)=none->a=none/\b=none:=λa b h=>by cases a<;>simp_all
   obtain ⟨h1,h2⟩:=orn _ _ hn;rw [Vc] at h1 h2;simp only [List.map_eq_nil_iff] at h2;rw [List.filter_eq_nil_iff] at h1 h2;have g1:=h1 p.1 (by simp);have g2:=h2 p.1 (by simp);simp at g1 g2;exact g2 g1
theorem Vd {t xt:TypeId}{want:Array (String×TypeId)}{z:V}{ok:Bool}{y:Operand}{x:X}(hu:C.P.underlying t=some (.interface want))(hz:fg C.P t=some z)(h:aw C y=some x):
  BY C (.typeAssert y xt t ok) (.ux want z ok x):=by
 intro ρ tm A hT hG v hv;have r:=au hT hG h;obtain ⟨zx,FC,pV⟩:=fD (ρ:=ρ) hz;simp only [PD.eval] at hv;generalize he:A.eval y=u at r;unfold zb at hv;split at hv
 ·rename_i e
  rw [e] at r;cases r;simp only [ag,Option.some.injEq] at hv;obtain ⟨rfl,rfl⟩:=hv;refine Yields.of (s:=Instr.typeAssert .nilIface xt t true) ⟨_,uK FC true false,λw=>?_⟩ λq hq=>by unfold execOp;rw [hq];simp only [he]
  unfold Instr.typeAssert;simp only [Sem.run_bind,run_underlying hu,Result.andThen_ok];simp [pV]
 ·rename_i a v' e
  rw [e] at r;cases r;rename_i x' Df;simp only [ad] at hv;obtain ⟨b,hb,hv⟩:=hv;simp only [dz,am2,ad,Option.some.injEq] at hb;obtain ⟨i,hi,hb⟩:=hb;have ht:∀w,(typeInfo a).run C.P w = .ok i w:=λw=>by simp [typeInfo,hi]
  cases b with
  | true=>
    simp only [Option.some.injEq] at hv;subst hv;refine Yields.of (s:=Instr.typeAssert (.iface a x') xt t ok) ⟨_,uK (.iface a Df) ok true,λw=>?_⟩ λq hq=>by unfold execOp;rw [hq];simp only [he]
    unfold Instr.typeAssert;simp only [Sem.run_bind,run_underlying hu,Result.andThen_ok,ht,DD.2 hb];simp
  | false=>
    simp only [ag,Option.some.injEq] at hv;obtain ⟨rfl,rfl⟩:=hv;have hm:∃s,Instr.missingMethod want i.methods=some s:=by
     cases hm:Instr.missingMethod want i.methods with
     | none=>rw [DD.1 hm] at hb;cases hb
     | some s=>exact ⟨s,rfl⟩
    obtain ⟨s,hm⟩:=hm;refine Yields.of (s:=Instr.typeAssert (.iface a x') xt t true) ⟨_,uK FC true false,λw=>?_⟩ λq hq=>by unfold execOp;rw [hq];simp only [he]
    unfold Instr.typeAssert;simp only [Sem.run_bind,run_underlying hu,Result.andThen_ok,ht,hm];simp [pV]
 ·cases hv
theorem Ve {i:Nat}{y:Operand}{x:X}(h:aw C y=some x):BY C (.extract y i) (.extract i x):=by
 intro ρ tm A hT hG v hv;have r:=au hT hG h;simp only [PD.eval] at hv;generalize hz:A.eval y=u at r;unfold zd at hv;split at hv
 ·rename_i vs e
  rw [e] at r;cases r with | tuple jQ=>
  rename_i xs;obtain ⟨z,h1,h2⟩:=jQ.get hv;refine Yields.of (s:=Instr.extract (.tuple ⟨xs⟩) i) ⟨z,h2,λw=>?_⟩ λq hq=>by unfold execOp;rw [hq];simp only [hz]
  simp [Instr.extract,h1]
 ·cases hv
theorem cv {b:Builtin}{args:Array Operand}{ts:Array TypeId}{A:Act}(q:Oper)(hq:q.op = .call {callee:=.builtin b,args:=args,argTypes:=ts}):
  execOp A.eval q=Go.builtin b ts q.type (args.map λ| .const _=>true | _=>false) (args.map A.eval):=by
 unfold execOp;rw [hq]
 rfl
theorem cU.one {ρ:bE}{v:V}{xs:List Value}(h:cU ρ [v] xs):∃x,xs=[x]/\RV ρ v x:=by
 cases h with
 | cons h hs=>cases hs;exact ⟨_,rfl,h⟩
theorem cU.two {ρ:bE}{v u:V}{xs:List Value}(h:cU ρ [v,u] xs):∃x y,xs=[x,y]/\RV ρ v x/\RV ρ u y:=by
 cases h with
 | cons h hs=>obtain ⟨y,rfl,hy⟩:=hs.one;exact ⟨_,_,rfl,h,hy⟩
theorem JT {A:Act}{args:Array Operand}{x:X}(h:cD C args.toList=some [x]){ρ:bE}{tm:T V}(hT:iU ρ C.n tm A.tmps)(hG:gv ρ C.G):∃y,args.map A.eval = #[y]/\RV ρ (x.ev tm) y:=by
 obtain ⟨y,hl,r⟩:=(mz hT hG h).one;exact ⟨y,by apply Array.ext';simpa using hl,r⟩
theorem JU {A:Act}{args:Array Operand}{x x2:X}(h:cD C args.toList=some [x,x2]){ρ:bE}{tm:T V}(hT:iU ρ C.n tm A.tmps)(hG:gv ρ C.G):
  ∃y y2,args.map A.eval = #[y,y2]/\RV ρ (x.ev tm) y/\RV ρ (x2.ev tm) y2:=by
 obtain ⟨y,y2,hl,r1,r2⟩:=(mz hT hG h).two;exact ⟨y,y2,by apply Array.ext';simpa using hl,r1,r2⟩
theorem ql {ts:Array TypeId}{t:TypeId}{r:List TypeId}(h:ts.toList=t::r):ts[0]? =some t:=by
 rw [<-Array.getElem?_toList,h];rfl
theorem Yields.builtin {b:Builtin}{args:Array Operand}{ts:Array TypeId}{A:Act}{ρ:bE}{v:V}{z:Value}{ys:Array Value}(hy:args.map A.eval=ys)(hz:RV ρ v z)
  (h:∀ty cs w,(Go.builtin b ts ty cs ys).run C.P w = .ok (.value z) w):Yields C.P ρ A (.call {callee:=.builtin b,args:=args,argTypes:=ts}) v:=
 ⟨z,hz,λq hq w=>by rw [cv q hq,hy];exact h _ _ w⟩
theorem Y2 {args:Array Operand}{ts:Array TypeId}{t:TypeId}{rest:List TypeId}{x:X}(ht:ts.toList=t::rest)(hu:C.P.underlying t=some .string)(h:cD C args.toList=some [x]):
  BY C (.call {callee:=.builtin .len,args:=args,argTypes:=ts}) (.JA x):=by
 intro ρ tm A hT hG v hv;obtain ⟨y,hy,r⟩:=JT h hT hG;simp only [PD.eval] at hv;unfold Du at hv;split at hv
 ·rename_i e
  rw [e] at r;cases r with | str s=>
  cases hv;rw [cw];refine Yields.builtin hy (.int .i64 (Int.ofNat s.size)) λty cs w=>?_;simp [Go.builtin,Builtin.len_,ql ht,run_underlying hu,goInt]
 ·cases hv
theorem Sj {args:Array Operand}{ts:Array TypeId}{t e:TypeId}{rest:List TypeId}{x:X}(ht:ts.toList=t::rest)(hu:C.P.underlying t=some (.slice e))(h:cD C args.toList=some [x]):
  BY C (.call {callee:=.builtin .len,args:=args,argTypes:=ts}) (.xC x):=by
 intro ρ tm A hT hG v hv;obtain ⟨y,hy,r⟩:=JT h hT hG;simp only [PD.eval] at hv;have key:∀a n c,y = .slice a n c->v = .int .i64 (Int.ofNat n)->Yields C.P ρ A (.call {callee:=.builtin .len,args:=args,argTypes:=ts}) v:=λa n c e1 e2=>by
  subst e1;subst e2;refine Yields.builtin hy (.int .i64 (Int.ofNat n)) λty cs w=>?_;simp [Go.builtin,Builtin.len_,ql ht,run_underlying hu,goInt]
 unfold uB at hv;split at hv
 ·rename_i l o n c e'
  rw [e'] at r;cases hv;cases r
  ·exact key _ _ _ rfl rfl
  ·exact key _ _ _ rfl rfl
 ·rename_i c e'
  rw [e'] at r;cases hv;cases r;exact key _ _ _ rfl rfl
 ·rename_i e'
  rw [e'] at r;cases hv;cases r;exact key _ _ _ rfl rfl
 ·cases hv
theorem Y3 {args:Array Operand}{ts:Array TypeId}{t e:TypeId}{n:Nat}{rest:List TypeId}{x:X}(ht:ts.toList=t::rest)(hu:C.P.underlying t=some (.array n e))(h:cD C args.toList=some [x]):
  BY C (.call {callee:=.builtin .len,args:=args,argTypes:=ts}) (.JB n):=by
 intro ρ tm A hT hG v hv;obtain ⟨y,hy,r⟩:=JT h hT hG;cases hv;refine Yields.builtin hy (.int .i64 (Int.ofNat n)) λty cs w=>?_;simp [Go.builtin,Builtin.len_,ql ht,run_underlying hu,goInt]
theorem aiV {args:Array Operand}{ts:Array TypeId}{t e:TypeId}{rest:List TypeId}{x:X}(ht:ts.toList=t::rest)(hu:C.P.underlying t=some (.slice e))(h:cD C args.toList=some [x]):
  BY C (.call {callee:=.builtin .cap,args:=args,argTypes:=ts}) (.cap x):=by
 intro ρ tm A hT hG v hv;obtain ⟨y,hy,r⟩:=JT h hT hG;simp only [PD.eval] at hv;have key:∀a n c,y = .slice a n c->v = .int .i64 (Int.ofNat c)->Yields C.P ρ A (.call {callee:=.builtin .cap,args:=args,argTypes:=ts}) v:=λa n c e1 e2=>by
  subst e1;subst e2;refine Yields.builtin hy (.int .i64 (Int.ofNat c)) λty cs w=>?_;simp [Go.builtin,Builtin.cap_,ql ht,run_underlying hu,goInt]
 unfold Xx at hv;split at hv
 ·rename_i l o n c e'
  rw [e'] at r;cases hv;cases r;exact key _ _ _ rfl rfl
 ·rename_i c e'
  rw [e'] at r;cases hv;cases r;exact key _ _ _ rfl rfl
 ·cases hv
theorem aft {args:Array Operand}{ts:Array TypeId}{x x2:X}(h:cD C args.toList=some [x,x2]):BY C (.call {callee:=.builtin .max,args:=args,argTypes:=ts}) (.abS x x2):=by
 intro ρ tm A hT hG v hv;obtain ⟨y,y2,hy,r1,r2⟩:=JU h hT hG;simp only [PD.eval] at hv;unfold Xy at hv;split at hv
 ·rename_i k a k2 b e1 e2
  rw [e1] at r1;rw [e2] at r2;cases r1;cases r2;cases hv;refine Yields.builtin hy (.int k _) λty cs w=>?_;have:GY (ko a b) b a=(if b>a then b else a):=by
   rw [cn];by_cases Pp:a<b<;>simp [Pp,GY]
  rw [this];simp [Go.builtin,Builtin.max_,Builtin.max2]
 ·cases hv
theorem afu {args:Array Operand}{ts:Array TypeId}{x x2:X}(h:cD C args.toList=some [x,x2]):BY C (.call {callee:=.builtin .min,args:=args,argTypes:=ts}) (.abT x x2):=by
 intro ρ tm A hT hG v hv;obtain ⟨y,y2,hy,r1,r2⟩:=JU h hT hG;simp only [PD.eval] at hv;unfold Xz at hv;split at hv
 ·rename_i k a k2 b e1 e2
  rw [e1] at r1;rw [e2] at r2;cases r1;cases r2;cases hv;refine Yields.builtin hy (.int k _) λty cs w=>?_;have:GY (ko b a) b a=(if b<a then b else a):=by
   rw [cn];by_cases Pp:b<a<;>simp [Pp,GY]
  rw [this];simp [Go.builtin,Builtin.min_,Builtin.min2]
 ·cases hv
theorem Pq {args:Array Operand}{ts:Array TypeId}{x:X}(h:cD C args.toList=some [x]):BY C (.call {callee:=.builtin .unsafeSliceData,args:=args,argTypes:=ts}) (.mq x):=by
 intro ρ tm A hT hG v hv;obtain ⟨y,hy,r⟩:=JT h hT hG;simp only [PD.eval] at hv;unfold nh at hv;split at hv
 ·rename_i c e
  rw [e] at r;cases r;cases hv;exact Yields.builtin hy .nilPtr λty cs w=>rfl
 ·rename_i l o n c e
  rw [e] at r;cases r;cases hv;rename_i b hb;exact Yields.builtin hy (.ptr o hb) λty cs w=>rfl
 ·rename_i l o n sz e
  rw [e] at r;cases hv;generalize hl:V.slice l o (n+1) (.toEnd sz)=d at r;cases r<;>cases hl;rename_i b c hb hlen hc;obtain ⟨c',rfl⟩:∃c',c=c'+1:=⟨c - 1,by omega⟩;exact Yields.builtin hy (.ptr o hb) λty cs w=>rfl
 ·cases hv
theorem cU.Vf {ρ:bE}:∀{vs:List V} {xs:List Value},vs.length=xs.length->(∀(i:Nat) (v:V),vs[i]? =some v->∃x,xs[i]? =some x/\RV ρ v x)->cU ρ vs xs
 | [],[],_,_=>.nil
 | [],_::_,h,_=>by simp at h
 | _::_,[],h,_=>by simp at h
 | v::vs,x::xs,hl,h=>by
   obtain ⟨x',h1,h2⟩:=h 0 v rfl;simp at h1;subst h1;exact .cons h2 (cU.Vf (by simpa using hl) λi u hu=>by simpa using h (i+1) u (by simpa using hu))
theorem NR (off:Nat):∀(l:List Value) (k:Nat) (arr:Array Value),off+k+l.length<=arr.size->
  ((l.zipIdx k).foldl (λ(acc:Array Value) p=>acc.setIfInBounds (off+p.2) p.1) arr).size=arr.size/\
  ∀j,((l.zipIdx k).foldl (λ(acc:Array Value) p=>acc.setIfInBounds (off+p.2) p.1) arr)[j]? =if off+k<=j/\j<off+k+l.length then l[j - (off+k)]? else arr[j]?
 | [],k,arr,_=>⟨rfl,λj=>by simp;omega⟩
 | x::l,k,arr,h=>by
   simp at h;obtain ⟨h1,h2⟩:=NR off l (k+1) (arr.setIfInBounds (off+k) x) (by simp;omega);simp only [List.zipIdx_cons,List.foldl_cons];refine ⟨by rw [h1];simp,λj=>?_⟩;rw [h2 j]
   by_cases hj:off+k=j
   ·subst hj
    rw [if_neg (by omega),if_pos (by simp)];have bA:off+k<arr.size:=by omega
    simp [bA]
   ·by_cases AP:off+(k+1)<=j/\j<off+(k+1)+l.length
    ·rw [if_pos AP,if_pos (by simp;omega)]
     rw [show j - (off+k)=(j - (off+(k+1)))+1 from by omega];simp
    ·rw [if_neg AP,if_neg (by simp;omega),Array.getElem?_setIfInBounds_ne (by omega)]
theorem acd {ρ:bE}{vs cs r:List V}{arr ys:Array Value}(hv:cU ρ vs arr.toList)(hc:cU ρ cs ys.toList){off:Nat}(h:aX vs off cs=some r):
  off+ys.size<=arr.size/\cU ρ r (ys.zipIdx.foldl (λ(acc:Array Value) p=>acc.setIfInBounds (off+p.2) p.1) arr).toList:=by
 have l1:=hv.length;have l2:=hc.length;have l3:=kA h;have l4:=jJ h;simp at l1 l2;have hle:off+ys.size<=arr.size:=by omega
 refine ⟨hle,?_⟩;rw [<-Array.foldl_toList,Array.toList_zipIdx];obtain ⟨h1,h2⟩:=NR off ys.toList 0 arr (by simpa using hle);refine cU.Vf (by simp [h1];omega) λi v hi=>?_;rw [rH h] at hi;rw [Array.getElem?_toList,h2 i]
 by_cases AP:off<=i/\i<off+cs.length
 ·rw [if_pos AP] at hi
  rw [if_pos (by simp;omega)];obtain ⟨x,uf,lH⟩:=hc.get hi;exact ⟨x,by simpa using uf,lH⟩
 ·rw [if_neg AP] at hi
  rw [if_neg (by simp;omega)];obtain ⟨x,uf,lH⟩:=hv.get hi;exact ⟨x,by simpa using uf,lH⟩
theorem Pr {place:Nat->Option (Nat×Nat)} {A:Act} {ρ:bE} {tm:T V} (hT:iU ρ C.n tm A.tmps) (hG:gv ρ C.G):∀{ps:List (Nat×Operand)} {l:List (Nat×Nat×X)},fB C place ps=some l->
  ∀{vs r:List V} {arr:Array Value},cU ρ vs arr.toList->nY tm l vs=some r->∃Ps:Array Value,Instr.fill place arr (ps.map λp=>(p.1,A.eval p.2))=some Ps/\cU ρ r Ps.toList
 | [],l,h,vs,r,arr,hv,hf=>by
   simp [fB] at h;subst h;simp [nY] at hf;subst hf;exact ⟨arr,rfl,hv⟩
 | (i,x)::ps,l,h,vs,r,arr,hv,hf=>by
   simp only [fB,ad,Option.some.injEq] at h;obtain ⟨p,h1,d,h2,ds,h3,rfl⟩:=h;obtain ⟨off,size⟩:=p;simp only [nY,ag,ad] at hf;obtain ⟨ft,cells,hp,hf⟩:=hf;have rc:=(au hT hG h2).cells;obtain ⟨hle,rp⟩:=acd hv rc hp;obtain ⟨Ps,ha,hr⟩:=Pr hT hG h3 rp hf;refine ⟨Ps,?_,hr⟩;have hs:(d.ev tm).cells.length=size:=Nat.eq_of_beq_eq_true ft;have yZ:(A.eval x).cells.size=size:=by have:=rc.length;simp at this;omega
   simp only [List.map_cons,Instr.fill,h1];rw [if_neg (by simp [yZ];omega)];exact ha
theorem NS {P:Program}:∀{fs:List Field} {pl:List (Nat×Nat)},zf P fs=some pl->∀w,(fs.mapM λf=>do pure (f.offset,<-sizeOf f.type):Sem (List (Nat×Nat))).run P w = .ok pl w
 | [],pl,h,w=>by simp [zf] at h;subst h;rfl
 | f::fs,pl,h,w=>by
   simp only [zf,ad,Option.some.injEq] at h;obtain ⟨n,h1,r,h2,rfl⟩:=h;have ih:=NS h2 w;rw [List.mapM_cons];simp only [Sem.run_bind,cA h1,Result.andThen_ok,Sem.run_pure,ih]
theorem JV {P:Program}{α β:Type}(f:α->Sem β) (xs:Array α) (w:World) {l:List β} (h:(xs.toList.mapM f).run P w = .ok l w):(xs.mapM f).run P w = .ok ⟨l⟩ w:=by
 rw [Array.mapM_eq_mapM_toList];simp [Sem.run_map,h]
theorem JW {t:TypeId}{fs:Array Field}{ps:Array (Nat×Operand)}{z:V}{pl:List (Nat×Nat)}{l:List (Nat×Nat×X)}(hu:C.P.underlying t=some (.struct fs))(hz:fg C.P t=some z)(hp:zf C.P fs.toList=some pl)
  (hc:fB C (λi=>pl[i]?) ps.toList=some l):BY C (.build t ps) (.build z.cells l):=by
 intro ρ tm A hT hG v hv;simp only [PD.eval,ad,Option.some.injEq] at hv;obtain ⟨cs,hf,rfl⟩:=hv;obtain ⟨zx,FC,pV⟩:=fD (ρ:=ρ) hz;obtain ⟨arr,ha,hr⟩:=Pr hT hG hc FC.cells hf;refine Yields.of (s:=Instr.build t (ps.map λp=>(p.1,A.eval p.2))) ⟨_,.agg hr,λw=>?_⟩ λq hq=>by unfold execOp;rw [hq]
 unfold Instr.build;simp only [Sem.run_bind,pV,run_underlying hu,Result.andThen_ok,JV _ fs w (NS hp w)];have e:(λ(x:Nat)=>(⟨pl⟩:Array (Nat×Nat))[x]?)=λi=>pl[i]?:=by funext i;simp
 rw [e];simp only [Array.toList_map,ha]
 rfl
theorem Sk {t e:TypeId}{n size:Nat}{ps:Array (Nat×Operand)}{z:V}{l:List (Nat×Nat×X)}(hu:C.P.underlying t=some (.array n e))(hz:fg C.P t=some z)(hs:cd C.P e=some size)
  (hc:fB C (λi=>some (i*size,size)) ps.toList=some l):BY C (.build t ps) (.build z.cells l):=by
 intro ρ tm A hT hG v hv;simp only [PD.eval,ad,Option.some.injEq] at hv;obtain ⟨cs,hf,rfl⟩:=hv;obtain ⟨zx,FC,pV⟩:=fD (ρ:=ρ) hz;obtain ⟨arr,ha,hr⟩:=Pr hT hG hc FC.cells hf;refine Yields.of (s:=Instr.build t (ps.map λp=>(p.1,A.eval p.2))) ⟨_,.agg hr,λw=>?_⟩ λq hq=>by unfold execOp;rw [hq]
 unfold Instr.build;simp only [Sem.run_bind,pV,run_underlying hu,Result.andThen_ok,cA hs];simp only [Array.toList_map,ha]
 rfl
end
end Go.Dx
