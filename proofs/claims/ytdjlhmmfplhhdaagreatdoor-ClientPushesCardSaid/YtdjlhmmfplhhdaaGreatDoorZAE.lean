/-
  The client's laws. Part ZAE of the proof: The deterministic machine over labels against the model: an operation that hangs on its operands alone.
-/
import Derived.Test.YtdjlhmmfplhhdaaGreatDoorZAD
namespace Go.Dx
open Go Go.RowKit
variable{v:V}{ρ:bD}{y:Operand}{x2:X}{d:TypeDesc}{n f m size:Nat}{fd:Field}{fs:Array Field}{k:IntKind}{s xt:TypeId}{tm:T V}{MV jB mx':Option Value}{mx:Option V}{l h:Option X}{lo hi:Option Operand}{rd:Rd}{want:Array (String×TypeId)}{ts:Array TypeId}{xs:List Value}{ys:Array Value}{ps:Array (Nat×Operand)}
def Yields (P:Program)(ρ:bD)(a:Act)(o:Op)(v:V):Prop:=∃x,RV ρ v x/\∀(q:Oper),q.op=o->∀w,(execOp a.eval q).run P w = .ok (.value x) w
theorem Yields.of {P:Program}{a:Act}{o:Op}{s:Sem Value}(h:vW P ρ v s)(e:∀(q:Oper),q.op=o->execOp a.eval q=(do pure (.value (<-s)))):Yields P ρ a o v:=by
 obtain ⟨x,d,c⟩:=h;exact ⟨x,d,λq b w=>by rw [e q b];simp [c]⟩
def Cg (C:CE)(o:Op)(d:PD):Prop:=∀{ρ:bD} {tm:T V} {a:Act},jx ρ C.n tm a.tmps->gM ρ C.G->∀v,d.eval (dq C.P) tm=some v->Yields C.P ρ a o v
def MOk (C:CE)(o:Op)(x:X):Prop:=∀{ρ:bD} {tm:T V} {a:Act},jx ρ C.n tm a.tmps->gM ρ C.G->Yields C.P ρ a o (x.ev tm)
section
variable {C:CE}
theorem agz {x:X}(h:ay C y=some x):MOk C (.move y) x:=
 λc b=>⟨_,aw c b h,λq a w=>by unfold execOp;rw [a];rfl⟩
theorem aag {x:X}(h:ay C y=some x):MOk C (.assign y) x:=
 λc b=>⟨_,aw c b h,λq a w=>by unfold execOp;rw [a];rfl⟩
theorem agA {c a b:Operand}{x y z:X}(j:ay C c=some x)(l:ay C a=some y)(k:ay C b=some z):Cg C (.pick c a b) (.pick x y z):=by
 intro ρ tm A i g v h;have r:=aw i g j;simp only [PD.eval] at h;split at h
 ·rename_i e
  rw [e] at r;cases h;generalize d:A.eval c=u at r;cases r;exact ⟨_,aw i g l,λq f w=>by unfold execOp;rw [f];simp [d,asBool]⟩
 ·rename_i e
  rw [e] at r;cases h;generalize d:A.eval c=u at r;cases r;exact ⟨_,aw i g k,λq f w=>by unfold execOp;rw [f];simp [d,asBool]⟩
 ·cases h
theorem Tx {x:X}(h:ay C y=some x):Cg C (.nilCheck y) (.nilCheck x):=by
 intro ρ tm A j i v a;have r:=aw j i h;simp only [PD.eval] at a;unfold uP at a;generalize f:A.eval y=u at r;split at a
 ·rename_i e
  rw [e] at r;cases a;cases r;rename_i b d;exact ⟨_,.ptr _ d,λq c w=>by unfold execOp;rw [c];simp [f]⟩
 ·rename_i e
  rw [e] at r;cases a;cases r;rename_i d g;exact ⟨_,.func _ d g,λq c w=>by unfold execOp;rw [c];simp [f]⟩
 ·cases a
theorem akd {op:BinOp}{t u:TypeId}{z:Operand}{b:X}(f:ay C y=some b)(h:ay C z=some x2):Cg C (.binOp op t y z u) (.bin op (Kk C.P t y z) b x2):=by
 intro ρ tm A c a v e;have g:=adb (P:=C.P) (aw c a f) (aw c a h) e;exact Yields.of g λq d=>by unfold execOp;rw [d]
theorem aoi {op:UnOp}{t:TypeId}{x:X}(h:ay C y=some x):Cg C (.unOp op t y) (.un op x):=by
 intro ρ tm A l j v a;have r:=aw l j h;simp only [PD.eval] at a;generalize i:A.eval y=u at r;have e:∀(q:Oper),q.op = .unOp op t y->execOp A.eval q=(do pure (.value (<-Op.unary op u))):=λq c=>by unfold execOp;rw [c];simp only [i]
 unfold unOp at a;split at a
 ·rename_i k n d
  rw [d] at r;cases r;have g:vW C.P ρ v (Go.binOp .sub 0 (.int k 0) (.int k n)):=nP a (by simp) (by simp) 0;exact Yields.of (s:=Op.intArith .sub k 0 n) (by simpa [Go.binOp] using g) (λq c=>by rw [e q c];rfl)
 ·rename_i k n d
  rw [d] at r;cases r;have f:allOnes k=(if k.signed then -1 else k.max):=by cases k<;>rfl
  rw [f] at a;have g:vW C.P ρ v (Go.binOp .xor 0 (.int k (if k.signed then -1 else k.max)) (.int k n)):=nP a (by simp) (by simp) 0;exact Yields.of (s:=Op.intBits .xor k (if k.signed then -1 else k.max) n) (by simpa [Go.binOp] using g) (λq c=>by rw [e q c];rfl)
 ·rename_i b d
  rw [d] at r;cases r;cases a;exact Yields.of (s:=pure (.bool !b)) (.pure (.bool _)) (λq c=>by rw [e q c];rfl)
 ·cases a
theorem Wq {t:TypeId}{x:X}(g:C.P.underlying t=some d)(a:∀ms,d≠.interface ms) (h:ay C y=some x):Cg C (.makeInterface t y) (.DP t x):=by
 intro ρ tm A f c v e;cases e;refine Yields.of (s:=Instr.makeInterface t (A.eval y)) ⟨_,.iface t (aw f c h),λw=>?_⟩ λq b=>by unfold execOp;rw [b]
 unfold Instr.makeInterface;rw [Sem.run_bind,run_underlying g,Result.andThen_ok];cases d<;>first | rfl | (exact absurd rfl (a _))
theorem aah {f:FuncId}{a bs:Array Operand}{xs ys:List X}(i:cG C a.toList=some xs)(k:cG C bs.toList=some ys):Cg C (.makeFunc (.func f) a bs) (.Kb f xs ys):=by
 intro ρ tm A c b v h;cases h;have j:=na c b i;have e:=na c b k;refine Yields.of (s:=Instr.makeFunc (.func f) (a.map A.eval) (bs.map A.eval)) ⟨_,.func f j e,λw=>?_⟩ λq g=>by unfold execOp;rw [g]
 unfold Instr.makeFunc;have d:a.map A.eval=⟨a.toList.map A.eval⟩:=by apply Array.ext';simp
 have l:bs.map A.eval=⟨bs.toList.map A.eval⟩:=by apply Array.ext';simp
 rw [d,l];rfl
theorem dk (b o n:Nat):(⟨b,o,none⟩:Addr).add n=⟨b,o+n,none⟩:=Addr.add_mid b o n
theorem Qj {t:TypeId}{x:X}(B:C.P.underlying t=some (.struct fs))(g:fs[f]? =some fd)(k:cg C.P fd.type=some n)(D:Nat.blt 0 n=true)(h:ay C y=some x):Cg C (.fieldAddr t y f) (.fieldAddr fd.offset x):=by
 intro ρ tm A z j v a;have r:=aw z j h;simp only [PD.eval] at a;generalize d:A.eval y=u at r;split at a
 ·rename_i l o e
  rw [e] at r;cases a;cases r;rename_i b p;have i:=RV.ptr (ρ:=ρ) (o+fd.offset) p;refine Yields.of (s:=Instr.fieldAt t (.pointer (some ⟨b.block,b.base+o,none⟩)) f) ⟨_,i,λw=>?_⟩ λq m=>by unfold execOp;rw [m];simp only [d]
  have c:n≠0:=by have:0<n:=by simpa using D
                 omega
  simp [Instr.fieldAt,run_underlying B,g,Instr.sureAddr,fieldPlace,dk,Nat.add_assoc,cC k,c]
 ·cases a
theorem ade {t:TypeId}{x:X}(hs:C.P.underlying s=some d)(i:C.P.underlying t=some (.int k))(h:ay C y=some x):Cg C (.convert s t y) (.toInt k x):=by
 intro ρ tm A g f v a;have r:=aw g f h;simp only [PD.eval] at a;generalize b:A.eval y=u at r;split at a
 ·rename_i j n e
  rw [e] at r;cases r;cases a;rw [eT];refine Yields.of (s:=convert s t (.int j n)) ⟨_,.int k _,λw=>?_⟩ λq c=>by unfold execOp;rw [c];simp only [b]
  unfold convert;simp only [Sem.run_bind,run_underlying hs,run_underlying i,Result.andThen_ok];cases d<;>rfl
 ·cases a
theorem Wr {t:TypeId}{x:X}(hs:C.P.underlying s=some (.int k))(g:C.P.underlying t=some .string)(h:ay C y=some x):Cg C (.convert s t y) (.DM x):=by
 intro ρ tm A f d v a;have r:=aw f d h;simp only [PD.eval] at a;generalize b:A.eval y=u at r;split at a
 ·rename_i j n e
  rw [e] at r;cases r;cases a;refine Yields.of (s:=convert s t (.int j n)) ⟨_,.str (Utf8.encode n),λw=>?_⟩ λq c=>by unfold execOp;rw [c];simp only [b]
  unfold convert;simp only [Sem.run_bind,run_underlying hs,run_underlying g,Result.andThen_ok]
  rfl
 ·cases a
theorem aai {t:TypeId}{x:X}(hs:C.P.underlying s=some .string)(g:C.P.underlying t=some .string)(h:ay C y=some x)
    {A:Act} (f:jx ρ C.n tm A.tmps) (d:gM ρ C.G) {l:List Nat} (e:x.ev tm = .str l):Yields C.P ρ A (.convert s t y) (.str l):=by
 have r:=aw f d h;generalize a:A.eval y=u at r;rw [e] at r;cases r with | str b=>
 refine Yields.of (s:=convert s t (.string b)) ⟨_,.str b,λw=>?_⟩ λq c=>by unfold execOp;rw [c];simp only [a]
 unfold convert;simp only [Sem.run_bind,run_underlying hs,run_underlying g,Result.andThen_ok]
 rfl
theorem Ws {t:TypeId}{x:X}(hs:C.P.underlying s=some .string)(d:C.P.underlying t=some .string)(h:ay C y=some x):Cg C (.convert s t y) (.DN x):=by
 intro ρ tm A c b v a;simp only [PD.eval] at a;unfold F6 at a;split at a
 ·rename_i l e
  cases a;exact aai hs d h c b e
 ·cases a
theorem tD {x:Value}(c:RV ρ v x){y i:Nat}(h:bound v y=some i)(code:BoundsCode){P:Program}(w:World):(Instr.sliceBound x y code).run P w = .ok i w/\i<=y:=by
 unfold bound at h;split at h
 ·rename_i d k n
  cases c;simp only [ai,Option.some.injEq] at h;obtain ⟨b,rfl⟩:=h;have a:n<=y:=Nat.le_of_ble_eq_true b;refine ⟨?_,a⟩;simp only [Instr.sliceBound,asIntOf,Sem.run_bind,Sem.run_pure,Result.andThen_ok];rw [if_pos ⟨by simp,by simpa using a⟩];simp
 ·cases h
theorem kh {P:Program}{isS:Bool}{len cap:Nat}{lo hi:Option V}(b:Qf ρ lo MV)(c:Qf ρ hi jB)(g:Qf ρ mx mx'){h l:Nat}
  (e:bB mx cap cap=some m) (d:bB hi m len=some h) (a:bB lo h 0=some l) (f:mx=none\/hi≠none) (w:World):
  (Instr.sliceBounds isS len cap MV jB mx').run P w = .ok (l,h,m) w:=by
 unfold Instr.sliceBounds;cases g with
 | none=>
   simp only [bB,Option.some.injEq] at e;subst e;simp only [Sem.run_bind,Sem.run_pure,Result.andThen_ok];cases c with
   | none=>
     simp only [bB,Option.some.injEq] at d;subst d;simp only [Sem.run_bind,Sem.run_pure,Result.andThen_ok];cases b with
     | none=>simp only [bB,Option.some.injEq] at a;subst a;rfl
     | some b=>simp only [bB] at a;simp only [Sem.run_bind,(tD b a _ w).1,Result.andThen_ok];rfl
   | some c=>
     simp only [bB] at d;simp only [Sem.run_bind,(tD c d _ w).1,Result.andThen_ok];cases b with
     | none=>simp only [bB,Option.some.injEq] at a;subst a;rfl
     | some b=>simp only [bB] at a;simp only [Sem.run_bind,(tD b a _ w).1,Result.andThen_ok];rfl
 | some g=>
   simp only [bB] at e;simp only [Sem.run_bind,(tD g e _ w).1,Result.andThen_ok];cases c with
   | none=>rcases f with f | f<;>simp at f
   | some c=>
     simp only [bB] at d;simp only [Sem.run_bind,(tD c d _ w).1,Result.andThen_ok];cases b with
     | none=>simp only [bB,Option.some.injEq] at a;subst a;rfl
     | some b=>simp only [bB] at a;simp only [Sem.run_bind,(tD b a _ w).1,Result.andThen_ok];rfl
theorem Kx (s:ByteArray)(l h:Nat):au (s.extract l h)=((au s).take h).drop l:=by
 unfold au;rw [Go.Lib.extract_data,List.drop_take];simp [List.map_drop,List.map_take]
theorem Ty {t:TypeId}{x:X}(f:C.P.underlying t=some .string)(g:ay C y=some x)(B:gW C lo=some l)(o:gW C hi=some h):
  Cg C (.slice t y lo hi none) (.xP x l h):=by
 intro ρ tm A d c v a;have r:=aw d c g;have z:=kg d c B;have m:=kg d c o;simp only [PD.eval] at a;generalize k:A.eval y=u at r;split at a
 ·rename_i s e
  rw [e] at r;cases r with | str b=>
  simp only [mY,ad,Option.some.injEq,cA] at a;obtain ⟨i,D,j,p,rfl⟩:=a;refine Yields.of (s:=Instr.sliceAt t (.string b) (lo.map A.eval) (hi.map A.eval) none) ⟨.string (b.extract j i),by rw [<-Kx];exact .str _,λw=>?_⟩ λq n=>by unfold execOp;rw [n];simp only [k,Option.map_none]
  have:=kh (P:=C.P) (isS:=false) (len:=b.size) (cap:=b.size) z m (.none) rfl D p (.inl rfl) w;unfold Instr.sliceAt;simp only [Sem.run_bind,run_underlying f,Result.andThen_ok];unfold Instr.slice;simp only [Sem.run_bind,run_underlying f,Result.andThen_ok];simp [this]
 ·cases a
theorem x9 {l:Lb}{b:ej}(a:ρ l=some b)(off size i h m:Nat):
  RV ρ (sliceEnd l off size i h m) (.slice (if m=i then some ⟨b.block,b.base+off,none⟩ else (some ⟨b.block,b.base+off,none⟩:Option Addr).map (·.add (i*size))) (h - i) (m - i)):=by
 unfold sliceEnd
 by_cases e:m=i
 ·subst e
  rw [Nat.beq_refl,if_pos rfl];exact .slice _ _ _ a
 ·have:Nat.beq m i=false:=by rw [<-Bool.not_eq_true,Nat.beq_eq];exact e
  rw [this,if_neg e];simp only [Option.map_some,dk,Nat.add_assoc];exact .slice _ _ _ a
theorem Ch {i:Nat}(h:bound v n=some i)(a:n<=m):bound v m=some i/\i<=n:=by
 unfold bound at h ⊢;split at h
 ·simp only [ai,Option.some.injEq] at h ⊢
  obtain ⟨b,rfl⟩:=h;have:=Nat.le_of_ble_eq_true b;exact ⟨⟨Nat.ble_eq_true_of_le (Nat.le_trans this a),rfl⟩,this⟩
 ·cases h
theorem Ga {o:Option V}{d i:Nat}(h:bB o n d=some i)(a:d<=n):i<=n:=by
 cases o with
 | none=>simp only [bB,Option.some.injEq] at h;omega
 | some v=>exact (Ch h (Nat.le_refl _)).2
theorem Wt {P:Program}{t e:TypeId}{r:V}{x:Value}{lo hi:Option V}(C:P.underlying t=some (.slice e))(hs:cg P e=some size)
  (E:RV ρ v x) (s:Qf ρ lo MV) (y:Qf ρ hi jB) (u:Qf ρ mx mx') (f:mx=none\/hi≠none) (h:dV size v lo hi mx=some r):vW P ρ r (Instr.sliceAt t x MV jB mx'):=by
 have Ci:∀w a len cap,(Instr.sliceAt t (.slice a len cap) MV jB mx').run P w=((Instr.sliceBounds true len cap MV jB mx').run P w).andThen λp w=>.ok (.slice (if p.2.2=p.1 then a else a.map (·.add (p.1*size))) (p.2.1 - p.1) (p.2.2 - p.1)) w:=λw a len cap=>by
  unfold Instr.sliceAt;simp only [Sem.run_bind,run_underlying C,Result.andThen_ok];unfold Instr.slice;simp only [Sem.run_bind,run_underlying C,Result.andThen_ok,cC hs];cases (Instr.sliceBounds true len cap MV jB mx').run P w with
  | ok p w=>rfl
  | halt p w=>rfl
 unfold dV at h;cases E<;>simp only [reduceCtorEq] at h
 case nilSlice c=>
  simp only [ad,ai,Option.some.injEq] at h;obtain ⟨m,A,i,k,j,g,o,rfl⟩:=h;have G:i=0:=Nat.eq_of_beq_eq_true o;subst G;have d:j=0:=Nat.le_zero.1 (Ga g (Nat.le_refl _));subst d;refine ⟨_,.nilSlice (m - 0),λw=>?_⟩;rw [Ci,kh s y u A k g f w];simp
 case slice l b off len c o=>
  simp only [ad,Option.some.injEq] at h;obtain ⟨m,A,i,k,j,g,rfl⟩:=h;refine ⟨_,x9 o off size j i m,λw=>?_⟩;rw [Ci,kh s y u A k g f w]
  rfl
 case sliceEnd l b off len es c o hlen hc=>
  simp only [ai] at h;obtain ⟨D,h⟩:=h;have:es=size:=Nat.eq_of_beq_eq_true D;subst this;cases mx with
  | some q=>
    simp only [ad,Option.some.injEq] at h;obtain ⟨m,A,i,k,j,g,rfl⟩:=h;have Ir:∃z,hi=some z:=by
     rcases f with f | f
     ·cases f
     ·cases hi with
      | none=>exact absurd rfl f
      | some z=>exact ⟨z,rfl⟩
    obtain ⟨z,rfl⟩:=Ir;refine ⟨_,x9 o off es j i m,λw=>?_⟩;rw [Ci,kh (len:=len) s y u (m:=m) (Ch A hlen).1 (show bB (some z) m len=some i from k) g f w]
    rfl
  | none=>
    simp only [ad] at h;obtain ⟨i,k,j,g,h⟩:=h;have jB:i<=len:=Ga k (Nat.le_refl _);have F:j<=i:=Ga g (Nat.zero_le _);have n:bB hi c len=some i:=by
     cases hi with
     | none=>simpa [bB] using k
     | some q=>exact (Ch k hlen).1
    cases d:Nat.blt j len||Nat.beq j 0 with
    | true=>
      rw [d] at h;simp only [Option.some.injEq] at h;subst h;have J:(j<len\/j=0):=by
       rw [Bool.or_eq_true] at d;rcases d with d | d
       ·exact .inl (by simpa using d)
       ·exact .inr (Nat.eq_of_beq_eq_true d)
      have B:=RV.sliceEnd (ρ:=ρ) (off+j*es) (i - j) es (c - j) o (by omega) (by
       have:(c - j)*es+j*es=c*es:=by rw [<-Nat.add_mul];congr 1;omega
       omega)
      refine ⟨_,B,λw=>?_⟩;rw [Ci,kh s y u (m:=c) rfl n g f w];simp only [Result.andThen_ok]
      by_cases hcj:c=j
      ·have YD:j=0:=by omega
       subst YD;rw [if_pos hcj];simp
      ·rw [if_neg hcj]
       simp only [Option.map_some,dk,Nat.add_assoc]
    | false=>
      rw [d] at h;simp only [Option.some.injEq] at h;subst h;have I:¬j<len:=λq=>by
       rw [Bool.or_eq_false_iff] at d;have:=d.1;rw [<-Bool.not_eq_true] at this;exact this (by simpa using q)
      have H:i - j=0:=by omega
      have B:∀a:Addr,RV ρ .empty (.slice (some a) (i - j) (c - j)):=λa=>by rw [H];exact .empty a _
      by_cases hcj:c=j
      ·refine ⟨_,B ⟨b.block,b.base+off,none⟩,λw=>?_⟩
       rw [Ci,kh s y u (m:=c) rfl n g f w];simp only [Result.andThen_ok];rw [if_pos hcj]
      ·refine ⟨_,B ((⟨b.block,b.base+off,none⟩:Addr).add (j*es)),λw=>?_⟩
       rw [Ci,kh s y u (m:=c) rfl n g f w];simp only [Result.andThen_ok];rw [if_neg hcj];simp only [Option.map_some]
theorem TB {mx hi:Option X}(h:mx.isNone||hi.isSome):SE tm mx=none\/SE tm hi≠none:=by
 cases mx with
 | none=>exact .inl rfl
 | some x=>
   cases hi with
   | none=>simp at h
   | some y=>exact .inr (by simp [SE])
theorem adf {t e:TypeId}{mx:Option Operand}{x:X}{m:Option X}(o:C.P.underlying t=some (.slice e))(hs:cg C.P e=some size)(k:ay C y=some x)(n:gW C lo=some l)(i:gW C hi=some h)(j:gW C mx=some m)
  (d:(m.isNone||h.isSome)=true):Cg C (.slice t y lo hi mx) (.slice size x l h m):=by
 intro ρ tm A b a v c;simp only [PD.eval] at c;have g:=Wt o hs (aw b a k) (kg b a n) (kg b a i) (kg b a j) (TB d) c;exact Yields.of g λq f=>by unfold execOp;rw [f]
theorem TC {t e:TypeId}{mx:Option Operand}{x:X}{m:Option X}(N:C.P.underlying t=some (.array n e))(hs:cg C.P e=some size)(I:ay C y=some x)(E:gW C lo=some l)(B:gW C hi=some h)(M:gW C mx=some m)
  (F:(m.isNone||h.isSome)=true):Cg C (.slice t y lo hi mx) (.xQ n size x l h m):=by
 intro ρ tm A f d v c;simp only [PD.eval] at c;have r:=aw f d I;have o:=kg f d E;have G:=kg f d B;have D:=kg f d M;have TD:=TB (tm:=tm) F;generalize L:A.eval y=u at r;unfold uL at c;split at c
 ·rename_i a off p
  rw [p] at r;cases r;rename_i b k;simp only [ad,Option.some.injEq] at c;obtain ⟨g,K,i,J,j,H,rfl⟩:=c;refine Yields.of (s:=Instr.sliceAt t (.pointer (some ⟨b.block,b.base+off,none⟩)) (lo.map A.eval) (hi.map A.eval) (mx.map A.eval)) ⟨_,x9 k off size j i g,λw=>?_⟩ λq z=>by unfold execOp;rw [z];simp only [L]
  unfold Instr.sliceAt;simp only [Sem.run_bind,run_underlying N,Result.andThen_ok,Instr.sureAddr,Sem.run_pure,kh o G D K J H TD w,cC hs]
  by_cases e0:g=j
  ·rw [if_pos e0,if_pos e0]
  ·rw [if_neg e0,if_neg e0];rfl
 ·cases c
theorem Gb {x:Value}(b:RV ρ v x){i:Nat}(h:Kh v n=some i):(∃k,x = .int k (i:Int))/\i<n:=by
 unfold Kh at h;split at h
 ·rename_i c k m
  cases b;simp only [ai,Option.some.injEq] at h;obtain ⟨a,rfl⟩:=h;exact ⟨⟨_,rfl⟩,by simpa using a⟩
 ·cases h
theorem adg {t:TypeId}{x:X}(l:C.P.underlying t=some (.struct fs))(c:fs[f]? =some fd)(j:Oy C.P fd.type=some rd)(h:ay C y=some x):
  Cg C (.field t y f) (.field rd fd.offset x):=by
 intro ρ tm A i g v a;have r:=aw i g h;simp only [PD.eval] at a;generalize b:A.eval y=u at r;split at a
 ·rename_i cs e
  rw [e] at r;cases r with | agg kM=>
  rename_i xs;obtain ⟨z,Is,k⟩:=Ae j kM a;refine Yields.of (s:=Instr.field t (.agg ⟨xs⟩) f) ⟨z,Is,λw=>?_⟩ λq d=>by unfold execOp;rw [d];simp only [b]
  simp [Instr.field,run_underlying l,c,asAgg,k]
 ·cases a
theorem Qk {t e:TypeId}{z:Operand}{x i:X}(F:C.P.underlying t=some (.slice e))(hs:cg C.P e=some size)(p:ay C y=some x)(hi:ay C z=some i):
  Cg C (.indexAddr t y z) (.indexAddr size x i):=by
 intro ρ tm A h g v a;have r:=aw h g p;have f:=aw h g hi;simp only [PD.eval] at a;generalize m:A.eval y=u at r;generalize E:A.eval z=H at f;unfold rX at a;split at a
 ·rename_i l off len cap B
  rw [B] at r;simp only [ad,Option.some.injEq] at a;obtain ⟨j,D,rfl⟩:=a;obtain ⟨⟨k,rfl⟩,o⟩:=Gb f D;obtain ⟨b,d,c,rfl⟩:∃b,ρ l=some b/\∃c,u = .slice (some ⟨b.block,b.base+off,none⟩) len c:=by
   cases r
   ·rename_i b c d;exact ⟨b,d,_,rfl⟩
   ·rename_i b size c d I G;exact ⟨b,d,_,rfl⟩
  refine Yields.of (s:=Instr.indexAt t (.slice (some ⟨b.block,b.base+off,none⟩) len c) (.int k j)) ⟨_,.ptr (off+j*size) d,λw=>?_⟩ λq n=>by unfold execOp;rw [n];simp only [m,E]
  have YN:(0:Int)<=(j:Int)/\(j:Int)<(len:Int):=⟨by omega,by omega⟩;simp [Instr.indexAt,asIntOf,run_underlying F,o,cC hs,dk,Nat.add_assoc]
 ·cases a
theorem TE {t e:TypeId}{z:Operand}{x i:X}(F:C.P.underlying t=some (.array n e))(hs:cg C.P e=some size)(p:ay C y=some x)(hi:ay C z=some i):
  Cg C (.indexAddr t y z) (.kT n size x i):=by
 intro ρ tm A f d v a;have r:=aw f d p;have c:=aw f d hi;simp only [PD.eval] at a;generalize g:A.eval y=u at r;generalize E:A.eval z=G at c;unfold uM at a;split at a
 ·rename_i l off B
  rw [B] at r;simp only [ad,Option.some.injEq] at a;obtain ⟨j,D,rfl⟩:=a;obtain ⟨⟨k,rfl⟩,o⟩:=Gb c D;cases r;rename_i b m;refine Yields.of (s:=Instr.indexAt t (.pointer (some ⟨b.block,b.base+off,none⟩)) (.int k j)) ⟨_,.ptr (off+j*size) m,λw=>?_⟩ λq h=>by unfold execOp;rw [h];simp only [g,E]
  simp [Instr.indexAt,asIntOf,run_underlying F,o,cC hs,dk,Nat.add_assoc,Instr.sureAddr]
 ·cases a
theorem Wu {s:ByteArray}{i b:Nat}(h:(au s)[i]? =some b):∃c:UInt8,s[i]? =some c/\c.toNat=b:=by
 unfold au at h;simp only [List.getElem?_map,Option.map_eq_some_iff] at h;obtain ⟨c,a,e⟩:=h;refine ⟨c,?_,e⟩;have d:i<s.size:=by
  have:=(List.getElem?_eq_some_iff.1 a).1;simpa using this
 rw [ByteArray.getElem?_lt' s i d];have:=(List.getElem?_eq_some_iff.1 a).2
 congr 1
theorem TF {t:TypeId}{z:Operand}{x i:X}(B:C.P.underlying t=some .string)(o:ay C y=some x)(hi:ay C z=some i):Cg C (.index t y z) (.xR x i):=by
 intro ρ tm A f e v a;have r:=aw f e o;have d:=aw f e hi;simp only [PD.eval] at a;generalize h:A.eval y=u at r;generalize p:A.eval z=E at d;unfold uN at a;split at a
 ·rename_i s k j g D
  rw [g] at r;rw [D] at d;cases r with | str t'=>
  cases d;simp only [ad,Option.some.injEq] at a;obtain ⟨b,n,rfl⟩:=a;obtain ⟨c,l,rfl⟩:=Wu n;refine Yields.of (s:=Instr.index t (.string t') (.int k (Int.ofNat j))) ⟨_,.int .u8 (Int.ofNat c.toNat),λw=>?_⟩ λq m=>by unfold execOp;rw [m];simp only [h,p]
  simp [Instr.index,asIntOf,run_underlying B,l]
 ·cases a
theorem TG {t e:TypeId}{z:Operand}{x i:X}(F:C.P.underlying t=some (.array n e))(hs:cg C.P e=some size)(E:Oy C.P e=some rd)(p:ay C y=some x)(hi:ay C z=some i):
  Cg C (.index t y z) (.DQ rd n size x i):=by
 intro ρ tm A d c v a;have r:=aw d c p;have b:=aw d c hi;simp only [PD.eval] at a;generalize h:A.eval y=u at r;generalize o:A.eval z=G at b;unfold Cb at a;split at a
 ·rename_i cs B
  rw [B] at r;cases r with | agg kM=>
  rename_i xs;simp only [ad] at a;obtain ⟨j,D,a⟩:=a;obtain ⟨⟨k,rfl⟩,m⟩:=Gb b D;obtain ⟨q,f,g⟩:=Ae E kM a;refine Yields.of (s:=Instr.index t (.agg ⟨xs⟩) (.int k j)) ⟨q,f,λw=>?_⟩ λq l=>by unfold execOp;rw [l];simp only [h,o]
  simp [Instr.index,asIntOf,run_underlying F,m,cC hs,g]
 ·cases a
theorem uV {x:Value}(h:RV ρ v x)(a b:Bool):RV ρ (okV a v b) (if a then .tuple #[x,.bool b] else x):=by
 cases a with
 | true=>exact .tuple (.cons h (.cons (.bool b) .nil))
 | false=>exact h
theorem Wv {t:TypeId}{z:V}{f:Bool}{x:X}(i:C.P.underlying t=some d)(j:∀ms,d≠.interface ms) (n:fD C.P t=some z) (h:ay C y=some x):
  Cg C (.typeAssert y xt t f) (.DR t z f x):=by
 intro ρ tm A p o v b;have r:=aw p o h;obtain ⟨F,Is,l⟩:=fN (ρ:=ρ) n;simp only [PD.eval] at b;generalize k:A.eval y=u at r;unfold zX at b;split at b
 ·rename_i e
  rw [e] at r;cases r;simp only [ai,Option.some.injEq] at b;obtain ⟨rfl,rfl⟩:=b;refine Yields.of (s:=Instr.typeAssert .nilIface xt t true) ⟨_,uV Is true false,λw=>?_⟩ λq c=>by unfold execOp;rw [c];simp only [k]
  unfold Instr.typeAssert;simp only [Sem.run_bind,run_underlying i,Result.andThen_ok];cases d<;>first | (exact absurd rfl (j _)) | simp [l]
 ·rename_i a E e
  rw [e] at r;cases r;rename_i m MW;split at b
  ·rename_i g
   have:a=t:=Nat.eq_of_beq_eq_true g;subst this;cases b;refine Yields.of (s:=Instr.typeAssert (.iface a m) xt a f) ⟨_,uV MW f true,λw=>?_⟩ λq c=>by unfold execOp;rw [c];simp only [k]
   unfold Instr.typeAssert;simp only [Sem.run_bind,run_underlying i,Result.andThen_ok];cases d<;>first | (exact absurd rfl (j _)) | simp
  ·rename_i g
   have D:a≠t:=by intro B;subst B;rw [Nat.beq_refl] at g;cases g
   simp only [ai,Option.some.injEq] at b;obtain ⟨rfl,rfl⟩:=b;refine Yields.of (s:=Instr.typeAssert (.iface a m) xt t true) ⟨_,uV Is true false,λw=>?_⟩ λq c=>by unfold execOp;rw [c];simp only [k]
   unfold Instr.typeAssert;simp only [Sem.run_bind,run_underlying i,Result.andThen_ok];cases d<;>first | (exact absurd rfl (j _)) | simp [l,D]
 ·cases b
theorem Ww {l:List String}:Instr.least l=none<->l=[]:=by cases l<;>simp [Instr.least]
theorem Ed {n:Array Method}:(Instr.missingMethod want n=none)<->(want.toList.all λw=>n.toList.any λm=>m.sig==w.2&&m.name==w.1)=true:=by
 have e:(want.toList.filter λ(name,sig)=>!n.any λm=>m.name==name&&m.sig==sig)=[]<->(want.toList.all λw=>n.toList.any λm=>m.sig==w.2&&m.name==w.1)=true:=by
  rw [List.filter_eq_nil_iff,List.all_eq_true];refine forall_congr' λw=>forall_congr' λ_=>?_;obtain ⟨name,sig⟩:=w;have:(n.toList.any λm=>m.name==name&&m.sig==sig)=(n.toList.any λm=>m.sig==sig&&m.name==name):=by
   congr 1;funext m;rw [Bool.and_comm]
  show ¬(!n.any λm=>m.name==name&&m.sig==sig)=true<->(n.toList.any λm=>m.sig==sig&&m.name==name)=true
  rw [<-this,Array.any_toList];cases (n.any λm=>m.name==name&&m.sig==sig)<;>simp
 rw [<-e];unfold Instr.missingMethod;generalize (want.toList.filter λ(name,sig)=>!n.any λm=>m.name==name&&m.sig==sig)=l;cases l with
 | nil=>simp [Instr.least]
 | cons p l=>
   simp only [List.map_cons,reduceCtorEq,iff_false];intro j;rw [List.partition_eq_filter_filter] at j;have g:∀(a b:Option String),(a <|>b)=none->a=none/\b=none:=λa b h=>by cases a<;>simp_all
   obtain ⟨f,d⟩:=g _ _ j;rw [Ww] at f d;simp only [List.map_eq_nil_iff] at d;rw [List.filter_eq_nil_iff] at f d;have i:=f p.1 (by simp);have k:=d p.1 (by simp);simp at i k;exact k i
theorem Wx {t:TypeId}{z:V}{j:Bool}{x:X}(l:C.P.underlying t=some (.interface want))(p:fD C.P t=some z)(h:ay C y=some x):
  Cg C (.typeAssert y xt t j) (.pM want z j x):=by
 intro ρ tm A D B v c;have r:=aw D B h;obtain ⟨F,Is,n⟩:=fN (ρ:=ρ) p;simp only [PD.eval] at c;generalize k:A.eval y=u at r;unfold tv at c;split at c
 ·rename_i e
  rw [e] at r;cases r;simp only [ai,Option.some.injEq] at c;obtain ⟨rfl,rfl⟩:=c;refine Yields.of (s:=Instr.typeAssert .nilIface xt t true) ⟨_,uV Is true false,λw=>?_⟩ λq f=>by unfold execOp;rw [f];simp only [k]
  unfold Instr.typeAssert;simp only [Sem.run_bind,run_underlying l,Result.andThen_ok];simp [n]
 ·rename_i a E e
  rw [e] at r;cases r;rename_i o MW;simp only [ad] at c;obtain ⟨b,d,c⟩:=c;simp only [dq,aod,ad,Option.some.injEq] at d;obtain ⟨i,hi,d⟩:=d;have m:∀w,(typeInfo a).run C.P w = .ok i w:=λw=>by simp [typeInfo,hi]
  cases b with
  | true=>
    simp only [Option.some.injEq] at c;subst c;refine Yields.of (s:=Instr.typeAssert (.iface a o) xt t j) ⟨_,uV (.iface a MW) j true,λw=>?_⟩ λq f=>by unfold execOp;rw [f];simp only [k]
    unfold Instr.typeAssert;simp only [Sem.run_bind,run_underlying l,Result.andThen_ok,m,Ed.2 d];simp
  | false=>
    simp only [ai,Option.some.injEq] at c;obtain ⟨rfl,rfl⟩:=c;have g:∃s,Instr.missingMethod want i.methods=some s:=by
     cases g:Instr.missingMethod want i.methods with
     | none=>rw [Ed.1 g] at d;cases d
     | some s=>exact ⟨s,rfl⟩
    obtain ⟨s,g⟩:=g;refine Yields.of (s:=Instr.typeAssert (.iface a o) xt t true) ⟨_,uV Is true false,λw=>?_⟩ λq f=>by unfold execOp;rw [f];simp only [k]
    unfold Instr.typeAssert;simp only [Sem.run_bind,run_underlying l,Result.andThen_ok,m,g];simp [n]
 ·cases c
theorem Wy {i:Nat}{x:X}(h:ay C y=some x):Cg C (.extract y i) (.extract i x):=by
 intro ρ tm A g d v a;have r:=aw g d h;simp only [PD.eval] at a;generalize b:A.eval y=u at r;unfold zY at a;split at a
 ·rename_i vs e
  rw [e] at r;cases r with | tuple kM=>
  rename_i xs;obtain ⟨z,f,j⟩:=kM.get a;refine Yields.of (s:=Instr.extract (.tuple ⟨xs⟩) i) ⟨z,j,λw=>?_⟩ λq c=>by unfold execOp;rw [c];simp only [b]
  simp [Instr.extract,f]
 ·cases a
theorem cy {b:Builtin}{args:Array Operand}{A:Act}(q:Oper)(a:q.op = .call {callee:=.builtin b,args:=args,argTypes:=ts}):
  execOp A.eval q=Go.builtin b ts q.type (args.map λ| .const _=>true | _=>false) (args.map A.eval):=by
 unfold execOp;rw [a]
 rfl
theorem cZ.one (h:cZ ρ [v] xs):∃x,xs=[x]/\RV ρ v x:=by
 cases h with
 | cons h hs=>cases hs;exact ⟨_,rfl,h⟩
theorem cZ.two {u:V}(h:cZ ρ [v,u] xs):∃x y,xs=[x,y]/\RV ρ v x/\RV ρ u y:=by
 cases h with
 | cons h hs=>obtain ⟨y,rfl,hy⟩:=hs.one;exact ⟨_,_,rfl,h,hy⟩
theorem Ky {A:Act}{args:Array Operand}{x:X}(h:cG C args.toList=some [x])(c:jx ρ C.n tm A.tmps)(a:gM ρ C.G):∃y,args.map A.eval = #[y]/\RV ρ (x.ev tm) y:=by
 obtain ⟨y,b,r⟩:=(na c a h).one;exact ⟨y,by apply Array.ext';simpa using b,r⟩
theorem Kz {A:Act}{args:Array Operand}{x:X}(h:cG C args.toList=some [x,x2])(d:jx ρ C.n tm A.tmps)(c:gM ρ C.G):
  ∃y a,args.map A.eval = #[y,a]/\RV ρ (x.ev tm) y/\RV ρ (x2.ev tm) a:=by
 obtain ⟨y,a,f,e,b⟩:=(na d c h).two;exact ⟨y,a,by apply Array.ext';simpa using f,e,b⟩
theorem qN {t:TypeId}{r:List TypeId}(h:ts.toList=t::r):ts[0]? =some t:=by
 rw [<-Array.getElem?_toList,h];rfl
theorem Yields.builtin {b:Builtin}{args:Array Operand}{A:Act}{z:Value}(hy:args.map A.eval=ys)(d:RV ρ v z)
  (h:∀c cs w,(Go.builtin b ts c cs ys).run C.P w = .ok (.value z) w):Yields C.P ρ A (.call {callee:=.builtin b,args:=args,argTypes:=ts}) v:=
 ⟨z,d,λq a w=>by rw [cy q a,hy];exact h _ _ w⟩
theorem aaj {args:Array Operand}{t:TypeId}{rest:List TypeId}{x:X}(d:ts.toList=t::rest)(f:C.P.underlying t=some .string)(h:cG C args.toList=some [x]):
  Cg C (.call {callee:=.builtin .len,args:=args,argTypes:=ts}) (.Kc x):=by
 intro ρ tm A c b v a;obtain ⟨y,hy,r⟩:=Ky h c b;simp only [PD.eval] at a;unfold DT at a;split at a
 ·rename_i e
  rw [e] at r;cases r with | str s=>
  cases a;rw [cA];refine Yields.builtin hy (.int .i64 (Int.ofNat s.size)) λg cs w=>?_;simp [Go.builtin,Builtin.len_,qN d,run_underlying f,goInt]
 ·cases a
theorem TH {args:Array Operand}{t e:TypeId}{rest:List TypeId}{x:X}(j:ts.toList=t::rest)(m:C.P.underlying t=some (.slice e))(h:cG C args.toList=some [x]):
  Cg C (.call {callee:=.builtin .len,args:=args,argTypes:=ts}) (.xS x):=by
 intro ρ tm A i g v b;obtain ⟨y,hy,r⟩:=Ky h i g;simp only [PD.eval] at b;have key:∀a n c,y = .slice a n c->v = .int .i64 (Int.ofNat n)->Yields C.P ρ A (.call {callee:=.builtin .len,args:=args,argTypes:=ts}) v:=λa n c f k=>by
  subst f;subst k;refine Yields.builtin hy (.int .i64 (Int.ofNat n)) λp cs w=>?_;simp [Go.builtin,Builtin.len_,qN j,run_underlying m,goInt]
 unfold uO at b;split at b
 ·rename_i l o n c d
  rw [d] at r;cases b;cases r
  ·exact key _ _ _ rfl rfl
  ·exact key _ _ _ rfl rfl
 ·rename_i c d
  rw [d] at r;cases b;cases r;exact key _ _ _ rfl rfl
 ·rename_i d
  rw [d] at r;cases b;cases r;exact key _ _ _ rfl rfl
 ·cases b
theorem aak {args:Array Operand}{t e:TypeId}{rest:List TypeId}{x:X}(d:ts.toList=t::rest)(f:C.P.underlying t=some (.array n e))(h:cG C args.toList=some [x]):
  Cg C (.call {callee:=.builtin .len,args:=args,argTypes:=ts}) (.Kd n):=by
 intro ρ tm A c a v b;obtain ⟨y,hy,r⟩:=Ky h c a;cases b;refine Yields.builtin hy (.int .i64 (Int.ofNat n)) λg cs w=>?_;simp [Go.builtin,Builtin.len_,qN d,run_underlying f,goInt]
theorem ake {args:Array Operand}{t e:TypeId}{rest:List TypeId}{x:X}(j:ts.toList=t::rest)(m:C.P.underlying t=some (.slice e))(h:cG C args.toList=some [x]):
  Cg C (.call {callee:=.builtin .cap,args:=args,argTypes:=ts}) (.cap x):=by
 intro ρ tm A i g v b;obtain ⟨y,hy,r⟩:=Ky h i g;simp only [PD.eval] at b;have key:∀a n c,y = .slice a n c->v = .int .i64 (Int.ofNat c)->Yields C.P ρ A (.call {callee:=.builtin .cap,args:=args,argTypes:=ts}) v:=λa n c f k=>by
  subst f;subst k;refine Yields.builtin hy (.int .i64 (Int.ofNat c)) λp cs w=>?_;simp [Go.builtin,Builtin.cap_,qN j,run_underlying m,goInt]
 unfold YG at b;split at b
 ·rename_i l o n c d
  rw [d] at r;cases b;cases r;exact key _ _ _ rfl rfl
 ·rename_i c d
  rw [d] at r;cases b;cases r;exact key _ _ _ rfl rfl
 ·cases b
theorem agB {args:Array Operand}{x:X}(h:cG C args.toList=some [x,x2]):Cg C (.call {callee:=.builtin .max,args:=args,argTypes:=ts}) (.acW x x2):=by
 intro ρ tm A i g v c;obtain ⟨y,m,hy,e,d⟩:=Kz h i g;simp only [PD.eval] at c;unfold YH at c;split at c
 ·rename_i k a n b f j
  rw [f] at e;rw [j] at d;cases e;cases d;cases c;refine Yields.builtin hy (.int k _) λl cs w=>?_;have:Ht (kS a b) b a=(if b>a then b else a):=by
   rw [cR];by_cases SF:a<b<;>simp [SF,Ht]
  rw [this];simp [Go.builtin,Builtin.max_,Builtin.max2]
 ·cases c
theorem agC {args:Array Operand}{x:X}(h:cG C args.toList=some [x,x2]):Cg C (.call {callee:=.builtin .min,args:=args,argTypes:=ts}) (.acX x x2):=by
 intro ρ tm A i g v c;obtain ⟨y,m,hy,e,d⟩:=Kz h i g;simp only [PD.eval] at c;unfold YI at c;split at c
 ·rename_i k a n b f j
  rw [f] at e;rw [j] at d;cases e;cases d;cases c;refine Yields.builtin hy (.int k _) λl cs w=>?_;have:Ht (kS b a) b a=(if b<a then b else a):=by
   rw [cR];by_cases SF:b<a<;>simp [SF,Ht]
  rw [this];simp [Go.builtin,Builtin.min_,Builtin.min2]
 ·cases c
theorem Ql {args:Array Operand}{x:X}(h:cG C args.toList=some [x]):Cg C (.call {callee:=.builtin .unsafeSliceData,args:=args,argTypes:=ts}) (.mV x):=by
 intro ρ tm A p m v a;obtain ⟨y,hy,r⟩:=Ky h p m;simp only [PD.eval] at a;unfold nL at a;split at a
 ·rename_i c e
  rw [e] at r;cases r;cases a;exact Yields.builtin hy .nilPtr λg cs w=>rfl
 ·rename_i l o n c e
  rw [e] at r;cases r;cases a;rename_i b f;exact Yields.builtin hy (.ptr o f) λg cs w=>rfl
 ·rename_i l o n k e
  rw [e] at r;cases a;generalize q:V.slice l o (n+1) (.toEnd k)=d at r;cases r<;>cases q;rename_i b c f i s;obtain ⟨j,rfl⟩:∃j,c=j+1:=⟨c - 1,by omega⟩;exact Yields.builtin hy (.ptr o f) λg cs w=>rfl
 ·cases a
theorem cZ.Wz :∀{vs:List V} {xs:List Value},vs.length=xs.length->(∀(i:Nat) (v:V),vs[i]? =some v->∃x,xs[i]? =some x/\RV ρ v x)->cZ ρ vs xs
 | [],[],_,_=>.nil
 | [],_::_,h,_=>by simp at h
 | _::_,[],h,_=>by simp at h
 | v::vs,x::xs,hl,h=>by
   obtain ⟨d,a,c⟩:=h 0 v rfl;simp at a;subst a;exact .cons c (cZ.Wz (by simpa using hl) λi u b=>by simpa using h (i+1) u (by simpa using b))
theorem OH (off:Nat):∀(l:List Value) (k:Nat) (a:Array Value),off+k+l.length<=a.size->
  ((l.zipIdx k).foldl (λ(acc:Array Value) p=>acc.setIfInBounds (off+p.2) p.1) a).size=a.size/\
  ∀j,((l.zipIdx k).foldl (λ(acc:Array Value) p=>acc.setIfInBounds (off+p.2) p.1) a)[j]? =if off+k<=j/\j<off+k+l.length then l[j - (off+k)]? else a[j]?
 | [],k,a,_=>⟨rfl,λj=>by simp;omega⟩
 | x::l,k,a,h=>by
   simp at h;obtain ⟨d,c⟩:=OH off l (k+1) (a.setIfInBounds (off+k) x) (by simp;omega);simp only [List.zipIdx_cons,List.foldl_cons];refine ⟨by rw [d];simp,λj=>?_⟩;rw [c j]
   by_cases hj:off+k=j
   ·subst hj
    rw [if_neg (by omega),if_pos (by simp)];have b:off+k<a.size:=by omega
    simp [b]
   ·by_cases AA:off+(k+1)<=j/\j<off+(k+1)+l.length
    ·rw [if_pos AA,if_pos (by simp;omega)]
     rw [show j - (off+k)=(j - (off+(k+1)))+1 from by omega];simp
    ·rw [if_neg AA,if_neg (by simp;omega),Array.getElem?_setIfInBounds_ne (by omega)]
theorem adh {vs cs r:List V}{a:Array Value}(f:cZ ρ vs a.toList)(o:cZ ρ cs ys.toList){off:Nat}(h:aX vs off cs=some r):
  off+ys.size<=a.size/\cZ ρ r (ys.zipIdx.foldl (λ(acc:Array Value) p=>acc.setIfInBounds (off+p.2) p.1) a).toList:=by
 have g:=f.length;have k:=o.length;have n:=kX h;have m:=iI h;simp at g k;have b:off+ys.size<=a.size:=by omega
 refine ⟨b,?_⟩;rw [<-Array.foldl_toList,Array.toList_zipIdx];obtain ⟨j,l⟩:=OH off ys.toList 0 a (by simpa using b);refine cZ.Wz (by simp [j];omega) λi v hi=>?_;rw [sa h] at hi;rw [Array.getElem?_toList,l i]
 by_cases AA:off<=i/\i<off+cs.length
 ·rw [if_pos AA] at hi
  rw [if_pos (by simp;omega)];obtain ⟨x,c,d⟩:=o.get hi;exact ⟨x,by simpa using c,d⟩
 ·rw [if_neg AA] at hi
  rw [if_neg (by simp;omega)];obtain ⟨x,c,d⟩:=f.get hi;exact ⟨x,by simpa using c,d⟩
theorem Qm {b:Nat->Option (Nat×Nat)} {A:Act} {ρ:bD} {tm:T V} (g:jx ρ C.n tm A.tmps) (f:gM ρ C.G):∀{ps:List (Nat×Operand)} {l:List (Nat×Nat×X)},fM C b ps=some l->
  ∀{vs r:List V} {a:Array Value},cZ ρ vs a.toList->oP tm l vs=some r->∃Qn:Array Value,Instr.fill b a (ps.map λp=>(p.1,A.eval p.2))=some Qn/\cZ ρ r Qn.toList
 | [],l,h,vs,r,a,hv,c=>by
   simp [fM] at h;subst h;simp [oP] at c;subst c;exact ⟨a,rfl,hv⟩
 | (i,x)::ps,l,h,vs,r,a,hv,c=>by
   simp only [fM,ad,Option.some.injEq] at h;obtain ⟨p,m,d,s,ds,h3,rfl⟩:=h;obtain ⟨off,size⟩:=p;simp only [oP,ai,ad] at c;obtain ⟨k,e,t,c⟩:=c;have rc:=(aw g f s).cells;obtain ⟨n,j⟩:=adh hv rc t;obtain ⟨Qn,o,q⟩:=Qm g f h3 j c;refine ⟨Qn,?_,q⟩;have hs:(d.ev tm).cells.length=size:=Nat.eq_of_beq_eq_true k;have B9:(A.eval x).cells.size=size:=by have:=rc.length;simp at this;omega
   simp only [List.map_cons,Instr.fill,m];rw [if_neg (by simp [B9];omega)];exact o
theorem OI {P:Program}:∀{fs:List Field} {a:List (Nat×Nat)},Aa P fs=some a->∀w,(fs.mapM λf=>do pure (f.offset,<-sizeOf f.type):Sem (List (Nat×Nat))).run P w = .ok a w
 | [],a,h,w=>by simp [Aa] at h;subst h;rfl
 | f::fs,a,h,w=>by
   simp only [Aa,ad,Option.some.injEq] at h;obtain ⟨n,c,r,b,rfl⟩:=h;have d:=OI b w;rw [List.mapM_cons];simp only [Sem.run_bind,cC c,Result.andThen_ok,Sem.run_pure,d]
theorem KA {P:Program}{a b:Type}(f:a->Sem b) (xs:Array a) (w:World) {l:List b} (h:(xs.toList.mapM f).run P w = .ok l w):(xs.mapM f).run P w = .ok ⟨l⟩ w:=by
 rw [Array.mapM_eq_mapM_toList];simp [Sem.run_map,h]
theorem KC {t:TypeId}{z:V}{a:List (Nat×Nat)}{l:List (Nat×Nat×X)}(r:C.P.underlying t=some (.struct fs))(h:fD C.P t=some z)(u:Aa C.P fs.toList=some a)
  (d:fM C (λi=>a[i]?) ps.toList=some l):Cg C (.build t ps) (.build z.cells l):=by
 intro ρ tm A k g v b;simp only [PD.eval,ad,Option.some.injEq] at b;obtain ⟨cs,c,rfl⟩:=b;obtain ⟨y,Is,o⟩:=fN (ρ:=ρ) h;obtain ⟨j,m,n⟩:=Qm k g d Is.cells c;refine Yields.of (s:=Instr.build t (ps.map λp=>(p.1,A.eval p.2))) ⟨_,.agg n,λw=>?_⟩ λq f=>by unfold execOp;rw [f]
 unfold Instr.build;simp only [Sem.run_bind,o,run_underlying r,Result.andThen_ok,KA _ fs w (OI u w)];have e:(λ(x:Nat)=>(⟨a⟩:Array (Nat×Nat))[x]?)=λi=>a[i]?:=by funext i;simp
 rw [e];simp only [Array.toList_map,m]
 rfl
theorem TI {t e:TypeId}{z:V}{l:List (Nat×Nat×X)}(r:C.P.underlying t=some (.array n e))(g:fD C.P t=some z)(hs:cg C.P e=some size)
  (c:fM C (λi=>some (i*size,size)) ps.toList=some l):Cg C (.build t ps) (.build z.cells l):=by
 intro ρ tm A j f v a;simp only [PD.eval,ad,Option.some.injEq] at a;obtain ⟨cs,b,rfl⟩:=a;obtain ⟨u,Is,o⟩:=fN (ρ:=ρ) g;obtain ⟨h,k,m⟩:=Qm j f c Is.cells b;refine Yields.of (s:=Instr.build t (ps.map λp=>(p.1,A.eval p.2))) ⟨_,.agg m,λw=>?_⟩ λq d=>by unfold execOp;rw [d]
 unfold Instr.build;simp only [Sem.run_bind,o,run_underlying r,Result.andThen_ok,cC hs];simp only [Array.toList_map,k]
 rfl
end
end Go.Dx
