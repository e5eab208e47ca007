/-
  The client's laws. Part ZAC of the proof: The deterministic machine over labels against the model: cells that are stored, rows that are made, maps that are written.
-/
import Derived.Laws.Entries
import Derived.Lib.Strings
import Derived.Lib.SmallJoins
import Derived.Test.YtdjlhmmfplhhdaaGreatDoorZAB
namespace Go.Dx
open Go Go.RowKit
variable{ρ:bD}{xs:List Value}{vs cs:List V}{fz:Nat}{h':H}{l:Lb}
theorem Nd (w:World)(a:Addr)(v:Value)(r:Nat):(w.setCell a v).shape? r=w.shape? r:=by
 unfold World.shape? World.setCell;simp only [Array.getElem?_modify]
 by_cases h:a.block=r
 ·rw [if_pos h]
  cases hh:w.heap[r]? with
  | none=>rfl
  | some o=>cases o<;>simp<;>split<;>simp
 ·rw [if_neg h]
theorem qI (b:Nat):∀(vs:List Value) (o:Nat) (w:World) (r:Nat),(w.setCells b o vs).shape? r=w.shape? r
 | [],_,_,_=>rfl
 | v::vs,o,w,r=>by rw [World.setCells,qI b vs,Nd]
theorem jd (b:Nat):∀(vs:List Value) (o:Nat) (w:World) (k:Nat),k≠b->(w.setCells b o vs).heap[k]? =w.heap[k]?
 | [],_,_,_,_=>rfl
 | v::vs,o,w,k,h=>by rw [World.setCells,jd b vs _ _ k h,Below.heap_setCell _ _ _ _ h]
theorem qJ (b:Nat):∀(vs:List Value) (o:Nat) (w:World),(w.setCells b o vs).heap.size=w.heap.size/\(w.setCells b o vs).os=w.os/\(w.setCells b o vs).tape=w.tape/\(w.setCells b o vs).output=w.output/\(w.setCells b o vs).drawn=w.drawn
 | [],_,_=>⟨rfl,rfl,rfl,rfl,rfl⟩
 | v::vs,o,w=>by
   obtain ⟨a,c,h3,h4,d⟩:=qJ b vs (o+1) (w.setCell ⟨b,o,none⟩ v);rw [World.setCells];exact ⟨a.trans (by simp [World.setCell]),c,h3,h4,d⟩
theorem Tv (w:World)(a:Addr)(v:Value){b:Nat}{c:Array Value}{e:TypeId}{d:Nat×Nat}(h:w.heap[b]? =some (.cells c e d)):∃f,(w.setCell a v).heap[b]? =some (.cells f e d):=by
 unfold World.setCell;simp only [Array.getElem?_modify,h]
 by_cases h':a.block=b
 ·rw [if_pos h'];exact ⟨_,rfl⟩
 ·rw [if_neg h'];exact ⟨_,rfl⟩
theorem uT (r:Nat):∀(vs:List Value) (o:Nat) (w:World) {b:Nat} {c:Array Value} {e:TypeId} {a:Nat×Nat},w.heap[b]? =some (.cells c e a)->∃d,(w.setCells r o vs).heap[b]? =some (.cells d e a)
 | [],_,_,_,_,_,_,h=>⟨_,h⟩
 | v::vs,o,w,_,_,_,_,h=>by
   obtain ⟨d,h'⟩:=Tv w ⟨r,o,none⟩ v h;rw [World.setCells];exact uT r vs (o+1) _ h'
theorem ac4 {v:V}{x:Value}(h:RV ρ v x)(a:cf v=true):x.oneCell'=true:=by
 cases h with
 | sym _ _ hv=>exact Ac hv
 | any h=>exact Ac h
 | _=>first | rfl | simp [cf] at a
theorem Ad (h:cZ ρ vs xs)(a:aZ vs=true):∀x∈xs,x.oneCell'=true:=by
 induction vs generalizing xs with
 | nil=>cases h;simp
 | cons v vs ih=>
   cases h with
   | cons h hs=>
     simp only [aZ,Bool.and_eq_true] at a;intro x b;rcases List.mem_cons.1 b with rfl | b
     ·exact ac4 h a.1
     ·exact ih hs a.2 x b
section
variable {B:Nat} {w0:World} {ρ:bD} {h:H} {w:World} {P:Program}
theorem dE.isSome {b:ej}{e:TypeId}{a:Own}(c:dE ρ b vs e fz a w){i:Nat}(hi:i<vs.length):(w.cell? (cQ b i)).isSome=true:=by
 obtain ⟨x,d,_⟩:=c.cell i vs[i] (List.getElem?_eq_getElem hi);rw [d];rfl
theorem Bv {r:Nat}{e:TypeId}{n:Nat}(hs:w.shape? r=some (e,n)){i:Nat}(hi:i<n):(w.cell? ⟨r,i,none⟩).isSome=true:=by
 unfold World.shape? at hs;unfold World.cell?;cases hh:w.heap[r]? with
 | none=>simp [hh] at hs
 | some o=>
   cases o<;>simp [hh] at hs ⊢;omega
theorem dE.put {b:ej}{vs':List V}{e:TypeId}{a:Own}(c:dE ρ b vs e fz a w){off:Nat}(n:aX vs off cs=some vs')(o:cZ ρ cs xs):
  dE ρ b vs' e fz a (w.setCells b.block (b.base+off) xs):=by
 have f:=kX n;have q:=iI n;have y:=o.length;refine ⟨by rw [qI];exact c.shape,by rw [f];exact c.fits,λi v d=>?_,λl i hi s=>by rw [World.frozen?_setCells];exact c.free l i hi s,λl=>by
  obtain ⟨u,lo,hi,r,t⟩:=c.bare l;obtain ⟨k,h3⟩:=uT b.block xs (b.base+off) w r;exact ⟨k,lo,hi,h3,t⟩⟩
 rw [sa n] at d
 by_cases AA:off<=i/\i<off+cs.length
 ·rw [if_pos AA] at d
  obtain ⟨x,g,h⟩:=o.get d;obtain ⟨p,m⟩:=List.getElem?_eq_some_iff.1 g;refine ⟨x,?_,h⟩;have:=World.cell?_setCells_in b.block xs (b.base+off) w (λj p=>by
   have:=c.isSome (i:=off+j) (by omega);unfold cQ at this
   rwa [<-Nat.add_assoc] at this) (i - off) p
  unfold cQ;rw [show b.base+i=b.base+off+(i - off) from by omega,this,m]
 ·rw [if_neg AA] at d
  obtain ⟨x,g,h⟩:=c.cell i v d;refine ⟨x,?_,h⟩;unfold cQ at g ⊢;rw [World.cell?_setCells_out]
  ·exact g
  ·intro _ _
   show b.base+i<b.base+off\/b.base+off+xs.length<=b.base+i
   omega
theorem iJ {off:Nat}(hs:eu h l off cs=some h'):
  ∃vs e fz a vs',h.get l=some (.cells vs e fz a)/\a.may=true/\fz<=off/\aZ cs=true/\aX vs off cs=some vs'/\h'=h.set l (.cells vs' e fz a):=by
 unfold eu at hs;split at hs
 ·rename_i vs e fz a b
  simp only [ai,ad,Bool.and_eq_true] at hs;obtain ⟨⟨⟨c,f⟩,h3⟩,vs',h4,d⟩:=hs;cases d;exact ⟨vs,e,fz,a,vs',b,c,Nat.le_of_ble_eq_true f,h3,h4,rfl⟩
 ·cases hs
theorem aA.store (R:aA B w0 ρ h w){b:ej}{off:Nat}(m:ρ l=some b)(hs:eu h l off cs=some h')(d:cZ ρ cs xs):
  (∀P,(storeCells ⟨b.block,b.base+off,none⟩ xs).run P w = .ok () (w.setCells b.block (b.base+off) xs))/\aA B w0 ρ h' (w.setCells b.block (b.base+off) xs):=by
 obtain ⟨vs,e,fz,a,vs',f,g,y,v,n,rfl⟩:=iJ hs;have c:dE ρ b vs e fz a w:=R.obj l b _ m f;have q:=iI n;have x:=d.length;have z:=c.fits;refine ⟨λP=>?_,?_⟩
 ·have:=run_storeCells_cells (P:=P) b.block (b.base+off) xs 0 w (λj u=>by
    have:=c.isSome (i:=off+j) (by omega);unfold cQ at this
    rwa [<-Nat.add_assoc] at this) (λj u=>c.free g _ (by omega) (by omega)) (Ad d v)
  simpa using this
 ·obtain ⟨s,p,t,r,_⟩:=qJ b.block xs (b.base+off) w
  exact R.change m f g s (λk o=>jd _ _ _ _ _ o) p t r (c.put n d)
theorem DZ (w:World)(a:Array Value)(e:TypeId):(w.alloc (.cells a e)).shape? w.heap.size=some (e,a.size):=by
 unfold World.shape?;rw [heap_alloc_new]
theorem tC (w:World)(a:Array Value)(e:TypeId)(i:Nat):(w.alloc (.cells a e)).cell? ⟨w.heap.size,i,none⟩=a[i]?:=by
 unfold World.cell?;simp only [heap_alloc_new];simp
theorem Ce (w:World)(a:Array Value)(e:TypeId)(i:Nat):(w.alloc (.cells a e)).frozen? ⟨w.heap.size,i,none⟩=false:=by
 unfold World.frozen?;simp only [heap_alloc_new];simp
theorem dE.new {rest:List Value}(h:cZ ρ vs xs)(e:TypeId)(fz:Nat)(a:Own){w:World}:
  dE ρ (ej.mk w.heap.size 0 (xs++rest).length .nilFunc) vs e fz a (w.alloc (.cells ⟨xs++rest⟩ e)):=by
 refine ⟨DZ _ _ _,by have:=h.length;simp;omega,λi v d=>?_,λ_ i _ _=>Ce _ _ _ _,λ_=>⟨_,0,0,heap_alloc_new _,Nat.zero_le _,Nat.le_refl _⟩⟩;obtain ⟨x,b,f⟩:=h.get d;refine ⟨x,?_,f⟩;unfold cQ;rw [tC];have:=(List.getElem?_eq_some_iff.1 b).1;simp only [Nat.zero_add];have e:(⟨xs++rest⟩:Array Value)[i]? =(xs++rest)[i]?:=by simp
 rw [e,List.getElem?_append_left this,b]
theorem aA.row (R:aA B w0 ρ h w){vs:List V}{xs:List Value}(d:cZ ρ vs xs)(rest:List Value)(e:TypeId)(fz:Nat)(a:Own):
  aA B w0 (uG ρ h.next (ej.mk w.heap.size 0 (xs++rest).length .nilFunc)) (h.add (.cells vs e fz a)) (w.alloc (.cells ⟨xs++rest⟩ e)):=
 R.add rfl ⟨rfl,rfl⟩ (dE.new (d.mono (eS R.fresh)) e fz a)
theorem aA.move (R:aA B w0 ρ h w){b:ej}{new:List V}{e:TypeId}{own:Own}(t:ρ l=some b)(D:h.get l=some (.cells vs e fz own))(C:own.may=true)
  {off:Nat} (Y:off<=vs.length) (S:off=0) (Tb:fz<=vs.length) (F:cZ ρ new xs) (T:aZ new=true) (xX:b.base+vs.length+new.length<=b.total):
  (∀P,(storeCells ⟨b.block,b.base+vs.length,none⟩ xs).run P w = .ok () (w.setCells b.block (b.base+vs.length) xs))/\
   aA B w0 (uG ρ h.next (ej.mk b.block (b.base+off) b.total .nilFunc)) ((h.del l).add (.cells (bz off vs++new) e (fz - off) own)) (w.setCells b.block (b.base+vs.length) xs):=by
 have c:dE ρ b vs e fz own w:=R.obj l b _ t D;have hx:=F.length;have E:j8 ρ (uG ρ h.next (ej.mk b.block (b.base+off) b.total .nilFunc)):=eS R.fresh;have Hl:=c.shape;obtain ⟨K,L,M,Z,_⟩:=qJ b.block xs (b.base+vs.length) w;have Q:=R.own l b _ t D C;have YL:(h.get l).isSome=true:=by rw [D];rfl
 have cV:l≠h.next:=λe=>by rw [e,R.fresh] at t;cases t
 refine ⟨λP=>?_,?_⟩
 ·have:=run_storeCells_cells (P:=P) b.block (b.base+vs.length) xs 0 w (λj z=>Bv Hl (by omega)) (λj z=>c.free C _ (by omega) (by omega)) (Ad F T)
  simpa using this
 ·have old:∀m q,m≠h.next->((h.del l).add (.cells (bz off vs++new) e (fz - off) own)).get m=some q->h.get m=some q/\m≠l:=λm q a o=>by
   rw [H.ew _ _ (show m≠(h.del l).next from a)] at o
   by_cases f:m=l
   ·subst f;rw [H.DW] at o;cases o
   ·rw [H.Kp _ f] at o;exact ⟨o,f⟩
  have self:((h.del l).add (.cells (bz off vs++new) e (fz - off) own)).get h.next=some (.cells (bz off vs++new) e (fz - off) own):=H.kY (h.del l) _;have p:∀m d q,m≠h.next->ρ m=some d->((h.del l).add (.cells (bz off vs++new) e (fz - off) own)).get m=some q->d.block≠b.block:=λm d q a W o f=>by
   obtain ⟨r,u⟩:=old m q a o;exact u (R.inj m l d b W t (by rw [r];rfl) YL f)
  refine ⟨λm d q a o=>?_,λm d a=>?_,λm d a=>?_,λm n d d' a s O Wk f=>?_,λm d q a o N=>?_,by rw [K];exact R.size,?_⟩
  ·by_cases f:m=h.next
   ·subst f
    rw [aU] at a;cases a;rw [self] at o;cases o;refine ⟨by rw [qI];exact Hl,by simp [gn];omega,λi v y=>?_,λ_ i hi U=>?_,λX=>?_⟩
    ·by_cases hi:i<vs.length - off
     ·rw [List.getElem?_append_left (by rw [gn];exact hi),qj] at y
      obtain ⟨x,r,u⟩:=c.cell _ v y;refine ⟨x,?_,u.mono E⟩;unfold cQ at r ⊢;rw [World.cell?_setCells_out]
      ·rw [<-Nat.add_assoc] at r;exact r
      ·intro _ _;left;show b.base+off+i<b.base+vs.length;omega
     ·rw [List.getElem?_append_right (by rw [gn];omega),gn] at y
      obtain ⟨x,r,u⟩:=F.get y;obtain ⟨z,G⟩:=List.getElem?_eq_some_iff.1 r;refine ⟨x,?_,u.mono E⟩;have:=World.cell?_setCells_in b.block xs (b.base+vs.length) w (λj z=>Bv Hl (by omega)) (i - (vs.length - off)) z;unfold cQ;show (w.setCells b.block (b.base+vs.length) xs).cell? ⟨b.block,b.base+off+i,none⟩=some x
      rw [show b.base+off+i=b.base+vs.length+(i - (vs.length - off)) from by omega,this,G]
    ·rw [World.frozen?_setCells]
     have jB:b.base+off+(fz - off)<=i:=hi;exact c.free C i (by omega) U
    ·obtain ⟨c',lo,hi,r,u⟩:=c.bare X
     obtain ⟨A,h3⟩:=uT b.block xs (b.base+vs.length) w r;exact ⟨A,lo,hi,h3,by show hi<=b.base+off+(fz - off)/\lo<=hi;omega⟩
   ·rw [ca f] at a
    have:=p m d q f a o;exact (R.obj m d q a (old m q f o).1).jH E (jd _ _ _ _ _ this)
  ·by_cases f:m=h.next
   ·subst f;show val h.next<val (inc h.next);rw [jc];omega
   ·rw [ca f] at a
    have:=R.lt m d a;show val m<val (inc h.next)
    rw [jc];omega
  ·by_cases f:m=h.next
   ·subst f;rw [aU] at a;cases a;have:=(R.base l b t).1;exact ⟨by show b.base+off=0;omega,.nil rfl⟩
   ·rw [ca f] at a;exact R.base m d a
  ·obtain ⟨q,o⟩:=Option.isSome_iff_exists.1 O
   obtain ⟨J,I⟩:=Option.isSome_iff_exists.1 Wk
   by_cases e1:m=h.next
   ·by_cases e2:n=h.next
    ·rw [e1,e2]
    ·rw [ca e2] at s
     have:=p n d' J e2 s I;subst e1;rw [aU] at a;cases a;exact absurd f.symm this
   ·rw [ca e1] at a
    by_cases e2:n=h.next
    ·have:=p m d q e1 a o
     subst e2;rw [aU] at s;cases s;exact absurd f this
    ·rw [ca e2] at s
     exact R.inj m n d d' a s (by rw [(old m q e1 o).1];rfl) (by rw [(old n J e2 I).1];rfl) f
  ·by_cases f:m=h.next
   ·subst f;rw [aU] at a;cases a;exact Q
   ·rw [ca f] at a
    exact R.own m d q a (old m q f o).1 N
  ·exact R.below.trans ⟨L,M,Z,by rw [K];exact Nat.le_refl _,λk hk=>jd _ _ _ _ _ (by omega)⟩
theorem Kq (w:World)(r:Nat)(o:Go.Obj):({w with heap:=w.heap.setIfInBounds r o}:World).heap.size=w.heap.size/\∀k,k≠r->({w with heap:=w.heap.setIfInBounds r o}:World).heap[k]? =w.heap[k]?:=
 ⟨by simp,λk a=>by simp [Ne.symm a]⟩
theorem aA.setObj (R:aA B w0 ρ h w){b:ej}{o p:Obj}{x:Go.Obj}(c:ρ l=some b)(a:h.get l=some o)(g:o.writes=true)
  (i:∀w':World,w'.heap[b.block]? =some x->sS ρ b w' p):aA B w0 ρ (h.set l p) {w with heap:=w.heap.setIfInBounds b.block x}:=by
 have e:=(R.obj l b o c a).lt;obtain ⟨f,d⟩:=Kq w b.block x;exact R.change c a g f d rfl rfl rfl (i _ (by simp [e]))
end
end Go.Dx
namespace Go.Dx
open Go Go.RowKit
variable{ρ ρ':bD}{n:Nat}{d v:V}{rd:Rd}
section operands
variable {ρ:bD} {C:CE} {tm:T V} {a:Act}
structure jx (ρ:bD)(n:Nat)(tm:T V)(tmps:Array Value):Prop where
 size:tmps.size=n
 small:n<=65536
 get:∀t,t<n->RV ρ (bV tm (pathOf t)) (tmps.getD t Go.undef)
def gM (ρ:bD)(G:Nat):Prop:=∀g,g<G->∃n,ρ (pathOf g)=some (ej.mk g 0 n .nilFunc)
theorem gM.mono (e:j8 ρ ρ'){G:Nat}(h:gM ρ G):gM ρ' G:=λg a=>let ⟨n,k⟩:=h g a;⟨n,e _ _ k⟩
theorem jx.mono (e:j8 ρ ρ'){tm:T V}{a:Array Value}(h:jx ρ n tm a):jx ρ' n tm a:=⟨h.size,h.small,λt b=>(h.get t b).mono e⟩
theorem OC {v:Value}(h:Qc v=some d):RV ρ d v:=by
 unfold Qc at h;split at h<;>first
  | (cases h;first | exact .bool _ | exact .int _ _ | exact .str _ | exact .nilPtr | exact .nilSlice _ | exact .aP | exact .func _ .nil .nil | exact .nilFunc | exact .nilIface | exact .tuple .nil)
  | cases h
theorem Kr:∀{vs:List Value} {ds:List V},DK vs=some ds->cZ ρ ds vs
 | [],ds,h=>by simp [DK] at h;subst h;exact .nil
 | v::vs,ds,h=>by
   simp only [DK,ad] at h;obtain ⟨d,a,r,b,h3⟩:=h;cases h3;exact .cons (OC a) (Kr b)
theorem qL {v:Value}(h:ofConst v=some d):RV ρ d v:=by
 unfold ofConst at h;split at h
 ·simp only [ad] at h
  obtain ⟨ds,a,b⟩:=h;cases b;exact .agg (Kr a)
 ·exact OC h
theorem aw (k:jx ρ C.n tm a.tmps)(e:gM ρ C.G){x:Operand}{d:X}(h:ay C x=some d):RV ρ (d.ev tm) (a.eval x):=by
 cases x with
 | tmp t=>
   simp only [ay,ai] at h;obtain ⟨b,c⟩:=h;cases c;exact k.get t (by simpa using b)
 | const v=>
   simp only [ay,ad] at h;obtain ⟨d',b,c⟩:=h;cases c;exact qL b
 | global g=>
   simp only [ay,ai] at h;obtain ⟨b,c⟩:=h;cases c;obtain ⟨n,j⟩:=e g (by simpa using b);have:=RV.ptr (ρ:=ρ) 0 j;show RV ρ (.ptr (pathOf g) 0) (.pointer (some ⟨g,0,none⟩))
   simpa using this
 | func f=>
   simp only [ay,Option.some.injEq] at h;cases h;exact .func f .nil .nil
theorem na (c:jx ρ C.n tm a.tmps)(b:gM ρ C.G):∀{xs:List Operand} {ds:List X},cG C xs=some ds->cZ ρ (Wh tm ds) (xs.map a.eval)
 | [],ds,h=>by simp [cG] at h;subst h;exact .nil
 | x::xs,ds,h=>by
   simp only [cG,ad] at h;obtain ⟨d,f,r,e,h3⟩:=h;cases h3;exact .cons (aw c b f) (na c b e)
inductive Qf (ρ:bD):Option V->Option Value->Prop
 | none:Qf ρ none none
 | some {v:V} {x:Value} (h:RV ρ v x):Qf ρ (some v) (some x)
theorem kg (c:jx ρ C.n tm a.tmps)(b:gM ρ C.G){x:Option Operand}{d:Option X}(h:gW C x=some d):Qf ρ (SE tm d) (x.map a.eval):=by
 cases x with
 | none=>simp [gW] at h;subst h;exact .none
 | some x=>
   simp only [gW,ad] at h;obtain ⟨d',f,e⟩:=h;cases e;exact .some (aw c b f)
end operands
section
variable {P:Program} {ρ:bD} {w:World}
theorem xY {t:TypeId}(h:cg P t=some n):∃i,P.info? t=some i/\i.size=n:=by
 simp only [cg,ad] at h;obtain ⟨i,a,b⟩:=h;cases b;exact ⟨i,a,rfl⟩
theorem cC {t:TypeId}(h:cg P t=some n)(w:World):(sizeOf t).run P w = .ok n w:=by
 obtain ⟨i,a,rfl⟩:=xY h;simp [sizeOf,typeInfo,a]
theorem fN {t:TypeId}(h:fD P t=some v):∃x,RV ρ v x/\∀w,(zeroValue t).run P w = .ok x w:=by
 simp only [fD,ad] at h;obtain ⟨i,a,z,b,h3⟩:=h;exact ⟨z,qL h3,λw=>by simp [zeroValue,typeInfo,a,b]⟩
theorem Ea {x:Value}(h:x.oneCell'=true):x.cells = #[x]:=by
 cases x<;>first | rfl | simp [Value.oneCell'] at h
theorem RV.cells {x:Value}(h:RV ρ v x):cZ ρ v.cells x.cells.toList:=by
 cases h with
 | agg h=>exact h
 | bool b=>exact .cons (.bool b) .nil
 | int k n=>exact .cons (.int k n) .nil
 | str t=>exact .cons (.str t) .nil
 | nilPtr=>exact .cons .nilPtr .nil
 | ptr off h=>exact .cons (.ptr off h) .nil
 | nilSlice c=>exact .cons (.nilSlice c) .nil
 | slice off len c h=>exact .cons (.slice off len c h) .nil
 | sliceEnd off len size c h hl hc=>exact .cons (.sliceEnd off len size c h hl hc) .nil
 | aP=>exact .cons .aP .nil
 | map h=>exact .cons (.map h) .nil
 | func f ha hb=>exact .cons (.func f ha hb) .nil
 | nilFunc=>exact .cons .nilFunc .nil
 | iface t h=>exact .cons (.iface t h) .nil
 | nilIface=>exact .cons .nilIface .nil
 | tuple h=>exact .cons (.tuple h) .nil
 | sym h ht hv=>rw [Ea (Ac hv)];exact .cons (.sym h ht hv) .nil
 | any h=>rw [Ea (Ac h)];exact .cons (.any h) .nil
 | empty a c=>exact .cons (.empty a c) .nil
 | eG h1 h2=>exact .cons (.eG h1 h2) .nil
theorem Qg {t:TypeId}(h:Oy P t=some rd):
  (rd = .one/\∀w,(isAgg t).run P w = .ok false w)\/(∃n,rd = .many n/\cg P t=some n/\∀w,(isAgg t).run P w = .ok true w):=by
 unfold Oy at h;split at h
 ·rename_i fs a
  simp only [ad] at h;obtain ⟨n,b,c⟩:=h;cases c;exact .inr ⟨n,rfl,b,λw=>by simp [isAgg,run_underlying a]⟩
 ·rename_i n e a
  simp only [ad] at h;obtain ⟨n,b,c⟩:=h;cases c;exact .inr ⟨n,rfl,b,λw=>by simp [isAgg,run_underlying a]⟩
 ·rename_i d Ds f a
  cases h;refine .inl ⟨rfl,λw=>?_⟩;cases d with
  | struct fs=>exact absurd rfl (Ds fs)
  | array n e=>exact absurd rfl (f n e)
  | _=>simp [isAgg,run_underlying a]
 ·cases h
theorem dM:∀(n:Nat) (vs:List V),bz n vs=vs.drop n
 | 0,vs=>by simp [bz]
 | n+1,[]=>by simp [bz]
 | n+1,v::vs=>by simp [bz,dM n vs]
theorem Ae {t:TypeId}(e:Oy P t=some rd){cs:List V}{xs:List Value}(d:cZ ρ cs xs){off:Nat}(h:dB rd cs off=some v):
  ∃x,RV ρ v x/\∀w,(part t ⟨xs⟩ off).run P w = .ok x w:=by
 rcases Qg e with ⟨rfl,b⟩ | ⟨n,rfl,hs,b⟩
 ·simp only [dB] at h
  rw [dM,List.head?_drop] at h;obtain ⟨x,a,c⟩:=d.get h;exact ⟨x,c,λw=>by simp [part,b,a]⟩
 ·simp only [dB,ad] at h
  obtain ⟨r,a,c⟩:=h;cases c;obtain ⟨h3,h4⟩:=d.rowFrom a;refine ⟨_,.agg h3,λw=>?_⟩;have f:(⟨xs⟩:Array Value).extract off (off+n)=⟨(xs.drop off).take n⟩:=by
   apply Array.ext';simp
  simp [part,b,cC hs]
end
theorem qM:∀{a b:List Nat},fh a b=true<->a=b
 | [],[]=>by simp [fh]
 | [],_::_=>by simp [fh]
 | _::_,[]=>by simp [fh]
 | a::x,b::y=>by simp [fh,qM (a:=x) (b:=y)]
theorem iZ (a b:List Nat):fh a b=(a==b):=by
 rw [Bool.eq_iff_iff,qM,beq_iff_eq]
theorem Wl {s t:ByteArray}(h:au s=au t):s=t:=by
 unfold au at h;have a:s.data.toList=t.data.toList:=by
  have:=congrArg (List.map UInt8.ofNat) h;simpa [List.map_map,Function.comp_def] using this
 cases s with | mk s=>cases t with | mk t=>
 cases s with | mk s=>cases t with | mk t=>
 simp at a;rw [a]
theorem OD (s t:ByteArray):fh (au s) (au t)=(s.data.toList==t.data.toList):=by
 rw [iZ,Bool.eq_iff_iff,beq_iff_eq,beq_iff_eq];refine ⟨λh=>?_,λh=>by unfold au;rw [h]⟩;rw [Wl h]
theorem Hv:∀(a b:List UInt8),gJ (a.map (·.toNat)) (b.map (·.toNat))=Op.bytesLess a b
 | _,[]=>by simp [gJ,Op.bytesLess]
 | [],_::_=>by simp [gJ,Op.bytesLess]
 | a::x,b::y=>by
   simp only [List.map_cons,gJ,Op.bytesLess,Hv x y];have d:Nat.blt a.toNat b.toNat=decide (a<b):=by
    rw [Bool.eq_iff_iff,decide_eq_true_iff,UInt8.lt_iff_toNat_lt];simp
   have c:Nat.beq a.toNat b.toNat=(a==b):=by
    rw [Bool.eq_iff_iff,beq_iff_eq,Nat.beq_eq];exact UInt8.toNat_inj
   rw [d,c]
theorem Cf {j k:IntKind}:FX j k=true<->j=k:=by cases j<;>cases k<;>simp [FX]
theorem cE (a b:Int):pw a b=(a==b):=by
 rw [Bool.eq_iff_iff,beq_iff_eq];cases a<;>cases b<;>simp [pw]<;>omega
theorem cR (a b:Int):kS a b=decide (a<b):=by
 rw [Bool.eq_iff_iff,decide_eq_true_iff];cases a<;>cases b<;>simp [kS]<;>omega
theorem OE {top:Nat}(a:0<top):∀n:Int,(jw top n:Int)=n % (top:Int)
 | .ofNat m=>by simp [jw]
 | .negSucc m=>by
   have b:=Nat.mod_lt m a;show ((top - 1 - m % top:Nat):Int)=Int.negSucc m % (top:Int)
   rw [Int.negSucc_emod _ (by omega)];omega
theorem F8 {top:Nat}(a:0<top):∀n:Int,jw top n<top
 | .ofNat m=>Nat.mod_lt _ a
 | .negSucc m=>by have:=Nat.mod_lt m a;simp only [jw];omega
theorem IK.Ks (k:IntKind):IK.top k=2 ^ k.bits:=by cases k<;>rfl
theorem IK.agx (k:IntKind):IK.half k=2 ^ (k.bits - 1):=by cases k<;>rfl
theorem IK.akc (k:IntKind):IK.sgn k=k.signed:=by cases k<;>rfl
theorem IK.Qh (k:IntKind):0<IK.top k:=by cases k<;>decide
theorem OG (k:IntKind):bitsOf k=k.bits:=by cases k<;>rfl
theorem Kt (k:IntKind){m:Nat}(c:m<IK.top k):DL (IK.sgn k) (IK.half k) (IK.top k) m=k.wrap (m:Int):=by
 have e:(m:Int) % (2 ^ k.bits:Int)=m:=by
  have:(2 ^ k.bits:Int)=((IK.top k:Nat):Int):=by rw [IK.Ks];simp
  rw [this];exact Int.emod_eq_of_lt (by omega) (by omega)
 unfold DL IntKind.wrap;simp only [e,IK.akc];have a:(2 ^ (k.bits - 1):Int)=((IK.half k:Nat):Int):=by rw [IK.agx];simp
 have b:(2 ^ k.bits:Int)=((IK.top k:Nat):Int):=by rw [IK.Ks];simp
 rw [a,b]
 by_cases hs:k.signed=true
 ·by_cases hb:IK.half k<=m
  ·have:Nat.ble (IK.half k) m=true:=by rw [Nat.ble_eq];exact hb
   simp [hs,this];rw [if_pos (by omega)];omega
  ·have:Nat.ble (IK.half k) m=false:=by rw [<-Bool.not_eq_true,Nat.ble_eq];exact hb
   simp [hs,this];intro h;exact absurd h hb
 ·simp [Bool.not_eq_true] at hs
  simp [hs]
theorem ac5 (k:IntKind)(n:Int):k.wrap (n % (2 ^ k.bits:Int))=k.wrap n:=by
 unfold IntKind.wrap;simp
theorem eT (k:IntKind)(n:Int):bU k n=k.wrap n:=by
 unfold bU;rw [Kt k (F8 (IK.Qh k) n),OE (IK.Qh k)];have a:((IK.top k:Nat):Int)=(2 ^ k.bits:Int):=by rw [IK.Ks];simp
 rw [a,ac5]
theorem Hw (k:IntKind)(n:Int):(BitVec.ofInt k.bits n).toNat=jw (IK.top k) n:=by
 have:=OE (IK.Qh k) n;have a:((IK.top k:Nat):Int)=(2 ^ k.bits:Int):=by rw [IK.Ks];simp
 rw [BitVec.toNat_ofInt];rw [a] at this;have e:((2 ^ k.bits:Nat):Int)=(2 ^ k.bits:Int):=by simp
 rw [e,<-this];simp
theorem Eb (k:IntKind)(x y:Int)(f:Nat->Nat->Nat) (g:BitVec k.bits->BitVec k.bits->BitVec k.bits)
  (h:∀a b:BitVec k.bits,(g a b).toNat=f a.toNat b.toNat):Ou f k x y = .int k (k.wrap (g (BitVec.ofInt k.bits x) (BitVec.ofInt k.bits y)).toNat):=by
 unfold Ou;have e:=h (BitVec.ofInt k.bits x) (BitVec.ofInt k.bits y);rw [Hw,Hw] at e;have c:f (jw (IK.top k) x) (jw (IK.top k) y)<IK.top k:=by rw [<-e,IK.Ks];exact BitVec.isLt _
 rw [Kt k c,e]
end Go.Dx
namespace Go.Dx
open Go Go.RowKit
variable{v:V}{a:Int}{k:IntKind}{op:BinOp}
section
variable {P:Program} {ρ:bD}
def vW (P:Program)(ρ:bD)(v:V)(s:Sem Value):Prop:=∃x,RV ρ v x/\∀w,s.run P w = .ok x w
theorem vW.pure {x:Value}(h:RV ρ v x):vW P ρ v (Pure.pure x):=⟨x,h,λ_=>rfl⟩
theorem nP {b:Int}(h:ct op k a b=some v)(d:op≠.shl)(e:op≠.shr)(t:TypeId):
  vW P ρ v (Go.binOp op t (.int k a) (.int k b)):=by
 cases op
 case shl=>exact absurd rfl d
 case shr=>exact absurd rfl e
 case add=>simp only [ct,Option.some.injEq] at h;subst h;refine ⟨_,.int _ _,λw=>?_⟩;simp [Go.binOp,Op.intArith,eT]
 case sub=>simp only [ct,Option.some.injEq] at h;subst h;refine ⟨_,.int _ _,λw=>?_⟩;simp [Go.binOp,Op.intArith,eT]
 case mul=>simp only [ct,Option.some.injEq] at h;subst h;refine ⟨_,.int _ _,λw=>?_⟩;simp [Go.binOp,Op.intArith,eT]
 case quo=>
  simp only [ct,ai,Option.some.injEq,cE] at h;obtain ⟨c,h⟩:=h;subst h;refine ⟨_,.int _ _,λw=>?_⟩;have:b≠0:=by simpa using c
  simp [Go.binOp,Op.intDiv,eT,this]
 case rem=>
  simp only [ct,ai,Option.some.injEq,cE] at h;obtain ⟨c,h⟩:=h;subst h;refine ⟨_,.int _ _,λw=>?_⟩;have:b≠0:=by simpa using c
  simp [Go.binOp,Op.intDiv,this]
 case and=>
  simp only [ct,Option.some.injEq] at h;rw [Eb k a b _ (λa b=>a &&& b) (λa b=>by rw [BitVec.toNat_and];rfl)] at h;subst h;exact ⟨_,.int _ _,λw=>by simp [Go.binOp,Op.intBits]⟩
 case or=>
  simp only [ct,Option.some.injEq] at h;rw [Eb k a b _ (λa b=>a ||| b) (λa b=>by rw [BitVec.toNat_or];rfl)] at h;subst h;exact ⟨_,.int _ _,λw=>by simp [Go.binOp,Op.intBits]⟩
 case xor=>
  simp only [ct,Option.some.injEq] at h;rw [Eb k a b _ (λa b=>a ^^^ b) (λa b=>by rw [BitVec.toNat_xor];rfl)] at h;subst h;exact ⟨_,.int _ _,λw=>by simp [Go.binOp,Op.intBits]⟩
 case andNot=>
  simp only [ct,Option.some.injEq] at h;rw [Eb k a b _ (λa b=>a &&& ~~~b) (λa b=>by
   have:a &&& ~~~b=a ^^^ (a &&& b):=by
    apply BitVec.eq_of_getLsbD_eq;intro i hi;simp [hi];cases a[i]<;>cases b[i]<;>rfl
   rw [this,BitVec.toNat_xor,BitVec.toNat_and];rfl)] at h
  subst h;exact ⟨_,.int _ _,λw=>by simp [Go.binOp,Op.intBits]⟩
 case eql=>simp only [ct,Option.some.injEq,cE] at h;subst h;exact ⟨_,.bool _,λw=>by simp [Go.binOp,Op.intCmp]⟩
 case neq=>simp only [ct,Option.some.injEq,cE] at h;subst h;exact ⟨_,.bool _,λw=>by simp [Go.binOp,Op.intCmp,bne]⟩
 case lss=>simp only [ct,Option.some.injEq,cR] at h;subst h;exact ⟨_,.bool _,λw=>by simp [Go.binOp,Op.intCmp]⟩
 case leq=>
  simp only [ct,Option.some.injEq,cR] at h;subst h;refine ⟨_,.bool _,λw=>?_⟩;have:(!decide (b<a))=decide (a<=b):=by rw [Bool.eq_iff_iff];simp
  simp only [Go.binOp,Op.intCmp,this];simp
 case gtr=>simp only [ct,Option.some.injEq,cR] at h;subst h;exact ⟨_,.bool _,λw=>by simp [Go.binOp,Op.intCmp]⟩
 case geq=>
  simp only [ct,Option.some.injEq,cR] at h;subst h;refine ⟨_,.bool _,λw=>?_⟩;have:(!decide (a<b))=decide (a>=b):=by rw [Bool.eq_iff_iff];simp
  simp only [Go.binOp,Op.intCmp,this];simp
theorem Ku {j:IntKind}{b:Int}(h:I8 op k a b=some v)(t:TypeId):vW P ρ v (Go.binOp op t (.int k a) (.int j b)):=by
 unfold I8 at h;cases b with
 | negSucc n=>simp at h
 | ofNat n=>
   cases a with
   | negSucc m=>cases op<;>simp at h
   | ofNat m=>
     cases op<;>simp only [Option.some.injEq,reduceCtorEq] at h
     case shl=>
      have e:Nat.shiftLeft m (Nat.min n k.bits)=m*2 ^ (min n k.bits):=by rw [show Nat.shiftLeft m (Nat.min n k.bits)=m <<<(min n k.bits) from rfl,Nat.shiftLeft_eq]
      rw [OG,e,eT] at h;subst h;refine ⟨_,.int _ _,λw=>?_⟩;have c:¬((n:Nat):Int)<0:=by omega
      simp [Go.binOp,Op.shift,c]
     case shr=>
      have e:Nat.shiftRight m (Nat.min n k.bits)=m / 2 ^ (min n k.bits):=by rw [show Nat.shiftRight m (Nat.min n k.bits)=m >>>(min n k.bits) from rfl,Nat.shiftRight_eq_div_pow]
      rw [OG,e] at h;subst h;refine ⟨_,.int _ _,λw=>?_⟩;have c:¬((n:Nat):Int)<0:=by omega
      have d:(0:Int)<=2 ^ (min n k.bits):=Int.le_of_lt (Int.pow_pos (by decide));simp [Go.binOp,Op.shift,c,Int.fdiv_eq_ediv_of_nonneg _ d]
theorem cA (s:ByteArray):(au s).length=s.size:=by simp [au]
theorem Nf (s t:ByteArray):au (s++t)=au s++au t:=by
 unfold au;rw [Go.Joins.data_append];simp
theorem ac6 {s t:ByteArray}(h:Hr op (au s) (au t)=some v)(a:TypeId):vW P ρ v (Go.binOp op a (.string s) (.string t)):=by
 have b:fh (au s) (au t)=(s.toList==t.toList):=by rw [OD,ByteArray.toList_eq,ByteArray.toList_eq]
 have d:gJ (au s) (au t)=Op.bytesLess s.toList t.toList:=by unfold au;rw [Hv,ByteArray.toList_eq,ByteArray.toList_eq]
 cases op<;>simp only [Hr,Option.some.injEq,reduceCtorEq,b,d,ai] at h
 case add=>
  obtain ⟨c,h⟩:=h;rw [<-Nf] at h;subst h;refine ⟨_,.str _,λw=>?_⟩;have DB:(au s).length+(au t).length<9223372036854775807:=by simpa using c
  rw [cA,cA] at DB;have:¬((s.size+t.size:Nat):Int)>IntKind.i64.max:=by rw [IntKind.max_i64];omega
  simp only [Go.binOp,Op.stringOp,if_neg this];rfl
 all_goals (subst h;exact ⟨_,.bool _,λw=>by simp [Go.binOp,Op.stringOp]⟩)
theorem bytes_beq (s t:ByteArray):(s==t)=(s.data.toList==t.data.toList):=by
 show ByteArray.beq s t=_
 unfold ByteArray.beq;rw [Bool.eq_iff_iff,beq_iff_eq,beq_iff_eq];exact ⟨λh=>by rw [h],λh=>by
  cases s with | mk s=>cases t with | mk t=>cases s with | mk s=>cases t with | mk t=>simp at h;rw [h]⟩
theorem Kv (a b:Bool):nw a b=(a==b):=by cases a<;>cases b<;>rfl
theorem ql {a:PK}{u:V}{x y:Value}{b:Bool}(e:RV ρ v x)(f:RV ρ u y)(h:gh a v u=some b):
  (a = .bool/\∃c d,x = .bool c/\y = .bool d/\b=(c==d))\/(a = .int/\∃k c d,x = .int k c/\y = .int k d/\b=(c==d))\/(a = .str/\∃s t:ByteArray,x = .string s/\y = .string t/\b=(s==t)):=by
 cases a with
 | bool=>
   simp only [gh] at h;split at h
   ·cases e;cases f
    cases h;exact .inl ⟨rfl,_,_,rfl,rfl,Kv _ _⟩
   ·cases h
 | int=>
   simp only [gh] at h;split at h
   ·cases e;cases f
    simp only [ai,Cf,Option.some.injEq] at h;obtain ⟨rfl,h⟩:=h;exact .inr (.inl ⟨rfl,_,_,_,rfl,rfl,by rw [<-h,cE]⟩)
   ·cases h
 | str=>
   simp only [gh] at h;split at h
   ·cases e with | str s=>cases f with | str t=>
    simp only [Option.some.injEq] at h;exact .inr (.inr ⟨rfl,s,t,rfl,rfl,by rw [<-h,OD,bytes_beq]⟩)
   ·cases h
 | no=>simp [gh] at h
end
end Go.Dx
