/-
  The sequencer's laws. Part ZAC of the proof: The deterministic machine over labels against the model: cells that are stored, rows that are made, maps that are written.
-/
import Derived.Laws.Entries
import Derived.Lib.Strings
import Derived.Lib.SmallJoins
import Derived.Test.YteajeefphbjnmaaGreatDoorZAB
namespace Go.Dx
open Go Go.RowKit
theorem Ml (w:World)(a:Addr)(v:Value)(r:Nat):(w.setCell a v).shape? r=w.shape? r:=by
 unfold World.shape? World.setCell;simp only [Array.getElem?_modify]
 by_cases h:a.block=r
 ·rw [if_pos h]
  cases hh:w.heap[r]? with
  | none=>rfl
  | some o=>cases o<;>simp<;>split<;>simp
 ·rw [if_neg h]
theorem qh (b:Nat):∀(vs:List Value) (o:Nat) (w:World) (r:Nat),(w.setCells b o vs).shape? r=w.shape? r
 | [],_,_,_=>rfl
 | v::vs,o,w,r=>by rw [World.setCells,qh b vs,Ml]
theorem iH (b:Nat):∀(vs:List Value) (o:Nat) (w:World) (k:Nat),k≠b->(w.setCells b o vs).heap[k]? =w.heap[k]?
 | [],_,_,_,_=>rfl
 | v::vs,o,w,k,h=>by rw [World.setCells,iH b vs _ _ k h,Below.heap_setCell _ _ _ _ h]
theorem qi (b:Nat):∀(vs:List Value) (o:Nat) (w:World),(w.setCells b o vs).heap.size=w.heap.size/\(w.setCells b o vs).os=w.os/\(w.setCells b o vs).tape=w.tape/\(w.setCells b o vs).output=w.output/\(w.setCells b o vs).drawn=w.drawn
 | [],_,_=>⟨rfl,rfl,rfl,rfl,rfl⟩
 | v::vs,o,w=>by
   obtain ⟨h1,h2,h3,h4,h5⟩:=qi b vs (o+1) (w.setCell ⟨b,o,none⟩ v);rw [World.setCells];exact ⟨h1.trans (by simp [World.setCell]),h2,h3,h4,h5⟩
theorem R6 (w:World)(a:Addr)(v:Value){b:Nat}{c:Array Value}{e:TypeId}{fr:Nat×Nat}(h:w.heap[b]? =some (.cells c e fr)):∃c',(w.setCell a v).heap[b]? =some (.cells c' e fr):=by
 unfold World.setCell;simp only [Array.getElem?_modify,h]
 by_cases h':a.block=b
 ·rw [if_pos h'];exact ⟨_,rfl⟩
 ·rw [if_neg h'];exact ⟨_,rfl⟩
theorem uG (r:Nat):∀(vs:List Value) (o:Nat) (w:World) {b:Nat} {c:Array Value} {e:TypeId} {fr:Nat×Nat},w.heap[b]? =some (.cells c e fr)->∃c',(w.setCells r o vs).heap[b]? =some (.cells c' e fr)
 | [],_,_,_,_,_,_,h=>⟨_,h⟩
 | v::vs,o,w,_,_,_,_,h=>by
   obtain ⟨c',h'⟩:=R6 w ⟨r,o,none⟩ v h;rw [World.setCells];exact uG r vs (o+1) _ h'
theorem ab0 {ρ:bE}{v:V}{x:Value}(h:RV ρ v x)(hf:bU v=true):x.oneCell'=true:=by
 cases h with
 | sym _ _ hv=>exact zh hv
 | any h=>exact zh h
 | _=>first | rfl | simp [bU] at hf
theorem Fx {ρ:bE}{vs:List V}{xs:List Value}(h:cU ρ vs xs)(hf:bd vs=true):∀x∈xs,x.oneCell'=true:=by
 induction vs generalizing xs with
 | nil=>cases h;simp
 | cons v vs ih=>
   cases h with
   | cons h hs=>
     simp only [bd,Bool.and_eq_true] at hf;intro x hx;rcases List.mem_cons.1 hx with rfl | hx
     ·exact ab0 h hf.1
     ·exact ih hs hf.2 x hx
section
variable {B:Nat} {w0:World} {ρ:bE} {h:H} {w:World} {P:Program}
theorem dO.isSome {b:dZ}{vs:List V}{e:TypeId}{fz:Nat}{own:Own}(c:dO ρ b vs e fz own w){i:Nat}(hi:i<vs.length):(w.cell? (cZ b i)).isSome=true:=by
 obtain ⟨x,hx,_⟩:=c.cell i vs[i] (List.getElem?_eq_getElem hi);rw [hx];rfl
theorem AO {r:Nat}{e:TypeId}{n:Nat}(hs:w.shape? r=some (e,n)){i:Nat}(hi:i<n):(w.cell? ⟨r,i,none⟩).isSome=true:=by
 unfold World.shape? at hs;unfold World.cell?;cases hh:w.heap[r]? with
 | none=>simp [hh] at hs
 | some o=>
   cases o<;>simp [hh] at hs ⊢;omega
theorem dO.put {b:dZ}{vs vs' cs:List V}{xs:List Value}{e:TypeId}{fz:Nat}{own:Own}(c:dO ρ b vs e fz own w){off:Nat}(hp:aX vs off cs=some vs')(hr:cU ρ cs xs):
  dO ρ b vs' e fz own (w.setCells b.block (b.base+off) xs):=by
 have hlen:=kA hp;have hle:=jJ hp;have hx:=hr.length;refine ⟨by rw [qh];exact c.shape,by rw [hlen];exact c.fits,λi v hv=>?_,λho i hi hl=>by rw [World.frozen?_setCells];exact c.free ho i hi hl,λho=>by
  obtain ⟨c',lo,hi,h1,h2⟩:=c.bare ho;obtain ⟨c'',h3⟩:=uG b.block xs (b.base+off) w h1;exact ⟨c'',lo,hi,h3,h2⟩⟩
 rw [rH hp] at hv
 by_cases AP:off<=i/\i<off+cs.length
 ·rw [if_pos AP] at hv
  obtain ⟨x,uf,lH⟩:=hr.get hv;obtain ⟨hj,hj'⟩:=List.getElem?_eq_some_iff.1 uf;refine ⟨x,?_,lH⟩;have:=World.cell?_setCells_in b.block xs (b.base+off) w (λj hj=>by
   have:=c.isSome (i:=off+j) (by omega);unfold cZ at this
   rwa [<-Nat.add_assoc] at this) (i - off) hj
  unfold cZ;rw [show b.base+i=b.base+off+(i - off) from by omega,this,hj']
 ·rw [if_neg AP] at hv
  obtain ⟨x,uf,lH⟩:=c.cell i v hv;refine ⟨x,?_,lH⟩;unfold cZ at uf ⊢;rw [World.cell?_setCells_out]
  ·exact uf
  ·intro _ _
   show b.base+i<b.base+off\/b.base+off+xs.length<=b.base+i
   omega
theorem jN {l:Lb}{off:Nat}{cs:List V}{h':H}(hs:eb h l off cs=some h'):
  ∃vs e fz own vs',h.get l=some (.cells vs e fz own)/\own.may=true/\fz<=off/\bd cs=true/\aX vs off cs=some vs'/\h'=h.set l (.cells vs' e fz own):=by
 unfold eb at hs;split at hs
 ·rename_i vs e fz own hg
  simp only [ag,ad,Bool.and_eq_true] at hs;obtain ⟨⟨⟨h1,h2⟩,h3⟩,vs',h4,h5⟩:=hs;cases h5;exact ⟨vs,e,fz,own,vs',hg,h1,Nat.le_of_ble_eq_true h2,h3,h4,rfl⟩
 ·cases hs
theorem aA.store (R:aA B w0 ρ h w){l:Lb}{b:dZ}{off:Nat}{cs:List V}{xs:List Value}{h':H}(hl:ρ l=some b)(hs:eb h l off cs=some h')(hr:cU ρ cs xs):
  (∀P,(storeCells ⟨b.block,b.base+off,none⟩ xs).run P w = .ok () (w.setCells b.block (b.base+off) xs))/\aA B w0 ρ h' (w.setCells b.block (b.base+off) xs):=by
 obtain ⟨vs,e,fz,own,vs',hg,ho,hf,gC,hp,rfl⟩:=jN hs;have c:dO ρ b vs e fz own w:=R.obj l b _ hl hg;have hle:=jJ hp;have hx:=hr.length;have uH:=c.fits;refine ⟨λP=>?_,?_⟩
 ·have:=run_storeCells_cells (P:=P) b.block (b.base+off) xs 0 w (λj hj=>by
    have:=c.isSome (i:=off+j) (by omega);unfold cZ at this
    rwa [<-Nat.add_assoc] at this) (λj hj=>c.free ho _ (by omega) (by omega)) (Fx hr gC)
  simpa using this
 ·obtain ⟨f1,f2,f3,f4,_⟩:=qi b.block xs (b.base+off) w
  exact R.change hl hg ho f1 (λk hk=>iH _ _ _ _ _ hk) f2 f3 f4 (c.put hp hr)
theorem Dz (w:World)(arr:Array Value)(e:TypeId):(w.alloc (.cells arr e)).shape? w.heap.size=some (e,arr.size):=by
 unfold World.shape?;rw [heap_alloc_new]
theorem sW (w:World)(arr:Array Value)(e:TypeId)(i:Nat):(w.alloc (.cells arr e)).cell? ⟨w.heap.size,i,none⟩=arr[i]?:=by
 unfold World.cell?;simp only [heap_alloc_new];simp
theorem BW (w:World)(arr:Array Value)(e:TypeId)(i:Nat):(w.alloc (.cells arr e)).frozen? ⟨w.heap.size,i,none⟩=false:=by
 unfold World.frozen?;simp only [heap_alloc_new];simp
theorem dO.new {vs:List V}{xs rest:List Value}(hr:cU ρ vs xs)(e:TypeId)(fz:Nat)(own:Own){w:World}:
  dO ρ (dZ.mk w.heap.size 0 (xs++rest).length .nilFunc) vs e fz own (w.alloc (.cells ⟨xs++rest⟩ e)):=by
 refine ⟨Dz _ _ _,by have:=hr.length;simp;omega,λi v hv=>?_,λ_ i _ _=>BW _ _ _ _,λ_=>⟨_,0,0,heap_alloc_new _,Nat.zero_le _,Nat.le_refl _⟩⟩;obtain ⟨x,h1,h2⟩:=hr.get hv;refine ⟨x,?_,h2⟩;unfold cZ;rw [sW];have:=(List.getElem?_eq_some_iff.1 h1).1;simp only [Nat.zero_add];have e:(⟨xs++rest⟩:Array Value)[i]? =(xs++rest)[i]?:=by simp
 rw [e,List.getElem?_append_left this,h1]
theorem aA.row (R:aA B w0 ρ h w){vs:List V}{xs:List Value}(hr:cU ρ vs xs)(rest:List Value)(e:TypeId)(fz:Nat)(own:Own):
  aA B w0 (uc ρ h.next (dZ.mk w.heap.size 0 (xs++rest).length .nilFunc)) (h.add (.cells vs e fz own)) (w.alloc (.cells ⟨xs++rest⟩ e)):=
 R.add rfl ⟨rfl,rfl⟩ (dO.new (hr.mono (eI R.fresh)) e fz own)
theorem aA.move (R:aA B w0 ρ h w){l:Lb}{b:dZ}{vs new:List V}{xs:List Value}{e:TypeId}{fz:Nat}{own:Own}(hl:ρ l=some b)(hg:h.get l=some (.cells vs e fz own))(ho:own.may=true)
  {off:Nat} (am6:off<=vs.length) (axE:off=0) (NB:fz<=vs.length) (hr:cU ρ new xs) (gC:bd new=true) (xH:b.base+vs.length+new.length<=b.total):
  (∀P,(storeCells ⟨b.block,b.base+vs.length,none⟩ xs).run P w = .ok () (w.setCells b.block (b.base+vs.length) xs))/\
   aA B w0 (uc ρ h.next (dZ.mk b.block (b.base+off) b.total .nilFunc)) ((h.del l).add (.cells (bB off vs++new) e (fz - off) own)) (w.setCells b.block (b.base+vs.length) xs):=by
 have c:dO ρ b vs e fz own w:=R.obj l b _ hl hg;have hx:=hr.length;have E:jI ρ (uc ρ h.next (dZ.mk b.block (b.base+off) b.total .nilFunc)):=eI R.fresh;have R8:=c.shape;obtain ⟨f1,f2,f3,f4,_⟩:=qi b.block xs (b.base+vs.length) w;have hB:=R.own l b _ hl hg ho;have XC:(h.get l).isSome=true:=by rw [hg];rfl
 have dj:l≠h.next:=λe=>by rw [e,R.fresh] at hl;cases hl
 refine ⟨λP=>?_,?_⟩
 ·have:=run_storeCells_cells (P:=P) b.block (b.base+vs.length) xs 0 w (λj hj=>AO R8 (by omega)) (λj hj=>c.free ho _ (by omega) (by omega)) (Fx hr gC)
  simpa using this
 ·have old:∀m q,m≠h.next->((h.del l).add (.cells (bB off vs++new) e (fz - off) own)).get m=some q->h.get m=some q/\m≠l:=λm q hm hq=>by
   rw [H.ed _ _ (show m≠(h.del l).next from hm)] at hq
   by_cases e':m=l
   ·subst e';rw [H.Dy] at hq;cases hq
   ·rw [H.JL _ e'] at hq;exact ⟨hq,e'⟩
  have self:((h.del l).add (.cells (bB off vs++new) e (fz - off) own)).get h.next=some (.cells (bB off vs++new) e (fz - off) own):=H.kB (h.del l) _;have apart:∀m d q,m≠h.next->ρ m=some d->((h.del l).add (.cells (bB off vs++new) e (fz - off) own)).get m=some q->d.block≠b.block:=λm d q hm hd hq e'=>by
   obtain ⟨h1,h2⟩:=old m q hm hq;exact h2 (R.inj m l d b hd hl (by rw [h1];rfl) XC e')
  refine ⟨λm d q hm hq=>?_,λm d hm=>?_,λm d hm=>?_,λm n d d' hm hn im U0 e'=>?_,λm d q hm hq hw=>?_,by rw [f1];exact R.size,?_⟩
  ·by_cases e':m=h.next
   ·subst e'
    rw [aS] at hm;cases hm;rw [self] at hq;cases hq;refine ⟨by rw [qh];exact R8,by simp [ga];omega,λi v hv=>?_,λ_ i hi pn=>?_,λoe=>?_⟩
    ·by_cases hi:i<vs.length - off
     ·rw [List.getElem?_append_left (by rw [ga];exact hi),pL] at hv
      obtain ⟨x,h1,h2⟩:=c.cell _ v hv;refine ⟨x,?_,h2.mono E⟩;unfold cZ at h1 ⊢;rw [World.cell?_setCells_out]
      ·rw [<-Nat.add_assoc] at h1;exact h1
      ·intro _ _;left;show b.base+off+i<b.base+vs.length;omega
     ·rw [List.getElem?_append_right (by rw [ga];omega),ga] at hv
      obtain ⟨x,h1,h2⟩:=hr.get hv;obtain ⟨hj,hj'⟩:=List.getElem?_eq_some_iff.1 h1;refine ⟨x,?_,h2.mono E⟩;have:=World.cell?_setCells_in b.block xs (b.base+vs.length) w (λj hj=>AO R8 (by omega)) (i - (vs.length - off)) hj;unfold cZ;show (w.setCells b.block (b.base+vs.length) xs).cell? ⟨b.block,b.base+off+i,none⟩=some x
      rw [show b.base+off+i=b.base+vs.length+(i - (vs.length - off)) from by omega,this,hj']
    ·rw [World.frozen?_setCells]
     have ja:b.base+off+(fz - off)<=i:=hi;exact c.free ho i (by omega) pn
    ·obtain ⟨c',lo,hi,h1,h2⟩:=c.bare oe
     obtain ⟨c'',h3⟩:=uG b.block xs (b.base+vs.length) w h1;exact ⟨c'',lo,hi,h3,by show hi<=b.base+off+(fz - off)/\lo<=hi;omega⟩
   ·rw [bW e'] at hm
    have:=apart m d q e' hm hq;exact (R.obj m d q hm (old m q e' hq).1).jh E (iH _ _ _ _ _ this)
  ·by_cases e':m=h.next
   ·subst e';show val h.next<val (inc h.next);rw [iG];omega
   ·rw [bW e'] at hm
    have:=R.lt m d hm;show val m<val (inc h.next)
    rw [iG];omega
  ·by_cases e':m=h.next
   ·subst e';rw [aS] at hm;cases hm;have:=(R.base l b hl).1;exact ⟨by show b.base+off=0;omega,.nil rfl⟩
   ·rw [bW e'] at hm;exact R.base m d hm
  ·obtain ⟨q,hq⟩:=Option.isSome_iff_exists.1 im
   obtain ⟨q',aU⟩:=Option.isSome_iff_exists.1 U0
   by_cases e1:m=h.next
   ·by_cases e2:n=h.next
    ·rw [e1,e2]
    ·rw [bW e2] at hn
     have:=apart n d' q' e2 hn aU;subst e1;rw [aS] at hm;cases hm;exact absurd e'.symm this
   ·rw [bW e1] at hm
    by_cases e2:n=h.next
    ·have:=apart m d q e1 hm hq
     subst e2;rw [aS] at hn;cases hn;exact absurd e' this
    ·rw [bW e2] at hn
     exact R.inj m n d d' hm hn (by rw [(old m q e1 hq).1];rfl) (by rw [(old n q' e2 aU).1];rfl) e'
  ·by_cases e':m=h.next
   ·subst e';rw [aS] at hm;cases hm;exact hB
   ·rw [bW e'] at hm
    exact R.own m d q hm (old m q e' hq).1 hw
  ·exact R.below.trans ⟨f2,f3,f4,by rw [f1];exact Nat.le_refl _,λk hk=>iH _ _ _ _ _ (by omega)⟩
theorem JM (w:World)(r:Nat)(o:Go.Obj):({w with heap:=w.heap.setIfInBounds r o}:World).heap.size=w.heap.size/\∀k,k≠r->({w with heap:=w.heap.setIfInBounds r o}:World).heap[k]? =w.heap[k]?:=
 ⟨by simp,λk hk=>by simp [Ne.symm hk]⟩
theorem aA.setObj (R:aA B w0 ρ h w){l:Lb}{b:dZ}{o p:Obj}{x:Go.Obj}(hl:ρ l=some b)(ho:h.get l=some o)(hw:o.writes=true)
  (hp:∀w':World,w'.heap[b.block]? =some x->sf ρ b w' p):aA B w0 ρ (h.set l p) {w with heap:=w.heap.setIfInBounds b.block x}:=by
 have bA:=(R.obj l b o hl ho).lt;obtain ⟨f1,f2⟩:=JM w b.block x;exact R.change hl ho hw f1 f2 rfl rfl rfl (hp _ (by simp [bA]))
end
end Go.Dx
namespace Go.Dx
open Go Go.RowKit
section operands
variable {ρ:bE} {C:CE} {tm:T V} {a:Act}
structure iU (ρ:bE)(n:Nat)(tm:T V)(tmps:Array Value):Prop where
 size:tmps.size=n
 small:n<=65536
 get:∀t,t<n->RV ρ (bS tm (pathOf t)) (tmps.getD t Go.undef)
def gv (ρ:bE)(G:Nat):Prop:=∀g,g<G->∃n,ρ (pathOf g)=some (dZ.mk g 0 n .nilFunc)
theorem gv.mono {ρ ρ':bE}(e:jI ρ ρ'){G:Nat}(h:gv ρ G):gv ρ' G:=λg hg=>let ⟨n,k⟩:=h g hg;⟨n,e _ _ k⟩
theorem iU.mono {ρ ρ':bE}(e:jI ρ ρ'){n:Nat}{tm:T V}{tmps:Array Value}(h:iU ρ n tm tmps):iU ρ' n tm tmps:=⟨h.size,h.small,λt ht=>(h.get t ht).mono e⟩
theorem NN {v:Value}{d:V}(h:Pe v=some d):RV ρ d v:=by
 unfold Pe at h;split at h<;>first
  | (cases h;first | exact .bool _ | exact .int _ _ | exact .str _ | exact .nilPtr | exact .nilSlice _ | exact .aP | exact .func _ .nil .nil | exact .nilFunc | exact .nilIface | exact .tuple .nil)
  | cases h
theorem JN:∀{vs:List Value} {ds:List V},Dl vs=some ds->cU ρ ds vs
 | [],ds,h=>by simp [Dl] at h;subst h;exact .nil
 | v::vs,ds,h=>by
   simp only [Dl,ad] at h;obtain ⟨d,h1,r,h2,h3⟩:=h;cases h3;exact .cons (NN h1) (JN h2)
theorem qj {v:Value}{d:V}(h:ofConst v=some d):RV ρ d v:=by
 unfold ofConst at h;split at h
 ·simp only [ad] at h
  obtain ⟨ds,h1,h2⟩:=h;cases h2;exact .agg (JN h1)
 ·exact NN h
theorem au (hC:iU ρ C.n tm a.tmps)(hG:gv ρ C.G){x:Operand}{d:X}(h:aw C x=some d):RV ρ (d.ev tm) (a.eval x):=by
 cases x with
 | tmp t=>
   simp only [aw,ag] at h;obtain ⟨h1,h2⟩:=h;cases h2;exact hC.get t (by simpa using h1)
 | const v=>
   simp only [aw,ad] at h;obtain ⟨d',h1,h2⟩:=h;cases h2;exact qj h1
 | global g=>
   simp only [aw,ag] at h;obtain ⟨h1,h2⟩:=h;cases h2;obtain ⟨n,hn⟩:=hG g (by simpa using h1);have:=RV.ptr (ρ:=ρ) 0 hn;show RV ρ (.ptr (pathOf g) 0) (.pointer (some ⟨g,0,none⟩))
   simpa using this
 | func f=>
   simp only [aw,Option.some.injEq] at h;cases h;exact .func f .nil .nil
theorem mz (hC:iU ρ C.n tm a.tmps)(hG:gv ρ C.G):∀{xs:List Operand} {ds:List X},cD C xs=some ds->cU ρ (UX tm ds) (xs.map a.eval)
 | [],ds,h=>by simp [cD] at h;subst h;exact .nil
 | x::xs,ds,h=>by
   simp only [cD,ad] at h;obtain ⟨d,h1,r,h2,h3⟩:=h;cases h3;exact .cons (au hC hG h1) (mz hC hG h2)
inductive Pg (ρ:bE):Option V->Option Value->Prop
 | none:Pg ρ none none
 | some {v:V} {x:Value} (h:RV ρ v x):Pg ρ (some v) (some x)
theorem jO (hC:iU ρ C.n tm a.tmps)(hG:gv ρ C.G){x:Option Operand}{d:Option X}(h:gJ C x=some d):Pg ρ (Rn tm d) (x.map a.eval):=by
 cases x with
 | none=>simp [gJ] at h;subst h;exact .none
 | some x=>
   simp only [gJ,ad] at h;obtain ⟨d',h1,h2⟩:=h;cases h2;exact .some (au hC hG h1)
end operands
section
variable {P:Program} {ρ:bE} {w:World}
theorem xI {t:TypeId}{n:Nat}(h:cd P t=some n):∃i,P.info? t=some i/\i.size=n:=by
 simp only [cd,ad] at h;obtain ⟨i,h1,h2⟩:=h;cases h2;exact ⟨i,h1,rfl⟩
theorem cA {t:TypeId}{n:Nat}(h:cd P t=some n)(w:World):(sizeOf t).run P w = .ok n w:=by
 obtain ⟨i,h1,rfl⟩:=xI h;simp [sizeOf,typeInfo,h1]
theorem fD {t:TypeId}{v:V}(h:fg P t=some v):∃x,RV ρ v x/\∀w,(zeroValue t).run P w = .ok x w:=by
 simp only [fg,ad] at h;obtain ⟨i,h1,z,h2,h3⟩:=h;exact ⟨z,qj h3,λw=>by simp [zeroValue,typeInfo,h1,h2]⟩
theorem DA {x:Value}(h:x.oneCell'=true):x.cells = #[x]:=by
 cases x<;>first | rfl | simp [Value.oneCell'] at h
theorem RV.cells {v:V}{x:Value}(h:RV ρ v x):cU ρ v.cells x.cells.toList:=by
 cases h with
 | agg h=>exact h
 | bool b=>exact .cons (.bool b) .nil
 | int k n=>exact .cons (.int k n) .nil
 | str t=>exact .cons (.str t) .nil
 | nilPtr=>exact .cons .nilPtr .nil
 | ptr off h=>exact .cons (.ptr off h) .nil
 | nilSlice c=>exact .cons (.nilSlice c) .nil
 | slice off len c h=>exact .cons (.slice off len c h) .nil
 | sliceEnd off len size c h hl hc=>exact .cons (.sliceEnd off len size c h hl hc) .nil
 | aP=>exact .cons .aP .nil
 | map h=>exact .cons (.map h) .nil
 | func f ha hb=>exact .cons (.func f ha hb) .nil
 | nilFunc=>exact .cons .nilFunc .nil
 | iface t h=>exact .cons (.iface t h) .nil
 | nilIface=>exact .cons .nilIface .nil
 | tuple h=>exact .cons (.tuple h) .nil
 | sym h ht hv=>rw [DA (zh hv)];exact .cons (.sym h ht hv) .nil
 | any h=>rw [DA (zh h)];exact .cons (.any h) .nil
 | empty a c=>exact .cons (.empty a c) .nil
 | lG h1 h2=>exact .cons (.lG h1 h2) .nil
theorem Ph {t:TypeId}{rd:Rd}(h:NJ P t=some rd):
  (rd = .one/\∀w,(isAgg t).run P w = .ok false w)\/(∃n,rd = .many n/\cd P t=some n/\∀w,(isAgg t).run P w = .ok true w):=by
 unfold NJ at h;split at h
 ·rename_i fs hu
  simp only [ad] at h;obtain ⟨n,h1,h2⟩:=h;cases h2;exact .inr ⟨n,rfl,h1,λw=>by simp [isAgg,run_underlying hu]⟩
 ·rename_i n e hu
  simp only [ad] at h;obtain ⟨n,h1,h2⟩:=h;cases h2;exact .inr ⟨n,rfl,h1,λw=>by simp [isAgg,run_underlying hu]⟩
 ·rename_i d CT hna hu
  cases h;refine .inl ⟨rfl,λw=>?_⟩;cases d with
  | struct fs=>exact absurd rfl (CT fs)
  | array n e=>exact absurd rfl (hna n e)
  | _=>simp [isAgg,run_underlying hu]
 ·cases h
theorem dq:∀(n:Nat) (vs:List V),bB n vs=vs.drop n
 | 0,vs=>by simp [bB]
 | n+1,[]=>by simp [bB]
 | n+1,v::vs=>by simp [bB,dq n vs]
theorem zj {t:TypeId}{rd:Rd}(ht:NJ P t=some rd){cs:List V}{xs:List Value}(hr:cU ρ cs xs){off:Nat}{v:V}(h:dI rd cs off=some v):
  ∃x,RV ρ v x/\∀w,(part t ⟨xs⟩ off).run P w = .ok x w:=by
 rcases Ph ht with ⟨rfl,ha⟩ | ⟨n,rfl,hs,ha⟩
 ·simp only [dI] at h
  rw [dq,List.head?_drop] at h;obtain ⟨x,h1,h2⟩:=hr.get h;exact ⟨x,h2,λw=>by simp [part,ha,h1]⟩
 ·simp only [dI,ad] at h
  obtain ⟨r,h1,h2⟩:=h;cases h2;obtain ⟨h3,h4⟩:=hr.rowFrom h1;refine ⟨_,.agg h3,λw=>?_⟩;have hx:(⟨xs⟩:Array Value).extract off (off+n)=⟨(xs.drop off).take n⟩:=by
   apply Array.ext';simp
  simp [part,ha,cA hs]
end
theorem qk:∀{a b:List Nat},eV a b=true<->a=b
 | [],[]=>by simp [eV]
 | [],_::_=>by simp [eV]
 | _::_,[]=>by simp [eV]
 | a::x,b::y=>by simp [eV,qk (a:=x) (b:=y)]
theorem jM (a b:List Nat):eV a b=(a==b):=by
 rw [Bool.eq_iff_iff,qk,beq_iff_eq]
theorem U1 {s t:ByteArray}(h:ax s=ax t):s=t:=by
 unfold ax at h;have h2:s.data.toList=t.data.toList:=by
  have:=congrArg (List.map UInt8.ofNat) h;simpa [List.map_map,Function.comp_def] using this
 cases s with | mk s=>cases t with | mk t=>
 cases s with | mk s=>cases t with | mk t=>
 simp at h2;rw [h2]
theorem NO (s t:ByteArray):eV (ax s) (ax t)=(s.data.toList==t.data.toList):=by
 rw [jM,Bool.eq_iff_iff,beq_iff_eq,beq_iff_eq];refine ⟨λh=>?_,λh=>by unfold ax;rw [h]⟩;rw [U1 h]
theorem G1:∀(a b:List UInt8),gq (a.map (·.toNat)) (b.map (·.toNat))=Op.bytesLess a b
 | _,[]=>by simp [gq,Op.bytesLess]
 | [],_::_=>by simp [gq,Op.bytesLess]
 | a::x,b::y=>by
   simp only [List.map_cons,gq,Op.bytesLess,G1 x y];have h1:Nat.blt a.toNat b.toNat=decide (a<b):=by
    rw [Bool.eq_iff_iff,decide_eq_true_iff,UInt8.lt_iff_toNat_lt];simp
   have h2:Nat.beq a.toNat b.toNat=(a==b):=by
    rw [Bool.eq_iff_iff,beq_iff_eq,Nat.beq_eq];exact UInt8.toNat_inj
   rw [h1,h2]
theorem BX {j k:IntKind}:Fq j k=true<->j=k:=by cases j<;>cases k<;>simp [Fq]
theorem bO (a b:Int):oN a b=(a==b):=by
 rw [Bool.eq_iff_iff,beq_iff_eq];cases a<;>cases b<;>simp [oN]<;>omega
theorem cn (a b:Int):ko a b=decide (a<b):=by
 rw [Bool.eq_iff_iff,decide_eq_true_iff];cases a<;>cases b<;>simp [ko]<;>omega
theorem NP {top:Nat}(ht:0<top):∀n:Int,(iT top n:Int)=n % (top:Int)
 | .ofNat m=>by simp [iT]
 | .negSucc m=>by
   have h1:=Nat.mod_lt m ht;show ((top - 1 - m % top:Nat):Int)=Int.negSucc m % (top:Int)
   rw [Int.negSucc_emod _ (by omega)];omega
theorem Fy {top:Nat}(ht:0<top):∀n:Int,iT top n<top
 | .ofNat m=>Nat.mod_lt _ ht
 | .negSucc m=>by have:=Nat.mod_lt m ht;simp only [iT];omega
theorem IK.JO (k:IntKind):IK.top k=2 ^ k.bits:=by cases k<;>rfl
theorem IK.afp (k:IntKind):IK.half k=2 ^ (k.bits - 1):=by cases k<;>rfl
theorem IK.aiT (k:IntKind):IK.sgn k=k.signed:=by cases k<;>rfl
theorem IK.Pj (k:IntKind):0<IK.top k:=by cases k<;>decide
theorem NQ (k:IntKind):bitsOf k=k.bits:=by cases k<;>rfl
theorem JP (k:IntKind){m:Nat}(hm:m<IK.top k):Dm (IK.sgn k) (IK.half k) (IK.top k) m=k.wrap (m:Int):=by
 have e:(m:Int) % (2 ^ k.bits:Int)=m:=by
  have:(2 ^ k.bits:Int)=((IK.top k:Nat):Int):=by rw [IK.JO];simp
  rw [this];exact Int.emod_eq_of_lt (by omega) (by omega)
 unfold Dm IntKind.wrap;simp only [e,IK.aiT];have hh:(2 ^ (k.bits - 1):Int)=((IK.half k:Nat):Int):=by rw [IK.afp];simp
 have ht:(2 ^ k.bits:Int)=((IK.top k:Nat):Int):=by rw [IK.JO];simp
 rw [hh,ht]
 by_cases hs:k.signed=true
 ·by_cases hb:IK.half k<=m
  ·have:Nat.ble (IK.half k) m=true:=by rw [Nat.ble_eq];exact hb
   simp [hs,this];rw [if_pos (by omega)];omega
  ·have:Nat.ble (IK.half k) m=false:=by rw [<-Bool.not_eq_true,Nat.ble_eq];exact hb
   simp [hs,this];intro h;exact absurd h hb
 ·simp [Bool.not_eq_true] at hs
  simp [hs]
theorem ab2 (k:IntKind)(n:Int):k.wrap (n % (2 ^ k.bits:Int))=k.wrap n:=by
 unfold IntKind.wrap;simp
theorem eJ (k:IntKind)(n:Int):bR k n=k.wrap n:=by
 unfold bR;rw [JP k (Fy (IK.Pj k) n),NP (IK.Pj k)];have ht:((IK.top k:Nat):Int)=(2 ^ k.bits:Int):=by rw [IK.JO];simp
 rw [ht,ab2]
theorem G2 (k:IntKind)(n:Int):(BitVec.ofInt k.bits n).toNat=iT (IK.top k) n:=by
 have:=NP (IK.Pj k) n;have ht:((IK.top k:Nat):Int)=(2 ^ k.bits:Int):=by rw [IK.JO];simp
 rw [BitVec.toNat_ofInt];rw [ht] at this;have e:((2 ^ k.bits:Nat):Int)=(2 ^ k.bits:Int):=by simp
 rw [e,<-this];simp
theorem DB (k:IntKind)(x y:Int)(f:Nat->Nat->Nat) (g:BitVec k.bits->BitVec k.bits->BitVec k.bits)
  (h:∀a b:BitVec k.bits,(g a b).toNat=f a.toNat b.toNat):ND f k x y = .int k (k.wrap (g (BitVec.ofInt k.bits x) (BitVec.ofInt k.bits y)).toNat):=by
 unfold ND;have e:=h (BitVec.ofInt k.bits x) (BitVec.ofInt k.bits y);rw [G2,G2] at e;have bA:f (iT (IK.top k) x) (iT (IK.top k) y)<IK.top k:=by rw [<-e,IK.JO];exact BitVec.isLt _
 rw [JP k bA,e]
end Go.Dx
namespace Go.Dx
open Go Go.RowKit
section
variable {P:Program} {ρ:bE}
def vR (P:Program)(ρ:bE)(v:V)(s:Sem Value):Prop:=∃x,RV ρ v x/\∀w,s.run P w = .ok x w
theorem vR.pure {v:V}{x:Value}(h:RV ρ v x):vR P ρ v (Pure.pure x):=⟨x,h,λ_=>rfl⟩
theorem np {op:BinOp}{k:IntKind}{a b:Int}{v:V}(h:ct op k a b=some v)(h1:op≠.shl)(h2:op≠.shr)(t:TypeId):
  vR P ρ v (Go.binOp op t (.int k a) (.int k b)):=by
 cases op
 case shl=>exact absurd rfl h1
 case shr=>exact absurd rfl h2
 case add=>simp only [ct,Option.some.injEq] at h;subst h;refine ⟨_,.int _ _,λw=>?_⟩;simp [Go.binOp,Op.intArith,eJ]
 case sub=>simp only [ct,Option.some.injEq] at h;subst h;refine ⟨_,.int _ _,λw=>?_⟩;simp [Go.binOp,Op.intArith,eJ]
 case mul=>simp only [ct,Option.some.injEq] at h;subst h;refine ⟨_,.int _ _,λw=>?_⟩;simp [Go.binOp,Op.intArith,eJ]
 case quo=>
  simp only [ct,ag,Option.some.injEq,bO] at h;obtain ⟨hb,h⟩:=h;subst h;refine ⟨_,.int _ _,λw=>?_⟩;have:b≠0:=by simpa using hb
  simp [Go.binOp,Op.intDiv,eJ,this]
 case rem=>
  simp only [ct,ag,Option.some.injEq,bO] at h;obtain ⟨hb,h⟩:=h;subst h;refine ⟨_,.int _ _,λw=>?_⟩;have:b≠0:=by simpa using hb
  simp [Go.binOp,Op.intDiv,this]
 case and=>
  simp only [ct,Option.some.injEq] at h;rw [DB k a b _ (λa b=>a &&& b) (λa b=>by rw [BitVec.toNat_and];rfl)] at h;subst h;exact ⟨_,.int _ _,λw=>by simp [Go.binOp,Op.intBits]⟩
 case or=>
  simp only [ct,Option.some.injEq] at h;rw [DB k a b _ (λa b=>a ||| b) (λa b=>by rw [BitVec.toNat_or];rfl)] at h;subst h;exact ⟨_,.int _ _,λw=>by simp [Go.binOp,Op.intBits]⟩
 case xor=>
  simp only [ct,Option.some.injEq] at h;rw [DB k a b _ (λa b=>a ^^^ b) (λa b=>by rw [BitVec.toNat_xor];rfl)] at h;subst h;exact ⟨_,.int _ _,λw=>by simp [Go.binOp,Op.intBits]⟩
 case andNot=>
  simp only [ct,Option.some.injEq] at h;rw [DB k a b _ (λa b=>a &&& ~~~b) (λa b=>by
   have:a &&& ~~~b=a ^^^ (a &&& b):=by
    apply BitVec.eq_of_getLsbD_eq;intro i hi;simp [hi];cases a[i]<;>cases b[i]<;>rfl
   rw [this,BitVec.toNat_xor,BitVec.toNat_and];rfl)] at h
  subst h;exact ⟨_,.int _ _,λw=>by simp [Go.binOp,Op.intBits]⟩
 case eql=>simp only [ct,Option.some.injEq,bO] at h;subst h;exact ⟨_,.bool _,λw=>by simp [Go.binOp,Op.intCmp]⟩
 case neq=>simp only [ct,Option.some.injEq,bO] at h;subst h;exact ⟨_,.bool _,λw=>by simp [Go.binOp,Op.intCmp,bne]⟩
 case lss=>simp only [ct,Option.some.injEq,cn] at h;subst h;exact ⟨_,.bool _,λw=>by simp [Go.binOp,Op.intCmp]⟩
 case leq=>
  simp only [ct,Option.some.injEq,cn] at h;subst h;refine ⟨_,.bool _,λw=>?_⟩;have:(!decide (b<a))=decide (a<=b):=by rw [Bool.eq_iff_iff];simp
  simp only [Go.binOp,Op.intCmp,this];simp
 case gtr=>simp only [ct,Option.some.injEq,cn] at h;subst h;exact ⟨_,.bool _,λw=>by simp [Go.binOp,Op.intCmp]⟩
 case geq=>
  simp only [ct,Option.some.injEq,cn] at h;subst h;refine ⟨_,.bool _,λw=>?_⟩;have:(!decide (a<b))=decide (a>=b):=by rw [Bool.eq_iff_iff];simp
  simp only [Go.binOp,Op.intCmp,this];simp
theorem JQ {op:BinOp}{k j:IntKind}{a b:Int}{v:V}(h:Iv op k a b=some v)(t:TypeId):vR P ρ v (Go.binOp op t (.int k a) (.int j b)):=by
 unfold Iv at h;cases b with
 | negSucc n=>simp at h
 | ofNat n=>
   cases a with
   | negSucc m=>cases op<;>simp at h
   | ofNat m=>
     cases op<;>simp only [Option.some.injEq,reduceCtorEq] at h
     case shl=>
      have e:Nat.shiftLeft m (Nat.min n k.bits)=m*2 ^ (min n k.bits):=by rw [show Nat.shiftLeft m (Nat.min n k.bits)=m <<<(min n k.bits) from rfl,Nat.shiftLeft_eq]
      rw [NQ,e,eJ] at h;subst h;refine ⟨_,.int _ _,λw=>?_⟩;have hn:¬((n:Nat):Int)<0:=by omega
      simp [Go.binOp,Op.shift,hn]
     case shr=>
      have e:Nat.shiftRight m (Nat.min n k.bits)=m / 2 ^ (min n k.bits):=by rw [show Nat.shiftRight m (Nat.min n k.bits)=m >>>(min n k.bits) from rfl,Nat.shiftRight_eq_div_pow]
      rw [NQ,e] at h;subst h;refine ⟨_,.int _ _,λw=>?_⟩;have hn:¬((n:Nat):Int)<0:=by omega
      have h2:(0:Int)<=2 ^ (min n k.bits):=Int.le_of_lt (Int.pow_pos (by decide));simp [Go.binOp,Op.shift,hn,Int.fdiv_eq_ediv_of_nonneg _ h2]
theorem cw (s:ByteArray):(ax s).length=s.size:=by simp [ax]
theorem Mm (s t:ByteArray):ax (s++t)=ax s++ax t:=by
 unfold ax;rw [Go.Joins.data_append];simp
theorem ab3 {op:BinOp}{s t:ByteArray}{v:V}(h:GX op (ax s) (ax t)=some v)(ty:TypeId):vR P ρ v (Go.binOp op ty (.string s) (.string t)):=by
 have e1:eV (ax s) (ax t)=(s.toList==t.toList):=by rw [NO,ByteArray.toList_eq,ByteArray.toList_eq]
 have e2:gq (ax s) (ax t)=Op.bytesLess s.toList t.toList:=by unfold ax;rw [G1,ByteArray.toList_eq,ByteArray.toList_eq]
 cases op<;>simp only [GX,Option.some.injEq,reduceCtorEq,e1,e2,ag] at h
 case add=>
  obtain ⟨hb,h⟩:=h;rw [<-Mm] at h;subst h;refine ⟨_,.str _,λw=>?_⟩;have G3:(ax s).length+(ax t).length<9223372036854775807:=by simpa using hb
  rw [cw,cw] at G3;have:¬((s.size+t.size:Nat):Int)>IntKind.i64.max:=by rw [IntKind.max_i64];omega
  simp only [Go.binOp,Op.stringOp,if_neg this];rfl
 all_goals (subst h;exact ⟨_,.bool _,λw=>by simp [Go.binOp,Op.stringOp]⟩)
theorem bytes_beq (s t:ByteArray):(s==t)=(s.data.toList==t.data.toList):=by
 show ByteArray.beq s t=_
 unfold ByteArray.beq;rw [Bool.eq_iff_iff,beq_iff_eq,beq_iff_eq];exact ⟨λh=>by rw [h],λh=>by
  cases s with | mk s=>cases t with | mk t=>cases s with | mk s=>cases t with | mk t=>simp at h;rw [h]⟩
theorem JR (a b:Bool):mO a b=(a==b):=by cases a<;>cases b<;>rfl
theorem pN {pk:PK}{v u:V}{x y:Value}{b:Bool}(hv:RV ρ v x)(hu:RV ρ u y)(h:gY pk v u=some b):
  (pk = .bool/\∃c d,x = .bool c/\y = .bool d/\b=(c==d))\/(pk = .int/\∃k c d,x = .int k c/\y = .int k d/\b=(c==d))\/(pk = .str/\∃s t:ByteArray,x = .string s/\y = .string t/\b=(s==t)):=by
 cases pk with
 | bool=>
   simp only [gY] at h;split at h
   ·cases hv;cases hu
    cases h;exact .inl ⟨rfl,_,_,rfl,rfl,JR _ _⟩
   ·cases h
 | int=>
   simp only [gY] at h;split at h
   ·cases hv;cases hu
    simp only [ag,BX,Option.some.injEq] at h;obtain ⟨rfl,h⟩:=h;exact .inr (.inl ⟨rfl,_,_,_,rfl,rfl,by rw [<-h,bO]⟩)
   ·cases h
 | str=>
   simp only [gY] at h;split at h
   ·cases hv with | str s=>cases hu with | str t=>
    simp only [Option.some.injEq] at h;exact .inr (.inr ⟨rfl,s,t,rfl,rfl,by rw [<-h,NO,bytes_beq]⟩)
   ·cases h
 | no=>simp [gY] at h
end
end Go.Dx
