/-
  The client's laws. Part ZAG of the proof: The deterministic machine over labels against the model: append, copy, texts and bytes.
-/
import Derived.Test.YtdjlhmmfplhhdaaGreatDoorZAF
namespace Go.Dx
open Go Go.RowKit
variable{kn:IntKind}{size n k:Nat}{vs cs:List V}{u:TypeId}{ts:Array TypeId}{s:X}{w w0:World}{y:Operand}{h:H}{ρ:bD}
section
variable {P:Program} {B:Nat} {w0:World} {ρ ρ':bD} {h h':H} {w:World}
structure adn (P:Program)(w:World)(t tx ty e:TypeId)(i:TypeInfo)(z:Value)(x:Value)(n:Nat)(news:List Value):Prop where
 room:∀(base:Option Addr) (pQ wE:Nat),pQ+n<=wE->(Builtin.append_ #[t,tx] ty #[.slice base pQ wE,x]).run P w=
  ((do (match base with | some a=>storeCells (a.add (pQ*i.size)) news | none=>pure ());pure (Value.slice base (pQ+n) wE)):Sem Value).run P w
 grow:∀(base:Option Addr) (pQ wE:Nat) (ado:List Value),0<n->(Builtin.firstCells i.size pQ (.slice base pQ wE)).run P w.drew = .ok ado.toArray w.drew->wE<pQ+n->((pQ+n:Nat):Int)<=9223372036854775807->
  Builtin.nextslicecap (pQ+n) wE*i.bytes<=281474976710656->(Builtin.append_ #[t,tx] ty #[.slice base pQ wE,x]).run P w=
   .ok (.slice (some ⟨w.heap.size,0,none⟩) (pQ+n) (grownCap w (pQ+n) wE e)) (w.drew.alloc (.cells ((ado++news).toArray++Builtin.zeroCells z.cells (grownCap w (pQ+n) wE e - (pQ+n))) e))
theorem OO (t tx r e:TypeId)(i:TypeInfo)(z:Value)(l:P.underlying t=some (.slice e))(hi:P.info? e=some i)(s:i.zero=some z)(b:(∃g,P.underlying tx=some (.slice g))\/P.underlying tx=some .string)
  (x:Value) (n:Nat) (news:List Value) (a:∀w':World,(Builtin.lenOf x).run P w' = .ok n w') (m:(Builtin.firstCells i.size n x).run P w = .ok news.toArray w) (f:(Builtin.firstCells i.size n x).run P w.drew = .ok news.toArray w.drew):
  adn P w t tx r e i z x n news:=by
 refine ⟨λbase d j u=>?_,λbase d j q Qr c v p y=>?_⟩
 ·rcases b with ⟨g,b⟩ | b<;>cases base<;>simp [Builtin.append_,run_underlying l,run_underlying b,sizeOf,typeInfo,hi,a,u,m]
 ·have o:¬(d+n<=j):=by omega
  have k:¬(9223372036854775807<((d:Int)+(n:Int))):=by omega
  have h:¬(281474976710656<Builtin.nextslicecap (d+n) j*i.bytes):=by omega
  rcases b with ⟨g,b⟩ | b<;>
   (simp [Builtin.append_,run_underlying l,run_underlying b,sizeOf,typeInfo,zeroValue,hi,s,a,o,k,h,Question.forced,f,c,newRow,grownCap]
    congr 2
    apply Array.ext';simp [List.append_assoc])
theorem TL (t tx o e:TypeId)(i:TypeInfo)(z:Value)(h:P.underlying t=some (.slice e))(hi:P.info? e=some i)(d:i.zero=some z)(c:P.underlying tx=some (.int kn))(h0:0<i.size)
  (n:Nat) (s:n*i.bytes<=281474976710656) (r:(n:Int)<=9223372036854775807):adn P w t tx o e i z (.int .i64 n) n (Builtin.zeroCells z.cells n).toList:=by
 have q:IntKind.i64.wrap (n:Int)=n:=by rw [IntKind.wrap_i64];omega
 have f:¬(281474976710656<(n:Int)*(i.bytes:Int)):=by
  rw [<-Int.natCast_mul];omega
 have k:¬((n:Int)<0):=by omega
 refine ⟨λbase l m p=>?_,λbase l m j Qr b u g x=>?_⟩
 ·by_cases fg:n=0
  ·subst fg
   have Yx:IntKind.i64.wrap 0=0:=q;have v:l<=m:=p;cases base<;>simp [Builtin.append_,run_underlying h,run_underlying c,sizeOf,typeInfo,zeroValue,hi,d,asInt,asIntOf,Yx,v,Builtin.zeroCells,storeCells]
  ·have Ds:¬(n*i.size=0):=Nat.mul_ne_zero fg (by omega)
   cases base<;>simp [Builtin.append_,run_underlying h,run_underlying c,sizeOf,typeInfo,zeroValue,hi,d,asInt,asIntOf,q,k,Ds,f,p]
 ·have:=Lib.run_append_grow_zeros (P:=P) w t tx o e i z .i64 kn h c hi d base l m j b n Qr h0 u g s x
  rw [this]
  congr 2
  apply congrArg (λa=>Go.Obj.cells a e);apply Array.ext';simp [List.append_assoc]
theorem dE.first {b:ej}{r:List V}{e:TypeId}{i:Nat}{a:Own}(c:dE ρ b vs e i a w){off:Nat}(k:rowFrom vs off (n*size)=some r):
  ∃xs:List Value,cZ ρ r xs/\xs.length=n*size/\∀len cap,(Builtin.firstCells size n (.slice (some ⟨b.block,b.base+off,none⟩) len cap)).run P w = .ok xs.toArray w/\
   (Builtin.firstCells size n (.slice (some ⟨b.block,b.base+off,none⟩) len cap)).run P w.drew = .ok xs.toArray w.drew:=by
 obtain ⟨xs,h,d,g⟩:=c.range k;refine ⟨xs,h,d,λlen cap=>⟨?_,?_⟩⟩
 ·exact run_firstCells_some w size n _ len cap xs d λj v f=>by rw [dk];exact g j v f
 ·exact run_firstCells_some w.drew size n _ len cap xs d λj v f=>by rw [dk,World.cell?_drew];exact g j v f
theorem Qs {z:V}{x:Value}(a:RV ρ z x){s:Nat}(hs:z.cells.length=s)(h0:0<s)(n:Nat):cZ ρ (aH z.cells n) (Builtin.zeroCells x.cells n).toList:=by
 have:=a.cells.repeat hs h0 n;have b:x.cells.size=s:=by have:=a.cells.length;simp at this;omega
 unfold Builtin.zeroCells;simp only [b] at this ⊢;exact this
theorem aA.grown (R:aA B w0 ρ h w){xs:List Value}(f:cZ ρ vs xs){need old:Nat}{e:TypeId}{z:Value}(i:xs.length=need*size)(d:z.cells.size=size)(b:Nat)(a:Own):
  aA B w0 (uG ρ h.next (ej.mk w.heap.size 0 (grownCap w need old e*size) .nilFunc)) (h.add (.cells vs e b a)) (w.drew.alloc (.cells (xs.toArray++Builtin.zeroCells z.cells (grownCap w need old e - need)) e)):=by
 have j:=grownCap_ge w need old e;have R':=(R.drew).row f (Builtin.zeroCells z.cells (grownCap w need old e - need)).toList e b a;have c:(xs++(Builtin.zeroCells z.cells (grownCap w need old e - need)).toList).length=grownCap w need old e*size:=by
  have:=size_zeroCells z.cells (grownCap w need old e - need);simp only [List.length_append,Array.length_toList,this,i,d];rw [<-Nat.add_mul];congr 1;omega
 have g:(⟨xs++(Builtin.zeroCells z.cells (grownCap w need old e - need)).toList⟩:Array Value)=xs.toArray++Builtin.zeroCells z.cells (grownCap w need old e - need):=by
  apply Array.ext';simp
 rw [c,g] at R';exact R'
theorem OP {t tx ty e:TypeId}{i:TypeInfo}{z sx x:Value}{bytes:Nat}{news:List Value}{new:List V}{s v:V}(q:adn P w t tx ty e i z x n news)(Y:i.size=size)(T:i.bytes=bytes)(h0:0<size)(fC:0<bytes)(W:z.cells.size=size)
  (R:aA B w0 ρ h w) (hs:RV ρ s sx) (o:cZ ρ new news) (D:new.length=n*size) (a:eR h e size bytes s n new=some (v,h')):
  ∃ρ' y w',Step ρ ρ' h h'/\RV ρ' v y/\aA B w0 ρ' h' w'/\(Builtin.append_ #[t,tx] ty #[sx,x]).run P w = .ok y w':=by
 subst Y T;have I:news.length=n*i.size:=by rw [<-o.length,D]
 have r:∀{len c:Nat},4*(len+n)*i.bytes<=jE->c<len+n->((len+n:Nat):Int)<=9223372036854775807/\Builtin.nextslicecap (len+n) c*i.bytes<=281474976710656:=λ{len c} f d=>by
  have f:4*(len+n)*i.bytes<=562949953421312:=f;have N:=nextslicecap_le d;have h2:Builtin.nextslicecap (len+n) c*i.bytes<=2*(len+n)*i.bytes:=Nat.mul_le_mul_right _ N;have h3:4*(len+n)*1<=4*(len+n)*i.bytes:=Nat.mul_le_mul_left _ fC;have h4:4*(len+n)*i.bytes=2*(len+n)*i.bytes+2*(len+n)*i.bytes:=by
   rw [<-Nat.add_mul];congr 1;omega
  omega
 unfold eR at a;split at a
 ·rename_i c
  cases hs;split at a
  ·rename_i d
   have d:=Nat.le_of_ble_eq_true d;simp only [ai,Option.some.injEq,Prod.mk.injEq] at a;obtain ⟨j,rfl,rfl⟩:=a;have j:n=0:=Nat.eq_of_beq_eq_true j;subst j;refine ⟨ρ,_,w,Step.refl _ _,.nilSlice c,R,?_⟩;rw [q.room none 0 c (by omega)]
   rfl
  ·rename_i d
   have d:¬n<=c:=λh=>by have:=Nat.ble_eq_true_of_le h;rw [this] at d;cases d
   simp only [ai,Option.some.injEq,Prod.mk.injEq] at a;obtain ⟨f,rfl,rfl⟩:=a;have f:=Nat.le_of_ble_eq_true f;obtain ⟨F,C⟩:=r (len:=0) (c:=c) (by simpa using f) (by omega);have A:=q.grow none 0 c [] (by omega) (run_firstCells_none w.drew _ 0 0 c) (by omega) F C;have R':=R.grown (need:=0+n) (old:=c) (size:=i.size) (e:=e) (z:=z) o (by simpa using I) W 0 .yes;refine ⟨_,_,_,Step.add _ _ _ _,.sliceEnd 0 n i.size (grownCap w (0+n) c e) (aU _ _ _) ?_ ?_,R',?_⟩
   ·have:=grownCap_ge w (0+n) c e;omega
   ·simp
   ·rw [A];simp
 ·rename_i l off len cap
  simp only [ai] at a;obtain ⟨f,a⟩:=a;have f:=Nat.le_of_ble_eq_true f;split at a
  ·rename_i c
   cases hs with
   | slice _ _ _ hb=>
   rename_i b;split at a
   ·rename_i d
    have d:=Nat.le_of_ble_eq_true d;simp only [ad,Option.some.injEq,Prod.mk.injEq] at a;obtain ⟨N,Bx,rfl,rfl⟩:=a;obtain ⟨X,M⟩:=R.store hb Bx o;obtain ⟨_,_,_,_,_,_,_,_,_,_,rfl⟩:=iJ Bx;refine ⟨ρ,_,_,Step.same rfl,.slice off (len+n) c hb,M,?_⟩;rw [q.room _ _ _ d];simp only [Sem.run_bind,dk,Nat.add_assoc,X P,Result.andThen_ok,Sem.run_pure]
   ·rename_i d
    have d:¬len+n<=c:=λh=>by have:=Nat.ble_eq_true_of_le h;rw [this] at d;cases d
    split at a
    ·rename_i vs k G g A
     simp only [ai,ad,Option.some.injEq,Prod.mk.injEq] at a;obtain ⟨j,old,J,rfl,rfl⟩:=a;have j:0<n:=by simpa using j
     obtain ⟨F,C⟩:=r (len:=len) (c:=c) f (by omega);have cr:dE ρ b vs k G g w:=R.obj l b _ hb A;obtain ⟨xs,K,U,O⟩:=cr.first (P:=P) J;have p:=q.grow (some ⟨b.block,b.base+off,none⟩) len c xs j (O len c).2 (by omega) F C;have R':=R.grown (need:=len+n) (old:=c) (size:=i.size) (e:=e) (z:=z) (K.append o) (by simp [U,I,Nat.add_mul]) W 0 .yes;refine ⟨_,_,_,Step.add _ _ _ _,.sliceEnd 0 (len+n) i.size (grownCap w (len+n) c e) (aU _ _ _) (grownCap_ge w (len+n) c e) (by simp),R',?_⟩;rw [p]
    ·cases a
  ·rename_i es
   cases hs with
   | sliceEnd _ _ _ c hb Qt wB=>
   rename_i b;simp only [ai] at a;obtain ⟨S,a⟩:=a;have S:es=i.size:=Nat.eq_of_beq_eq_true S;subst S;split at a
   ·rename_i vs k G g A
    simp only [ai,Bool.and_eq_true] at a;obtain ⟨⟨gI,Q⟩,a⟩:=a;have Q:k=e:=Nat.eq_of_beq_eq_true Q;subst Q;have cr:dE ρ b vs k G g w:=R.obj l b _ hb A;have azg:=cr.fits;have qx:=(R.base l b hb).1;split at a
    ·rename_i AA
     have AA:=Nat.le_of_ble_eq_true AA;simp only [ad,Option.some.injEq,Prod.mk.injEq] at a;obtain ⟨N,Bx,rfl,rfl⟩:=a;obtain ⟨X,M⟩:=R.store hb Bx o;obtain ⟨_,_,_,_,_,_,_,_,_,_,rfl⟩:=iJ Bx;have d:len+n<=c:=by
      have:(len+n)*i.size<=c*i.size:=by omega
      exact Nat.le_of_mul_le_mul_right this h0
     refine ⟨ρ,_,_,Step.same rfl,.sliceEnd off (len+n) i.size c hb d wB,M,?_⟩;rw [q.room _ _ _ d];simp only [Sem.run_bind,dk,Nat.add_assoc,X P,Result.andThen_ok,Sem.run_pure]
    ·simp only [ai,Option.some.injEq,Prod.mk.injEq,Bool.and_eq_true] at a
     obtain ⟨⟨⟨⟨u,E⟩,Tb⟩,fK⟩,rfl,rfl⟩:=a;have u:off=0:=Nat.eq_of_beq_eq_true u;have E:off+len*i.size=vs.length:=Nat.eq_of_beq_eq_true E;have Tb:=Nat.le_of_ble_eq_true Tb;subst u;have Z:vs.length=len*i.size:=by omega
     by_cases d:len+n<=c
     ·have xX:b.base+vs.length+new.length<=b.total:=by
       have:(len+n)*i.size<=c*i.size:=Nat.mul_le_mul_right _ d;rw [Nat.add_mul] at this;omega
      obtain ⟨m1,m2⟩:=R.move hb A gI (off:=0) (by omega) rfl Tb o fK xX;refine ⟨_,_,_,⟨λm f=>ca λL=>?_,?_⟩,.sliceEnd 0 (len+n) i.size c (aU _ _ _) d (by show b.base+0+0+c*i.size=b.total;omega),m2,?_⟩
      ·rw [L] at f;exact absurd f (Nat.lt_irrefl _)
      ·show val h.next<=val (inc h.next);rw [jc];omega
      ·rw [q.room _ _ _ d]
       have e1:b.base+0+len*i.size=b.base+vs.length:=by omega
       simp only [Sem.run_bind,dk,e1,m1 P,Result.andThen_ok,Sem.run_pure]
     ·have j:0<n:=by omega
      obtain ⟨F,C⟩:=r (len:=len) (c:=c) f (by omega);have J:rowFrom vs 0 (len*i.size)=some vs:=by
       rw [<-Z];exact qk vs
      obtain ⟨xs,K,U,O⟩:=cr.first (P:=P) J;have p:=q.grow (some ⟨b.block,b.base+0,none⟩) len c xs j (O len c).2 (by omega) F C;have R':=(R.del l).grown (need:=len+n) (old:=c) (size:=i.size) (e:=k) (z:=z) (K.append o) (by simp [U,I,Nat.add_mul]) W G g;refine ⟨uG ρ h.next (ej.mk w.heap.size 0 (grownCap w (len+n) c k*i.size) .nilFunc),_,_,⟨λm f=>ca λL=>?_,?_⟩,.sliceEnd 0 (len+n) i.size (grownCap w (len+n) c k) (aU _ _ _) (grownCap_ge w (len+n) c k) (by simp),R',?_⟩
      ·rw [L] at f;exact absurd f (Nat.lt_irrefl _)
      ·show val h.next<=val (inc h.next);rw [jc];omega
      ·rw [p]
   ·cases a
 ·cases a
theorem yb (t:ByteArray):cZ ρ (ae (au t)) (t.data.toList.map λb=>Value.int .u8 b.toNat):=by
 unfold au;generalize t.data.toList=l;induction l with
 | nil=>exact .nil
 | cons b l ih=>exact .cons (.int .u8 _) ih
theorem bq:∀l:List Nat,(ae l).length=l.length
 | []=>rfl
 | _::l=>by simp [ae,bq l]
theorem TM {x:V}{y:Value}(R:aA B w0 ρ h w)(r:RV ρ x y)(d:cW h size x=some (n,cs)):
  ∃xs:List Value,cZ ρ cs xs/\cs.length=n*size/\(∀w',(Builtin.lenOf y).run P w' = .ok n w')/\(∀k,k<=n->(Builtin.firstCells size k y).run P w = .ok (xs.take (k*size)).toArray w)/\(Builtin.firstCells size n y).run P w.drew = .ok xs.toArray w.drew:=by
 unfold cW at d;split at d
 ·cases r;cases d
  refine ⟨[],.nil,by simp,λ_=>rfl,λk f=>?_,rfl⟩;simpa using run_firstCells_none (P:=P) w size k 0 _
 ·rename_i l off m cap
  split at d
  ·rename_i vs E z g C
   simp only [ad,Option.some.injEq,Prod.mk.injEq] at d;obtain ⟨q,A,rfl,rfl⟩:=d;obtain ⟨b,c,D,rfl⟩:=Af r;have F:dE ρ b vs E z g w:=R.obj l b _ D C;obtain ⟨xs,G,p,u⟩:=F.range A;refine ⟨xs,G,by rw [G.length,p],λ_=>rfl,λk f=>?_,?_⟩
   ·refine run_firstCells_some w size k _ m c _ ?_ λj v e=>?_
    ·have:k*size<=m*size:=Nat.mul_le_mul_right _ f
     rw [List.length_take];omega
    ·rw [List.getElem?_take] at e
     split at e
     ·rw [dk];exact u j v e
     ·cases e
   ·exact run_firstCells_some w.drew size m _ m c xs p λj v e=>by rw [dk,World.cell?_drew];exact u j v e
  ·cases d
 ·rename_i s
  cases r with | str t=>
  simp only [ai,Option.some.injEq,Prod.mk.injEq] at d;obtain ⟨hs,rfl,rfl⟩:=d;have hs:size=1:=Nat.eq_of_beq_eq_true hs;subst hs;have o:∀k,((t.extract 0 k).data.map λb=>Value.int .u8 (b.toNat:Int))=((t.data.toList.map λb=>Value.int .u8 (b.toNat:Int)).take k).toArray:=λk=>by
   apply Array.ext';simp
  refine ⟨_,yb t,by rw [bq,Nat.mul_one],λw'=>?_,λk f=>?_,?_⟩
  ·show (pure t.size:Sem Nat).run P w'=_
   rw [cA];rfl
  ·show (pure ((t.extract 0 k).data.map λb=>Value.int .u8 (b.toNat:Int)):Sem _).run P w=_
   rw [o,Nat.mul_one];rfl
  ·show (pure ((t.extract 0 (au t).length).data.map λb=>Value.int .u8 (b.toNat:Int)):Sem _).run P w.drew=_
   rw [o,List.take_of_length_le (by rw [cA];simp)];rfl
 ·cases r;cases d
  rename_i a c;refine ⟨[],.nil,by simp,λ_=>rfl,λk f=>?_,?_⟩
  ·have f:k=0:=Nat.le_zero.1 f
   subst f;have:=run_firstCells_some (P:=P) w size 0 a 0 c [] (by simp) λj v e=>by simp at e
   simpa using this
  ·exact run_firstCells_some w.drew size 0 a 0 c [] (by simp) λj v e=>by simp at e
 ·cases d
theorem ye {t:TypeId}(h:ts.toList=[t,u]):ts = #[t,u]:=by
 apply Array.ext';simpa using h
theorem KG {C:CE}{args:Array Operand}{t e:TypeId}{bytes:Nat}{z:V}{x:X}(By:ts.toList=[t,u])(ht:C.P.underlying t=some (.slice e))(hu:(∃J,C.P.underlying u=some (.slice J))\/C.P.underlying u=some .string)
  (hs:cg C.P e=some size) (q:xV C.P e=some bytes) (F:fD C.P e=some z) (h0:0<size) (Y:0<bytes) (OM:z.cells.length=size) (W:cG C args.toList=some [s,x]):
  cI C (.call {callee:=.builtin .append,args:=args,argTypes:=ts}) (.append e size bytes s x):=by
 intro ρ tm A S H B w0 h w R v h' r;obtain ⟨y1,G,hy,I,Q⟩:=Kz W S H;simp only [ED.run,ad] at r;obtain ⟨⟨n,cs⟩,N,T⟩:=r;obtain ⟨xs,E,D,U,e4,O⟩:=TM (P:=C.P) R Q N;obtain ⟨i,hi,Z⟩:=xY hs;have k:i.bytes=bytes:=by
  simp only [xV,ad,Option.some.injEq] at q;obtain ⟨j,b,e⟩:=q;rw [hi] at b;cases b;exact e
 simp only [fD,ad] at F;obtain ⟨j,b,f,l,g⟩:=F;rw [hi] at b;cases b;have d:RV ρ z f:=qL g;have c:f.cells.size=size:=by have:=d.cells.length;simp at this;omega
 have a:=e4 n (Nat.le_refl _);rw [List.take_of_length_le (by rw [<-E.length,D];exact Nat.le_refl _)] at a;have o:=ye By;subst o;subst Z;have L:=λm=>OO (P:=C.P) (w:=w) t u m e i f ht hi l hu G n xs U a O;have key:=λm=>OP (L m) rfl k h0 Y c R I E D T;obtain ⟨ρ',y,w',M,k2,k3,K⟩:=key 0;refine ⟨ρ',y,w',M,k2,k3,λp hp=>.inl ?_⟩;rw [cy p hp,hy];have:(Builtin.append_ #[t,u] p.type #[y1,G]).run C.P w = .ok y w':=K;simp [Go.builtin,this]
theorem It {C:CE}{args:Array Operand}{t e:TypeId}{bytes:Nat}{z:V}{x:X}(By:ts.toList=[t,u])(W:C.P.underlying t=some (.slice e))(hu:C.P.underlying u=some (.int kn))
  (hs:cg C.P e=some size) (r:xV C.P e=some bytes) (m:fD C.P e=some z) (h0:0<size) (S:0<bytes) (OM:z.cells.length=size) (O:cG C args.toList=some [s,x]):
  cI C (.call {callee:=.builtin .append,args:=args,argTypes:=ts}) (.nK e size bytes z.cells s x):=by
 intro ρ tm A M F B w0 h w R v h' c;obtain ⟨Y,y2,hy,G,D⟩:=Kz O M F;simp only [ED.run] at c;split at c
 ·rename_i n H
  rw [H] at D;cases D;simp only [ai,Bool.and_eq_true] at c;obtain ⟨⟨q,E⟩,N⟩:=c;have q:=Nat.le_of_ble_eq_true q;have E:n*bytes<=1099511627776:=Nat.le_of_ble_eq_true E;obtain ⟨i,hi,U⟩:=xY hs;have b:i.bytes=bytes:=by
   simp only [xV,ad,Option.some.injEq] at r;obtain ⟨j,d,e⟩:=r;rw [hi] at d;cases d;exact e
  have Z:=m;simp only [fD,ad] at m;obtain ⟨j,d,zx,l,k⟩:=m;rw [hi] at d;cases d;have a:RV ρ z zx:=qL k;have f:zx.cells.size=size:=by have:=a.cells.length;simp at this;omega
  have o:=ye By;subst o;subst U;have T:=Qs a OM h0 n;have Q:(aH z.cells n).length=n*i.size:=by rw [gp,OM]
  ·have JB:n*i.bytes<=281474976710656:=by rw [b];omega
   have J:=λL=>TL (P:=C.P) (w:=w) t u L e i zx (kn:=kn) W hi l hu h0 n JB (by omega);obtain ⟨ρ',y,w',K,k2,k3,I⟩:=OP (J 0) rfl b h0 S f R G T Q N;refine ⟨ρ',y,w',K,k2,k3,λp hp=>.inl ?_⟩;rw [cy p hp,hy];have:(Builtin.append_ #[t,u] p.type #[Y,.int .i64 (Int.ofNat n)]).run C.P w = .ok y w':=I;simp [Go.builtin] at this ⊢;simp [this]
 ·cases c
theorem adq {C:CE}{args:Array Operand}{t e:TypeId}{rest:List TypeId}{d:X}(By:ts.toList=t::rest)(L:C.P.underlying t=some (.slice e))(hs:cg C.P e=some size)(H:cG C args.toList=some [d,s]):
  cI C (.call {callee:=.builtin .copy,args:=args,argTypes:=ts}) (.copy size d s):=by
 intro ρ tm A F u B w0 h w R v h' f;obtain ⟨r,J,hy,i,E⟩:=Kz H F u;simp only [ED.run,copyV,ad] at f;obtain ⟨⟨n,cs⟩,D,f⟩:=f;obtain ⟨xs,U,Q,G,M,O⟩:=TM (P:=C.P) R E D;have Ci:∀(o:TypeId) (base:Option Addr) (len cap:Nat),r = .slice base len cap->(Builtin.copy_ ts o #[r,J]).run C.P w=((match base with | some a=>storeCells a (xs.take (Nat.min n len*size)) | none=>pure ():Sem Unit).run C.P w).andThen λ_ w=>.ok (goInt (Nat.min n len)) w:=λo base len cap ON=>by
  subst ON;have k:=M (Nat.min n len) (Nat.min_le_left _ _);cases base<;>simp [Builtin.copy_,qN By,run_underlying L,G,cC hs,k]
 simp only at f;split at f
 ·rename_i c m
  rw [m] at i;cases i;cases f;refine ⟨ρ,_,w,Step.refl _ _,.int .i64 _,R,λp g=>.inl ?_⟩;rw [cy p g,hy];have:=Ci p.type none 0 c rfl;simp [Go.builtin,this,goInt]
 ·rename_i l off len cap m
  rw [m] at i;obtain ⟨b,c,x,rfl⟩:=Af i;simp only [ad] at f;obtain ⟨q,z,f⟩:=f;have j:=(U.takeN z).1;split at f
  ·simp only [Option.some.injEq,Prod.mk.injEq] at f
   obtain ⟨rfl,rfl⟩:=f;refine ⟨ρ,_,w,Step.refl _ _,.int .i64 _,R,λp g=>.inl ?_⟩;rw [cy p g,hy];have h0:xs.take (Nat.min n len*size)=[]:=by
    generalize xs.take (Nat.min n len*size)=l at j;cases j;rfl
   have:=Ci p.type _ len c rfl;rw [h0] at this;simp [Go.builtin,this,goInt,storeCells]
  ·simp only [ad,Option.some.injEq,Prod.mk.injEq] at f
   obtain ⟨N,Bx,rfl,rfl⟩:=f;obtain ⟨K,y⟩:=R.store x Bx j;obtain ⟨_,_,_,_,_,_,_,_,_,_,rfl⟩:=iJ Bx;refine ⟨ρ,_,_,Step.same rfl,.int .i64 _,y,λp g=>.inl ?_⟩;rw [cy p g,hy];have:=Ci p.type _ len c rfl;simp [Go.builtin,this,goInt,K]
 ·cases f
theorem Eh (need old t:Nat)(e:TypeId):need<=(Question.appendCap need old e).cut t:=by
 show need<=need+t % (2 ^ 63 - need)
 exact Nat.le_add_right _ _
theorem ic {b:Nat}{c:Array Value}{e:TypeId}{lo hi:Nat}(h:w.heap[b]? =some (.cells c e (lo,hi)))(a:k≠0):
  (w.freeze ⟨b,n,none⟩ k).heap[b]? =some (.cells c e (if lo==hi then (n,n+k) else (min lo n,max hi (n+k)))):=by
 unfold World.freeze;rw [if_neg a];simp [Array.getElem?_modify,h]
theorem kZ {a:Addr}{i:Nat}(hi:i≠a.block):(w.freeze a k).heap[i]? =w.heap[i]?:=by
 unfold World.freeze;split
 ·rfl
 ·simp only [Array.getElem?_modify];rw [if_neg (Ne.symm hi)]
theorem sc (w:World)(a:Addr)(k:Nat):(w.freeze a k).heap.size=w.heap.size/\(w.freeze a k).os=w.os/\(w.freeze a k).tape=w.tape/\(w.freeze a k).output=w.output:=by
 unfold World.freeze;split
 ·exact ⟨rfl,rfl,rfl,rfl⟩
 ·exact ⟨by simp,rfl,rfl,rfl⟩
theorem Qu {C:CE}{s t e:TypeId}{x:X}(hs:C.P.underlying s=some .string)(Z:C.P.underlying t=some (.slice e))(P:C.P.underlying e=some (.int .u8))(V:ay C y=some x):
  cI C (.convert s t y) (.dj e x):=by
 intro ρ tm A U G B w0 h w R v h' c;have r:=aw U G V;simp only [ED.run] at c;split at c
 ·rename_i b M
  rw [M] at r;generalize hy:A.eval y=u at r;cases r with | str u=>
  simp only [ai,Option.some.injEq,Prod.mk.injEq] at c;obtain ⟨o,rfl,rfl⟩:=c;have O:(Question.appendCap u.size 0 e).forced=false:=rfl;obtain ⟨cap,z⟩:∃cap,cap=(Question.appendCap u.size 0 e).cut (w.tape w.drawn (.appendCap u.size 0 e)):=⟨_,rfl⟩;have Y:u.size<=cap:=by rw [z];exact Eh _ _ _ _
  have R1:=(R.drew).row (yb (ρ:=ρ) u) (List.replicate (cap - u.size) (Value.int .u8 0)) e 0 .marked;have S:u.data.toList.length=u.size:=by simp
  have m:((u.data.toList.map λb=>Value.int .u8 (b.toNat:Int))++List.replicate (cap - u.size) (Value.int .u8 0)).length=cap:=by
   simp only [List.length_append,List.length_map,S,List.length_replicate];omega
  have Iu:(⟨(u.data.toList.map λb=>Value.int .u8 (b.toNat:Int))++List.replicate (cap - u.size) (Value.int .u8 0)⟩:Array Value)=(u.data.map λb=>Value.int .u8 (b.toNat:Int))++Array.replicate (cap - u.size) (Value.int .u8 0):=by
   apply Array.ext';simp
  rw [m,Iu] at R1;generalize KH:(u.data.map λb=>Value.int .u8 (b.toNat:Int))++Array.replicate (cap - u.size) (Value.int .u8 0)=a at R1;have D:a.size=cap:=by rw [<-KH,<-Iu];simpa using m
  have f:(w.drew.alloc (.cells a e)).heap[w.heap.size]? =some (.cells a e (0,0)):=heap_alloc_new (w:=w.drew) _;have Tb:=ic (n:=cap) f (k:=1) (by omega);simp only [beq_self_eq_true,if_true] at Tb;obtain ⟨N,K,F,J⟩:=sc (w.drew.alloc (.cells a e)) ⟨w.heap.size,cap,none⟩ 1;have d:(h.add (.cells (ae (au u)) e 0 .marked)).get h.next=some (.cells (ae (au u)) e 0 .marked):=H.kY h _;have E:dE (uG ρ h.next (ej.mk w.heap.size 0 cap .nilFunc)) (ej.mk w.heap.size 0 cap .nilFunc) (ae (au u)) e 0 .marked (w.drew.alloc (.cells a e)):=R1.obj h.next _ _ (aU _ _ _) d;have R2:=R1.change (w':=(w.drew.alloc (.cells a e)).freeze ⟨w.heap.size,cap,none⟩ 1) (p:=.cells (ae (au u)) e 0 .marked) (aU _ _ _) d rfl N (λk Q=>kZ Q) K F J (by
   refine ⟨?_,E.fits,λi v I=>?_,λ_ i _ hi=>?_,λL=>by cases L⟩
   ·simp only [World.shape?,Tb,D]
   ·obtain ⟨q,j,W⟩:=E.cell i v I
    refine ⟨q,?_,W⟩;unfold cQ at j ⊢;simp only [World.cell?,f] at j;simp only [World.cell?,Tb];exact j
   ·have hi:i<cap:=hi
    simp only [World.frozen?,Tb];have:¬cap<=i:=by omega
    simp [this])
  have g:(h.add (.cells (ae (au u)) e 0 .marked)).set h.next (.cells (ae (au u)) e 0 .marked)=h.add (.cells (ae (au u)) e 0 .marked):=by
   unfold H.set H.add;simp only [T.set_set]
  rw [g] at R2;refine cI.ret (s:=convert s t (.string u)) (Step.add _ _ _ _) (.sliceEnd 0 (au u).length 1 cap (aU _ _ _) (by rw [cA];exact Y) (by simp)) R2 ?_ λp hp=>by unfold execOp;rw [hp];simp only [hy]
  unfold convert;simp only [Sem.run_bind,run_underlying hs,run_underlying Z,Result.andThen_ok,run_underlying P];simp only [Conv.stringToBytes,Sem.run_bind,run_choose,O,Bool.false_eq_true,if_false,<-z,Result.andThen_ok,newRow,run_newObj,Sem.run_pure,KH,markStringish,run_shape];have l:(w.drew.alloc (.cells a e)).shape? w.heap.size=some (e,cap):=by simp only [World.shape?,f,D]
  have Hl:World.shape? {heap:=w.heap.push (Go.Obj.cells a e),tape:=w.tape,drawn:=w.drawn+1,os:=w.os,output:=w.output} w.heap.size=some (e,cap):=l;simp only [Hl,run_freeze,Result.andThen_ok,cA]
  rfl
 ·cases c
theorem Nl {C:CE}{args:Array Operand}{t e:TypeId}{x n:X}(By:ts.toList=[t,u])(ht:C.P.underlying t=some (.pointer e))(hs:cg C.P e=some 1)(hx:cG C args.toList=some [x,n]):
  cI C (.call {callee:=.builtin .unsafeString,args:=args,argTypes:=ts}) (.mW e x n):=by
 intro ρ tm A hT W B w0 h w R v h' d;obtain ⟨y1,y2,hy,r,s⟩:=Kz hx hT W;have Q:=ye By;subst Q;simp only [ED.run] at d;unfold uR at d;split at d
 ·rename_i E D
  rw [E] at r;rw [D] at s;cases r;cases s;cases d;refine ⟨ρ,_,w,Step.refl _ _,.str ByteArray.empty,R,λp G=>.inl ?_⟩;rw [cy p G,hy];have:=Lib.run_unsafeString_none (P:=C.P) w t u p.type none;have o:(Builtin.unsafeString_ #[t,u] p.type #[.pointer none,.int .i64 (Int.ofNat 0)]).run C.P w = .ok (.string .empty) w:=this;simp [Go.builtin] at o ⊢;simp [o]
 ·rename_i l off E D
  rw [E] at r;rw [D] at s;obtain ⟨b,H,rfl⟩:=dy r;cases s;cases d;refine ⟨ρ,_,w,Step.refl _ _,.str ByteArray.empty,R,λp G=>.inl ?_⟩;rw [cy p G,hy];have:=Lib.run_unsafeString_none (P:=C.P) w t u p.type (some ⟨b.block,b.base+off,none⟩);have o:(Builtin.unsafeString_ #[t,u] p.type #[.pointer (some ⟨b.block,b.base+off,none⟩),.int .i64 (Int.ofNat 0)]).run C.P w = .ok (.string .empty) w:=this;simp [Go.builtin] at o ⊢;simp [o]
 ·rename_i l m E D
  rw [E] at r;rw [D] at s;obtain ⟨b,H,rfl⟩:=dy r;cases s;have y:=(R.base l b H).1;split at d
  ·rename_i vs F J T
   simp only [ai,ad,Option.some.injEq,Prod.mk.injEq,Bool.and_eq_true] at d;obtain ⟨⟨N,U⟩,q,S,bs,Nn,rfl,rfl⟩:=d;have N:F=e:=Nat.eq_of_beq_eq_true N;subst N;have U:=Nat.le_of_ble_eq_true U;have cr:dE ρ b vs F J .yes w:=R.obj l b _ H T;have hle:=Kn S;have tB:=cr.fits;obtain ⟨xs,x1,x2,x3⟩:=cr.range (show rowFrom vs 0 (m+1)=some q from S);obtain ⟨us,rfl,rfl⟩:=Cj Nn x1;have g:us.length=m+1:=by simpa using x2
   obtain ⟨c,lo,hi,L,Ir,HB⟩:=cr.bare rfl;obtain ⟨MV,K,f,aBX,M⟩:∃MV K,(w.freeze ⟨b.block,0,none⟩ (m+1)).heap[b.block]? =some (.cells c F (MV,K))/\K<=max hi (m+1)/\MV<=K:=by
    have f:=ic (n:=0) L (k:=m+1) (by omega)
    by_cases hlh:(lo==hi)=true
    ·rw [if_pos hlh] at f
     exact ⟨_,_,f,by omega,by omega⟩
    ·rw [if_neg hlh] at f
     exact ⟨_,_,f,by omega,by omega⟩
   obtain ⟨z1,z2,V,Z⟩:=sc w ⟨b.block,0,none⟩ (m+1);have kM:c.size=b.total:=by
    have:=cr.shape;simp only [World.shape?,L] at this;simpa using this
   have R2:=R.change (w':=w.freeze ⟨b.block,0,none⟩ (m+1)) (p:=.cells vs F (Nat.max J (m+1)) .yes) H T rfl z1 (λk hk=>kZ hk) z2 V Z (by
    have KI:(Nat.max J (m+1))=max J (m+1):=rfl;refine ⟨?_,tB,λi v Y=>?_,λ_ i Je Ip=>?_,λ_=>⟨c,_,_,f,?_,M⟩⟩
    ·simp only [World.shape?,f,kM]
    ·obtain ⟨q,O,iC⟩:=cr.cell i v Y
     refine ⟨q,?_,iC⟩;unfold cQ at O ⊢;simp only [World.cell?,L] at O;simp only [World.cell?,f];exact O
    ·rw [KI,y] at Je
     rw [y] at Ir;simp only [World.frozen?,f];simp only [Bool.and_eq_false_iff,decide_eq_false_iff_not];right;omega
    ·rw [KI,y]
     rw [y] at Ir;omega)
   refine ⟨ρ,.string ⟨us.toArray⟩,_,Step.same rfl,by rw [<-OL];exact .str _,R2,λp G=>.inl ?_⟩;rw [cy p G,hy];have:=Lib.run_unsafeString_row (P:=C.P) w t u p.type F ht (Ef hs) b.block b.total cr.shape us (by intro h0;rw [h0] at g;simp at g) (by omega) (by omega) (λj a ha=>by
    rw [dk];have:=x3 j (Value.int .u8 a.toNat) (by simp [List.getElem?_map,ha]);rw [y] at this;simpa using this)
   rw [g] at this;rw [y];have o:(Builtin.unsafeString_ #[t,u] p.type #[.pointer (some ⟨b.block,0+0,none⟩),.int .i64 (Int.ofNat (m+1))]).run C.P w = .ok (.string ⟨us.toArray⟩) (w.freeze ⟨b.block,0,none⟩ (m+1)):=this;simp only [Go.builtin,Sem.run_bind,o,Result.andThen_ok,Sem.run_pure]
  ·cases d
 ·cases d
theorem No {C:CE}{s G e:TypeId}{x:X}(_hs0:C.P.underlying s=some (.slice G))(hs:C.P.underlying s=some (.slice e))(J:C.P.underlying e=some (.int .u8))(N:ay C y=some x):
  cI C (.convert s s y) (.zW x):=by
 intro ρ tm A M D B w0 h w R v h' a;have r:=aw M D N;generalize YP:A.eval y=T at r;simp only [ED.run] at a;split at a
 ·rename_i l off n U P
  rw [P] at r;split at a
  ·rename_i vs t u
   cases a;obtain ⟨b,c,j,rfl⟩:=Af r;have V:=(R.base l b j).1;have d:dE ρ b vs t 0 .yes w:=R.obj l b _ j u;have Q:=d.fits;obtain ⟨cs,lo,hi,g,Ir,HB⟩:=d.bare rfl;have K:cs.size=b.total:=by
    have:=d.shape;simp only [World.shape?,g] at this;simpa using this
   have f:=ic (n:=b.total) g (k:=1) (by omega);have m:(lo==hi)=true:=by simp;omega
   rw [if_pos m] at f;obtain ⟨I,H,z,F⟩:=sc w ⟨b.block,b.total,none⟩ 1;have R2:=R.change (w':=w.freeze ⟨b.block,b.total,none⟩ 1) (p:=.cells vs t 0 .marked) j u rfl I (λk L=>kZ L) H z F (by
    refine ⟨?_,Q,λi v E=>?_,λ_ i Je Ip=>?_,λq=>by cases q⟩
    ·simp only [World.shape?,f,K]
    ·obtain ⟨q,o,O⟩:=d.cell i v E
     refine ⟨q,?_,O⟩;unfold cQ at o ⊢;simp only [World.cell?,g] at o;simp only [World.cell?,f];exact o
    ·simp only [World.frozen?,f]
     simp only [Bool.and_eq_false_iff,decide_eq_false_iff_not];left;omega)
   refine ⟨ρ,_,_,Step.same rfl,r,R2,λp S=>.inl ?_⟩;unfold execOp;rw [S];have Hl:w.shape? b.block=some (t,b.total):=d.shape;simp [YP,convert,run_underlying hs,run_underlying J,markStringish,Hl]
  ·cases a
 ·cases a
theorem T.KJ {a:Type}:∀{p:Lb} {t:T a} {x:a},t.get p=some x->t.set p (some x)=t
 | p,.leaf,x,h=>by rw [T.kW] at h;cases h
 | [],.node l v r,x,h=>by simp only [T.get] at h;simp only [T.set,h]
 | true::p,.node l v r,x,h=>by simp only [T.get] at h;simp only [T.set,T.KJ h]
 | false::p,.node l v r,x,h=>by simp only [T.get] at h;simp only [T.set,T.KJ h]
theorem Bz {B:Nat}{s t e:TypeId}{L:Lb}{u:ByteArray}(hs:P.underlying s=some .string)(V:P.underlying t=some (.slice e))(M:P.underlying e=some (.int .u8))
  (R:aA B w0 ρ h w) (r:ρ L=none) (Q:val L<val h.next) (c:h.get L=some (.cells (ae (au u)) e 0 .marked)):
  ∃cap w',u.size<=cap/\aA B w0 (uG ρ L (ej.mk w.heap.size 0 cap .nilFunc)) h w'/\(convert s t (.string u)).run P w = .ok (.slice (some ⟨w.heap.size,0,none⟩) u.size cap) w':=by
 have K:(Question.appendCap u.size 0 e).forced=false:=rfl;obtain ⟨cap,y⟩:∃cap,cap=(Question.appendCap u.size 0 e).cut (w.tape w.drawn (.appendCap u.size 0 e)):=⟨_,rfl⟩;have U:u.size<=cap:=by rw [y];exact Eh _ _ _ _
 have J:j8 ρ (uG ρ L (ej.mk w.heap.size 0 cap .nilFunc)):=eS r;have O:u.data.toList.length=u.size:=by simp
 have d:((u.data.toList.map λb=>Value.int .u8 (b.toNat:Int))++List.replicate (cap - u.size) (Value.int .u8 0)).length=cap:=by
  simp only [List.length_append,List.length_map,O,List.length_replicate];omega
 have Iu:(⟨(u.data.toList.map λb=>Value.int .u8 (b.toNat:Int))++List.replicate (cap - u.size) (Value.int .u8 0)⟩:Array Value)=(u.data.map λb=>Value.int .u8 (b.toNat:Int))++Array.replicate (cap - u.size) (Value.int .u8 0):=by
  apply Array.ext';simp
 have TN:dE (uG ρ L (ej.mk w.drew.heap.size 0 ((u.data.toList.map λb=>Value.int .u8 (b.toNat:Int))++List.replicate (cap - u.size) (Value.int .u8 0)).length .nilFunc)) (ej.mk w.drew.heap.size 0 ((u.data.toList.map λb=>Value.int .u8 (b.toNat:Int))++List.replicate (cap - u.size) (Value.int .u8 0)).length .nilFunc) (ae (au u)) e 0 .marked (w.drew.alloc (.cells ⟨(u.data.toList.map λb=>Value.int .u8 (b.toNat:Int))++List.replicate (cap - u.size) (Value.int .u8 0)⟩ e)):=
  dE.new (rest:=List.replicate (cap - u.size) (Value.int .u8 0)) ((yb (ρ:=ρ) u).mono (by rw [d];exact J)) e 0 .marked
 have R1:=(R.drew).laid (h':=h) (l:=L) (o:=.cells (ae (au u)) e 0 .marked) (x:=.cells ⟨(u.data.toList.map λb=>Value.int .u8 (b.toNat:Int))++List.replicate (cap - u.size) (Value.int .u8 0)⟩ e)
  (b:=(ej.mk w.drew.heap.size 0 ((u.data.toList.map λb=>Value.int .u8 (b.toNat:Int))++List.replicate (cap - u.size) (Value.int .u8 0)).length .nilFunc)) rfl ⟨rfl,rfl⟩ r Q (Nat.le_refl _) c (λ_ _=>rfl) TN
 rw [d,Iu] at R1;clear TN;generalize KH:(u.data.map λb=>Value.int .u8 (b.toNat:Int))++Array.replicate (cap - u.size) (Value.int .u8 0)=a at R1;have z:a.size=cap:=by rw [<-KH,<-Iu];simpa using d
 have f:(w.drew.alloc (.cells a e)).heap[w.heap.size]? =some (.cells a e (0,0)):=heap_alloc_new (w:=w.drew) _;have Tb:=ic (n:=cap) f (k:=1) (by omega);simp only [beq_self_eq_true,if_true] at Tb;obtain ⟨I,F,C,E⟩:=sc (w.drew.alloc (.cells a e)) ⟨w.heap.size,cap,none⟩ 1;have R1:aA B w0 (uG ρ L (ej.mk w.heap.size 0 cap .nilFunc)) h (w.drew.alloc (.cells a e)):=R1;have W:dE (uG ρ L (ej.mk w.heap.size 0 cap .nilFunc)) (ej.mk w.heap.size 0 cap .nilFunc) (ae (au u)) e 0 .marked (w.drew.alloc (.cells a e)):=R1.obj L _ _ (aU _ _ _) c;have R2:=R1.change (w':=(w.drew.alloc (.cells a e)).freeze ⟨w.heap.size,cap,none⟩ 1) (p:=.cells (ae (au u)) e 0 .marked) (aU _ _ _) c rfl I (λk N=>kZ N) F C E (by
  refine ⟨?_,W.fits,λi v D=>?_,λ_ i _ hi=>?_,λG=>by cases G⟩
  ·simp only [World.shape?,Tb,z]
  ·obtain ⟨q,j,S⟩:=W.cell i v D
   refine ⟨q,?_,S⟩;unfold cQ at j ⊢;simp only [World.cell?,f] at j;simp only [World.cell?,Tb];exact j
  ·have hi:i<cap:=hi
   simp only [World.frozen?,Tb];have:¬cap<=i:=by omega
   simp [this])
 have g:h.set L (.cells (ae (au u)) e 0 .marked)=h:=by
  unfold H.set;have:h.t.set L (some (.cells (ae (au u)) e 0 .marked))=h.t:=T.KJ c;rw [this]
 rw [g] at R2;refine ⟨cap,_,U,R2,?_⟩;unfold convert;simp only [Sem.run_bind,run_underlying hs,run_underlying V,Result.andThen_ok,run_underlying M];simp only [Conv.stringToBytes,Sem.run_bind,run_choose,K,Bool.false_eq_true,if_false,<-y,Result.andThen_ok,newRow,run_newObj,Sem.run_pure,KH,markStringish,run_shape];have m:(w.drew.alloc (.cells a e)).shape? w.heap.size=some (e,cap):=by simp only [World.shape?,f,z]
 have Hl:World.shape? {heap:=w.heap.push (Go.Obj.cells a e),tape:=w.tape,drawn:=w.drawn+1,os:=w.os,output:=w.output} w.heap.size=some (e,cap):=m;simp only [Hl,run_freeze,Result.andThen_ok]
 rfl
theorem vZ {C:CE}{B:Nat}{tm:T V}{A:Act}{t e:TypeId}{z:V}{ps:Array (Nat×Operand)}{l:List (Nat×X)}{L:Lb}(E:jx ρ C.n tm A.tmps)(r:gM ρ C.G)
  (k:C.P.underlying t=some (.slice e)) (hs:cg C.P e=some size) (I:fD C.P e=some z) (J:n*size<=65536) (OM:z.cells.length=size) (h0:0<size) (y:eN C ps.toList=some l) (q:fj size l (aH z.cells n)=some cs)
  (R:aA B w0 ρ h w) (g:ρ L=none) (F:val L<val h.next) (D:h.get L=some (.cells cs e 0 .yes)):
  ∃(m:Nat) (w':World),aA B w0 (uG ρ L (ej.mk w.heap.size 0 m .nilFunc)) h w'/\(Instr.buildSlice t n (ps.map λ(i,x)=>(i,A.eval x))).run C.P w = .ok (.slice (some ⟨w.heap.size,0,none⟩) n n) w':=by
 obtain ⟨x,G,f⟩:=fN (ρ:=ρ) I;have d:=G.cells.repeat OM h0 n;obtain ⟨a,j,s⟩:=uX (A:=A) E r y d (oU tm q);have u:j8 ρ (uG ρ L (ej.mk w.heap.size 0 (a.toList++([]:List Value)).length .nilFunc)):=eS g;have TN:dE (uG ρ L (ej.mk w.heap.size 0 (a.toList++[]).length .nilFunc)) (ej.mk w.heap.size 0 (a.toList++[]).length .nilFunc) cs e 0 .yes (w.alloc (.cells ⟨a.toList++[]⟩ e)):=dE.new (rest:=[]) (s.mono u) e 0 .yes;have R':=R.laid (h':=h) (o:=.cells cs e 0 .yes) (x:=.cells ⟨a.toList++[]⟩ e) (b:=(ej.mk w.heap.size 0 (a.toList++([]:List Value)).length .nilFunc)) rfl ⟨rfl,rfl⟩ g F (Nat.le_refl _) D (λ_ _=>rfl) TN;refine ⟨_,_,R',?_⟩;have H:(ps.map λ(i,x)=>(i,A.eval x)).toList=ps.toList.map λp=>(p.1,A.eval p.2):=by simp
 by_cases Ds:n*size=0
 ·have v:n=0:=by rcases Nat.mul_eq_zero.1 Ds with h | h<;>omega
  subst v;have c:Instr.fill (λi=>some (i*size,size)) ((Array.range 0).map ((#[]:Array Value)[· % 0]!)) (ps.toList.map λp=>(p.1,A.eval p.2))=some a:=by
   rw [<-j];congr 1;simp
  simp only [Instr.buildSlice,Sem.run_bind,run_underlying k,Result.andThen_ok,cC hs,Nat.zero_mul];simp [newRow];simp at c;rw [c];simp
 ·have:¬(n*size>2 ^ 24):=by omega
  simp only [Instr.buildSlice,Sem.run_bind,run_underlying k,Result.andThen_ok,cC hs,if_neg this,Sem.run_pure,if_neg Ds,f,H];rw [j];simp [newRow]
end
end Go.Dx
