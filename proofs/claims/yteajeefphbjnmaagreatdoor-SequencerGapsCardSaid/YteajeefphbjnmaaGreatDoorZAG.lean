/-
  The sequencer's laws. Part ZAG of the proof: The deterministic machine over labels against the model: append, copy, texts and bytes.
-/
import Derived.Test.YteajeefphbjnmaaGreatDoorZAF
namespace Go.Dx
open Go Go.RowKit
section
variable {P:Program} {B:Nat} {w0:World} {ρ ρ':bE} {h h':H} {w:World}
structure aci (P:Program)(w:World)(t tx ty e:TypeId)(i:TypeInfo)(z:Value)(x:Value)(n:Nat)(news:List Value):Prop where
 room:∀(base:Option Addr) (pq wu:Nat),pq+n<=wu->(Builtin.append_ #[t,tx] ty #[.slice base pq wu,x]).run P w=
  ((do (match base with | some a=>storeCells (a.add (pq*i.size)) news | none=>pure ());pure (Value.slice base (pq+n) wu)):Sem Value).run P w
 grow:∀(base:Option Addr) (pq wu:Nat) (acj:List Value),0<n->(Builtin.firstCells i.size pq (.slice base pq wu)).run P w.drew = .ok acj.toArray w.drew->wu<pq+n->((pq+n:Nat):Int)<=9223372036854775807->
  Builtin.nextslicecap (pq+n) wu*i.bytes<=281474976710656->(Builtin.append_ #[t,tx] ty #[.slice base pq wu,x]).run P w=
   .ok (.slice (some ⟨w.heap.size,0,none⟩) (pq+n) (grownCap w (pq+n) wu e)) (w.drew.alloc (.cells ((acj++news).toArray++Builtin.zeroCells z.cells (grownCap w (pq+n) wu e - (pq+n))) e))
theorem NY (t tx ty e:TypeId)(i:TypeInfo)(z:Value)(ht:P.underlying t=some (.slice e))(hi:P.info? e=some i)(hz:i.zero=some z)(hk:(∃e',P.underlying tx=some (.slice e'))\/P.underlying tx=some .string)
  (x:Value) (n:Nat) (news:List Value) (hlen:∀w':World,(Builtin.lenOf x).run P w' = .ok n w') (hc:(Builtin.firstCells i.size n x).run P w = .ok news.toArray w) (hcD:(Builtin.firstCells i.size n x).run P w.drew = .ok news.toArray w.drew):
  aci P w t tx ty e i z x n news:=by
 refine ⟨λbase pq wu xH=>?_,λbase pq wu acj Pw hold hg h63 uH=>?_⟩
 ·rcases hk with ⟨e',hk⟩ | hk<;>cases base<;>simp [Builtin.append_,run_underlying ht,run_underlying hk,sizeOf,typeInfo,hi,hlen,xH,hc]
 ·have hn:¬(pq+n<=wu):=by omega
  have ar6:¬(9223372036854775807<((pq:Int)+(n:Int))):=by omega
  have ar7:¬(281474976710656<Builtin.nextslicecap (pq+n) wu*i.bytes):=by omega
  rcases hk with ⟨e',hk⟩ | hk<;>
   (simp [Builtin.append_,run_underlying ht,run_underlying hk,sizeOf,typeInfo,zeroValue,hi,hz,hlen,hn,ar6,ar7,Question.forced,hcD,hold,newRow,grownCap]
    congr 2
    apply Array.ext';simp [List.append_assoc])
theorem Sq (t tx ty e:TypeId)(i:TypeInfo)(z:Value){kn:IntKind}(ht:P.underlying t=some (.slice e))(hi:P.info? e=some i)(hz:i.zero=some z)(hk:P.underlying tx=some (.int kn))(h0:0<i.size)
  (n:Nat) (hn:n*i.bytes<=281474976710656) (aAi:(n:Int)<=9223372036854775807):aci P w t tx ty e i z (.int .i64 n) n (Builtin.zeroCells z.cells n).toList:=by
 have hw:IntKind.i64.wrap (n:Int)=n:=by rw [IntKind.wrap_i64];omega
 have ar8:¬(281474976710656<(n:Int)*(i.bytes:Int)):=by
  rw [<-Int.natCast_mul];omega
 have ar9:¬((n:Int)<0):=by omega
 refine ⟨λbase pq wu xH=>?_,λbase pq wu acj Pw hold hg h63 uH=>?_⟩
 ·by_cases eT:n=0
  ·subst eT
   have hw0:IntKind.i64.wrap 0=0:=hw;have hr:pq<=wu:=xH;cases base<;>simp [Builtin.append_,run_underlying ht,run_underlying hk,sizeOf,typeInfo,zeroValue,hi,hz,asInt,asIntOf,hw0,hr,Builtin.zeroCells,storeCells]
  ·have CT:¬(n*i.size=0):=Nat.mul_ne_zero eT (by omega)
   cases base<;>simp [Builtin.append_,run_underlying ht,run_underlying hk,sizeOf,typeInfo,zeroValue,hi,hz,asInt,asIntOf,hw,ar9,CT,ar8,xH]
 ·have:=Lib.run_append_grow_zeros (P:=P) w t tx ty e i z .i64 kn ht hk hi hz base pq wu acj hold n Pw h0 hg h63 hn uH
  rw [this]
  congr 2
  apply congrArg (λa=>Go.Obj.cells a e);apply Array.ext';simp [List.append_assoc]
theorem dO.first {b:dZ}{vs r:List V}{e:TypeId}{fz:Nat}{own:Own}(c:dO ρ b vs e fz own w){size n off:Nat}(hr:rowFrom vs off (n*size)=some r):
  ∃xs:List Value,cU ρ r xs/\xs.length=n*size/\∀len cap,(Builtin.firstCells size n (.slice (some ⟨b.block,b.base+off,none⟩) len cap)).run P w = .ok xs.toArray w/\
   (Builtin.firstCells size n (.slice (some ⟨b.block,b.base+off,none⟩) len cap)).run P w.drew = .ok xs.toArray w.drew:=by
 obtain ⟨xs,r1,r2,r3⟩:=c.range hr;refine ⟨xs,r1,r2,λlen cap=>⟨?_,?_⟩⟩
 ·exact run_firstCells_some w size n _ len cap xs r2 λj v hv=>by rw [c8];exact r3 j v hv
 ·exact run_firstCells_some w.drew size n _ len cap xs r2 λj v hv=>by rw [c8,World.cell?_drew];exact r3 j v hv
theorem Py {z:V}{x:Value}(hx:RV ρ z x){s:Nat}(hs:z.cells.length=s)(h0:0<s)(n:Nat):cU ρ (aG z.cells n) (Builtin.zeroCells x.cells n).toList:=by
 have:=hx.cells.repeat hs h0 n;have ft:x.cells.size=s:=by have:=hx.cells.length;simp at this;omega
 unfold Builtin.zeroCells;simp only [ft] at this ⊢;exact this
theorem aA.grown (R:aA B w0 ρ h w){vs:List V}{xs:List Value}(hr:cU ρ vs xs){need old size:Nat}{e:TypeId}{z:Value}(hl:xs.length=need*size)(hz:z.cells.size=size)(fz:Nat)(own:Own):
  aA B w0 (uc ρ h.next (dZ.mk w.heap.size 0 (grownCap w need old e*size) .nilFunc)) (h.add (.cells vs e fz own)) (w.drew.alloc (.cells (xs.toArray++Builtin.zeroCells z.cells (grownCap w need old e - need)) e)):=by
 have jb:=grownCap_ge w need old e;have R':=(R.drew).row hr (Builtin.zeroCells z.cells (grownCap w need old e - need)).toList e fz own;have e1:(xs++(Builtin.zeroCells z.cells (grownCap w need old e - need)).toList).length=grownCap w need old e*size:=by
  have:=size_zeroCells z.cells (grownCap w need old e - need);simp only [List.length_append,Array.length_toList,this,hl,hz];rw [<-Nat.add_mul];congr 1;omega
 have e2:(⟨xs++(Builtin.zeroCells z.cells (grownCap w need old e - need)).toList⟩:Array Value)=xs.toArray++Builtin.zeroCells z.cells (grownCap w need old e - need):=by
  apply Array.ext';simp
 rw [e1,e2] at R';exact R'
theorem NZ {t tx ty e:TypeId}{i:TypeInfo}{z sx x:Value}{n size bytes:Nat}{news:List Value}{new:List V}{s v:V}(hF:aci P w t tx ty e i z x n news)(ane:i.size=size)(aiW:i.bytes=bytes)(h0:0<size)(fC:0<bytes)(hz:z.cells.size=size)
  (R:aA B w0 ρ h w) (hs:RV ρ s sx) (hn:cU ρ new news) (hlen:new.length=n*size) (ic:eH h e size bytes s n new=some (v,h')):
  ∃ρ' y w',Step ρ ρ' h h'/\RV ρ' v y/\aA B w0 ρ' h' w'/\(Builtin.append_ #[t,tx] ty #[sx,x]).run P w = .ok y w':=by
 subst ane aiW;have uJ:news.length=n*i.size:=by rw [<-hn.length,hlen]
 have fit:∀{len c:Nat},4*(len+n)*i.bytes<=jd->c<len+n->((len+n:Nat):Int)<=9223372036854775807/\Builtin.nextslicecap (len+n) c*i.bytes<=281474976710656:=λ{len c} hm hc=>by
  have hm:4*(len+n)*i.bytes<=562949953421312:=hm;have h1:=nextslicecap_le hc;have h2:Builtin.nextslicecap (len+n) c*i.bytes<=2*(len+n)*i.bytes:=Nat.mul_le_mul_right _ h1;have h3:4*(len+n)*1<=4*(len+n)*i.bytes:=Nat.mul_le_mul_left _ fC;have h4:4*(len+n)*i.bytes=2*(len+n)*i.bytes+2*(len+n)*i.bytes:=by
   rw [<-Nat.add_mul];congr 1;omega
  omega
 unfold eH at ic;split at ic
 ·rename_i c
  cases hs;split at ic
  ·rename_i hc
   have hc:=Nat.le_of_ble_eq_true hc;simp only [ag,Option.some.injEq,Prod.mk.injEq] at ic;obtain ⟨eT,rfl,rfl⟩:=ic;have eT:n=0:=Nat.eq_of_beq_eq_true eT;subst eT;refine ⟨ρ,_,w,Step.refl _ _,.nilSlice c,R,?_⟩;rw [hF.room none 0 c (by omega)]
   rfl
  ·rename_i hc
   have hc:¬n<=c:=λh=>by have:=Nat.ble_eq_true_of_le h;rw [this] at hc;cases hc
   simp only [ag,Option.some.injEq,Prod.mk.injEq] at ic;obtain ⟨hm,rfl,rfl⟩:=ic;have hm:=Nat.le_of_ble_eq_true hm;obtain ⟨f1,f2⟩:=fit (len:=0) (c:=c) (by simpa using hm) (by omega);have hg:=hF.grow none 0 c [] (by omega) (run_firstCells_none w.drew _ 0 0 c) (by omega) f1 f2;have R':=R.grown (need:=0+n) (old:=c) (size:=i.size) (e:=e) (z:=z) hn (by simpa using uJ) hz 0 .yes;refine ⟨_,_,_,Step.add _ _ _ _,.sliceEnd 0 n i.size (grownCap w (0+n) c e) (aS _ _ _) ?_ ?_,R',?_⟩
   ·have:=grownCap_ge w (0+n) c e;omega
   ·simp
   ·rw [hg];simp
 ·rename_i l off len cap
  simp only [ag] at ic;obtain ⟨hm,ic⟩:=ic;have hm:=Nat.le_of_ble_eq_true hm;split at ic
  ·rename_i c
   cases hs with
   | slice _ _ _ hb=>
   rename_i b;split at ic
   ·rename_i hc
    have hc:=Nat.le_of_ble_eq_true hc;simp only [ad,Option.some.injEq,Prod.mk.injEq] at ic;obtain ⟨h1,zl,rfl,rfl⟩:=ic;obtain ⟨s1,s2⟩:=R.store hb zl hn;obtain ⟨_,_,_,_,_,_,_,_,_,_,rfl⟩:=jN zl;refine ⟨ρ,_,_,Step.same rfl,.slice off (len+n) c hb,s2,?_⟩;rw [hF.room _ _ _ hc];simp only [Sem.run_bind,c8,Nat.add_assoc,s1 P,Result.andThen_ok,Sem.run_pure]
   ·rename_i hc
    have hc:¬len+n<=c:=λh=>by have:=Nat.ble_eq_true_of_le h;rw [this] at hc;cases hc
    split at ic
    ·rename_i vs el fz own hg
     simp only [ag,ad,Option.some.injEq,Prod.mk.injEq] at ic;obtain ⟨eT,old,ho,rfl,rfl⟩:=ic;have eT:0<n:=by simpa using eT
     obtain ⟨f1,f2⟩:=fit (len:=len) (c:=c) hm (by omega);have cr:dO ρ b vs el fz own w:=R.obj l b _ hb hg;obtain ⟨xs,r1,r2,r3⟩:=cr.first (P:=P) ho;have hgr:=hF.grow (some ⟨b.block,b.base+off,none⟩) len c xs eT (r3 len c).2 (by omega) f1 f2;have R':=R.grown (need:=len+n) (old:=c) (size:=i.size) (e:=e) (z:=z) (r1.append hn) (by simp [r2,uJ,Nat.add_mul]) hz 0 .yes;refine ⟨_,_,_,Step.add _ _ _ _,.sliceEnd 0 (len+n) i.size (grownCap w (len+n) c e) (aS _ _ _) (grownCap_ge w (len+n) c e) (by simp),R',?_⟩;rw [hgr]
    ·cases ic
  ·rename_i es
   cases hs with
   | sliceEnd _ _ _ c hb Pz wm=>
   rename_i b;simp only [ag] at ic;obtain ⟨he,ic⟩:=ic;have he:es=i.size:=Nat.eq_of_beq_eq_true he;subst he;split at ic
   ·rename_i vs el fz own hg
    simp only [ag,Bool.and_eq_true] at ic;obtain ⟨⟨sY,iR⟩,ic⟩:=ic;have iR:el=e:=Nat.eq_of_beq_eq_true iR;subst iR;have cr:dO ρ b vs el fz own w:=R.obj l b _ hb hg;have axH:=cr.fits;have G8:=(R.base l b hb).1;split at ic
    ·rename_i AP
     have AP:=Nat.le_of_ble_eq_true AP;simp only [ad,Option.some.injEq,Prod.mk.injEq] at ic;obtain ⟨h1,zl,rfl,rfl⟩:=ic;obtain ⟨s1,s2⟩:=R.store hb zl hn;obtain ⟨_,_,_,_,_,_,_,_,_,_,rfl⟩:=jN zl;have hc:len+n<=c:=by
      have:(len+n)*i.size<=c*i.size:=by omega
      exact Nat.le_of_mul_le_mul_right this h0
     refine ⟨ρ,_,_,Step.same rfl,.sliceEnd off (len+n) i.size c hb hc wm,s2,?_⟩;rw [hF.room _ _ _ hc];simp only [Sem.run_bind,c8,Nat.add_assoc,s1 P,Result.andThen_ok,Sem.run_pure]
    ·simp only [ag,Option.some.injEq,Prod.mk.injEq,Bool.and_eq_true] at ic
     obtain ⟨⟨⟨⟨ho0,hov⟩,NB⟩,gC⟩,rfl,rfl⟩:=ic;have ho0:off=0:=Nat.eq_of_beq_eq_true ho0;have hov:off+len*i.size=vs.length:=Nat.eq_of_beq_eq_true hov;have NB:=Nat.le_of_ble_eq_true NB;subst ho0;have hvl:vs.length=len*i.size:=by omega
     by_cases hc:len+n<=c
     ·have xH:b.base+vs.length+new.length<=b.total:=by
       have:(len+n)*i.size<=c*i.size:=Nat.mul_le_mul_right _ hc;rw [Nat.add_mul] at this;omega
      obtain ⟨m1,m2⟩:=R.move hb hg sY (off:=0) (by omega) rfl NB hn gC xH;refine ⟨_,_,_,⟨λm hm=>bW λe'=>?_,?_⟩,.sliceEnd 0 (len+n) i.size c (aS _ _ _) hc (by show b.base+0+0+c*i.size=b.total;omega),m2,?_⟩
      ·rw [e'] at hm;exact absurd hm (Nat.lt_irrefl _)
      ·show val h.next<=val (inc h.next);rw [iG];omega
      ·rw [hF.room _ _ _ hc]
       have e1:b.base+0+len*i.size=b.base+vs.length:=by omega
       simp only [Sem.run_bind,c8,e1,m1 P,Result.andThen_ok,Sem.run_pure]
     ·have eT:0<n:=by omega
      obtain ⟨f1,f2⟩:=fit (len:=len) (c:=c) hm (by omega);have ho:rowFrom vs 0 (len*i.size)=some vs:=by
       rw [<-hvl];exact pM vs
      obtain ⟨xs,r1,r2,r3⟩:=cr.first (P:=P) ho;have hgr:=hF.grow (some ⟨b.block,b.base+0,none⟩) len c xs eT (r3 len c).2 (by omega) f1 f2;have R':=(R.del l).grown (need:=len+n) (old:=c) (size:=i.size) (e:=el) (z:=z) (r1.append hn) (by simp [r2,uJ,Nat.add_mul]) hz fz own;refine ⟨uc ρ h.next (dZ.mk w.heap.size 0 (grownCap w (len+n) c el*i.size) .nilFunc),_,_,⟨λm hm=>bW λe'=>?_,?_⟩,.sliceEnd 0 (len+n) i.size (grownCap w (len+n) c el) (aS _ _ _) (grownCap_ge w (len+n) c el) (by simp),R',?_⟩
      ·rw [e'] at hm;exact absurd hm (Nat.lt_irrefl _)
      ·show val h.next<=val (inc h.next);rw [iG];omega
      ·rw [hgr]
   ·cases ic
 ·cases ic
theorem xL (t:ByteArray):cU ρ (ae (ax t)) (t.data.toList.map λb=>Value.int .u8 b.toNat):=by
 unfold ax;generalize t.data.toList=l;induction l with
 | nil=>exact .nil
 | cons b l ih=>exact .cons (.int .u8 _) ih
theorem bp:∀l:List Nat,(ae l).length=l.length
 | []=>rfl
 | _::l=>by simp [ae,bp l]
theorem Sr {size:Nat}{x:V}{y:Value}(R:aA B w0 ρ h w)(r:RV ρ x y){n:Nat}{cs:List V}(he:de h size x=some (n,cs)):
  ∃xs:List Value,cU ρ cs xs/\cs.length=n*size/\(∀w',(Builtin.lenOf y).run P w' = .ok n w')/\(∀k,k<=n->(Builtin.firstCells size k y).run P w = .ok (xs.take (k*size)).toArray w)/\(Builtin.firstCells size n y).run P w.drew = .ok xs.toArray w.drew:=by
 unfold de at he;split at he
 ·cases r;cases he
  refine ⟨[],.nil,by simp,λ_=>rfl,λk hk=>?_,rfl⟩;simpa using run_firstCells_none (P:=P) w size k 0 _
 ·rename_i l off m cap
  split at he
  ·rename_i vs el fz own hg
   simp only [ad,Option.some.injEq,Prod.mk.injEq] at he;obtain ⟨q,hq,rfl,rfl⟩:=he;obtain ⟨b,c,hb,rfl⟩:=zm r;have cr:dO ρ b vs el fz own w:=R.obj l b _ hb hg;obtain ⟨xs,r1,r2,r3⟩:=cr.range hq;refine ⟨xs,r1,by rw [r1.length,r2],λ_=>rfl,λk hk=>?_,?_⟩
   ·refine run_firstCells_some w size k _ m c _ ?_ λj v hv=>?_
    ·have:k*size<=m*size:=Nat.mul_le_mul_right _ hk
     rw [List.length_take];omega
    ·rw [List.getElem?_take] at hv
     split at hv
     ·rw [c8];exact r3 j v hv
     ·cases hv
   ·exact run_firstCells_some w.drew size m _ m c xs r2 λj v hv=>by rw [c8,World.cell?_drew];exact r3 j v hv
  ·cases he
 ·rename_i s
  cases r with | str t=>
  simp only [ag,Option.some.injEq,Prod.mk.injEq] at he;obtain ⟨hs,rfl,rfl⟩:=he;have hs:size=1:=Nat.eq_of_beq_eq_true hs;subst hs;have e1:∀k,((t.extract 0 k).data.map λb=>Value.int .u8 (b.toNat:Int))=((t.data.toList.map λb=>Value.int .u8 (b.toNat:Int)).take k).toArray:=λk=>by
   apply Array.ext';simp
  refine ⟨_,xL t,by rw [bp,Nat.mul_one],λw'=>?_,λk hk=>?_,?_⟩
  ·show (pure t.size:Sem Nat).run P w'=_
   rw [cw];rfl
  ·show (pure ((t.extract 0 k).data.map λb=>Value.int .u8 (b.toNat:Int)):Sem _).run P w=_
   rw [e1,Nat.mul_one];rfl
  ·show (pure ((t.extract 0 (ax t).length).data.map λb=>Value.int .u8 (b.toNat:Int)):Sem _).run P w.drew=_
   rw [e1,List.take_of_length_le (by rw [cw];simp)];rfl
 ·cases r;cases he
  rename_i a c;refine ⟨[],.nil,by simp,λ_=>rfl,λk hk=>?_,?_⟩
  ·have hk:k=0:=Nat.le_zero.1 hk
   subst hk;have:=run_firstCells_some (P:=P) w size 0 a 0 c [] (by simp) λj v hv=>by simp at hv
   simpa using this
  ·exact run_firstCells_some w.drew size 0 a 0 c [] (by simp) λj v hv=>by simp at hv
 ·cases he
theorem xM {ts:Array TypeId}{t u:TypeId}(h:ts.toList=[t,u]):ts = #[t,u]:=by
 apply Array.ext';simpa using h
theorem J0 {C:CE}{args:Array Operand}{ts:Array TypeId}{t u e:TypeId}{size bytes:Nat}{z:V}{s x:X}(AQ:ts.toList=[t,u])(ht:C.P.underlying t=some (.slice e))(hu:(∃e',C.P.underlying u=some (.slice e'))\/C.P.underlying u=some .string)
  (hs:cd C.P e=some size) (hb:xF C.P e=some bytes) (hz:fg C.P e=some z) (h0:0<size) (fC:0<bytes) (NV:z.cells.length=size) (hx:cD C args.toList=some [s,x]):
  cE C (.call {callee:=.builtin .append,args:=args,argTypes:=ts}) (.append e size bytes s x):=by
 intro ρ tm A hT hG B w0 h w R v h' hr;obtain ⟨y1,y2,hy,r1,r2⟩:=JU hx hT hG;simp only [ED.run,ad] at hr;obtain ⟨⟨n,cs⟩,he,ha⟩:=hr;obtain ⟨xs,e1,e2,e3,e4,e5⟩:=Sr (P:=C.P) R r2 he;obtain ⟨i,hi,ft⟩:=xI hs;have hby:i.bytes=bytes:=by
  simp only [xF,ad,Option.some.injEq] at hb;obtain ⟨j,hj,e⟩:=hb;rw [hi] at hj;cases hj;exact e
 simp only [fg,ad] at hz;obtain ⟨j,hj,zx,hzx,hzc⟩:=hz;rw [hi] at hj;cases hj;have hzr:RV ρ z zx:=qj hzc;have aiY:zx.cells.size=size:=by have:=hzr.cells.length;simp at this;omega
 have e4':=e4 n (Nat.le_refl _);rw [List.take_of_length_le (by rw [<-e1.length,e2];exact Nat.le_refl _)] at e4';have ack:=xM AQ;subst ack;subst ft;have hF:=λty=>NY (P:=C.P) (w:=w) t u ty e i zx ht hi hzx hu y2 n xs e3 e4' e5;have key:=λty=>NZ (hF ty) rfl hby h0 fC aiY R r1 e1 e2 ha;obtain ⟨ρ',y,w',k1,k2,k3,k4⟩:=key 0;refine ⟨ρ',y,w',k1,k2,k3,λp hp=>.inl ?_⟩;rw [cv p hp,hy];have:(Builtin.append_ #[t,u] p.type #[y1,y2]).run C.P w = .ok y w':=k4;simp [Go.builtin,this]
theorem HQ {C:CE}{args:Array Operand}{ts:Array TypeId}{t u e:TypeId}{kn:IntKind}{size bytes:Nat}{z:V}{s x:X}(AQ:ts.toList=[t,u])(ht:C.P.underlying t=some (.slice e))(hu:C.P.underlying u=some (.int kn))
  (hs:cd C.P e=some size) (hb:xF C.P e=some bytes) (hz:fg C.P e=some z) (h0:0<size) (fC:0<bytes) (NV:z.cells.length=size) (hx:cD C args.toList=some [s,x]):
  cE C (.call {callee:=.builtin .append,args:=args,argTypes:=ts}) (.nf e size bytes z.cells s x):=by
 intro ρ tm A hT hG B w0 h w R v h' hr;obtain ⟨y1,y2,hy,r1,r2⟩:=JU hx hT hG;simp only [ED.run] at hr;split at hr
 ·rename_i n e'
  rw [e'] at r2;cases r2;simp only [ag,Bool.and_eq_true] at hr;obtain ⟨⟨hn,hm⟩,ha⟩:=hr;have hn:=Nat.le_of_ble_eq_true hn;have hm:n*bytes<=1099511627776:=Nat.le_of_ble_eq_true hm;obtain ⟨i,hi,ft⟩:=xI hs;have hby:i.bytes=bytes:=by
   simp only [xF,ad,Option.some.injEq] at hb;obtain ⟨j,hj,e⟩:=hb;rw [hi] at hj;cases hj;exact e
  have hz':=hz;simp only [fg,ad] at hz;obtain ⟨j,hj,zx,hzx,hzc⟩:=hz;rw [hi] at hj;cases hj;have hzr:RV ρ z zx:=qj hzc;have aiY:zx.cells.size=size:=by have:=hzr.cells.length;simp at this;omega
  have ack:=xM AQ;subst ack;subst ft;have e1:=Py hzr NV h0 n;have e2:(aG z.cells n).length=n*i.size:=by rw [gb,NV]
  ·have Da:n*i.bytes<=281474976710656:=by rw [hby];omega
   have hF:=λty=>Sq (P:=C.P) (w:=w) t u ty e i zx (kn:=kn) ht hi hzx hu h0 n Da (by omega);obtain ⟨ρ',y,w',k1,k2,k3,k4⟩:=NZ (hF 0) rfl hby h0 fC aiY R r1 e1 e2 ha;refine ⟨ρ',y,w',k1,k2,k3,λp hp=>.inl ?_⟩;rw [cv p hp,hy];have:(Builtin.append_ #[t,u] p.type #[y1,.int .i64 (Int.ofNat n)]).run C.P w = .ok y w':=k4;simp [Go.builtin] at this ⊢;simp [this]
 ·cases hr
theorem acm {C:CE}{args:Array Operand}{ts:Array TypeId}{t e:TypeId}{rest:List TypeId}{size:Nat}{d s:X}(AQ:ts.toList=t::rest)(ht:C.P.underlying t=some (.slice e))(hs:cd C.P e=some size)(hx:cD C args.toList=some [d,s]):
  cE C (.call {callee:=.builtin .copy,args:=args,argTypes:=ts}) (.copy size d s):=by
 intro ρ tm A hT hG B w0 h w R v h' hr;obtain ⟨y1,y2,hy,r1,r2⟩:=JU hx hT hG;simp only [ED.run,copyV,ad] at hr;obtain ⟨⟨n,cs⟩,he,hr⟩:=hr;obtain ⟨xs,e1,e2,e3,e4,e5⟩:=Sr (P:=C.P) R r2 he;have B0:∀(ty:TypeId) (base:Option Addr) (len cap:Nat),y1 = .slice base len cap->(Builtin.copy_ ts ty #[y1,y2]).run C.P w=((match base with | some a=>storeCells a (xs.take (Nat.min n len*size)) | none=>pure ():Sem Unit).run C.P w).andThen λ_ w=>.ok (goInt (Nat.min n len)) w:=λty base len cap NW=>by
  subst NW;have e4':=e4 (Nat.min n len) (Nat.min_le_left _ _);cases base<;>simp [Builtin.copy_,ql AQ,run_underlying ht,e3,cA hs,e4']
 simp only at hr;split at hr
 ·rename_i c e'
  rw [e'] at r1;cases r1;cases hr;refine ⟨ρ,_,w,Step.refl _ _,.int .i64 _,R,λp hp=>.inl ?_⟩;rw [cv p hp,hy];have:=B0 p.type none 0 c rfl;simp [Go.builtin,this,goInt]
 ·rename_i l off len cap e'
  rw [e'] at r1;obtain ⟨b,c,hb,rfl⟩:=zm r1;simp only [ad] at hr;obtain ⟨q,hq,hr⟩:=hr;have aU:=(e1.takeN hq).1;split at hr
  ·simp only [Option.some.injEq,Prod.mk.injEq] at hr
   obtain ⟨rfl,rfl⟩:=hr;refine ⟨ρ,_,w,Step.refl _ _,.int .i64 _,R,λp hp=>.inl ?_⟩;rw [cv p hp,hy];have h0:xs.take (Nat.min n len*size)=[]:=by
    generalize xs.take (Nat.min n len*size)=l at aU;cases aU;rfl
   have:=B0 p.type _ len c rfl;rw [h0] at this;simp [Go.builtin,this,goInt,storeCells]
  ·simp only [ad,Option.some.injEq,Prod.mk.injEq] at hr
   obtain ⟨h1,zl,rfl,rfl⟩:=hr;obtain ⟨s1,s2⟩:=R.store hb zl aU;obtain ⟨_,_,_,_,_,_,_,_,_,_,rfl⟩:=jN zl;refine ⟨ρ,_,_,Step.same rfl,.int .i64 _,s2,λp hp=>.inl ?_⟩;rw [cv p hp,hy];have:=B0 p.type _ len c rfl;simp [Go.builtin,this,goInt,s1]
 ·cases hr
theorem DH (need old t:Nat)(e:TypeId):need<=(Question.appendCap need old e).cut t:=by
 show need<=need+t % (2 ^ 63 - need)
 exact Nat.le_add_right _ _
theorem gN {w:World}{b n k:Nat}{c:Array Value}{e:TypeId}{lo hi:Nat}(h:w.heap[b]? =some (.cells c e (lo,hi)))(hk:k≠0):
  (w.freeze ⟨b,n,none⟩ k).heap[b]? =some (.cells c e (if lo==hi then (n,n+k) else (min lo n,max hi (n+k)))):=by
 unfold World.freeze;rw [if_neg hk];simp [Array.getElem?_modify,h]
theorem kC {w:World}{a:Addr}{k i:Nat}(hi:i≠a.block):(w.freeze a k).heap[i]? =w.heap[i]?:=by
 unfold World.freeze;split
 ·rfl
 ·simp only [Array.getElem?_modify];rw [if_neg (Ne.symm hi)]
theorem rJ (w:World)(a:Addr)(k:Nat):(w.freeze a k).heap.size=w.heap.size/\(w.freeze a k).os=w.os/\(w.freeze a k).tape=w.tape/\(w.freeze a k).output=w.output:=by
 unfold World.freeze;split
 ·exact ⟨rfl,rfl,rfl,rfl⟩
 ·exact ⟨by simp,rfl,rfl,rfl⟩
theorem PA {C:CE}{s t e:TypeId}{y:Operand}{x:X}(hs:C.P.underlying s=some .string)(ht:C.P.underlying t=some (.slice e))(he:C.P.underlying e=some (.int .u8))(hx:aw C y=some x):
  cE C (.convert s t y) (.cY e x):=by
 intro ρ tm A hT hG B w0 h w R v h' hr;have r:=au hT hG hx;simp only [ED.run] at hr;split at hr
 ·rename_i b e'
  rw [e'] at r;generalize hy:A.eval y=u at r;cases r with | str u=>
  simp only [ag,Option.some.injEq,Prod.mk.injEq] at hr;obtain ⟨hlen,rfl,rfl⟩:=hr;have hq:(Question.appendCap u.size 0 e).forced=false:=rfl;obtain ⟨cap,wm⟩:∃cap,cap=(Question.appendCap u.size 0 e).cut (w.tape w.drawn (.appendCap u.size 0 e)):=⟨_,rfl⟩;have jb:u.size<=cap:=by rw [wm];exact DH _ _ _ _
  have R1:=(R.drew).row (xL (ρ:=ρ) u) (List.replicate (cap - u.size) (Value.int .u8 0)) e 0 .marked;have hd:u.data.toList.length=u.size:=by simp
  have hn:((u.data.toList.map λb=>Value.int .u8 (b.toNat:Int))++List.replicate (cap - u.size) (Value.int .u8 0)).length=cap:=by
   simp only [List.length_append,List.length_map,hd,List.length_replicate];omega
  have HR:(⟨(u.data.toList.map λb=>Value.int .u8 (b.toNat:Int))++List.replicate (cap - u.size) (Value.int .u8 0)⟩:Array Value)=(u.data.map λb=>Value.int .u8 (b.toNat:Int))++Array.replicate (cap - u.size) (Value.int .u8 0):=by
   apply Array.ext';simp
  rw [hn,HR] at R1;generalize J1:(u.data.map λb=>Value.int .u8 (b.toNat:Int))++Array.replicate (cap - u.size) (Value.int .u8 0)=cells at R1;have jQ:cells.size=cap:=by rw [<-J1,<-HR];simpa using hn
  have oi:(w.drew.alloc (.cells cells e)).heap[w.heap.size]? =some (.cells cells e (0,0)):=heap_alloc_new (w:=w.drew) _;have NB:=gN (n:=cap) oi (k:=1) (by omega);simp only [beq_self_eq_true,if_true] at NB;obtain ⟨z1,z2,z3,z4⟩:=rJ (w.drew.alloc (.cells cells e)) ⟨w.heap.size,cap,none⟩ 1;have ahB:(h.add (.cells (ae (ax u)) e 0 .marked)).get h.next=some (.cells (ae (ax u)) e 0 .marked):=H.kB h _;have cr:dO (uc ρ h.next (dZ.mk w.heap.size 0 cap .nilFunc)) (dZ.mk w.heap.size 0 cap .nilFunc) (ae (ax u)) e 0 .marked (w.drew.alloc (.cells cells e)):=R1.obj h.next _ _ (aS _ _ _) ahB;have R2:=R1.change (w':=(w.drew.alloc (.cells cells e)).freeze ⟨w.heap.size,cap,none⟩ 1) (p:=.cells (ae (ax u)) e 0 .marked) (aS _ _ _) ahB rfl z1 (λk hk=>kC hk) z2 z3 z4 (by
   refine ⟨?_,cr.fits,λi v hv=>?_,λ_ i _ hi=>?_,λho=>by cases ho⟩
   ·simp only [World.shape?,NB,jQ]
   ·obtain ⟨q,sj,gV⟩:=cr.cell i v hv
    refine ⟨q,?_,gV⟩;unfold cZ at sj ⊢;simp only [World.cell?,oi] at sj;simp only [World.cell?,NB];exact sj
   ·have hi:i<cap:=hi
    simp only [World.frozen?,NB];have:¬cap<=i:=by omega
    simp [this])
  have Y':(h.add (.cells (ae (ax u)) e 0 .marked)).set h.next (.cells (ae (ax u)) e 0 .marked)=h.add (.cells (ae (ax u)) e 0 .marked):=by
   unfold H.set H.add;simp only [T.set_set]
  rw [Y'] at R2;refine cE.ret (s:=convert s t (.string u)) (Step.add _ _ _ _) (.sliceEnd 0 (ax u).length 1 cap (aS _ _ _) (by rw [cw];exact jb) (by simp)) R2 ?_ λp hp=>by unfold execOp;rw [hp];simp only [hy]
  unfold convert;simp only [Sem.run_bind,run_underlying hs,run_underlying ht,Result.andThen_ok,run_underlying he];simp only [Conv.stringToBytes,Sem.run_bind,run_choose,hq,Bool.false_eq_true,if_false,<-wm,Result.andThen_ok,newRow,run_newObj,Sem.run_pure,J1,markStringish,run_shape];have aiZ:(w.drew.alloc (.cells cells e)).shape? w.heap.size=some (e,cap):=by simp only [World.shape?,oi,jQ]
  have R8:World.shape? {heap:=w.heap.push (Go.Obj.cells cells e),tape:=w.tape,drawn:=w.drawn+1,os:=w.os,output:=w.output} w.heap.size=some (e,cap):=aiZ;simp only [R8,run_freeze,Result.andThen_ok,cw]
  rfl
 ·cases hr
theorem Mt {C:CE}{args:Array Operand}{ts:Array TypeId}{t u e:TypeId}{x n:X}(AQ:ts.toList=[t,u])(ht:C.P.underlying t=some (.pointer e))(hs:cd C.P e=some 1)(hx:cD C args.toList=some [x,n]):
  cE C (.call {callee:=.builtin .unsafeString,args:=args,argTypes:=ts}) (.mr e x n):=by
 intro ρ tm A hT hG B w0 h w R v h' hr;obtain ⟨y1,y2,hy,r1,r2⟩:=JU hx hT hG;have ack:=xM AQ;subst ack;simp only [ED.run] at hr;unfold uE at hr;split at hr
 ·rename_i e1 e2
  rw [e1] at r1;rw [e2] at r2;cases r1;cases r2;cases hr;refine ⟨ρ,_,w,Step.refl _ _,.str ByteArray.empty,R,λp hp=>.inl ?_⟩;rw [cv p hp,hy];have:=Lib.run_unsafeString_none (P:=C.P) w t u p.type none;have h2:(Builtin.unsafeString_ #[t,u] p.type #[.pointer none,.int .i64 (Int.ofNat 0)]).run C.P w = .ok (.string .empty) w:=this;simp [Go.builtin] at h2 ⊢;simp [h2]
 ·rename_i l off e1 e2
  rw [e1] at r1;rw [e2] at r2;obtain ⟨b,hb,rfl⟩:=dP r1;cases r2;cases hr;refine ⟨ρ,_,w,Step.refl _ _,.str ByteArray.empty,R,λp hp=>.inl ?_⟩;rw [cv p hp,hy];have:=Lib.run_unsafeString_none (P:=C.P) w t u p.type (some ⟨b.block,b.base+off,none⟩);have h2:(Builtin.unsafeString_ #[t,u] p.type #[.pointer (some ⟨b.block,b.base+off,none⟩),.int .i64 (Int.ofNat 0)]).run C.P w = .ok (.string .empty) w:=this;simp [Go.builtin] at h2 ⊢;simp [h2]
 ·rename_i l m e1 e2
  rw [e1] at r1;rw [e2] at r2;obtain ⟨b,hb,rfl⟩:=dP r1;cases r2;have fC:=(R.base l b hb).1;split at hr
  ·rename_i vs el fz hg
   simp only [ag,ad,Option.some.injEq,Prod.mk.injEq,Bool.and_eq_true] at hr;obtain ⟨⟨iR,hm⟩,q,hq,bs,Mv,rfl,rfl⟩:=hr;have iR:el=e:=Nat.eq_of_beq_eq_true iR;subst iR;have hm:=Nat.le_of_ble_eq_true hm;have cr:dO ρ b vs el fz .yes w:=R.obj l b _ hb hg;have hle:=JJ hq;have uH:=cr.fits;obtain ⟨xs,x1,x2,x3⟩:=cr.range (show rowFrom vs 0 (m+1)=some q from hq);obtain ⟨us,rfl,rfl⟩:=B3 Mv x1;have hul:us.length=m+1:=by simpa using x2
   obtain ⟨c,lo,hi,bG,HP,IB⟩:=cr.bare rfl;obtain ⟨Md,ja,dt,aAj,Za⟩:∃Md ja,(w.freeze ⟨b.block,0,none⟩ (m+1)).heap[b.block]? =some (.cells c el (Md,ja))/\ja<=max hi (m+1)/\Md<=ja:=by
    have dt:=gN (n:=0) bG (k:=m+1) (by omega)
    by_cases hlh:(lo==hi)=true
    ·rw [if_pos hlh] at dt
     exact ⟨_,_,dt,by omega,by omega⟩
    ·rw [if_neg hlh] at dt
     exact ⟨_,_,dt,by omega,by omega⟩
   obtain ⟨z1,z2,z3,z4⟩:=rJ w ⟨b.block,0,none⟩ (m+1);have jQ:c.size=b.total:=by
    have:=cr.shape;simp only [World.shape?,bG] at this;simpa using this
   have R2:=R.change (w':=w.freeze ⟨b.block,0,none⟩ (m+1)) (p:=.cells vs el (Nat.max fz (m+1)) .yes) hb hg rfl z1 (λk hk=>kC hk) z2 z3 z4 (by
    have Mw:(Nat.max fz (m+1))=max fz (m+1):=rfl;refine ⟨?_,uH,λi v hv=>?_,λ_ i Fa DI=>?_,λ_=>⟨c,_,_,dt,?_,Za⟩⟩
    ·simp only [World.shape?,dt,jQ]
    ·obtain ⟨q,sj,gV⟩:=cr.cell i v hv
     refine ⟨q,?_,gV⟩;unfold cZ at sj ⊢;simp only [World.cell?,bG] at sj;simp only [World.cell?,dt];exact sj
    ·rw [Mw,fC] at Fa
     rw [fC] at HP;simp only [World.frozen?,dt];simp only [Bool.and_eq_false_iff,decide_eq_false_iff_not];right;omega
    ·rw [Mw,fC]
     rw [fC] at HP;omega)
   refine ⟨ρ,.string ⟨us.toArray⟩,_,Step.same rfl,by rw [<-NU];exact .str _,R2,λp hp=>.inl ?_⟩;rw [cv p hp,hy];have:=Lib.run_unsafeString_row (P:=C.P) w t u p.type el ht (DF hs) b.block b.total cr.shape us (by intro h0;rw [h0] at hul;simp at hul) (by omega) (by omega) (λj a ha=>by
    rw [c8];have:=x3 j (Value.int .u8 a.toNat) (by simp [List.getElem?_map,ha]);rw [fC] at this;simpa using this)
   rw [hul] at this;rw [fC];have h2:(Builtin.unsafeString_ #[t,u] p.type #[.pointer (some ⟨b.block,0+0,none⟩),.int .i64 (Int.ofNat (m+1))]).run C.P w = .ok (.string ⟨us.toArray⟩) (w.freeze ⟨b.block,0,none⟩ (m+1)):=this;simp only [Go.builtin,Sem.run_bind,h2,Result.andThen_ok,Sem.run_pure]
  ·cases hr
 ·cases hr
theorem Mx {C:CE}{s e0 e:TypeId}{y:Operand}{x:X}(_hs0:C.P.underlying s=some (.slice e0))(hs:C.P.underlying s=some (.slice e))(he:C.P.underlying e=some (.int .u8))(hx:aw C y=some x):
  cE C (.convert s s y) (.y' x):=by
 intro ρ tm A hT hG B w0 h w R v h' hr;have r:=au hT hG hx;generalize XF:A.eval y=yv at r;simp only [ED.run] at hr;split at hr
 ·rename_i l off n cp e1
  rw [e1] at r;split at hr
  ·rename_i vs el hg
   cases hr;obtain ⟨b,c,hb,rfl⟩:=zm r;have fC:=(R.base l b hb).1;have cr:dO ρ b vs el 0 .yes w:=R.obj l b _ hb hg;have uH:=cr.fits;obtain ⟨cs,lo,hi,bG,HP,IB⟩:=cr.bare rfl;have jQ:cs.size=b.total:=by
    have:=cr.shape;simp only [World.shape?,bG] at this;simpa using this
   have dt:=gN (n:=b.total) bG (k:=1) (by omega);have hlh:(lo==hi)=true:=by simp;omega
   rw [if_pos hlh] at dt;obtain ⟨z1,z2,z3,z4⟩:=rJ w ⟨b.block,b.total,none⟩ 1;have R2:=R.change (w':=w.freeze ⟨b.block,b.total,none⟩ 1) (p:=.cells vs el 0 .marked) hb hg rfl z1 (λk hk=>kC hk) z2 z3 z4 (by
    refine ⟨?_,uH,λi v hv=>?_,λ_ i Fa DI=>?_,λq=>by cases q⟩
    ·simp only [World.shape?,dt,jQ]
    ·obtain ⟨q,sj,gV⟩:=cr.cell i v hv
     refine ⟨q,?_,gV⟩;unfold cZ at sj ⊢;simp only [World.cell?,bG] at sj;simp only [World.cell?,dt];exact sj
    ·simp only [World.frozen?,dt]
     simp only [Bool.and_eq_false_iff,decide_eq_false_iff_not];left;omega)
   refine ⟨ρ,_,_,Step.same rfl,r,R2,λp hp=>.inl ?_⟩;unfold execOp;rw [hp];have R8:w.shape? b.block=some (el,b.total):=cr.shape;simp [XF,convert,run_underlying hs,run_underlying he,markStringish,R8]
  ·cases hr
 ·cases hr
theorem T.J2 {α:Type}:∀{p:Lb} {t:T α} {x:α},t.get p=some x->t.set p (some x)=t
 | p,.leaf,x,h=>by rw [T.kz] at h;cases h
 | [],.node l v r,x,h=>by simp only [T.get] at h;simp only [T.set,h]
 | true::p,.node l v r,x,h=>by simp only [T.get] at h;simp only [T.set,T.J2 h]
 | false::p,.node l v r,x,h=>by simp only [T.get] at h;simp only [T.set,T.J2 h]
theorem AR {B:Nat}{w0 w:World}{ρ:bE}{h:H}{s t e:TypeId}{L:Lb}{u:ByteArray}(hs:P.underlying s=some .string)(ht:P.underlying t=some (.slice e))(he:P.underlying e=some (.int .u8))
  (R:aA B w0 ρ h w) (fE:ρ L=none) (bA:val L<val h.next) (dC:h.get L=some (.cells (ae (ax u)) e 0 .marked)):
  ∃cap w',u.size<=cap/\aA B w0 (uc ρ L (dZ.mk w.heap.size 0 cap .nilFunc)) h w'/\(convert s t (.string u)).run P w = .ok (.slice (some ⟨w.heap.size,0,none⟩) u.size cap) w':=by
 have hq:(Question.appendCap u.size 0 e).forced=false:=rfl;obtain ⟨cap,wm⟩:∃cap,cap=(Question.appendCap u.size 0 e).cut (w.tape w.drawn (.appendCap u.size 0 e)):=⟨_,rfl⟩;have jb:u.size<=cap:=by rw [wm];exact DH _ _ _ _
 have hE:jI ρ (uc ρ L (dZ.mk w.heap.size 0 cap .nilFunc)):=eI fE;have hd:u.data.toList.length=u.size:=by simp
 have hn:((u.data.toList.map λb=>Value.int .u8 (b.toNat:Int))++List.replicate (cap - u.size) (Value.int .u8 0)).length=cap:=by
  simp only [List.length_append,List.length_map,hd,List.length_replicate];omega
 have HR:(⟨(u.data.toList.map λb=>Value.int .u8 (b.toNat:Int))++List.replicate (cap - u.size) (Value.int .u8 0)⟩:Array Value)=(u.data.map λb=>Value.int .u8 (b.toNat:Int))++Array.replicate (cap - u.size) (Value.int .u8 0):=by
  apply Array.ext';simp
 have Ss:dO (uc ρ L (dZ.mk w.drew.heap.size 0 ((u.data.toList.map λb=>Value.int .u8 (b.toNat:Int))++List.replicate (cap - u.size) (Value.int .u8 0)).length .nilFunc)) (dZ.mk w.drew.heap.size 0 ((u.data.toList.map λb=>Value.int .u8 (b.toNat:Int))++List.replicate (cap - u.size) (Value.int .u8 0)).length .nilFunc) (ae (ax u)) e 0 .marked (w.drew.alloc (.cells ⟨(u.data.toList.map λb=>Value.int .u8 (b.toNat:Int))++List.replicate (cap - u.size) (Value.int .u8 0)⟩ e)):=
  dO.new (rest:=List.replicate (cap - u.size) (Value.int .u8 0)) ((xL (ρ:=ρ) u).mono (by rw [hn];exact hE)) e 0 .marked
 have R1:=(R.drew).laid (h':=h) (l:=L) (o:=.cells (ae (ax u)) e 0 .marked) (x:=.cells ⟨(u.data.toList.map λb=>Value.int .u8 (b.toNat:Int))++List.replicate (cap - u.size) (Value.int .u8 0)⟩ e)
  (b:=(dZ.mk w.drew.heap.size 0 ((u.data.toList.map λb=>Value.int .u8 (b.toNat:Int))++List.replicate (cap - u.size) (Value.int .u8 0)).length .nilFunc)) rfl ⟨rfl,rfl⟩ fE bA (Nat.le_refl _) dC (λ_ _=>rfl) Ss
 rw [hn,HR] at R1;clear Ss;generalize J1:(u.data.map λb=>Value.int .u8 (b.toNat:Int))++Array.replicate (cap - u.size) (Value.int .u8 0)=cells at R1;have jQ:cells.size=cap:=by rw [<-J1,<-HR];simpa using hn
 have oi:(w.drew.alloc (.cells cells e)).heap[w.heap.size]? =some (.cells cells e (0,0)):=heap_alloc_new (w:=w.drew) _;have NB:=gN (n:=cap) oi (k:=1) (by omega);simp only [beq_self_eq_true,if_true] at NB;obtain ⟨z1,z2,z3,z4⟩:=rJ (w.drew.alloc (.cells cells e)) ⟨w.heap.size,cap,none⟩ 1;have R1:aA B w0 (uc ρ L (dZ.mk w.heap.size 0 cap .nilFunc)) h (w.drew.alloc (.cells cells e)):=R1;have cr:dO (uc ρ L (dZ.mk w.heap.size 0 cap .nilFunc)) (dZ.mk w.heap.size 0 cap .nilFunc) (ae (ax u)) e 0 .marked (w.drew.alloc (.cells cells e)):=R1.obj L _ _ (aS _ _ _) dC;have R2:=R1.change (w':=(w.drew.alloc (.cells cells e)).freeze ⟨w.heap.size,cap,none⟩ 1) (p:=.cells (ae (ax u)) e 0 .marked) (aS _ _ _) dC rfl z1 (λk hk=>kC hk) z2 z3 z4 (by
  refine ⟨?_,cr.fits,λi v hv=>?_,λ_ i _ hi=>?_,λho=>by cases ho⟩
  ·simp only [World.shape?,NB,jQ]
  ·obtain ⟨q,sj,gV⟩:=cr.cell i v hv
   refine ⟨q,?_,gV⟩;unfold cZ at sj ⊢;simp only [World.cell?,oi] at sj;simp only [World.cell?,NB];exact sj
  ·have hi:i<cap:=hi
   simp only [World.frozen?,NB];have:¬cap<=i:=by omega
   simp [this])
 have Y':h.set L (.cells (ae (ax u)) e 0 .marked)=h:=by
  unfold H.set;have:h.t.set L (some (.cells (ae (ax u)) e 0 .marked))=h.t:=T.J2 dC;rw [this]
 rw [Y'] at R2;refine ⟨cap,_,jb,R2,?_⟩;unfold convert;simp only [Sem.run_bind,run_underlying hs,run_underlying ht,Result.andThen_ok,run_underlying he];simp only [Conv.stringToBytes,Sem.run_bind,run_choose,hq,Bool.false_eq_true,if_false,<-wm,Result.andThen_ok,newRow,run_newObj,Sem.run_pure,J1,markStringish,run_shape];have aiZ:(w.drew.alloc (.cells cells e)).shape? w.heap.size=some (e,cap):=by simp only [World.shape?,oi,jQ]
 have R8:World.shape? {heap:=w.heap.push (Go.Obj.cells cells e),tape:=w.tape,drawn:=w.drawn+1,os:=w.os,output:=w.output} w.heap.size=some (e,cap):=aiZ;simp only [R8,run_freeze,Result.andThen_ok]
 rfl
theorem vU {C:CE}{B:Nat}{w0 w:World}{ρ:bE}{h:H}{tm:T V}{A:Act}{t e:TypeId}{size n:Nat}{z:V}{ps:Array (Nat×Operand)}{l:List (Nat×X)}{cs:List V}{L:Lb}(hT:iU ρ C.n tm A.tmps)(hG:gv ρ C.G)
  (hu:C.P.underlying t=some (.slice e)) (hs:cd C.P e=some size) (hz:fg C.P e=some z) (hn:n*size<=65536) (NV:z.cells.length=size) (h0:0<size) (hl:eF C ps.toList=some l) (hc:eW size l (aG z.cells n)=some cs)
  (R:aA B w0 ρ h w) (fE:ρ L=none) (bA:val L<val h.next) (dC:h.get L=some (.cells cs e 0 .yes)):
  ∃(m:Nat) (w':World),aA B w0 (uc ρ L (dZ.mk w.heap.size 0 m .nilFunc)) h w'/\(Instr.buildSlice t n (ps.map λ(i,x)=>(i,A.eval x))).run C.P w = .ok (.slice (some ⟨w.heap.size,0,none⟩) n n) w':=by
 obtain ⟨x,hx,hzr⟩:=fD (ρ:=ρ) hz;have acg:=hx.cells.repeat NV h0 n;obtain ⟨arr,f1,f2⟩:=uM (A:=A) hT hG hl acg (oh tm hc);have hE:jI ρ (uc ρ L (dZ.mk w.heap.size 0 (arr.toList++([]:List Value)).length .nilFunc)):=eI fE;have Ss:dO (uc ρ L (dZ.mk w.heap.size 0 (arr.toList++[]).length .nilFunc)) (dZ.mk w.heap.size 0 (arr.toList++[]).length .nilFunc) cs e 0 .yes (w.alloc (.cells ⟨arr.toList++[]⟩ e)):=dO.new (rest:=[]) (f2.mono hE) e 0 .yes;have R':=R.laid (h':=h) (o:=.cells cs e 0 .yes) (x:=.cells ⟨arr.toList++[]⟩ e) (b:=(dZ.mk w.heap.size 0 (arr.toList++([]:List Value)).length .nilFunc)) rfl ⟨rfl,rfl⟩ fE bA (Nat.le_refl _) dC (λ_ _=>rfl) Ss;refine ⟨_,_,R',?_⟩;have e1:(ps.map λ(i,x)=>(i,A.eval x)).toList=ps.toList.map λp=>(p.1,A.eval p.2):=by simp
 by_cases CT:n*size=0
 ·have eT:n=0:=by rcases Nat.mul_eq_zero.1 CT with h | h<;>omega
  subst eT;have f1':Instr.fill (λi=>some (i*size,size)) ((Array.range 0).map ((#[]:Array Value)[· % 0]!)) (ps.toList.map λp=>(p.1,A.eval p.2))=some arr:=by
   rw [<-f1];congr 1;simp
  simp only [Instr.buildSlice,Sem.run_bind,run_underlying hu,Result.andThen_ok,cA hs,Nat.zero_mul];simp [newRow];simp at f1';rw [f1'];simp
 ·have:¬(n*size>2 ^ 24):=by omega
  simp only [Instr.buildSlice,Sem.run_bind,run_underlying hu,Result.andThen_ok,cA hs,if_neg this,Sem.run_pure,if_neg CT,hzr,e1];rw [f1];simp [newRow]
end
end Go.Dx
