/-
  The sequencer's laws. Part ZBG of the proof: slices.AppendSeq(nil, the keys of a map that holds nothing).
-/
import Derived.Test.YteajeefphbjnmaaGreatDoorProg
import Derived.KernelRfl
import Derived.Sort.MapsRangeIn
import Derived.WalkKit
import Derived.OwnWalkIn
import Derived.TacticsInMore
import Derived.RegionIn
import Derived.LoopNIn
import Derived.LoopIn
import Derived.Test.YteajeefphbjnmaaGreatDoorZAL
import Derived.Test.YteajeefphbjnmaaGreatDoorZAJ
import Derived.Test.YteajeefphbjnmaaGreatDoorZAK
namespace Go.Proofs
open Go Go.RowKit Go.Dx
def Ys (w:World)(mb:Option Nat):Prop:=mb=none\/∃b c,mb=some b/\w.heap[b]? =some (.map #[] c)
set_option maxRecDepth 100000 in
set_option maxHeartbeats 1000000 in
theorem Tz.ap' (F:Fence)(n:Nat)(aqa:F.fn 192)(hro:F.round=none)(l Bm:Nat)(w:World)(mb:Option Nat)(hm:w.cell? ⟨Bm,0,none⟩=some (.map mb))(hmb:Ys w mb):
  CallsIn F n Tryz.prog 192 #[.func (.yield l) #[] #[],.pointer (some ⟨Bm,0,none⟩)] w λe W'=>(∃v,e = .returned v)/\∃o,W'=w.alloc o:=by
 rcases hmb with rfl | ⟨b,c,rfl,hb⟩
 ·have h1:=@AY Tryz.prog w 105 _ _ Tryz.underlying105
  have h2:=@DQ Tryz.prog (w.alloc (.mapIter none 0 #[] 0)) w.heap.size 0 0 #[] (Go.Dx.heap_alloc_new _);refine callsIn_of_wp Tryz.func192 rfl aqa ?_ hro;simp only [Tryz.ntmps192,List.size_toArray,List.length_cons,List.length_nil,Nat.reduceAdd,Nat.reduceSub,Array.replicate_succ,Array.replicate_zero,List.push_toArray,List.append_toArray,List.nil_append,List.cons_append]
  gi_wp2
  refine wpIn_loop_rounds 1 ?_;rw [roundsIn_succ]
  gi_wp2
  go_end0
  exact ⟨⟨_,rfl⟩,_,rfl⟩
 ·have h1:=Go.Dx.run_range_map (P:=Tryz.prog) Tryz.underlying105 hb
  have bA:=Go.Dx.mS hb;have h2:=@xU Tryz.prog (w.alloc (.mapIter (some b) c #[] c)) w.heap.size b c c c #[] (Go.Dx.heap_alloc_new _) ((Go.Dx.heap_alloc_old _ bA).trans hb);refine callsIn_of_wp Tryz.func192 rfl aqa ?_ hro;simp only [Tryz.ntmps192,List.size_toArray,List.length_cons,List.length_nil,Nat.reduceAdd,Nat.reduceSub,Array.replicate_succ,Array.replicate_zero,List.push_toArray,List.append_toArray,List.nil_append,List.cons_append]
  gi_wp2
  refine wpIn_loop_rounds 1 ?_;rw [roundsIn_succ]
  gi_wp2
  go_end0
  exact ⟨⟨_,rfl⟩,_,rfl⟩
set_option maxRecDepth 100000 in
set_option maxHeartbeats 1000000 in
theorem Tz.aqb (F:Fence)(n:Nat)(aqc:F.fn 217)(hro:F.round=none)(l Bm:Nat)(w:World)(mb:Option Nat)(hm:w.cell? ⟨Bm,0,none⟩=some (.map mb))(hmb:Ys w mb):
  CallsIn F n Tryz.prog 217 #[.func (.yield l) #[] #[],.pointer (some ⟨Bm,0,none⟩)] w λe W'=>(∃v,e = .returned v)/\∃o,W'=w.alloc o:=by
 rcases hmb with rfl | ⟨b,c,rfl,hb⟩
 ·have h1:=@AY Tryz.prog w 77 _ _ Tryz.underlying77
  have h2:=@DQ Tryz.prog (w.alloc (.mapIter none 0 #[] 0)) w.heap.size 0 0 #[] (Go.Dx.heap_alloc_new _);refine callsIn_of_wp Tryz.func217 rfl aqc ?_ hro;simp only [Tryz.ntmps217,List.size_toArray,List.length_cons,List.length_nil,Nat.reduceAdd,Nat.reduceSub,Array.replicate_succ,Array.replicate_zero,List.push_toArray,List.append_toArray,List.nil_append,List.cons_append]
  gi_wp2
  refine wpIn_loop_rounds 1 ?_;rw [roundsIn_succ]
  gi_wp2
  go_end0
  exact ⟨⟨_,rfl⟩,_,rfl⟩
 ·have h1:=Go.Dx.run_range_map (P:=Tryz.prog) Tryz.underlying77 hb
  have bA:=Go.Dx.mS hb;have h2:=@xU Tryz.prog (w.alloc (.mapIter (some b) c #[] c)) w.heap.size b c c c #[] (Go.Dx.heap_alloc_new _) ((Go.Dx.heap_alloc_old _ bA).trans hb);refine callsIn_of_wp Tryz.func217 rfl aqc ?_ hro;simp only [Tryz.ntmps217,List.size_toArray,List.length_cons,List.length_nil,Nat.reduceAdd,Nat.reduceSub,Array.replicate_succ,Array.replicate_zero,List.push_toArray,List.append_toArray,List.nil_append,List.cons_append]
  gi_wp2
  refine wpIn_loop_rounds 1 ?_;rw [roundsIn_succ]
  gi_wp2
  go_end0
  exact ⟨⟨_,rfl⟩,_,rfl⟩
set_option maxRecDepth 100000 in
set_option maxHeartbeats 1000000 in
theorem Tz.alp (g:Nat)(lb:Array Value)(eg:∀args w,(callFunc g args).run Tryz.prog w = .ok (.enter g args) w) (w:World)
  (hg:∀l W,Below w.heap.size w W->CallsIn Fence.wide 0 Tryz.prog g (#[.func (.yield l) #[] #[]]++lb) W λe W'=>(∃v,e = .returned v)/\∃o,W'=W.alloc o):
  Calls Tryz.prog 243 #[.slice none 0 0,.func (.func g) #[] lb] w λe w'=>e = .returned (.slice none 0 0)/\Below w.heap.size w w':=by
 refine (callsIn_wide (n:=0)).1 ?_;refine callsIn_of_wp_marks Tryz.func243 rfl trivial ?_ rfl;simp only [Tryz.ntmps243,List.size_toArray,List.length_cons,List.length_nil,Nat.reduceAdd,Nat.reduceSub,Array.replicate_succ,Array.replicate_zero,List.push_toArray,List.append_toArray,List.nil_append,List.cons_append]
 gi_wp2
 refine iW rfl eg λfn L hL=>?_;have fC:Below w.heap.size w (w.alloc (.cells #[.slice none 0 0] 129)):=(Below.refl _ w).alloc (Nat.le_refl _) _;have cx:=(fC.alloc fC.size (.deferred (some [])));have cR:=cx.alloc cx.size (.loop L);refine (hg _ _ cR).mono ?_;rintro e W2 ⟨⟨v,rfl⟩,o,rfl⟩;have gB:=cR.alloc cR.size o;obtain ⟨W3,QN⟩:∃W3,W3=(((w.alloc (.cells #[.slice none 0 0] 129)).alloc (.deferred (some []))).alloc (.loop L)).alloc o:=⟨_,rfl⟩;have q0:W3.heap[w.heap.size]? =some (.cells #[.slice none 0 0] 129):=by
  rw [QN,Go.Dx.heap_alloc_old _ (by simp<;>omega),Go.Dx.heap_alloc_old _ (by simp<;>omega),Go.Dx.heap_alloc_old _ (by simp<;>omega)];exact Go.Dx.heap_alloc_new _
 have q1:W3.heap[w.heap.size+1]? =some (.deferred (some [])):=by
  rw [QN,Go.Dx.heap_alloc_old _ (by simp<;>omega),Go.Dx.heap_alloc_old _ (by simp<;>omega)];have:=Go.Dx.heap_alloc_new (w:=w.alloc (.cells #[.slice none 0 0] 129)) (.deferred (some []))
  rwa [World.size_alloc] at this
 have q2:W3.heap[w.heap.size+2]? =some (.loop L):=by
  rw [QN,Go.Dx.heap_alloc_old _ (by simp<;>omega)];have:=Go.Dx.heap_alloc_new (w:=(w.alloc (.cells #[.slice none 0 0] 129)).alloc (.deferred (some []))) (.loop L)
  rwa [World.size_alloc,World.size_alloc] at this
 rw [<-QN] at gB ⊢;rw [World.size_alloc];refine ⟨⟨_,rfl⟩,q2,?_⟩;obtain ⟨W4,UG⟩:∃W4,W4=W3.putObj (w.heap.size+2) (.loop {L with state:=.exhausted}):=⟨_,rfl⟩;rw [<-UG];have r0:W4.heap[w.heap.size]? =some (.cells #[.slice none 0 0] 129):=by rw [UG];exact (World.putObj_heap_other (by omega)).trans q0
 have r1:W4.heap[w.heap.size+1]? =some (.deferred (some [])):=by rw [UG];exact (World.putObj_heap_other (by omega)).trans q1
 have dB:Below w.heap.size w W4:=by rw [UG];exact gB.grown (Go.Dx.iu _ _ _) gB.size (λk e=>by cases e;omega)
 obtain ⟨X3,Mg⟩:=Go.Dx.iw r0;clear UG QN q0 q1 q2 gB hL cR cx fC hg eg
 gi_wp2
 refine ⟨by simp,.inl ⟨_,_,rfl,run_takeDeferred r1,?_⟩⟩;exact ⟨_,results_tmp rfl _ _ _,rfl,dB.grown (Go.Dx.iu _ _ _) dB.size (λk e=>by cases e;omega)⟩
end Go.Proofs
namespace Go.Proofs
open Go Go.RowKit Go.Dx
theorem Tz.aes (w:World):(zeroValue 55).run Tryz.prog w = .ok (.agg #[.string ⟨#[]⟩,.string ⟨#[]⟩]) w:=by kernel_rfl
theorem Tz.alq:∃i z,Tryz.prog.info? 55=some i/\i.zero=some z/\i.size=2/\z.cells.size=2/\i.bytes<=1048576:=by
 have h:((Tryz.prog.info? 55).bind λi=>i.zero.map λz=>(i.size,z.cells.size,decide (i.bytes<=1048576)))=some (2,2,true):=by kernel_rfl
 cases hi:Tryz.prog.info? 55 with
 | none=>rw [hi] at h;cases h
 | some i=>
   cases hz:i.zero with
   | none=>simp [hi,hz] at h
   | some z=>
     simp [hi,hz] at h;exact ⟨i,z,rfl,hz,h.1,h.2.1,h.2.2⟩
theorem Tz.aet (w:World):(sizeOf 55).run Tryz.prog w = .ok 2 w:=by kernel_rfl
theorem ait {P:Program}(W:World)(z1 z2 y1 y2:Value)(t:TypeId)(o1:y1.oneCell'=true)(o2:y2.oneCell'=true):
  ∃W1 W2,(store ⟨W.heap.size,0,none⟩ y1).run P (W.alloc (.cells #[z1,z2] t)) = .ok () W1/\(store ⟨W.heap.size,1,none⟩ y2).run P W1 = .ok () W2/\W2.heap[W.heap.size]? =some (.cells #[y1,y2] t (0,0))/\
   Below W.heap.size W W2/\KeepsWalks W W2/\W2.heap.size=W.heap.size+1/\W2.cell? ⟨W.heap.size,0,none⟩=some y1/\W2.cell? ⟨W.heap.size,1,none⟩=some y2/\W2.frozen? ⟨W.heap.size,0,none⟩=false:=by
 have h0:(W.alloc (.cells #[z1,z2] t)).heap[W.heap.size]? =some (.cells #[z1,z2] t (0,0)):=Go.Dx.heap_alloc_new _;have e1:((W.alloc (.cells #[z1,z2] t)).setCell ⟨W.heap.size,0,none⟩ y1).heap[W.heap.size]? =some (.cells #[y1,z2] t (0,0)):=by
  show ((W.alloc (.cells #[z1,z2] t)).heap.modify W.heap.size _)[W.heap.size]? =_
  rw [Array.getElem?_modify,if_pos rfl,h0];rfl
 have e2:(((W.alloc (.cells #[z1,z2] t)).setCell ⟨W.heap.size,0,none⟩ y1).setCell ⟨W.heap.size,1,none⟩ y2).heap[W.heap.size]? =some (.cells #[y1,y2] t (0,0)):=by
  show (((W.alloc (.cells #[z1,z2] t)).setCell ⟨W.heap.size,0,none⟩ y1).heap.modify W.heap.size _)[W.heap.size]? =_
  rw [Array.getElem?_modify,if_pos rfl,e1];rfl
 refine ⟨(W.alloc (.cells #[z1,z2] t)).setCell ⟨W.heap.size,0,none⟩ y1,((W.alloc (.cells #[z1,z2] t)).setCell ⟨W.heap.size,0,none⟩ y1).setCell ⟨W.heap.size,1,none⟩ y2,?_,?_,e2,?_,?_,?_,?_,?_,?_⟩
 ·rw [run_store P _ _ y1 .plain o1]
  have c1:(W.alloc (.cells #[z1,z2] t)).cell? ⟨W.heap.size,0,none⟩=some z1:=by unfold World.cell?;simp only [h0];rfl
  have c2:(W.alloc (.cells #[z1,z2] t)).frozen? ⟨W.heap.size,0,none⟩=false:=by unfold World.frozen?;simp only [h0];rfl
  simp [c1,c2]
 ·rw [run_store P _ _ y2 .plain o2]
  have c1:((W.alloc (.cells #[z1,z2] t)).setCell ⟨W.heap.size,0,none⟩ y1).cell? ⟨W.heap.size,1,none⟩=some z2:=by unfold World.cell?;simp only [e1];rfl
  have c2:((W.alloc (.cells #[z1,z2] t)).setCell ⟨W.heap.size,0,none⟩ y1).frozen? ⟨W.heap.size,1,none⟩=false:=by unfold World.frozen?;simp only [e1];rfl
  simp [c1,c2]
 ·exact ((((Below.refl _ W).alloc (Nat.le_refl _) _).setCell (Nat.le_refl _) _).setCell (Nat.le_refl _) _)
 ·exact ((KeepsWalks.alloc _ _).trans (KeepsWalks.setCell _ _ _)).trans (KeepsWalks.setCell _ _ _)
 ·simp [World.setCell]
 ·unfold World.cell?;simp only [e2];rfl
 ·unfold World.cell?;simp only [e2];rfl
 ·unfold World.frozen?;simp only [e2];rfl
def QX (l:Nat)(x:Value)(w:World)(R:World->Prop):Prop:=
 ∀W1,Below w.heap.size w W1->YieldAt Fence.wide 0 Tryz.prog l #[x] W1 λe W'=>e = .returned (.bool true)/\KeepsWalks W1 W'/\R W'
set_option maxRecDepth 100000 in
set_option maxHeartbeats 1000000 in
theorem Tz.aqd (l Bm b c:Nat)(en:MapEntry)(y1 y2:Value)(w:World)(hm:w.cell? ⟨Bm,0,none⟩=some (.map (some b)))(hb:w.heap[b]? =some (.map #[en] c))(hbn:en.born<c)(hv:en.val = .agg #[y1,y2])(o1:y1.oneCell'=true)(o2:y2.oneCell'=true)
  (R:World->Prop) (hY:QX l (.agg #[y1,y2]) w R):
  CallsIn Fence.wide 0 Tryz.prog 267 #[.func (.yield l) #[] #[],.pointer (some ⟨Bm,0,none⟩)] w λe W'=>(∃v,e = .returned v)/\R W':=by
 have h1:=Go.Dx.run_range_map (P:=Tryz.prog) Tryz.underlying160 hb;have bA:=Go.Dx.mS hb;obtain ⟨W1,hW1⟩:∃W1,W1=w.alloc (.mapIter (some b) c #[] c):=⟨_,rfl⟩;have b1:W1.heap[b]? =some (.map #[en] c):=by rw [hW1];exact (Go.Dx.heap_alloc_old _ bA).trans hb
 have i1:W1.heap[w.heap.size]? =some (.mapIter (some b) c #[] c):=by rw [hW1];exact Go.Dx.heap_alloc_new _
 have B1:Below w.heap.size w W1:=by rw [hW1];exact (Below.refl _ w).alloc (Nat.le_refl _) _
 have s1:W1.heap.size=w.heap.size+1:=by rw [hW1];simp
 rw [<-hW1] at h1;clear hW1;have h2:=Kj (P:=Tryz.prog) i1 b1 hbn;rw [hv] at h2;obtain ⟨W2,hW2⟩:∃W2,W2=W1.putObj w.heap.size (.mapIter (some b) c #[en.born] c):=⟨_,rfl⟩;rw [<-hW2] at h2;have b2:W2.heap[b]? =some (.map #[en] c):=by rw [hW2];exact (World.putObj_heap_other (by omega)).trans b1
 have i2:W2.heap[w.heap.size]? =some (.mapIter (some b) c #[en.born] c):=by rw [hW2];exact World.putObj_heap_same (by omega)
 have B2:Below w.heap.size w W2:=by rw [hW2];exact B1.grown (Go.Dx.iu _ _ _) B1.size (λk e=>by cases e;omega)
 have s2:W2.heap.size=w.heap.size+1:=by rw [hW2];simp [s1]
 clear hW2;have h3:=MD (P:=Tryz.prog) i2 b2;rw [hv] at h3;have hz:=Tz.aes;have ft:=Tz.aet;obtain ⟨W3,W4,f1,f2,f3,f4,f5,f6,f7,f8,f9⟩:=ait (P:=Tryz.prog) W2 (.string ⟨#[]⟩) (.string ⟨#[]⟩) y1 y2 55 o1 o2;rw [s2] at f1 f2 f3 f7 f8 f9;refine callsIn_of_wp Tryz.func267 rfl trivial ?_ rfl;simp only [Tryz.ntmps267,List.size_toArray,List.length_cons,List.length_nil,Nat.reduceAdd,Nat.reduceSub,Array.replicate_succ,Array.replicate_zero,List.push_toArray,List.append_toArray,List.nil_append,List.cons_append];clear B1 b1 i1 hb
 gi_wp2
 refine wpIn_loop_rounds 2 ?_;rw [roundsIn_succ];obtain ⟨fn,tmps,assign,body,hy,hR⟩:=hY W4 (B2.trans (f4.mono (by omega)));have k4:W4.heap[b]? =some (.map #[en] c):=f5.same b _ b2 rfl;have k5:W4.heap[w.heap.size]? =some (.mapIter (some b) c #[en.born] c):=f5.same _ _ i2 rfl
 gi_wp2
 refine ⟨rfl,hR.mono ?_⟩;rintro e W5 ⟨rfl,g1,g2⟩;have h4:=MC (P:=Tryz.prog) (g1.same _ _ k5 rfl) (g1.same _ _ k4 rfl) hbn
 gi_wp2
 rw [roundsIn_succ]
 gi_wp2
 go_end0
 exact ⟨⟨_,rfl⟩,g2⟩
def aiu (w w':World)(e:TypeId)(y1 y2:Value)(v:Value):Prop:=
 ∃g cap cur,v = .slice (some ⟨g,0,none⟩) 1 cap/\w.heap.size<=g/\w'.heap[g]? =some (.cells cur e (0,0))/\cur.toList.take 2=[y1,y2]/\cur.size=cap*2/\1<=cap
set_option maxRecDepth 100000 in
set_option maxHeartbeats 2000000 in
theorem Tz.alr (g:Nat)(lb:Array Value)(eg:∀args w,(callFunc g args).run Tryz.prog w = .ok (.enter g args) w) (w:World) (y1 y2:Value) (o1:y1.oneCell'=true) (o2:y2.oneCell'=true)
  (hg:∀l W (R:World->Prop),Below w.heap.size w W->QX l (.agg #[y1,y2]) W R->CallsIn Fence.wide 0 Tryz.prog g (#[.func (.yield l) #[] #[]]++lb) W λe W'=>(∃v,e = .returned v)/\R W'):
  Calls Tryz.prog 289 #[.slice none 0 0,.func (.func g) #[] lb] w λe w'=>∃v,e = .returned v/\aiu w w' 55 y1 y2 v/\Below w.heap.size w w':=by
 refine (callsIn_wide (n:=0)).1 ?_;refine callsIn_of_wp_marks Tryz.func289 rfl trivial ?_ rfl;simp only [Tryz.ntmps289,List.size_toArray,List.length_cons,List.length_nil,Nat.reduceAdd,Nat.reduceSub,Array.replicate_succ,Array.replicate_zero,List.push_toArray,List.append_toArray,List.nil_append,List.cons_append]
 gi_wp2
 refine iW rfl eg λfn L hL=>?_;have fC:Below w.heap.size w (w.alloc (.cells #[.slice none 0 0] 51)):=(Below.refl _ w).alloc (Nat.le_refl _) _;have cx:=(fC.alloc fC.size (.deferred (some [])));have cR:=cx.alloc cx.size (.loop L);obtain ⟨W3,QN⟩:∃W3,W3=(((w.alloc (.cells #[.slice none 0 0] 51)).alloc (.deferred (some []))).alloc (.loop L)):=⟨_,rfl⟩;have q0:W3.heap[w.heap.size]? =some (.cells #[.slice none 0 0] 51 (0,0)):=by
  rw [QN,Go.Dx.heap_alloc_old _ (by simp<;>omega),Go.Dx.heap_alloc_old _ (by simp<;>omega)];exact Go.Dx.heap_alloc_new _
 have q1:W3.heap[w.heap.size+1]? =some (.deferred (some [])):=by
  rw [QN,Go.Dx.heap_alloc_old _ (by simp<;>omega)];have:=Go.Dx.heap_alloc_new (w:=w.alloc (.cells #[.slice none 0 0] 51)) (.deferred (some []))
  rwa [World.size_alloc] at this
 have q2:W3.heap[w.heap.size+2]? =some (.loop L):=by
  rw [QN];have:=Go.Dx.heap_alloc_new (w:=(w.alloc (.cells #[.slice none 0 0] 51)).alloc (.deferred (some []))) (.loop L)
  rwa [World.size_alloc,World.size_alloc] at this
 have s3:W3.heap.size=w.heap.size+3:=by rw [QN];simp
 rw [<-QN] at cR ⊢;clear QN cx fC;rw [World.size_alloc];have Ly:QX (w.heap.size+2) (.agg #[y1,y2]) W3 λW'=>W'.heap[w.heap.size+2]? =some (.loop L)/\W'.heap[w.heap.size+1]? =some (.deferred (some []))/\
   (∃v,W'.heap[w.heap.size]? =some (.cells #[v] 51 (0,0))/\aiu w W' 55 y1 y2 v)/\Below w.heap.size w W':=by
  intro W1 B1;have p0:W1.heap[w.heap.size]? =some (.cells #[.slice none 0 0] 51 (0,0)):=(B1.block _ (by omega)).trans q0;have p1:W1.heap[w.heap.size+1]? =some (.deferred (some [])):=(B1.block _ (by omega)).trans q1;have p2:W1.heap[w.heap.size+2]? =some (.loop L):=(B1.block _ (by omega)).trans q2;have Bw:Below w.heap.size w W1:=cR.trans (B1.mono (by omega));have z1:w.heap.size+3<=W1.heap.size:=by have:=B1.size;omega
  clear B1 q0 q1 q2 cR hg;have hy:=run_yield (P:=Tryz.prog) (args:=#[.agg #[y1,y2]]) p2 (by rw [hL.params];rfl);rw [hL.fn,hL.assign,hL.params,hL.tmps,hL.body] at hy;simp at hy;refine ⟨_,_,_,_,hy,roundIn_of_wpIn trivial ?_⟩;have hz:=Tz.aes;have ft:=Tz.aet;obtain ⟨W4,W5,f1,f2,f3,f4,f5,f6,f7,f8,f9⟩:=ait (P:=Tryz.prog) W1 (.string ⟨#[]⟩) (.string ⟨#[]⟩) y1 y2 55 o1 o2;have r0:W5.heap[w.heap.size]? =some (.cells #[.slice none 0 0] 51 (0,0)):=(f4.block _ (by omega)).trans p0;have r1:W5.heap[w.heap.size+1]? =some (.deferred (some [])):=(f4.block _ (by omega)).trans p1;have r2:W5.heap[w.heap.size+2]? =some (.loop L):=(f4.block _ (by omega)).trans p2;have Bw5:Below w.heap.size w W5:=Bw.trans (f4.mono (by omega));clear hy
  gi_wp2_with (rw [Oper.semAt_eq _ _ _ (λc h=>by cases h)];go_simp;try go_bits)
  clear f1 f2;have hbr:=run_beginRound (P:=Tryz.prog) r2 hL.state;obtain ⟨W6,UF⟩:∃W6,W6=W5.putObj (w.heap.size+2) (.loop {L with state:=.busy}):=⟨_,rfl⟩;rw [<-UF] at hbr;have t0:W6.heap[w.heap.size]? =some (.cells #[.slice none 0 0] 51 (0,0)):=by rw [UF];exact (World.putObj_heap_other (by omega)).trans r0
  have t1:W6.heap[w.heap.size+1]? =some (.deferred (some [])):=by rw [UF];exact (World.putObj_heap_other (by omega)).trans r1
  have t2:W6.heap[w.heap.size+2]? =some (.loop {L with state:=.busy}):=by rw [UF];exact World.putObj_heap_same (by omega)
  have t3:W6.heap[W1.heap.size]? =some (.cells #[y1,y2] 55 (0,0)):=by rw [UF];exact (World.putObj_heap_other (by omega)).trans f3
  have Bw6:Below w.heap.size w W6:=by rw [UF];exact Bw5.grown (Go.Dx.iu _ _ _) Bw5.size (λk e=>by cases e;omega)
  have z6:W6.heap.size=W1.heap.size+1:=by rw [UF];simp [f6]
  have k6:KeepsWalks W1 W6:=by rw [UF];exact f5.trans (KeepsWalks.putObj _ r2 rfl)
  clear UF f3 f7 f8 f9;obtain ⟨c6,d6⟩:=Go.Dx.iw t0;have c61:W6.cell? ⟨W1.heap.size,0,none⟩=some y1:=by unfold World.cell?;simp only [t3];rfl
  have c62:W6.cell? ⟨W1.heap.size,1,none⟩=some y2:=by unfold World.cell?;simp only [t3];rfl
  obtain ⟨i73,zz,hi,awV,als,NV,awW⟩:=Tz.alq;have hcc:∀j v,([y1,y2]:List Value)[j]? =some v->(W6.alloc (.cells #[y1,y2] 55)).cell? ((⟨W1.heap.size+1,0,none⟩:Addr).add j)=some v:=λj v hv=>by
   rw [<-z6];have hn:=Go.Dx.heap_alloc_new (w:=W6) (.cells #[y1,y2] 55);rw [c8];show (W6.alloc (.cells #[y1,y2] 55)).cell? ⟨W6.heap.size,0+j,none⟩=some v
   unfold World.cell?;simp only [hn];rw [Nat.zero_add];simpa using hv
  obtain ⟨g',cap,cur,ic,hg',fh,yR,wm⟩:=Kk (P:=Tryz.prog) (w:=W6.alloc (.cells #[y1,y2] 55)) Tryz.underlying51 hi awV (by rw [NV,als]) awW (src:=⟨W1.heap.size+1,0,none⟩) (news:=[y1,y2]) (by rw [als];rfl) hcc 51;rw [World.size_alloc] at hg';rw [als] at fh yR;obtain ⟨W7,hW7⟩:∃W7,W7=(W6.alloc (.cells #[y1,y2] 55)).drew.alloc (.cells cur 55):=⟨_,rfl⟩;rw [<-hW7] at ic;have u0:W7.heap[w.heap.size]? =some (.cells #[.slice none 0 0] 51 (0,0)):=by rw [hW7];exact (Go.Dx.heap_alloc_old _ (by simp<;>omega)).trans ((Go.Dx.heap_alloc_old _ (by omega)).trans t0)
  have u1:W7.heap[w.heap.size+1]? =some (.deferred (some [])):=by rw [hW7];exact (Go.Dx.heap_alloc_old _ (by simp<;>omega)).trans ((Go.Dx.heap_alloc_old _ (by omega)).trans t1)
  have u2:W7.heap[w.heap.size+2]? =some (.loop {L with state:=.busy}):=by rw [hW7];exact (Go.Dx.heap_alloc_old _ (by simp<;>omega)).trans ((Go.Dx.heap_alloc_old _ (by omega)).trans t2)
  have u3:W7.heap[g']? =some (.cells cur 55 (0,0)):=by
   rw [hW7,hg'];have:=Go.Dx.heap_alloc_new (w:=(W6.alloc (.cells #[y1,y2] 55)).drew) (.cells cur 55);have e:(W6.alloc (.cells #[y1,y2] 55)).drew.heap.size=W6.heap.size+1:=World.size_alloc _ _
   rwa [e] at this
  have Bw7:Below w.heap.size w W7:=by
   rw [hW7];have a1:=Bw6.alloc Bw6.size (.cells #[y1,y2] 55);exact a1.drew.alloc a1.size _
  have k7:KeepsWalks W1 W7:=by
   rw [hW7];have a1:KeepsWalks W1 (W6.alloc (.cells #[y1,y2] 55)):=k6.trans (KeepsWalks.alloc _ _);have a2:KeepsWalks (W6.alloc (.cells #[y1,y2] 55)) (W6.alloc (.cells #[y1,y2] 55)).drew:=⟨Nat.le_refl _,λ_ _ h _=>h⟩;exact (a1.trans a2).trans (KeepsWalks.alloc _ _)
  have z7:W7.heap.size=W6.heap.size+2:=by
   rw [hW7,World.size_alloc];show (W6.alloc (.cells #[y1,y2] 55)).heap.size+1=_
   rw [World.size_alloc]
  clear hW7;have Mf:W1.heap.size+2<=g':=by omega
  have PX:g'<W7.heap.size:=by omega
  clear hg';obtain ⟨c7,d7⟩:=Go.Dx.iw u0;refine ⟨W6,hbr,?_⟩
  gi_wp2_with (first
   | (gi_at_builtin;refine zP rfl (.tmp 8) (.tmp 10) 51 51 rfl (sx:=.slice none 0 0) (xx:=.slice (some ⟨W1.heap.size+1,0,none⟩) 1 1) rfl rfl ic ?_;go_frame)
   | (rw [Oper.semAt_eq _ _ _ (λc h=>by cases h)];go_simp;try go_bits))
  obtain ⟨W8,Wy⟩:∃W8,W8=W7.setCell ⟨w.heap.size,0,none⟩ (.slice (some ⟨g',0,none⟩) 1 cap):=⟨_,rfl⟩;rw [<-Wy];have v0:W8.heap[w.heap.size]? =some (.cells #[.slice (some ⟨g',0,none⟩) 1 cap] 51 (0,0)):=by
   rw [Wy];show (W7.heap.modify w.heap.size _)[w.heap.size]? =_
   rw [Array.getElem?_modify,if_pos rfl,u0];rfl
  have v1:W8.heap[w.heap.size+1]? =some (.deferred (some [])):=by rw [Wy];exact (Below.heap_setCell _ _ _ _ (by show w.heap.size+1≠w.heap.size;omega)).trans u1
  have v2:W8.heap[w.heap.size+2]? =some (.loop {L with state:=.busy}):=by rw [Wy];exact (Below.heap_setCell _ _ _ _ (by show w.heap.size+2≠w.heap.size;omega)).trans u2
  have v3:W8.heap[g']? =some (.cells cur 55 (0,0)):=by rw [Wy];exact (Below.heap_setCell _ _ _ _ (by show g'≠w.heap.size;omega)).trans u3
  have Bw8:Below w.heap.size w W8:=by rw [Wy];exact Bw7.setCell (Nat.le_refl _) _
  have k8:KeepsWalks W1 W8:=by rw [Wy];exact k7.trans (KeepsWalks.setCell _ _ _)
  have z8:W8.heap.size=W7.heap.size:=by rw [Wy];simp [World.setCell]
  clear Wy;have ad4:=run_endRound (P:=Tryz.prog) none v2;have hLL:({({L with state:=.busy}:Loop) with state:=if (none:Option Code).isNone then .ready else .done,pending:=none}:Loop)=L:=by
   have e1:=hL.state;have e2:=hL.pending;cases L;simp only at e1 e2;subst e1;subst e2;rfl
  rw [hLL] at ad4;refine ⟨_,_,ad4,rfl,k8.trans (KeepsWalks.putObj _ v2 rfl),World.putObj_heap_same (by omega),(World.putObj_heap_other (by omega)).trans v1,⟨_,(World.putObj_heap_other (by omega)).trans v0,?_⟩,
   Bw8.grown (Go.Dx.iu _ _ _) Bw8.size (λk e=>by cases e;omega)⟩
  exact ⟨g',cap,cur,rfl,by omega,(World.putObj_heap_other (by omega)).trans v3,fh,yR,wm⟩
 refine (hg _ W3 _ cR Ly).mono ?_;rintro e W9 ⟨⟨v,rfl⟩,q2,q1,⟨rv,q0,g',cap,cur,rfl,m1,m2,m3,m4,m5⟩,Bw9⟩;refine ⟨⟨_,rfl⟩,q2,?_⟩;obtain ⟨W4,UG⟩:∃W4,W4=W9.putObj (w.heap.size+2) (.loop {L with state:=.exhausted}):=⟨_,rfl⟩;rw [<-UG];have dj:g'≠w.heap.size+2:=λe=>by rw [e] at m2;rw [m2] at q2;cases q2
 have ajW:g'≠w.heap.size+1:=λe=>by rw [e] at m2;rw [m2] at q1;cases q1
 have r0:W4.heap[w.heap.size]? =some (.cells #[.slice (some ⟨g',0,none⟩) 1 cap] 51 (0,0)):=by rw [UG];exact (World.putObj_heap_other (by omega)).trans q0
 have r1:W4.heap[w.heap.size+1]? =some (.deferred (some [])):=by rw [UG];exact (World.putObj_heap_other (by omega)).trans q1
 have r3:W4.heap[g']? =some (.cells cur 55 (0,0)):=by rw [UG];exact (World.putObj_heap_other dj).trans m2
 have dB:Below w.heap.size w W4:=by rw [UG];exact Bw9.grown (Go.Dx.iu _ _ _) Bw9.size (λk e=>by cases e;omega)
 obtain ⟨X3,Mg⟩:=Go.Dx.iw r0;clear UG q0 q1 q2 hL cR hg eg Ly m2
 gi_wp2
 refine ⟨by simp,.inl ⟨_,_,rfl,run_takeDeferred r1,?_⟩⟩;exact ⟨_,results_tmp rfl _ _ _,_,rfl,⟨g',cap,cur,rfl,m1,(World.putObj_heap_other ajW).trans r3,m3,m4,m5⟩,dB.grown (Go.Dx.iu _ _ _) dB.size (λk e=>by cases e;omega)⟩
end Go.Proofs
namespace Go.Dx
open Go Go.RowKit Go.Proofs
section
variable {B:Nat} {w0:World} {ρ:bE} {h:H} {w:World}
theorem aA.cellAt (R:aA B w0 ρ h w){l:Lb}{b:dZ}{v:V}(hb:ρ l=some b)(hc:cellAt h l 0=some v):∃x,w.cell? ⟨b.block,0,none⟩=some x/\RV ρ v x:=by
 simp only [Dx.cellAt,Q.ask] at hc;split at hc
 ·rename_i vs el fz own hg
  have c0:dO ρ b vs el fz own w:=R.obj _ _ _ hb hg;simp only [dI,bB] at hc;obtain ⟨q,q1,q2⟩:=c0.cell 0 _ (by rw [<-List.head?_eq_getElem?];exact hc);refine ⟨q,?_,q2⟩;unfold cZ at q1;rw [(R.base _ _ hb).1] at q1;exact q1
 ·cases hc
theorem WV (R:aA B w0 ρ h w){l:Lb}{b:dZ}(hb:ρ l=some b)(hs:Kh h l=some []):∃mb,w.cell? ⟨b.block,0,none⟩=some (.map mb)/\Ys w mb:=by
 unfold Kh at hs;split at hs
 ·rename_i r hc
  obtain ⟨x,hx,rx⟩:=R.cellAt hb hc;obtain ⟨c,Ss,rfl⟩:=kE rx;split at hs
  ·rename_i clock hg
   obtain ⟨ms,hm,he⟩:∃ms:Array MapEntry,w.heap[c.block]? =some (.map ms clock)/\pj ρ [] ms.toList:=R.obj _ _ _ Ss hg;have:ms = #[]:=by
    cases ms with | mk ml=>
    have:RV ρ .nilPtr (.pointer none):=.nilPtr;have he:pj ρ [] ml:=he;cases he;rfl
   subst this;exact ⟨_,hx,.inr ⟨_,_,rfl,hm⟩⟩
  ·simp [ag] at hs
  ·cases hs
 ·rename_i hc
  obtain ⟨x,hx,rx⟩:=R.cellAt hb hc;cases rx;exact ⟨_,hx,.inl rfl⟩
 ·cases hs
theorem WW (R:aA B w0 ρ h w){l:Lb}{b:dZ}{e:V×V×Nat}(hb:ρ l=some b)(hs:Kh h l=some [e]):
  ∃m en c,w.cell? ⟨b.block,0,none⟩=some (.map (some m))/\w.heap[m]? =some (.map #[en] c)/\en.born<c/\RV ρ e.1 en.key/\RV ρ e.2.1 en.val:=by
 unfold Kh at hs;split at hs
 ·rename_i r hc
  obtain ⟨x,hx,rx⟩:=R.cellAt hb hc;obtain ⟨c,Ss,rfl⟩:=kE rx;split at hs
  ·cases hs
  ·rename_i y clock hg
   simp only [ag,Option.some.injEq,List.cons.injEq,and_true] at hs;obtain ⟨bA,rfl⟩:=hs;have bA:y.2.2<clock:=by simpa using bA
   obtain ⟨ms,hm,he⟩:∃ms:Array MapEntry,w.heap[c.block]? =some (.map ms clock)/\pj ρ [y] ms.toList:=R.obj _ _ _ Ss hg;cases ms with | mk ml=>
   have he:pj ρ [y] ml:=he;cases he with
   | cons hk hv hn hs=>
     cases hs;exact ⟨_,_,_,hx,hm,by rw [hn];exact bA,hk,hv⟩
  ·cases hs
 ·cases hs
 ·cases hs
theorem enters {P:Program}{f:FuncId}{func:Func}{c:Code}(hf:P.funcs[f]? =some func)(hb:func.body=some c)(hn:(func.name == "runtime.NumGoroutine")=false)(args:Array Value)(w:World):(callFunc f args).run P w = .ok (.enter f args) w:=by
 have hn:¬func.name = "runtime.NumGoroutine":=λe=>by rw [e] at hn;simp at hn
 unfold callFunc;simp [hf,hn,hb]
theorem WX {G:Nat}:nA Tryz.prog G 243 (.seq true 9 1 16 [192,217] []):=by
 intro args h v h' hr B w0 ρ w xs R hG hx;simp only [iV] at hr;split at hr
 ·rename_i g l
  obtain ⟨x1,x2,rfl,r1,r2⟩:=hx.two;cases r1;obtain ⟨a',b',rfl,ra,rb⟩:=qm r2;cases ra;obtain ⟨y,rfl,ry⟩:=rb.one;obtain ⟨b,hb,rfl⟩:=dP ry;rw [(R.base _ _ hb).1];split at hr
  ·rename_i hs
   simp only [ag,Option.some.injEq,Prod.mk.injEq] at hr;obtain ⟨hg,rfl,rfl⟩:=hr;obtain ⟨mb,hm,hn⟩:=WV R hb hs;have Wz:b.block<w.heap.size:=by
    rcases Nat.lt_or_ge b.block w.heap.size with h | h
    ·exact h
    ·simp [World.cell?,Array.getElem?_eq_none h] at hm
   have Yt:∀W,Below w.heap.size w W->W.cell? ⟨b.block,0,none⟩=some (.map mb)/\Ys W mb:=λW hW=>by
    refine ⟨(hW.cell (p:=⟨b.block,0,none⟩) Wz).trans hm,?_⟩;rcases hn with rfl | ⟨m,c,rfl,hmb⟩
    ·exact .inl rfl
    ·exact .inr ⟨m,c,rfl,(hW.block _ (mS hmb)).trans hmb⟩
   have fin:(∀args w,(callFunc g args).run Tryz.prog w = .ok (.enter g args) w)->(∀l W,Below w.heap.size w W->CallsIn Fence.wide 0 Tryz.prog g (#[.func (.yield l) #[] #[]] ++ #[.pointer (some ⟨b.block,0,none⟩)]) W λe W'=>(∃v,e = .returned v)/\∃o,W'=W.alloc o)->
     Good Tryz.prog 243 [.slice none 0 0,.func (.func g) #[] #[.pointer (some ⟨b.block,0+0,none⟩)]] w λx w'=>∃ρ',Step ρ ρ' h h/\RV ρ' (.nilSlice 0) x/\aA B w0 ρ' h w':=λeg hit=>
    Good.iq Tryz.func243 rfl (by kernel_rfl) ((Tz.alp g _ eg w hit).mono λe w' ⟨h1,h2⟩=>⟨_,h1,ρ,Step.refl _ _,.nilSlice 0,R.DR h2⟩)
   simp only [dp,Bool.or_false,Bool.or_eq_true] at hg;rcases hg with hg | hg
   ·have:=Nat.eq_of_beq_eq_true hg
    subst this;exact fin (enters Tryz.func192 rfl (by kernel_rfl)) λl W hW=>Tz.ap' _ _ trivial rfl l b.block W mb (Yt W hW).1 (Yt W hW).2
   ·have:=Nat.eq_of_beq_eq_true hg
    subst this;exact fin (enters Tryz.func217 rfl (by kernel_rfl)) λl W hW=>Tz.aqb _ _ trivial rfl l b.block W mb (Yt W hW).1 (Yt W hW).2
  ·simp [dp,bN] at hr
  ·cases hr
 ·cases hr
theorem WY {G:Nat}:nA Tryz.prog G 289 (.seq false 55 2 32 [] [267]):=by
 intro args h v h' hr B w0 ρ w xs R hG hx;simp only [iV] at hr;split at hr
 ·rename_i g l
  obtain ⟨x1,x2,rfl,r1,r2⟩:=hx.two;cases r1;obtain ⟨a',b',rfl,ra,rb⟩:=qm r2;cases ra;obtain ⟨y,rfl,ry⟩:=rb.one;obtain ⟨b,hb,rfl⟩:=dP ry;rw [(R.base _ _ hb).1];split at hr
  ·simp [dp,bN] at hr
  ·rename_i e hs
   simp only [ag,dp,Bool.or_false] at hr;obtain ⟨hg,hr⟩:=hr;simp only [Bool.and_true] at hg;have:=Nat.eq_of_beq_eq_true hg;subst this;obtain ⟨m,en,c,hm,hmb,aco,-,eA⟩:=WW R hb hs;unfold ahH at hr;simp only [ag,Bool.and_eq_true] at hr;obtain ⟨⟨⟨⟨hl,-⟩,-⟩,gC⟩,hr⟩:=hr;have hl:=Nat.eq_of_beq_eq_true hl;obtain ⟨v1,v2,hv⟩:∃v1 v2,e.2.1 = .agg [v1,v2]:=by
    generalize e.2.1=u at hl;cases u with
    | agg cs=>
      match cs,hl with
      | [v1,v2],_=>exact ⟨v1,v2,rfl⟩
    | _=>simp [V.cells] at hl
   rw [hv] at eA hr gC;obtain ⟨ys,awX,eA⟩:∃ys,en.val = .agg ⟨ys⟩/\cU ρ [v1,v2] ys:=by
    generalize en.val=ev at eA;cases eA with | agg q=>exact ⟨_,rfl,q⟩
   obtain ⟨y1,y2,rfl,s1,s2⟩:=eA.two;have AG:=Fx eA gC;have hr:v = .slice h.next 0 1 (.toEnd 2)/\h'=h.add (.cells [v1,v2] 55 0 .yes):=by
    unfold eH at hr;simp only [ag,Option.some.injEq,Prod.mk.injEq,V.cells] at hr;exact ⟨hr.2.1.symm,hr.2.2.symm⟩
   obtain ⟨rfl,rfl⟩:=hr;have Wz:b.block<w.heap.size:=by
    rcases Nat.lt_or_ge b.block w.heap.size with h | h
    ·exact h
    ·simp [World.cell?,Array.getElem?_eq_none h] at hm
   have key:=Tz.alr 267 #[.pointer (some ⟨b.block,0,none⟩)] (enters Tryz.func267 rfl (by kernel_rfl)) w y1 y2 (AG y1 (by simp)) (AG y2 (by simp)) λl W Q hW hY=>
    Tz.aqd l b.block m c en y1 y2 W ((hW.cell (p:=⟨b.block,0,none⟩) Wz).trans hm) ((hW.block _ (mS hmb)).trans hmb) aco awX (AG y1 (by simp)) (AG y2 (by simp)) Q hY
   refine Good.iq Tryz.func289 rfl (by kernel_rfl) (key.mono λe w' hh=>?_);obtain ⟨rv,he,⟨g',cap,cur,rfl,jb,yR,fh,ft,wm⟩,Lq⟩:=hh;refine ⟨_,he,uc ρ h.next (dZ.mk g' 0 (cap*2) .nilFunc),Step.add _ _ _ _,?_,R.named Lq jb ⟨rfl,rfl⟩ ?_⟩
   ·have:=RV.sliceEnd (ρ:=uc ρ h.next (dZ.mk g' 0 (cap*2) .nilFunc)) (l:=h.next) 0 1 2 cap (aS _ _ _) wm (by simp)
    simpa using this
   ·have E:=eI (b:=(dZ.mk g' 0 (cap*2) .nilFunc)) R.fresh
    refine ⟨?_,?_,λi v hv=>?_,λ_ i hi hl=>?_,λ_=>⟨cur,0,0,yR,Nat.zero_le _,Nat.le_refl _⟩⟩
    ·simp [World.shape?,yR,ft]
    ·show 0+2<=cap*2;omega
    ·have hlen:i<2:=by
      have:=(List.getElem?_eq_some_iff.1 hv).1;simpa using this
     obtain ⟨x,uf,lH⟩:=(eA.mono E).get hv;refine ⟨x,?_,lH⟩;unfold cZ World.cell?;simp only [yR,Nat.zero_add];have:cur.toList[i]? =some x:=by
      rw [<-fh,List.getElem?_take,if_pos hlen] at uf;exact uf
     simpa using this
    ·simp [World.frozen?,yR]
  ·cases hr
 ·cases hr
end
end Go.Dx
namespace Go.Dx
open Go
theorem Yu:∀{a b:List (V×V×Nat)},afJ a b=true->a=b
 | [],[],_=>rfl
 | (a,b,c)::r,(x,y,z)::s,h=>by
   simp only [afJ,Bool.and_eq_true] at h;obtain ⟨⟨⟨h1,h2⟩,h3⟩,h4⟩:=h;rw [B6 h1,B6 h2,Nat.eq_of_beq_eq_true h3,Yu h4]
 | [],_::_,h=>by cases h
 | _::_,[],h=>by cases h
theorem aeu {a b:Own}(h:ahF a b=true):a=b:=by cases a<;>cases b<;>first | rfl | cases h
theorem aev {a b:Option Lb}(h:ahG a b=true):a=b:=by
 cases a<;>cases b<;>first | rfl | (cases h;done) | (rw [jg h])
theorem aew {a b:Obj}(h:N6 a b=true):a=b:=by
 cases a<;>cases b<;>try (cases h;done)
 ·simp only [N6,Bool.and_eq_true] at h
  obtain ⟨⟨⟨h1,h2⟩,h3⟩,h4⟩:=h;rw [jD h1,Nat.eq_of_beq_eq_true h2,Nat.eq_of_beq_eq_true h3,aeu h4]
 ·simp only [N6,Bool.and_eq_true] at h
  obtain ⟨h1,h2⟩:=h;rw [Yu h1,Nat.eq_of_beq_eq_true h2]
 ·simp only [N6,Bool.and_eq_true] at h
  obtain ⟨h1,h2⟩:=h;rw [qk.1 h1,Nat.eq_of_beq_eq_true h2]
 ·simp only [N6,Bool.and_eq_true] at h
  obtain ⟨⟨⟨h1,h2⟩,h3⟩,h4⟩:=h;rw [aev h1,Nat.eq_of_beq_eq_true h2,qk.1 h3,Nat.eq_of_beq_eq_true h4]
def ofL:List (Lb×Obj)->T Obj
 | []=>.leaf
 | (l,o)::r=>(ofL r).set l (some o)
def aex {α:Type}(l:Lb):List (Lb×α)->Bool
 | []=>false
 | (m,_)::r=>na l m||aex l r
def kept (h:H)(out:List (Lb×Option Obj)):List (Lb×Obj)->Bool
 | []=>true
 | (l,o)::r=>(aex l out||holds h l o)&&kept h out r
def below (nx:Lb):List (Lb×Obj)->Bool
 | []=>true
 | (l,_)::r=>Nat.blt (val l) (val nx)&&below nx r
def fits (inn:List (Lb×Obj))(nx nx':Lb):List (Lb×Option Obj)->Bool
 | []=>true
 | (l,_)::r=>Nat.blt (val l) (val nx')&&(Nat.ble (val nx) (val l)||aex l inn)&&fits inn nx nx' r
theorem aey {h:H}{l:Lb}{o:Obj}(k:holds h l o=true):h.get l=some o:=by
 unfold holds at k;split at k
 ·rename_i x hx;rw [hx,aew k]
 ·cases k
theorem EZ:∀{r:List (Lb×Obj)} {l:Lb} {o:Obj},(ofL r).get l=some o->(l,o)∈r
 | [],l,o,h=>by simp [ofL,T.kz] at h
 | (m,x)::r,l,o,h=>by
   simp only [ofL] at h
   by_cases e:m=l
   ·subst e;rw [T.bg] at h;cases h;exact List.mem_cons_self ..
   ·rw [T.br _ _ _ _ e] at h;exact List.mem_cons_of_mem _ (EZ h)
end Go.Dx
namespace Go.Dx
open Go Go.RowKit
mutual
def pc:V->Bool
 | .bool _=>true
 | .int _ _=>true
 | .str _=>true
 | .nilPtr=>true
 | .nilSlice _=>true
 | .aP=>true
 | .agg l=>CP l
 | .tuple l=>CP l
 | _=>false
def CP:List V->Bool
 | []=>true
 | v::vs=>pc v&&CP vs
end
mutual
theorem RV.tZ {ρ ρ':bE}:∀{v:V} {x:Value},RV ρ v x->pc v=true->RV ρ' v x
 | _,_,.bool b,_=>.bool b
 | _,_,.int k n,_=>.int k n
 | _,_,.str t,_=>.str t
 | _,_,.nilPtr,_=>.nilPtr
 | _,_,.ptr off h,hn=>by simp [pc] at hn
 | _,_,.nilSlice c,_=>.nilSlice c
 | _,_,.slice off len c h,hn=>by simp [pc] at hn
 | _,_,.sliceEnd off len size c h hl hc,hn=>by simp [pc] at hn
 | _,_,.aP,_=>.aP
 | _,_,.map h,hn=>by simp [pc] at hn
 | _,_,.func f ha hb,hn=>by simp [pc] at hn
 | _,_,.nilFunc,hn=>by simp [pc] at hn
 | _,_,.iface t h,hn=>by simp [pc] at hn
 | _,_,.nilIface,hn=>by simp [pc] at hn
 | _,_,.agg h,hn=>.agg (cU.tZ h (by simpa [pc] using hn))
 | _,_,.tuple h,hn=>.tuple (cU.tZ h (by simpa [pc] using hn))
 | _,_,.sym h ht hv,hn=>by simp [pc] at hn
 | _,_,.any h,hn=>by simp [pc] at hn
 | _,_,.empty a c,hn=>by simp [pc] at hn
 | _,_,.lG h1 h2,hn=>by simp [pc] at hn
theorem cU.tZ {ρ ρ':bE}:∀{v:List V} {x:List Value},cU ρ v x->CP v=true->cU ρ' v x
 | _,_,.nil,_=>.nil
 | _,_,.cons h hs,hn=>.cons (RV.tZ h (by simp only [CP,Bool.and_eq_true] at hn;exact hn.1)) (cU.tZ hs (by simp only [CP,Bool.and_eq_true] at hn;exact hn.2))
end
mutual
def iD (G:Nat):V->Bool
 | .bool _=>true
 | .int _ _=>true
 | .str _=>true
 | .nilPtr=>true
 | .nilSlice _=>true
 | .aP=>true
 | .nilFunc=>true
 | .nilIface=>true
 | .ptr l _=>Nat.blt (val l) G&&na l (pathOf (val l))
 | .iface _ v=>iD G v
 | .agg l=>mU G l
 | .tuple l=>mU G l
 | _=>false
def mU (G:Nat):List V->Bool
 | []=>true
 | v::vs=>iD G v&&mU G vs
end
def IT (G:Nat)(ρ ρ':bE):Prop:=∀l,val l<G->l=pathOf (val l)->ρ' l=ρ l
mutual
theorem RV.WZ {G:Nat}{ρ ρ':bE}(S:IT G ρ ρ'):∀{v:V} {x:Value},RV ρ v x->iD G v=true->RV ρ' v x
 | _,_,.bool b,_=>.bool b
 | _,_,.int k n,_=>.int k n
 | _,_,.str t,_=>.str t
 | _,_,.nilPtr,_=>.nilPtr
 | _,_,.ptr off h,hn=>by
   simp only [iD,Bool.and_eq_true] at hn;exact .ptr off ((S _ (by simpa using hn.1) (jg hn.2)).trans h)
 | _,_,.nilSlice c,_=>.nilSlice c
 | _,_,.slice off len c h,hn=>by simp [iD] at hn
 | _,_,.sliceEnd off len size c h hl hc,hn=>by simp [iD] at hn
 | _,_,.aP,_=>.aP
 | _,_,.map h,hn=>by simp [iD] at hn
 | _,_,.func f ha hb,hn=>by simp [iD] at hn
 | _,_,.nilFunc,hn=>.nilFunc
 | _,_,.iface t h,hn=>.iface t (RV.WZ S h (by simpa [iD] using hn))
 | _,_,.nilIface,hn=>.nilIface
 | _,_,.agg h,hn=>.agg (cU.WZ S h (by simpa [iD] using hn))
 | _,_,.tuple h,hn=>.tuple (cU.WZ S h (by simpa [iD] using hn))
 | _,_,.sym h ht hv,hn=>by simp [iD] at hn
 | _,_,.any h,hn=>by simp [iD] at hn
 | _,_,.empty a c,hn=>by simp [iD] at hn
 | _,_,.lG h1 h2,hn=>by simp [iD] at hn
theorem cU.WZ {G:Nat}{ρ ρ':bE}(S:IT G ρ ρ'):∀{v:List V} {x:List Value},cU ρ v x->mU G v=true->cU ρ' v x
 | _,_,.nil,_=>.nil
 | _,_,.cons h hs,hn=>.cons (RV.WZ S h (by simp only [mU,Bool.and_eq_true] at hn;exact hn.1)) (cU.WZ S hs (by simp only [mU,Bool.and_eq_true] at hn;exact hn.2))
end
theorem RV.low {G:Nat}{ρ ρ':bE}{v:V}{x:Value}(hn:iD G v=true)(S:IT G ρ ρ')(h:RV ρ v x):RV ρ' v x:=h.WZ S hn
section
variable {P:Program} {G:Nat} {f:FuncId} {B:Nat} {w0:World} {ρ:bE} {h h':H} {w:World}
theorem aA.under (R:aA B w0 ρ h w){w':World}(hb:Below w.heap.size w w'):aA B w0 ρ h w':=
 ⟨λl b o hl ho=>(R.obj l b o hl ho).jh (jI.refl _) (hb.block _ (R.obj l b o hl ho).lt),R.lt,R.base,R.inj,R.own,Nat.le_trans R.size hb.size,R.below.trans (hb.mono R.size)⟩
theorem HJ {G:Nat}:∀(b:List V) (i:Nat) (v:V),mU G b=true->b[i]? =some v->iD G v=true
 | [],i,v,_,h=>by simp at h
 | n::b,0,v,hb,h=>by simp only [mU,Bool.and_eq_true] at hb;simp at h;subst h;exact hb.1
 | n::b,i+1,v,hb,h=>by simp only [mU,Bool.and_eq_true] at hb;exact HJ b i v hb.2 (by simpa using h)
end
end Go.Dx
