/-
  The client's laws. Part ZAZ of the proof: The shelf contracts at this program, in plain words: slices.SortFunc at entries (written by the kit lay-plain.mjs of tools/WaShelfC.cli.shelf_lay.txt).
-/
import Derived.Test.YtdjlhmmfplhhdaaGreatDoorProg
import Derived.Shelf.SlGeneric
import Derived.Shelf.LaysM
import Derived.Shelf.Strconv.Itoa3
import Derived.Shelf.Strings.Repeat
import Derived.Shelf.Strings.OnBuilder
import Derived.Shelf.Strconv.Itoa4
import Derived.Shelf.SlIter.Collect
import Derived.Sort.KeysCollected
import Derived.Ground.GgzProg
import Derived.Shelf.SlSortCmp.WholeK
import Derived.Shelf.SlSortCmp.NoneTotal
import Derived.Shelf.Small.Strs
import Derived.Ground.SlsfProg
import Derived.Ground.NamesProg
import Derived.OwnWalkIn
import Derived.RangeFuncSeq
import Derived.RangeFuncIn
import Derived.RangeFuncRecord
import Derived.Shelf.SortM.Plain
import Derived.Shelf.SortM.SortNone
import Derived.Ground.SlgmProg
import Derived.Test.YtdjlhmmfplhhdaaGreatDoorZAL
import Derived.Test.YtdjlhmmfplhhdaaGreatDoorZAY
namespace Go.Proofs
open Go.Shelf
def Tryz.abx:Go.Shelf.Ren:=⟨λ| 6=>280 | 15=>218 | 14=>312 | 28=>270 | 29=>121 | 20=>323 | 21=>324 | 22=>325 | 23=>326 | 24=>327 | 25=>328 | 26=>329 | 27=>330 | 46=>335 | 47=>293 | 48=>294 | 49=>336 | 50=>337 | 57=>338 | n=>n,λ| 22=>42 | 24=>55 | 25=>349 | 3=>3 | 39=>41 | 0=>0 | 53=>134 | 55=>207 | 4=>4 | 46=>363 | 45=>362 | 50=>367 | 5=>5 | 9=>9 | 66=>387 | 70=>391 | 76=>406 | 77=>407 | n=>n,λ| n=>n⟩
theorem Tryz.ajk:Go.Proofs.SlLaysF0.n6 Tryz.prog Tryz.abx:={
 mixed:=by kernel_rfl
 f6:=⟨Tryz.f280.name,by decide,Tryz.func280.trans (congrArg some (by kernel_rfl))⟩
 f14:=⟨Tryz.f312.name,by decide,Tryz.func312.trans (congrArg some (by kernel_rfl))⟩
 f15:=Tryz.func218.trans (congrArg some (by kernel_rfl))
 f20:=⟨Tryz.f323.name,by decide,Tryz.func323.trans (congrArg some (by kernel_rfl))⟩
 f21:=⟨Tryz.f324.name,by decide,Tryz.func324.trans (congrArg some (by kernel_rfl))⟩
 f22:=⟨Tryz.f325.name,by decide,Tryz.func325.trans (congrArg some (by kernel_rfl))⟩
 f23:=⟨Tryz.f326.name,by decide,Tryz.func326.trans (congrArg some (by kernel_rfl))⟩
 f24:=⟨Tryz.f327.name,by decide,Tryz.func327.trans (congrArg some (by kernel_rfl))⟩
 f25:=⟨Tryz.f328.name,by decide,Tryz.func328.trans (congrArg some (by kernel_rfl))⟩
 f26:=⟨Tryz.f329.name,by decide,Tryz.func329.trans (congrArg some (by kernel_rfl))⟩
 f27:=⟨Tryz.f330.name,by decide,Tryz.func330.trans (congrArg some (by kernel_rfl))⟩
 f28:=Tryz.func270.trans (congrArg some (by kernel_rfl))
 f29:=Tryz.func121.trans (congrArg some (by kernel_rfl))
 f46:=⟨Tryz.f335.name,by decide,Tryz.func335.trans (congrArg some (by kernel_rfl))⟩
 f47:=Tryz.func293.trans (congrArg some (by kernel_rfl))
 f48:=Tryz.func294.trans (congrArg some (by kernel_rfl))
 f49:=⟨Tryz.f336.name,by decide,Tryz.func336.trans (congrArg some (by kernel_rfl))⟩
 f50:=⟨Tryz.f337.name,by decide,Tryz.func337.trans (congrArg some (by kernel_rfl))⟩
 f57:=⟨Tryz.f338.name,by decide,Tryz.func338.trans (congrArg some (by kernel_rfl))⟩
 t0:=Tryz.underlying0
 a0:=Tryz.isAgg0
 z0:=Tryz.sizeOf0
 v0:=Tryz.zeroValue0
 t3:=Tryz.underlying3
 a3:=Tryz.isAgg3
 z3:=Tryz.sizeOf3
 v3:=Tryz.zeroValue3
 t4:=Tryz.underlying4
 a4:=Tryz.isAgg4
 z4:=Tryz.sizeOf4
 v4:=Tryz.zeroValue4
 t5:=Tryz.underlying5
 a5:=Tryz.isAgg5
 z5:=Tryz.sizeOf5
 v5:=Tryz.zeroValue5
 t9:=Tryz.underlying9
 a9:=Tryz.isAgg9
 z9:=Tryz.sizeOf9
 v9:=Tryz.zeroValue9
 t22:=Tryz.underlying42
 a22:=Tryz.isAgg42
 z22:=Tryz.sizeOf42
 v22:=Tryz.zeroValue42
 t25:=Tryz.underlying349
 a25:=Tryz.isAgg349
 z25:=Tryz.sizeOf349
 v25:=Tryz.zeroValue349
 t39:=Tryz.underlying41
 a39:=Tryz.isAgg41
 z39:=Tryz.sizeOf41
 v39:=Tryz.zeroValue41
 t45:=Tryz.underlying362
 a45:=Tryz.isAgg362
 z45:=Tryz.sizeOf362
 v45:=Tryz.zeroValue362
 t46:=Tryz.underlying363
 a46:=Tryz.isAgg363
 z46:=Tryz.sizeOf363
 v46:=Tryz.zeroValue363
 t50:=Tryz.underlying367
 a50:=Tryz.isAgg367
 z50:=Tryz.sizeOf367
 v50:=Tryz.zeroValue367
 t53:=Tryz.underlying134
 a53:=Tryz.isAgg134
 z53:=Tryz.sizeOf134
 v53:=Tryz.zeroValue134
 t55:=Tryz.underlying207
 a55:=Tryz.isAgg207
 z55:=Tryz.sizeOf207
 v55:=Tryz.zeroValue207
 t66:=Tryz.underlying387
 a66:=Tryz.isAgg387
 z66:=Tryz.sizeOf387
 v66:=Tryz.zeroValue387
 t70:=Tryz.underlying391
 a70:=Tryz.isAgg391
 z70:=Tryz.sizeOf391
 v70:=Tryz.zeroValue391
 t76:=Tryz.underlying406
 a76:=Tryz.isAgg406
 z76:=Tryz.sizeOf406
 v76:=Tryz.zeroValue406
 t77:=Tryz.underlying407
 a77:=Tryz.isAgg407
 z77:=Tryz.sizeOf407
 v77:=Tryz.zeroValue407}
end Go.Proofs
namespace Go.Dx
open Go Go.RowKit
variable{clock m since last:Nat}{en:MapEntry}{w' w0:World}{h:H}{ρ:bD}{a:Act}
section
variable {P:Program} {w:World}
theorem BY {t k e:TypeId}(a:P.underlying t=some (.map k e)):(Instr.range t (.map none)).run P w = .ok (.pointer (some ⟨w.heap.size,0,none⟩)) (w.alloc (.mapIter none 0 #[] 0)):=by
 unfold Instr.range;simp [run_underlying a]
theorem run_range_map {t k e:TypeId}(c:P.underlying t=some (.map k e)){es:Array MapEntry}(b:w.heap[m]? =some (.map es clock)):
  (Instr.range t (.map (some m))).run P w = .ok (.pointer (some ⟨w.heap.size,0,none⟩)) (w.alloc (.mapIter (some m) clock #[] clock)):=by
 unfold Instr.range;have a:(getObj m).run P w = .ok (.map es clock) w:=by simp [getObj,Sem.run,b]
 simp [run_underlying c,a]
theorem Fp {r a b:Nat}{s:Array Nat}(e:w.heap[r]? =some (.mapIter none a s b))(c:TypeId):(Instr.next (.pointer (some ⟨r,0,none⟩)) false c).run P w = .ok (.tuple #[.bool false]) w:=by
 unfold Instr.next;have d:(getObj r).run P w = .ok (.mapIter none a s b) w:=by simp [getObj,Sem.run,e]
 simp [d]
theorem zH {r m since last clock:Nat}{s:Array Nat}(e:w.heap[r]? =some (.mapIter (some m) since s last))(f:w.heap[m]? =some (.map #[] clock))(b:TypeId):
  (Instr.next (.pointer (some ⟨r,0,none⟩)) false b).run P w = .ok (.tuple #[.bool false]) w:=by
 unfold Instr.next;have d:(getObj r).run P w = .ok (.mapIter (some m) since s last) w:=by simp [getObj,Sem.run,e]
 have a:(getObj m).run P w = .ok (.map #[] clock) w:=by simp [getObj,Sem.run,f]
 have c:(Question.mapNext 1).forced=true:=rfl;simp [d,a,c]
theorem Mi {r:Nat}(b:w.heap[r]? =some (.mapIter (some m) since #[] last))(g:w.heap[m]? =some (.map #[en] clock))(f:en.born<since)(c:TypeId):
  (Instr.next (.pointer (some ⟨r,0,none⟩)) false c).run P w = .ok (.tuple #[.bool true,en.key,en.val]) (w.putObj r (.mapIter (some m) since #[en.born] clock)):=by
 unfold Instr.next;have e:(getObj r).run P w = .ok (.mapIter (some m) since #[] last) w:=by simp [getObj,Sem.run,b]
 have a:(getObj m).run P w = .ok (.map #[en] clock) w:=by simp [getObj,Sem.run,g]
 have d:(Question.mapNext 1).forced=true:=rfl;have DB:¬since<=en.born:=by omega
 simp [e,a,d,f,DB,setObj,Sem.run,b,World.putObj]
theorem Ob {r:Nat}(e:w.heap[r]? =some (.mapIter (some m) since #[en.born] last))(f:w.heap[m]? =some (.map #[en] clock))(g:en.born<last)(b:TypeId):
  (Instr.next (.pointer (some ⟨r,0,none⟩)) false b).run P w = .ok (.tuple #[.bool false]) w:=by
 unfold Instr.next;have d:(getObj r).run P w = .ok (.mapIter (some m) since #[en.born] last) w:=by simp [getObj,Sem.run,e]
 have a:(getObj m).run P w = .ok (.map #[en] clock) w:=by simp [getObj,Sem.run,f]
 have c:(Question.mapNext 1).forced=true:=rfl;have DB:¬last<=en.born:=by omega
 simp [d,a,c,DB]
theorem Oc {r:Nat}(c:w.heap[r]? =some (.mapIter (some m) since #[en.born] clock))(d:w.heap[m]? =some (.map #[en] clock)):
  (Instr.entry (.pointer (some ⟨r,0,none⟩))).run P w = .ok (.tuple #[en.key,en.val]) w:=by
 unfold Instr.entry;have b:(getObj r).run P w = .ok (.mapIter (some m) since #[en.born] clock) w:=by simp [getObj,Sem.run,c]
 have a:(getObj m).run P w = .ok (.map #[en] clock) w:=by simp [getObj,Sem.run,d]
 simp [b,a]
theorem iV (W:World)(l:Nat)(o:Go.Obj):W.grownBy (W.putObj l o) (some l):=
 ⟨rfl,rfl,rfl,by simp,λk _ a=>World.putObj_heap_other (λe=>a (by rw [e]))⟩
theorem iW {W:World}{B:Nat}{v:Value}{t:TypeId}(h:W.heap[B]? =some (.cells #[v] t (0,0))):W.cell? ⟨B,0,none⟩=some v/\W.frozen? ⟨B,0,none⟩=false:=by
 constructor<;>simp [World.cell?,World.frozen?,h]
theorem aA.Fq {B:Nat}(R:aA B w0 ρ h w)(a:Below w.heap.size w w'):aA B w0 ρ h w':=
 ⟨λl b o c d=>(R.obj l b o c d).jH (j8.refl _) (a.block _ (R.obj l b o c d).lt),R.lt,R.base,R.inj,R.own,Nat.le_trans R.size a.size,R.below.trans (a.mono R.size)⟩
theorem aA.named {B:Nat}(R:aA B w0 ρ h w)(k:Below w.heap.size w w'){o:Obj}{b:ej}(MT:w.heap.size<=b.block)(j:b.base=0/\b.val = .nilFunc)(l:sS (uG ρ h.next b) b w' o):
  aA B w0 (uG ρ h.next b) (h.add o) w':=by
 have R':=R.Fq k;have E:=eS (b:=b) R.fresh;refine ⟨λm c p a f=>?_,λm c a=>?_,λm c a=>?_,λm n c d a g i Wk e=>?_,λm c p a f q=>?_,R'.size,R'.below⟩
 ·by_cases e:m=h.next
  ·subst e
   rw [aU] at a;cases a;rw [H.kY] at f;cases f;exact l
  ·rw [ca e] at a
   rw [H.ew _ _ e] at f;exact (R'.obj m c p a f).jH E rfl
 ·show val m<val (inc h.next)
  rw [jc]
  by_cases e:m=h.next
  ·subst e;omega
  ·rw [ca e] at a;exact Nat.lt_succ_of_lt (R.lt m c a)
 ·by_cases e:m=h.next
  ·subst e;rw [aU] at a;cases a;exact ⟨j.1,.nil j.2⟩
  ·rw [ca e] at a;exact R.base m c a
 ·by_cases e1:m=h.next
  ·by_cases e2:n=h.next
   ·rw [e1,e2]
   ·subst e1
    rw [aU] at a;rw [ca e2] at g;cases a;rw [H.ew _ _ e2] at Wk;obtain ⟨p,f⟩:=Option.isSome_iff_exists.1 Wk;have:=(R.obj n d p g f).lt;omega
  ·by_cases e2:n=h.next
   ·subst e2
    rw [aU] at g;rw [ca e1] at a;cases g;rw [H.ew _ _ e1] at i;obtain ⟨p,f⟩:=Option.isSome_iff_exists.1 i;have:=(R.obj m c p a f).lt;omega
   ·rw [ca e1] at a
    rw [ca e2] at g;rw [H.ew _ _ e1] at i;rw [H.ew _ _ e2] at Wk;exact R.inj m n c d a g i Wk e
 ·by_cases e:m=h.next
  ·subst e
   rw [aU] at a;cases a;have:=R.size;omega
  ·rw [ca e] at a
   rw [H.ew _ _ e] at f;exact R.own m c p a f q
structure awp (fn:FuncId)(a:Act)(ps:Array Tmp)(assign body:Code)(D:Nat)(L:Loop):Prop where
 state:L.state = .ready
 pending:L.pending=none
 fn:L.fn=fn
 tmps:L.tmps=a.tmps
 params:L.params=ps
 assign:L.assign=assign
 body:L.body=body
 defers:L.defers=D
theorem jz {g:Operand}{ps:Array Tmp}{assign body:Code}{Q:Exit->Act->World->Prop}  {gf:Nat} {lb:Array Value} (hg:a.eval g = .func (.func gf) #[] lb) (eg:∀args w,(callFunc gf args).run P w = .ok (.enter gf args) w)
  (h:∀fn L,awp fn a ps assign body w.heap.size L->CallsIn Fence.wide 0 P gf (#[.func (.yield (w.heap.size+1)) #[] #[]]++lb) ((w.alloc (.deferred (some []))).alloc (.loop L)) λe W'=>
   (∃v,e = .returned v)/\W'.heap[w.heap.size+1]? =some (.loop L)/\
    Q .normal {a with defers:={target:=.collected w.heap.size,args:=#[]} ::a.defers} (W'.putObj (w.heap.size+1) (.loop {L with state:=.exhausted}))):
  (Code.rangeFunc g ps assign body).wpIn Fence.wide 0 P Q a w:=by
 refine wpIn_rangeFunc λfn _=>?_;obtain ⟨L,hL⟩:∃L,L=({state:=.ready,pending:=none,fn:=fn,tmps:=a.tmps,params:=ps,assign:=assign,body:=body,defers:=w.heap.size}:Loop):=⟨_,rfl⟩;have h:=h fn L (by subst hL;exact ⟨rfl,rfl,rfl,rfl,rfl,rfl,rfl,rfl⟩);have Bx:L.state = .ready:=by rw [hL]
 have hpe:L.pending=none:=by rw [hL]
 obtain ⟨W1,hW1⟩:∃W1,W1=((w.alloc (.deferred (some []))).alloc (.loop L)):=⟨_,rfl⟩;rw [<-hW1] at h;refine ⟨w.heap.size+1,[{target:=.collected w.heap.size,args:=#[]}],W1,{target:=.fn (.func gf) lb,args:=#[.func (.yield (w.heap.size+1)) #[] #[]]},W1,gf,
  #[.func (.yield (w.heap.size+1)) #[] #[]]++lb,W1,?_,?_,λ_ _=>trivial,?_,?_,?_⟩
 ·rw [hW1,hL];exact run_enterLoop_outer _ _ _ _ _
 ·unfold resolve
  simp only [hg];simp [Act.eval,Deferred.ofValue]
 ·simp [invoke,go_sem,eg]
 ·intro e;exact absurd e (by simp [Fence.wide])
 ·simp only [List.cons_append,List.nil_append,Nat.zero_sub]
  refine h.mono λe W' hh=>?_;obtain ⟨⟨v,rfl⟩,h1,h2⟩:=hh;refine ⟨none,_,?_,h2⟩;have:=run_endLoop (P:=P) h1 (by rw [Bx];exact λe=>by cases e);rw [this,hpe]
theorem Bq {F:Fence}{n:Nat}{ops:Array Oper}{rest:List Oper}{o:Oper}{Q:Exit->Act->World->Prop} (e:o.guard=none) (s x:Operand) (t u:TypeId)
  (b:o.op=Op.call {callee:=Callee.builtin Builtin.append,args:=#[s,x],argTypes:=#[t,u]}) {sx xx y:Value}  (hs:a.eval s=sx) (g:a.eval x=xx) (f:(Builtin.append_ #[t,u] o.type #[sx,xx]).run P w = .ok y w')
  (h:wpListIn F n P ops Q rest (a.put o.dst y) w'):wpListIn F n P ops Q (o::rest) a w:=by
 refine wpListIn_plain e λK' d=>?_;unfold Oper.wpIn;refine ⟨?_,?_⟩
 ·simp [Oper.about,b,resolve,Target.leads,Sem.run_pure]
 ·rw [Oper.semAt_plain F _ _ (by rw [b];intro c FA;cases FA)]
  simp [execOp,b,resolve,invoke,Go.builtin,hs,g,f,Result.andThen];exact d _ _ h
theorem Mj {t e:TypeId}{i:TypeInfo}{z:Value}(h:P.underlying t=some (.slice e))(hi:P.info? e=some i)(k:i.zero=some z)(o:z.cells.size=i.size)(r:i.bytes<=1048576){src:Addr}{news:List Value}(f:news.length=i.size)
  (d:∀j v,news[j]? =some v->w.cell? (src.add j)=some v) (c:TypeId):
  ∃g cap a,(Builtin.append_ #[t,t] c #[.slice none 0 0,.slice (some src) 1 1]).run P w = .ok (.slice (some ⟨g,0,none⟩) 1 cap) (w.drew.alloc (.cells a e))/\g=w.heap.size/\a.toList.take i.size=news/\a.size=cap*i.size/\1<=cap:=by
 have l:=OO (P:=P) (w:=w) t t c e i z h hi k (.inl ⟨e,h⟩) (.slice (some src) 1 1) 1 news (λw'=>rfl)
  (run_firstCells_some w i.size 1 _ 1 1 news (by omega) λj v b=>d j v b) (run_firstCells_some w.drew i.size 1 _ 1 1 news (by omega) λj v b=>by rw [World.cell?_drew];exact d j v b)
 have p:=nextslicecap_le (need:=0+1) (old:=0) (by omega);have m:=l.grow none 0 0 [] (by omega) (run_firstCells_none w.drew _ 0 0 0) (by omega) (by omega) (by
  have:Builtin.nextslicecap (0+1) 0*i.bytes<=2*(0+1)*i.bytes:=Nat.mul_le_mul_right _ p;omega)
 have n:=grownCap_ge w (0+1) 0 e;refine ⟨w.heap.size,grownCap w (0+1) 0 e,_,m,rfl,?_,?_,n⟩
 ·simp [<-f]
 ·have:=size_zeroCells z.cells (grownCap w (0+1) 0 e - (0+1))
  simp only [List.nil_append,Array.size_append,List.size_toArray,f];rw [this,o];have:grownCap w (0+1) 0 e=(grownCap w (0+1) 0 e - (0+1))+1:=by omega
  generalize grownCap w (0+1) 0 e - (0+1)=q at this ⊢;rw [this,Nat.add_mul];omega
end
end Go.Dx
namespace Go.Proofs
open Go.Shelf
def Tryz.aby:Go.Shelf.Ren:=⟨λ| 6=>165 | 8=>218 | 9=>217 | 19=>270 | 20=>121 | 21=>261 | 22=>262 | 23=>263 | 24=>264 | 25=>265 | 26=>266 | 27=>267 | 28=>268 | 29=>269 | 36=>292 | 31=>293 | 32=>294 | 37=>295 | 38=>296 | 39=>297 | 41=>318 | n=>n,λ| 27=>127 | 29=>9 | 3=>3 | 32=>41 | 26=>127 | 0=>0 | 44=>134 | 46=>207 | 4=>4 | 36=>363 | 35=>362 | 41=>367 | 5=>5 | 9=>9 | 53=>387 | 57=>391 | 63=>406 | 64=>407 | n=>n,λ| n=>n⟩
theorem Tryz.ajl:Go.Proofs.SlLaysM.n6 Tryz.prog Tryz.aby:={
 mixed:=by kernel_rfl
 f6:=⟨Tryz.f165.name,by decide,Tryz.func165.trans (congrArg some (by kernel_rfl))⟩
 f8:=Tryz.func218.trans (congrArg some (by kernel_rfl))
 f9:=⟨Tryz.f217.name,by decide,Tryz.func217.trans (congrArg some (by kernel_rfl))⟩
 f19:=Tryz.func270.trans (congrArg some (by kernel_rfl))
 f20:=Tryz.func121.trans (congrArg some (by kernel_rfl))
 f21:=⟨Tryz.f261.name,by decide,Tryz.func261.trans (congrArg some (by kernel_rfl))⟩
 f22:=⟨Tryz.f262.name,by decide,Tryz.func262.trans (congrArg some (by kernel_rfl))⟩
 f23:=⟨Tryz.f263.name,by decide,Tryz.func263.trans (congrArg some (by kernel_rfl))⟩
 f24:=⟨Tryz.f264.name,by decide,Tryz.func264.trans (congrArg some (by kernel_rfl))⟩
 f25:=⟨Tryz.f265.name,by decide,Tryz.func265.trans (congrArg some (by kernel_rfl))⟩
 f26:=⟨Tryz.f266.name,by decide,Tryz.func266.trans (congrArg some (by kernel_rfl))⟩
 f27:=⟨Tryz.f267.name,by decide,Tryz.func267.trans (congrArg some (by kernel_rfl))⟩
 f28:=⟨Tryz.f268.name,by decide,Tryz.func268.trans (congrArg some (by kernel_rfl))⟩
 f29:=⟨Tryz.f269.name,by decide,Tryz.func269.trans (congrArg some (by kernel_rfl))⟩
 f31:=Tryz.func293.trans (congrArg some (by kernel_rfl))
 f32:=Tryz.func294.trans (congrArg some (by kernel_rfl))
 f36:=⟨Tryz.f292.name,by decide,Tryz.func292.trans (congrArg some (by kernel_rfl))⟩
 f37:=⟨Tryz.f295.name,by decide,Tryz.func295.trans (congrArg some (by kernel_rfl))⟩
 f38:=⟨Tryz.f296.name,by decide,Tryz.func296.trans (congrArg some (by kernel_rfl))⟩
 f39:=⟨Tryz.f297.name,by decide,Tryz.func297.trans (congrArg some (by kernel_rfl))⟩
 f41:=⟨Tryz.f318.name,by decide,Tryz.func318.trans (congrArg some (by kernel_rfl))⟩
 t0:=Tryz.underlying0
 a0:=Tryz.isAgg0
 z0:=Tryz.sizeOf0
 v0:=Tryz.zeroValue0
 t3:=Tryz.underlying3
 a3:=Tryz.isAgg3
 z3:=Tryz.sizeOf3
 v3:=Tryz.zeroValue3
 t4:=Tryz.underlying4
 a4:=Tryz.isAgg4
 z4:=Tryz.sizeOf4
 v4:=Tryz.zeroValue4
 t5:=Tryz.underlying5
 a5:=Tryz.isAgg5
 z5:=Tryz.sizeOf5
 v5:=Tryz.zeroValue5
 t9:=Tryz.underlying9
 a9:=Tryz.isAgg9
 z9:=Tryz.sizeOf9
 v9:=Tryz.zeroValue9
 t26:=Tryz.underlying127
 a26:=Tryz.isAgg127
 z26:=Tryz.sizeOf127
 v26:=Tryz.zeroValue127
 t27:=Tryz.underlying127
 a27:=Tryz.isAgg127
 z27:=Tryz.sizeOf127
 v27:=Tryz.zeroValue127
 t29:=Tryz.underlying9
 a29:=Tryz.isAgg9
 z29:=Tryz.sizeOf9
 v29:=Tryz.zeroValue9
 t32:=Tryz.underlying41
 a32:=Tryz.isAgg41
 z32:=Tryz.sizeOf41
 v32:=Tryz.zeroValue41
 t35:=Tryz.underlying362
 a35:=Tryz.isAgg362
 z35:=Tryz.sizeOf362
 v35:=Tryz.zeroValue362
 t36:=Tryz.underlying363
 a36:=Tryz.isAgg363
 z36:=Tryz.sizeOf363
 v36:=Tryz.zeroValue363
 t41:=Tryz.underlying367
 a41:=Tryz.isAgg367
 z41:=Tryz.sizeOf367
 v41:=Tryz.zeroValue367
 t44:=Tryz.underlying134
 a44:=Tryz.isAgg134
 z44:=Tryz.sizeOf134
 v44:=Tryz.zeroValue134
 t46:=Tryz.underlying207
 a46:=Tryz.isAgg207
 z46:=Tryz.sizeOf207
 v46:=Tryz.zeroValue207
 t53:=Tryz.underlying387
 a53:=Tryz.isAgg387
 z53:=Tryz.sizeOf387
 v53:=Tryz.zeroValue387
 t57:=Tryz.underlying391
 a57:=Tryz.isAgg391
 z57:=Tryz.sizeOf391
 v57:=Tryz.zeroValue391
 t63:=Tryz.underlying406
 a63:=Tryz.isAgg406
 z63:=Tryz.sizeOf406
 v63:=Tryz.zeroValue406
 t64:=Tryz.underlying407
 a64:=Tryz.isAgg407
 z64:=Tryz.sizeOf407
 v64:=Tryz.zeroValue407}
end Go.Proofs
namespace K
open Go Go.Dx Go.RowKit Go.Proofs
set_option maxRecDepth 100000
def XQ (s:List Nat):Js:=.mk 3 0 s [] []
theorem Zn:∀{l:List (List Nat)},(∀s∈l,s.length<=300000)->Fo (l.map XQ)<=1804860
 | [],_=>by simp [Fo]
 | s::r,h=>by
   have b:=h s (by simp);have c:=Zn (l:=r) λx a=>h x (by simp [a]);have h3:XP (XQ s)=60+6*s.length+12*400:=by simp [XQ,XP]
   simp only [List.map_cons,Fo,h3];omega
theorem uy {h:H}{nv vv:V}{ns vs:List (List Nat)}(hw:Wf h)(L:Ro h 1 nv ns.length (strs ns))(M:Sl h 1 vv vs.length (strs vs))(a:ns.length=vs.length)(hs:ns.length<=12)(f:∀s∈ns,s.length<=64/\∀b∈s,b<256) (LY:∀s∈vs,bt s) {Q:V->H->Prop} (hq:∀r h',r.length<=65536->Mod h h' []->Wf h'->Q (.str r) h'):
  CW pf G0 tL [nv,vv] h Q:=by
 have Dm:=L.flat;refine GJ.enter (by kernel_rfl) ?_;cbv;refine .flat rfl ?_;cbv;refine .flat Dm ?_;cbv;refine .of hw λD h1 cw R ar aK=>?_;cbv;refine .of (cs:=[.int .i64 5,.int .i64 0,.str [],nv,.nilSlice 0]) aK cw rfl rfl rfl rfl (by show (true&&(true&&(true&&(cf nv&&(true&&true)))))=true;rw [Dm];rfl) rfl λh2 dh Y aO=>?_;have O:Mod h h2 []:=ar.fr Y λl a=>by simp at a;subst a;exact .inl R
 cbv;refine .of (M.mono O) λm hm0 hmn=>?_;cbv;refine .inv [p1,p5,SB,Yz,p14] (λP aB h'=>∃(x:Int) (u:V) (c:List V),aB=[vv,.ptr D 0,vv,.int .i64 m,.int .i64 x]/\0<=x/\x.toNat<=vs.length/\P=vs.length - x.toNat/\aG h' bL 5 u (vs.take x.toNat).length c/\pj h' ((vs.take x.toNat).map XQ) c/\Fr h u/\D∉ag u/\h'.get D=some (.cells [.int .i64 5,.int .i64 0,.str [],nv,u] bL 0 .yes)/\Mod h h' []/\Wf h') [_,_,_,_,_] rfl _
  ⟨0,.nilSlice 0,[],rfl,by omega,by simp,rfl,.nil,.nil,Fr.Ff _ _,by simp [ag],dh,O,aO⟩ ?_
 rintro P _ h3 ⟨x,u,c,rfl,kG,S,eF,J,Wc,J9,k,v,C,T⟩;cbv;refine .lt (λbA=>?_) λjl=>?_
 ·obtain ⟨s,I⟩:∃s,vs[x.toNat]? =some s:=⟨_,List.getElem?_eq_getElem (by omega)⟩
  have B:=LY s (List.mem_of_getElem? I);cbv;refine .of (M.mono C) kG rfl (by omega) (eZ I) λq off he=>?_;cbv;refine .fR he 0 rfl ?_;cbv;refine .of v rfl ?_;cbv;refine .flat rfl ?_;cbv;refine .flat rfl ?_;cbv;refine .agg ?_;cbv;refine .of T λU h4 X YC d G=>?_;have hdl:(vs.take x.toNat).length<=12:=by rw [List.length_take];omega
  cbv;refine .own G (J.mono d) (m:=1) (new:=[.int .i64 3,.int .i64 0,.str s,.nilSlice 0,.nilSlice 0]) (by simp only [cW,X];rfl) rfl rfl (by unfold bg;omega) (by decide) λn w W Ap j E=>?_;have aC:Mod h h4 []:=(C.trans d).mono λl o _ a=>by simp at a
  have aT:Mod h w []:=aC.fr j λl a=>.inl (J9 l a);have qi:=j.get (d.get v) k;have FF:Fr h n:=Ap.fr aC (by simp) J9;have i:=Ap.dp (d.get v) k;have K:=((Wc.mono d).mono j).snoc (oL.zero w 3 0 B);cbv;refine .one E qi W.sl.flat rfl rfl rfl λh6 VL A cz=>?_;have bQ:Mod h h6 []:=aT.fr A λl a=>by simp at a;subst a;exact .inl R
  cbv;refine .add (by omega) (by omega) λx2 ke=>?_;have N:vs.take x2.toNat=vs.take x.toNat++[s]:=by rw [show x2.toNat=x.toNat+1 by omega,List.take_add_one,I];rfl
  cbv;exact ⟨rfl,vs.length - x2.toNat,by omega,x2,n,_,rfl,by omega,by omega,rfl,by rw [N,List.length_append];exact W.mono A (dJ i),by rw [N,List.map_append];exact K.mono A,FF,i,VL,bQ,cz⟩
 ·have Z:vs.take x.toNat=vs:=List.take_of_length_le (by omega)
  rw [Z] at J Wc;cbv;refine .of v rfl ?_;obtain ⟨h4,U,F,d,G⟩:=J.freeze T;have aC:Mod h h4 []:=C.fr d λl a=>.inl (J9 l a);cbv;refine CW.less U (zF (t:=.mk 5 0 [] ns (vs.map XQ)) G (.mk ⟨by simp,by simp⟩ (λs g=>⟨by have:=(f s g).1;omega,(f s g).2⟩) (by omega) (by simp;omega) (λ_=>by simp [a]) (L.mono aC) (by rw [List.length_map];exact F) (Wc.mono d)) (.obj (by simp [a]) hs (λs g=>(f s g).1) λy hy=>?_) ?_ λr e w hr _ j E=>?_)
  ·obtain ⟨s,_,rfl⟩:=List.mem_map.1 hy
   exact .text
  ·have:=Zn λs g=>(LY s g).1
   simp only [XP,List.length_nil,if_true];omega
  ·cbv;exact hq r w hr ((aC.trans j).mono λx o _ S=>by simp at S) E
end K
namespace K
open Go Go.Dx Go.RowKit Go.Proofs
set_option maxRecDepth 100000
variable{ns:List (List Nat)}
theorem pig:∀{ns nl:List (List Nat)},ns.Nodup->(∀a∈ns,a∈nl)->nl.length=ns.length->nl.Perm ns
 | [],nl,_,_,hl=>by
   cases nl with
   | nil=>exact .nil
   | cons a r=>simp at hl
 | a::r,nl,hd,hm,hl=>by
   have d:a∈nl:=hm a (by simp);have TD:=List.nodup_cons.1 hd;have f:=pig (ns:=r) (nl:=nl.erase a) TD.2 (λb c=>(List.mem_erase_of_ne (λe=>TD.1 (by rw [<-e];exact c))).2 (hm b (by simp [c]))) (by rw [List.length_erase_of_mem d,hl];simp);exact (List.perm_cons_erase d).trans (f.cons a)
def Js.Mk:Js->Prop
 | .mk k _ _ _ _=>k=3
theorem XR {nl:List (List Nat)}{its:List Js}{i:Int}{tx:List Nat}(n:ns.Nodup)(hs:ns.length<=12)(u:∀a∈ns,a.length<=64) (A:nl.length=ns.length) (w:nl.length=its.length) (o:∀a∈ns,∃(j:Nat) (x:Js),nl[j]? =some a/\its[j]? =some x/\Js.Mk x):Lay (.mk 5 i tx nl its)/\∀x∈its,Js.Mk x:=by
 have l:=pig n (λa v=>by obtain ⟨j,x,f,_⟩:=o a v;exact List.mem_of_getElem? f) A;have d:nl.Nodup:=l.nodup_iff.2 n;have c:∀x∈its,Js.Mk x:=λx h=>by
  obtain ⟨j,z,e⟩:=List.getElem_of_mem h;have JG:j<nl.length:=by omega
  obtain ⟨k,y,f,p,h3⟩:=o nl[j] (l.mem_iff.1 (List.getElem_mem JG));obtain ⟨m,q⟩:=List.getElem?_eq_some_iff.1 f;have:k=j:=by
   rcases Nat.lt_trichotomy k j with g | g | g
   ·exact absurd q (List.pairwise_iff_getElem.1 d k j m JG g)
   ·exact g
   ·exact absurd q.symm (List.pairwise_iff_getElem.1 d j k JG m g)
  subst this;rw [List.getElem?_eq_getElem z,e] at p;cases p;exact h3
 refine ⟨.obj w (by omega) (λs r=>u s (l.mem_iff.1 r)) λx h=>?_,c⟩;have:=c x h;obtain ⟨k,i,t,a,b⟩:=x;cases this;exact .text
theorem Py {h:H}:∀{its:List Js} {a:List V},pj h its a->(∀x∈its,Js.Mk x)->Fo its<=1804860
 | _,_,.nil,_=>by simp [Fo]
 | t::r,_,.cons ha hb,hx=>by
   have c:=Py hb λx h=>hx x (by simp [h]);have b:=hx t (by simp);cases ha with
   | mk ht=>
     cases b;have:=ht.1;simp only [Fo,XP];simp;omega
theorem Pz {h:H}{s:List Nat}{nv:V}(hw:Wf h)(he:HE h)(hn:Ro h 1 nv ns.length (strs ns))(hd:ns.Nodup)(hs:ns.length<=12)(vX:∀a∈ns,a.length<=64) {Q:V->H->Prop} (E:∀h',Mod h h' []->Wf h'->Q (.tuple [.nilSlice 0,.bool false]) h') (bN:∀W vs b h',aG h' 9 1 W vs.length (strs vs)->vs.length=ns.length->(∀v∈vs,bt v)->Mod h h' []->Fr h W->Wf h'->Q (.tuple [W,.bool b]) h'):
  CW pf G0 tP [.str s,nv] h Q:=by
 refine GN.enter (by kernel_rfl) ?_;cbv;refine CX.awo λhb=>UT hw he hb λt cs a0 e0 h1 d ar aK=>?_;have fK:=d.aZ;obtain ⟨k,i,tx,nl,its⟩:=t;cases d with
 | @mk _ _ _ _ _ jn ji rows ht Ds NV VR h5 xy hi hr=>
 cbv;refine .of aK λU h2 dh gi av aO=>?_;have fb:=aj ar (by simp) gi;cbv;refine .of (cs:=[.int .i64 k,.int .i64 i,.str tx,jn,ji]) aO dh rfl rfl rfl rfl fK rfl λh3 M aI G=>?_;have w:Mod h h3 []:=((ar.trans av).fr aI λl c=>by simp at c;subst c;exact .inl fb).mono λl o _ c=>by simp at c
 have jD:Mod h1 h3 []:=av.fr aI λl c=>by simp at c;subst c;exact .inl gi
 have uI:=hr.mono jD;have Pw:=hi.mono jD;have alO:=xy.mono jD;clear hr hi xy ar av aI fK;cbv;refine .ne (λe1=>?_) λe1=>?_;rotate_left
 ·cbv;exact E h3 w G
 cbv;refine .of M rfl ?_;cbv;refine .ne (λe2=>?_) λe2=>?_;rotate_left
 ·cbv;exact E h3 w G
 subst e2;cbv;refine .of M rfl ?_;cbv;refine .of alO.sl λn1 aj7 Dr=>?_;cbv;refine .of (hn.mono w).sl λn2 SP hn2=>?_;cbv;refine .ne (λe3=>?_) λe3=>?_;rotate_left
 ·cbv;exact E h3 w G
 cbv;refine .of (hn.mono w).sl λm hm0 hmn=>?_;cbv;refine .inv [p0,p1,p6,p9,p37,p38,p39] (λm' aB h'=>∃(x:Int) (B:V) (vs:List (List Nat)),aB=[.str s,nv,.ptr U 0,B,nv,.int .i64 m,.int .i64 x]/\0<=x/\x.toNat<=ns.length/\m'=ns.length - x.toNat/\vs.length=x.toNat/\(∀v∈vs,bt v)/\(∀a∈ns.take x.toNat,∃(j:Nat) (y:Js),nl[j]? =some a/\its[j]? =some y/\Js.Mk y)/\aG h' 9 1 B vs.length (strs vs)/\Fr h B/\U∉ag B/\h'.get U=some (.cells [.int .i64 5,.int .i64 i,.str tx,jn,ji] bL 0 .yes)/\Ro h' 1 jn nl.length (strs nl)/\Ro h' 5 ji its.length rows/\pj h' its rows/\Mod h h' []/\Wf h') [_,_,_,_,_,_,_] rfl _
  ⟨0,.nilSlice 0,[],rfl,by omega,by simp,rfl,rfl,by simp,by simp,.nil,Fr.Ff _ _,by simp [ag],M,alO,Pw,uI,w,G⟩ ?_
 clear w G M alO Pw uI;rintro m' _ h4 ⟨x,B,vs,rfl,kG,hx,eF,hvl,LY,dA,ju,YC,F,dH,u,Ze,P,aC,aW⟩;cbv;refine .lt (λbA=>?_) λjl=>?_
 ·obtain ⟨a,ha⟩:∃a,ns[x.toNat]? =some a:=⟨_,List.getElem?_eq_getElem (by omega)⟩
  cbv;refine .of (hn.mono aC).sl kG rfl (by omega) (eZ ha) λq off heq=>?_;cbv;refine .fR heq 0 rfl ?_;cbv;refine .of dH rfl ?_;cbv;refine aa' aW (.mk ht Ds NV VR h5 u Ze P) (λA bf bK=>?_) λj y W0 A d JG K bf bK=>?_
  all_goals
   have L:Mod h A []:=(aC.trans bf).mono λl o _ c=>by simp at c
  ·cbv;refine .of bK λle J Bu O bR D=>?_
   have fe:=aj L (by simp) O;cbv;refine .of (cs:=[.int .i64 0,.int .i64 0,.str [],.nilSlice 0,.nilSlice 0]) D Bu rfl rfl rfl rfl rfl rfl λf Fg db N=>?_;have R:Mod h f []:=((L.trans bR).fr db λl c=>by simp at c;subst c;exact .inl fe).mono λl o _ c=>by simp at c
   cbv;exact E f R N
  ·have Y:=K.aZ
   obtain ⟨ky,iy,C,nsy,aEI⟩:=y;cases K with
   | @mk _ _ _ _ _ jn2 ji2 aAp hty aEL aEM aEN h5y aEO hiy hry=>
   cbv;refine .of bK λle J Bu O bR D=>?_;have fe:=aj L (by simp) O;cbv;refine .of (cs:=[.int .i64 ky,.int .i64 iy,.str C,jn2,ji2]) D Bu rfl rfl rfl rfl Y rfl λf Fg db N=>?_;have sO:Mod A f []:=bR.fr db λl c=>by simp at c;subst c;exact .inl O
   have Z:Mod h4 f []:=(bf.trans sO).mono λl o _ c=>by simp at c
   have R:Mod h f []:=(L.trans sO).mono λl o _ c=>by simp at c
   cbv;refine .of Fg rfl ?_;cbv;refine .ne (λe4=>?_) λe4=>?_
   ·subst e4
    cbv;refine .of Fg rfl ?_;cbv;refine .flat rfl ?_;cbv;refine .of N λl8 h8 tk N2 cU eL=>?_;have alQ:Mod h4 h8 []:=(Z.trans cU).mono λl o _ c=>by simp at c
    have dT:Mod h h8 []:=(R.trans cU).mono λl o _ c=>by simp at c
    cbv;refine .own eL (ju.mono alQ) (m:=1) (new:=[.str C]) (by simp only [cW,tk];rfl) rfl rfl (by unfold bg;omega) (by decide) λlv9 h9 Rv hg9 gE th=>?_;rw [show strs vs++[V.str C]=strs (vs++[C]) from by rw [kB];rfl,show vs.length+1=(vs++[C]).length from by simp] at Rv;have oE:Mod h h9 []:=dT.fr gE λl c=>.inl (YC l c);have Jl:=alQ.get dH;have n:=alQ.trans gE;cbv;refine .add (by omega) (by omega) λx2 ke=>?_;cbv;exact ⟨rfl,ns.length - x2.toNat,by omega,x2,lv9,vs++[C],rfl,by omega,by omega,rfl,by simp;omega,(λv hv=>(List.mem_append.1 hv).elim (LY v) λe=>by simp at e;subst e;exact hty),(λb DB=>by
     rw [show x2.toNat=x.toNat+1 by omega,List.take_add_one,ha] at DB;rcases List.mem_append.1 DB with h | h
     ·exact dA b h
     ·simp at h;subst h;exact ⟨j,_,d,JG,rfl⟩),Rv,hg9.fr dT (by simp) YC,hg9.dp Jl F,gE.get Jl F,u.mono n,Ze.mono n,P.mono n,oE,th⟩
   ·cbv;exact E f R N
 ·rw [List.take_of_length_le (by omega)] at dA
  obtain ⟨alS,T⟩:=XR (i:=i) (tx:=tx) hd hs vX (by omega) (h5 rfl) dA;have hjm:=Py P T;have hjs:XP (.mk 5 i tx nl its)<=90000000:=by
   have:=ht.1;simp only [XP,if_true];omega
  cbv;refine .of dH rfl ?_;cbv;refine zF aW (.mk ht Ds NV VR h5 u Ze P) alS hjs λr e J zv hrb bR D=>?_;have bQ:Mod h J []:=(aC.trans bR).mono λl o _ c=>by simp at c
  cbv;refine .seq (λq=>?_) λq=>?_
  ·cbv;exact bN B vs true J (ju.mono bR) (by omega) LY bQ YC D
  ·cbv;exact bN B vs false J (ju.mono bR) (by omega) LY bQ YC D
end K
namespace K
open Go Go.Dx Go.RowKit Go.Proofs
set_option maxRecDepth 100000
variable{h:H}
def RN:List (List Nat):=[[111,119,110,101,114],[115,116,97,116,117,115],[116,105,116,108,101]]
def jT:List (List Nat):=[[98,121],[116,101,120,116]]
theorem nC {a b c:List Nat}(y:Wf h)(D:bt a)(v:bt b)(u:bt c){Q:V->H->Prop} (B:∀r h',r.length<=65536->Mod h h' []->Wf h'->Q (.str r) h'):CW pf G0 om [.agg [.str a,.str b,.str c]] h Q:=by
 refine zk.enter (by kernel_rfl) ?_;cbv;refine .agg ?_;cbv;refine .of y λN O M P W z=>?_;cbv;refine .of z λq R f Dm m E=>?_;have k:=m.get M;cbv;refine .of k rfl ?_;cbv;refine .of k rfl ?_;cbv;refine .of k rfl ?_;cbv;refine .flat rfl ?_;cbv;refine .flat rfl ?_;cbv;refine .flat rfl ?_;cbv;refine .of E λt h3 Rs Dt s I=>?_;have on:aG h3 9 1 (.slice q 0 3 (.exact 3)) 3 (strs RN):=.exact (s.get f) rfl;have Z:aG h3 9 1 (.slice t 0 3 (.exact 3)) 3 (strs [a,b,c]):=.exact Rs rfl;obtain ⟨h4,L,j,n,J⟩:=on.freeze I;have i:t≠q:=λe=>by subst e;rw [f] at Dt;cases Dt
 have U:=Z.mono n (by simp [ag];exact i);have Y:Mod h h3 []:=((W.trans m).trans s).mono λl o _ d=>by simp at d
 have fn:=aj W (by simp) Dm;have K:Mod h h4 []:=Y.fr n λl d=>by simp [ag] at d;subst d;exact .inl fn
 cbv;refine CW.less L (uy (ns:=RN) (vs:=[a,b,c]) J j U.sl rfl (by decide) (by decide) (by simp;exact ⟨D,v,u⟩) λr w F G C=>?_);cbv;exact B r w F ((K.trans G).mono λl o _ d=>by simp at d) C
theorem hZ:bt []:=⟨by simp,by simp⟩
theorem RO {s:List Nat}(hw:Wf h)(he:HE h){Q:V->H->Prop} (f:∀a b c ok h',bt a->bt b->bt c->Mod h h' []->Wf h'->Q (.tuple [.agg [.str a,.str b,.str c],.bool ok]) h'):CW pf G0 pA [.str s] h Q:=by
 refine A9.enter (by kernel_rfl) ?_;cbv;refine .of hw λlb h1 cw gi ar aK=>?_;cbv;refine .of aK λln h2 hn2 Dm av aO=>?_;have on:aG h2 9 1 (.slice ln 0 3 (.exact 3)) 3 (strs RN):=.exact hn2 rfl;obtain ⟨h3,l3,rn3,aI,aS⟩:=on.freeze aO;have hbn:lb≠ln:=λe=>by subst e;rw [cw] at Dm;cases Dm
 have gZ:=aI.get (av.get cw) (by simp [ag];exact hbn);have aQ:Mod h h2 []:=(ar.trans av).mono λl o _ d=>by simp at d
 have fn:=aj ar (by simp) Dm;have aN:Mod h h3 []:=aQ.fr aI λl d=>by simp [ag] at d;subst d;exact .inl fn
 have g:∀l,l∈[lb]->h.get l=none:=λl d=>by simp at d;subst d;exact gi
 cbv;refine CW.less l3 (Pz (ns:=RN) aS (he.mono aN) rn3 (by decide) (by decide) (by decide) (λh4 aL S=>?_) λov vs b h4 ju hvl LY aL YC S=>?_)
 all_goals
  have T:=aL.get gZ;have aC:Mod h h4 []:=(aN.trans aL).mono λl o _ d=>by simp at d
 ·cbv;refine .of (cs:=[.str [],.str [],.str []]) S T rfl rfl rfl rfl rfl rfl λB F bf O=>?_
  cbv;refine .of F rfl ?_;cbv;exact f [] [] [] false B hZ hZ hZ (aC.fr bf λl d=>.inl (g l d)) O
 cases b
 ·cbv;refine .of (cs:=[.str [],.str [],.str []]) S T rfl rfl rfl rfl rfl rfl λB F bf O=>?_
  cbv;refine .of F rfl ?_;cbv;exact f [] [] [] false B hZ hZ hZ (aC.fr bf λl d=>.inl (g l d)) O
 ·obtain ⟨a,b,c,rfl⟩:∃a b c,vs=[a,b,c]:=by
   match vs,hvl with
   | [a,b,c],_=>exact ⟨a,b,c,rfl⟩
  simp at LY;obtain ⟨ba,i,j⟩:=LY;have rd:∀{n:Nat} {x:List Nat},[a,b,c][n]? =some x->rowFrom (strs [a,b,c]) (n*1) 1=some [.str x]:=λe=>eZ e;cbv;refine .of follows 6 ?_;cbv;refine .of S λle B MR mS bf O=>?_;have F:=bf.get T;have v:=ju.sl.mono bf (by simp);cbv;refine .of v (by omega) rfl (by simp) (rd (n:=0) rfl) λq off heq=>?_;cbv;refine .fR heq 0 rfl ?_;cbv;refine .of v (by omega) rfl (by simp) (rd (n:=1) rfl) λq1 aqp alT=>?_;cbv;refine .fR alT 0 rfl ?_;cbv;refine .of v (by omega) rfl (by simp) (rd (n:=2) rfl) λq2 xO alU=>?_;cbv;refine .fR alU 0 rfl ?_;cbv;refine .flat rfl ?_;cbv;refine .flat rfl ?_;cbv;refine .flat rfl ?_;cbv;refine .fresh MR rfl ?_;cbv;refine .of (cs:=[.str a,.str b,.str c]) O MR rfl rfl rfl rfl rfl rfl λh6 Bu bR Z=>?_;have FH:lb≠le:=λe=>by subst e;rw [T] at mS;cases mS
  have VL:=bR.get F (by simpa using FH);have aT:Mod h B []:=(aC.trans bf).mono λl o _ d=>by simp at d
  have fe:=aj aC (by simp) mS;have Y:Mod h h6 []:=aT.fr bR λl d=>by simp at d;subst d;exact .inl fe
  cbv;refine .nil ?_;clear bR bf rd;cbv;refine .of follows 6 ?_;cbv;refine .of Bu rfl ?_;cbv;refine .of Bu rfl ?_;cbv;refine .seq (λqa=>?_) λqa=>?_
  ·skip
   cbv;refine .load Bu rfl ?_;cbv;refine .nil ?_;cbv;refine .of Bu rfl ?_;cbv;refine .seq (λqo=>?_) λqo=>?_
   ·skip
    cbv;refine .of Bu rfl ?_;cbv;refine qv Z (λA _ L3 L4=>?_) λA _ L3 L4=>?_
    all_goals
     have H7:Mod h A []:=(Y.trans L3).mono λl o _ d=>by simp at d
     have P:=L3.get Bu;have w:=L3.get VL
    ·skip
     cbv;refine .load P rfl ?_;cbv;refine .nil ?_;cbv;refine .of (cs:=[.str a,.str b,.str c]) L4 w rfl rfl rfl rfl rfl rfl λh22 awv aww alV=>?_;cbv;refine .nil ?_;cbv;refine .of awv rfl ?_;cbv;exact f a b c _ h22 ba i j (H7.fr aww λl d=>.inl (g l d)) alV
    ·skip
     cbv;refine .load P rfl ?_;cbv;refine .nil ?_;cbv;refine .of (cs:=[.str a,.str b,.str c]) L4 w rfl rfl rfl rfl rfl rfl λh23 awx M8 awy=>?_;cbv;refine .nil ?_;cbv;refine .of awx rfl ?_;cbv;exact f a b c _ h23 ba i j (H7.fr M8 λl d=>.inl (g l d)) awy
   ·cbv;refine .of Bu rfl ?_
    cbv;refine .seq (λqc=>?_) λqc=>?_
    ·skip
     cbv;refine .of Bu rfl ?_;cbv;refine qv Z (λD _ W t=>?_) λD _ W t=>?_
     all_goals
      have N:Mod h D []:=(Y.trans W).mono λl o _ d=>by simp at d
      have K:=W.get Bu;have J:=W.get VL
     ·skip
      cbv;refine .load K rfl ?_;cbv;refine .nil ?_;cbv;refine .of (cs:=[.str a,.str b,.str c]) t J rfl rfl rfl rfl rfl rfl λh26 awz awA awB=>?_;cbv;refine .nil ?_;cbv;refine .of awz rfl ?_;cbv;exact f a b c _ h26 ba i j (N.fr awA λl d=>.inl (g l d)) awB
     ·skip
      cbv;refine .load K rfl ?_;cbv;refine .nil ?_;cbv;refine .of (cs:=[.str a,.str b,.str c]) t J rfl rfl rfl rfl rfl rfl λh27 awC awD awE=>?_;cbv;refine .nil ?_;cbv;refine .of awC rfl ?_;cbv;exact f a b c _ h27 ba i j (N.fr awD λl d=>.inl (g l d)) awE
    ·skip
     cbv;refine .load Bu rfl ?_;cbv;refine .nil ?_;cbv;refine .of (cs:=[.str a,.str b,.str c]) Z VL rfl rfl rfl rfl rfl rfl λh28 awF awG awH=>?_;cbv;refine .nil ?_;cbv;refine .of awF rfl ?_;cbv;exact f a b c _ h28 ba i j (Y.fr awG λl d=>.inl (g l d)) awH
  ·cbv;refine .of Bu rfl ?_
   cbv;refine dW Z (by have:=ba.1;omega) (λh7 AA U E=>?_) λh7 AA U E=>?_
   all_goals
    have cH:Mod h h7 []:=(Y.trans U).mono λl o _ d=>by simp at d
    have Fg:=U.get Bu;have FG:=U.get VL
   ·skip
    cbv;refine .load Fg rfl ?_;cbv;refine .nil ?_;cbv;refine .of Fg rfl ?_;cbv;refine .seq (λqo=>?_) λqo=>?_
    ·skip
     cbv;refine .of Fg rfl ?_;cbv;refine qv E (λy _ m u=>?_) λy _ m u=>?_
     all_goals
      have C:Mod h y []:=(cH.trans m).mono λl o _ d=>by simp at d
      have R:=m.get Fg;have z:=m.get FG
     ·skip
      cbv;refine .load R rfl ?_;cbv;refine .nil ?_;cbv;refine .of (cs:=[.str a,.str b,.str c]) u z rfl rfl rfl rfl rfl rfl λh31 awI awJ awK=>?_;cbv;refine .nil ?_;cbv;refine .of awI rfl ?_;cbv;exact f a b c _ h31 ba i j (C.fr awJ λl d=>.inl (g l d)) awK
     ·skip
      cbv;refine .load R rfl ?_;cbv;refine .nil ?_;cbv;refine .of (cs:=[.str a,.str b,.str c]) u z rfl rfl rfl rfl rfl rfl λh32 awL awM awN=>?_;cbv;refine .nil ?_;cbv;refine .of awL rfl ?_;cbv;exact f a b c _ h32 ba i j (C.fr awM λl d=>.inl (g l d)) awN
    ·cbv;refine .of Fg rfl ?_
     cbv;refine .seq (λqc=>?_) λqc=>?_
     ·skip
      cbv;refine .of Fg rfl ?_;cbv;refine qv E (λI _ k r=>?_) λI _ k r=>?_
      all_goals
       have L:Mod h I []:=(cH.trans k).mono λl o _ d=>by simp at d
       have G:=k.get Fg;have M:=k.get FG
      ·skip
       cbv;refine .load G rfl ?_;cbv;refine .nil ?_;cbv;refine .of (cs:=[.str a,.str b,.str c]) r M rfl rfl rfl rfl rfl rfl λh35 awO V5 awP=>?_;cbv;refine .nil ?_;cbv;refine .of awO rfl ?_;cbv;exact f a b c _ h35 ba i j (L.fr V5 λl d=>.inl (g l d)) awP
      ·skip
       cbv;refine .load G rfl ?_;cbv;refine .nil ?_;cbv;refine .of (cs:=[.str a,.str b,.str c]) r M rfl rfl rfl rfl rfl rfl λh36 awQ P9 awR=>?_;cbv;refine .nil ?_;cbv;refine .of awQ rfl ?_;cbv;exact f a b c _ h36 ba i j (L.fr P9 λl d=>.inl (g l d)) awR
     ·skip
      cbv;refine .load Fg rfl ?_;cbv;refine .nil ?_;cbv;refine .of (cs:=[.str a,.str b,.str c]) E FG rfl rfl rfl rfl rfl rfl λh37 awS awT awU=>?_;cbv;refine .nil ?_;cbv;refine .of awS rfl ?_;cbv;exact f a b c _ h37 ba i j (cH.fr awT λl d=>.inl (g l d)) awU
   ·skip
    cbv;refine .load Fg rfl ?_;cbv;refine .nil ?_;cbv;refine .load Fg rfl ?_;cbv;refine .nil ?_;cbv;refine .of (cs:=[.str a,.str b,.str c]) E FG rfl rfl rfl rfl rfl rfl λh38 awV awW awX=>?_;cbv;refine .nil ?_;cbv;refine .of awV rfl ?_;cbv;exact f a b c _ h38 ba i j (cH.fr awW λl d=>.inl (g l d)) awX
end K
namespace K
open Go Go.Dx Go.RowKit Go.Proofs
set_option maxRecDepth 100000
theorem Ml {h:H}{s:List Nat}(L:Wf h)(he:HE h){Q:V->H->Prop} (d:∀a b P h',bt a->bt b->Mod h h' []->Wf h'->Q (.tuple [.str a,.str b,.bool P]) h'):CW pf G0 mL [.str s] h Q:=by
 refine xj.enter (by kernel_rfl) ?_;cbv;refine .of L λN W w Dm K T=>?_;have on:aG W 9 1 (.slice N 0 2 (.exact 2)) 2 (strs jT):=.exact w rfl;obtain ⟨h3,M,z,R,U⟩:=on.freeze T;have aN:Mod h h3 []:=K.fr R λl c=>by simp [ag] at c;subst c;exact .inl Dm
 cbv;refine CW.less M (Pz (ns:=jT) U (he.mono aN) z (by decide) (by decide) (by decide) (λh4 E k=>?_) λZ vs b h4 y B LY E YC k=>?_)
 all_goals
  have aC:Mod h h4 []:=(aN.trans E).mono λl o _ c=>by simp at c
 ·cbv;exact d [] [] false h4 hZ hZ aC k
 cases b
 ·cbv;exact d [] [] false h4 hZ hZ aC k
 ·obtain ⟨a,b,rfl⟩:∃a b,vs=[a,b]:=by
   match vs,B with
   | [a,b],_=>exact ⟨a,b,rfl⟩
  simp at LY;obtain ⟨ba,I⟩:=LY;have g:∀{n:Nat} {x:List Nat},[a,b][n]? =some x->rowFrom (strs [a,b]) (n*1) 1=some [.str x]:=λe=>eZ e;cbv;refine .of y.sl (by omega) rfl (by simp) (g (n:=0) rfl) λq off heq=>?_;cbv;refine .fR heq 0 rfl ?_;cbv;refine dW k (by have:=ba.1;omega) (λt AA j u=>?_) λt AA j u=>?_
  all_goals
   have F:Mod h t []:=(aC.trans j).mono λl o _ c=>by simp at c
  ·cbv;refine .of (y.sl.mono j (by simp)) (by omega) rfl (by simp) (g (n:=1) rfl) λY S r=>?_
   cbv;refine .fR r 0 rfl ?_;cbv;refine qv u (λi _ m C=>?_) λi J m C=>?_
   all_goals
    have G:Mod h i []:=(F.trans m).mono λl o _ c=>by simp at c
   ·cbv;exact d [] [] false i hZ hZ G C
   ·have f:=(y.sl.mono j (by simp)).mono m (by simp)
    cbv;refine .of follows 6 ?_;cbv;refine .of f (by omega) rfl (by simp) (g (n:=0) rfl) λq2 xO v=>?_;cbv;refine .fR v 0 rfl ?_;cbv;refine .of f (by omega) rfl (by simp) (g (n:=1) rfl) λX FQ p=>?_;cbv;refine .fR p 0 rfl ?_;cbv;exact d a b true i ba I G C
  ·cbv;exact d [] [] false t hZ hZ F u
end K
namespace K
open Go Go.Dx Go.RowKit Go.Proofs
set_option maxRecDepth 100000
variable{m:bH}{h h':H}{k:List Nat}
abbrev EL:=List (List Nat×List Nat)
def dD:EL->List V
 | []=>[]
 | e::r=>.str e.1 :: .str e.2::dD r
theorem jU:∀l,(dD l).length=l.length*2
 | []=>rfl
 | _::r=>by simp [dD,jU r];omega
theorem Mm:∀l,aZ (dD l)=true
 | []=>rfl
 | _::r=>by simp [dD,aZ,cf,Mm r]
theorem Jx:∀{l:EL} {i:Nat} {x:List Nat×List Nat},l[i]? =some x->rowFrom (dD l) (i*2) 2=some [.str x.1,.str x.2]
 | [],i,x,h=>by simp at h
 | y::l,0,x,h=>by simp at h;subst h;rfl
 | y::l,i+1,x,h=>by
   have:=Jx (l:=l) (i:=i) (x:=x) (by simpa using h);rw [show (i+1)*2=i*2+1+1 by omega];exact this
structure rF (h:H)(lm:Lb)(m:bH)(c:Nat):Prop where
 get:h.get lm=some (.map (cd m) c)
 ok:fS m c
 dD:∀e∈m,e.1.length<=1000000/\∃v,e.2.1 = .agg [.str e.1,.str v]
theorem rF.mono {a:Lb}{c:Nat}{F:List Lb}(s:rF h a m c)(d:Mod h h' F)(b:a∉F:=by simp):rF h' a m c:=⟨d.get s.get b,s.ok,s.dD⟩
theorem Mn (m:bH)(k:List Nat)(v:V)(c:Nat):(dt m k v c).length<=m.length+1:=by
 induction m with
 | nil=>simp [dt]
 | cons e r ih=>
   obtain ⟨x,w,b⟩:=e;simp only [dt];split
   ·simp
   ·simp;omega
theorem rF.set {b:Lb}{c:Nat}(s:rF h b m c){a:List Nat}(f:k.length<=1000000)(g:h'.get b=some (.map (cd (dt m k (.agg [.str k,.str a]) c)) (eB m k c))):rF h' b (dt m k (.agg [.str k,.str a]) c) (eB m k c):=
 ⟨g,s.ok.set k _,λe i=>by
  rcases lD i with q | ⟨d,q,_⟩
  ·exact s.dD e q
  ·exact ⟨by rw [d];exact f,a,by rw [d];exact q⟩⟩
theorem rF.del {a:Lb}{c:Nat}(s:rF h a m c)(d:h'.get a=some (.map (cd (gY m k)) c)):rF h' a (gY m k) c:=⟨d,s.ok.del k,λe b=>s.dD e (Ls b)⟩
theorem ajq {i:V}{es:EL}(z:Wf h)(hs:Sl h 2 i es.length (dD es))(b:es.length<=1000000000)(E:∀e∈es,e.1.length<=1000000) {Q:V->H->Prop} (B:∀a m c h',rF h' a m c->m.length<=es.length->h.get a=none->Mod h h' []->Wf h'->Q (.map a) h'):CW pf G0 Ez [i] h Q:=by
 refine Re.enter (by kernel_rfl) ?_;cbv;refine .of z λa R g FC p A=>?_;cbv;refine .of (hs.mono p) λn P O=>?_;cbv;refine .inv [p3,p7,p8,p9] (λs C h'=>∃(x:Int) (m:bH) (c:Nat),C=[.map a,i,.int .i64 n,.int .i64 x]/\0<=x/\x.toNat<=es.length/\s=es.length - x.toNat/\m.length<=x.toNat/\rF h' a m c/\Mod h h' []/\Wf h') [_,_,_,_] rfl _
  ⟨0,[],0,rfl,by omega,by simp,rfl,by simp,⟨g,.nil 0,by simp⟩,p,A⟩ ?_
 rintro s _ J ⟨x,m,c,rfl,L,U,W,Io,S2,d,u⟩;cbv;refine .lt (λT=>?_) λX=>?_
 ·obtain ⟨e,r⟩:∃e,es[x.toNat]? =some e:=⟨_,List.getElem?_eq_getElem (by omega)⟩
  cbv;refine .of (hs.mono d) L rfl (by omega) (Jx r) λq off heq=>?_;cbv;refine .jC heq rfl ?_;cbv;refine .of u λle h3 v f t I=>?_;cbv;refine .of (cs:=[.str e.1,.str e.2]) I v rfl rfl rfl rfl rfl rfl λh4 Ay k K=>?_;have N:=aj d (by simp) f;have w:a≠le:=λe=>by subst e;rw [S2.get] at f;cases f
  have S4:=(S2.mono t).mono k (by simpa using w);have M:Mod h h4 []:=((d.trans t).fr k λl b=>by simp at b;subst b;exact .inl N).mono λl o _ b=>by simp at b
  cbv;refine .of Ay rfl ?_;cbv;refine .of Ay rfl ?_;cbv;refine .of K S4.get λy Ap G D=>?_;have F:Mod h y []:=M.fr G λl b=>by simp at b;subst b;exact .inl FC
  have:=Mn m e.1 (.agg [.str e.1,.str e.2]) c;cbv;refine .add (by omega) (by omega) λj S=>?_;cbv;exact ⟨rfl,es.length - j.toNat,by omega,j,_,_,rfl,by omega,by omega,rfl,by omega,S4.set (E e (List.mem_of_getElem? r)) Ap,F,D⟩
 ·cbv;exact B a m c J S2 (by omega) FC d u
end K
