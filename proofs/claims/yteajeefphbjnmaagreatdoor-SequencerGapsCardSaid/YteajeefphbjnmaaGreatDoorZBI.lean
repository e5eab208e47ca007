/-
  The sequencer's laws. Part ZBI of the proof: What came in, as a heap: every block of the world, read only.
-/
import Derived.Deep.Slices
import Derived.DataElems
import Derived.ChangeArms
import Derived.Test.YteajeefphbjnmaaGreatDoorRows
import Derived.ProofKit
import Derived.Carry
import Derived.LaidMore
import Derived.LaidHandle
import Derived.LaidLaws
import Derived.OpenShut
import Derived.ChangeSame
import Derived.ChangeVars
import Derived.JoinedOf
import Derived.RowKit
import Derived.RowKitTokens
import Derived.Stop.Joined
import Derived.SizedLaws
import Derived.DataReads
import Derived.Lay
import Derived.Lib.LaidU8
import Derived.Handed
import Derived.SevenTiedAt
import Derived.Test.YteajeefphbjnmaaGreatDoorZBH
import Derived.Test.YteajeefphbjnmaaGreatDoorZBF
namespace Go.Dx
open Go Go.RowKit
theorem Xj (ρ:bE):∀xs:List Value,(∀x∈xs,∃v,RV ρ v x)->∃vs,cU ρ vs xs
 | [],_=>⟨[],.nil⟩
 | x::xs,h=>by
   obtain ⟨v,hv⟩:=h x (by simp);obtain ⟨vs,hvs⟩:=Xj ρ xs λy hy=>h y (by simp [hy]);exact ⟨v::vs,.cons hv hvs⟩
theorem YC (ρ:bE):∀x:Value,∃v,RV ρ v x
 | .bool b=>⟨_,.bool b⟩
 | .nilFunc=>⟨_,.nilFunc⟩
 | .agg ⟨xs⟩=>by
   obtain ⟨vs,hvs⟩:=Xj ρ xs λx hx=>YC ρ x;exact ⟨_,.agg hvs⟩
 | .tuple ⟨xs⟩=>by
   obtain ⟨vs,hvs⟩:=Xj ρ xs λx hx=>YC ρ x;exact ⟨_,.tuple hvs⟩
 | .int k n=>⟨.any,.any rfl⟩
 | .float k n=>⟨.any,.any rfl⟩
 | .complex k a b=>⟨.any,.any rfl⟩
 | .string s=>⟨.any,.any rfl⟩
 | .pointer a=>⟨.any,.any rfl⟩
 | .slice a n c=>⟨.any,.any rfl⟩
 | .map r=>⟨.any,.any rfl⟩
 | .chan r=>⟨.any,.any rfl⟩
 | .func f a b=>⟨.any,.any rfl⟩
 | .iface t v=>⟨.any,.any rfl⟩
 | .nilIface=>⟨.any,.any rfl⟩
 termination_by x=>SizeOf.sizeOf x
 decreasing_by
 all_goals
  have:=List.sizeOf_lt_of_mem hx;simp only [Value.agg.sizeOf_spec,Value.tuple.sizeOf_spec,Array.mk.sizeOf_spec];omega
def alS:Value->Option V
 | .int k n=>some (.int k n)
 | .string t=>some (.str (ax t))
 | .slice none 0 c=>some (.nilSlice c)
 | .slice (some _) 0 _=>some .empty
 | .slice (some ⟨b,off,none⟩) n c=>some (.slice (aZ b) off n (.exact c))
 | .iface t (.agg ⟨[.pointer (some ⟨b,off,none⟩)]⟩)=>some (.iface t (.agg [.ptr (aZ b) off]))
 | _=>none
open Classical in
noncomputable def zK (ρ:bE) (x:Value):V:=if h:∃v,alS x=some v/\RV ρ v x then Classical.choose h else Classical.choose (YC ρ x)
theorem xr (ρ:bE)(x:Value):RV ρ (zK ρ x) x:=by
 unfold zK;split
 ·rename_i h;exact (Classical.choose_spec h).2
 ·exact Classical.choose_spec (YC ρ x)
theorem ua {ρ:bE}{x:Value}{v:V}(h1:alS x=some v)(h2:RV ρ v x):zK ρ x=v:=by
 have h:∃v,alS x=some v/\RV ρ v x:=⟨v,h1,h2⟩;unfold zK;rw [dif_pos h];have:=h1.symm.trans (Classical.choose_spec h).1;exact (Option.some.inj this).symm
theorem Rb (ρ:bE)(k:IntKind)(n:Int):zK ρ (.int k n) = .int k n:=ua rfl (.int k n)
theorem YD (ρ:bE)(t:ByteArray):zK ρ (.string t) = .str (ax t):=ua rfl (.str t)
theorem IU (ρ:bE)(c:Nat):zK ρ (.slice none 0 c) = .nilSlice c:=ua rfl (.nilSlice c)
theorem aa3 (ρ:bE)(a:Addr)(c:Nat):zK ρ (.slice (some a) 0 c) = .empty:=ua rfl (.empty a c)
section
variable (w:World) (N:Nat)
def aeT (k:Nat):Nat:=match w.shape? k with | some (_,n)=>n | none=>0
def gI:bE:=λl=>if val l<N/\l=aZ (val l) then some (dZ.mk (val l) 0 (aeT w (val l)) .nilFunc) else none
noncomputable def aa4 (k:Nat):Option Obj:=match w.heap[k]? with
 | some (.cells c t _)=>some (.cells (c.toList.map (zK (gI w N))) t 0 .no)
 | _=>none
def LR (f:Nat->Option Obj):Nat->T Obj
 | 0=>.leaf
 | n+1=>(LR f n).set (aZ n) (f n)
noncomputable def kg:H:={t:=LR (aa4 w N) N,next:=aZ N}
end
section
variable {w:World} {N:Nat}
theorem Rc {k:Nat}(hk:k<N):gI w N (aZ k)=some (dZ.mk k 0 (aeT w k) .nilFunc):=by
 unfold gI;rw [eS,if_pos ⟨hk,rfl⟩]
theorem yW {l:Lb}{b:dZ}(h:gI w N l=some b):val l<N/\l=aZ (val l)/\b=dZ.mk (val l) 0 (aeT w (val l)) .nilFunc:=by
 unfold gI at h;split at h
 ·rename_i c;cases h;exact ⟨c.1,c.2,rfl⟩
 ·cases h
theorem OV {f:Nat->Option Obj} {k:Nat}:∀{n:Nat},k<n->(LR f n).get (aZ k)=f k
 | 0,h=>by omega
 | n+1,h=>by
   simp only [LR]
   by_cases e:k=n
   ·subst e;rw [T.bg]
   ·rw [T.br _ _ _ _ (λe2=>e (Yv e2).symm)]
    exact OV (by omega)
theorem zH {f:Nat->Option Obj} {l:Lb} {o:Obj}:∀{n:Nat},(LR f n).get l=some o->∃k,k<n/\l=aZ k/\f k=some o
 | 0,h=>by simp [LR,T.kz] at h
 | n+1,h=>by
   simp only [LR] at h
   by_cases e:aZ n=l
   ·rw [e,T.bg] at h
    exact ⟨n,by omega,e.symm,h⟩
   ·rw [T.br _ _ _ _ e] at h
    obtain ⟨k,a,b,c⟩:=zH h;exact ⟨k,by omega,b,c⟩
theorem OW {k:Nat}(hk:k<N):(kg w N).get (aZ k)=aa4 w N k:=OV hk
theorem Dh:Wf (kg w N):=λl hl=>by
 obtain ⟨o,ho⟩:=Option.isSome_iff_exists.1 hl;obtain ⟨k,a,b,_⟩:=zH ho;show val l<val (aZ N)
 rw [b,eS,eS];exact a
theorem LU {k:Nat}{c:Array Value}{t:TypeId}{fr:Nat×Nat}(h:w.heap[k]? =some (.cells c t fr)):aa4 w N k=some (.cells (c.toList.map (zK (gI w N))) t 0 .no):=by
 unfold aa4;rw [h]
theorem Us {k:Nat}{o:Obj}(h:aa4 w N k=some o):∃c t fr,w.heap[k]? =some (.cells c t fr)/\o = .cells (c.toList.map (zK (gI w N))) t 0 .no:=by
 unfold aa4 at h;split at h
 ·rename_i c t fr e;cases h;exact ⟨c,t,fr,e,rfl⟩
 ·cases h
theorem aa5 (_hN:w.heap.size<=N):aA w.heap.size w (gI w N) (kg w N) w:=by
 refine ⟨λl b o hl hg=>?_,λl b hl=>?_,λl b hl=>?_,λl m b c hl hm il im e=>?_,λl b o hl hg hw=>?_,Nat.le_refl _,Below.refl _ _⟩
 ·obtain ⟨k,a1,rfl,a3⟩:=zH hg
  obtain ⟨_,_,rfl⟩:=yW hl;obtain ⟨c,t,fr,hc,rfl⟩:=Us a3;rw [eS];have R8:w.shape? k=some (t,c.size):=by unfold World.shape?;rw [hc]
  have aqt:aeT w k=c.size:=by unfold aeT;rw [R8]
  refine ⟨by rw [aqt];exact R8,by rw [aqt];simp,λi v hv=>?_,(λh=>by cases h),(λh=>by cases h)⟩;rw [List.getElem?_map] at hv;cases hx:c.toList[i]? with
  | none=>rw [hx] at hv;cases hv
  | some x=>
    rw [hx] at hv;cases hv;refine ⟨x,?_,xr _ x⟩;unfold cZ World.cell?;simp only [hc,Nat.zero_add];simpa using hx
 ·show val l<val (aZ N)
  rw [eS];exact (yW hl).1
 ·obtain ⟨_,_,rfl⟩:=yW hl
  exact ⟨rfl,.nil rfl⟩
 ·obtain ⟨_,a,rfl⟩:=yW hl
  obtain ⟨_,b',rfl⟩:=yW hm;have e:val l=val m:=e;rw [a,b',e]
 ·obtain ⟨k,_,rfl,a3⟩:=zH hg
  obtain ⟨c,t,fr,_,rfl⟩:=Us a3;cases hw
theorem aa6 {G:Nat}(hG:∀g,g<G->aZ g=pathOf g) (hN:G<=N):gv (gI w N) G:=λg hg=>⟨_,by rw [<-hG g hg];exact Rc (by omega)⟩
theorem Ut:∀(n:Nat) (vs:List V),n<=vs.length->∃r,takeN n vs=some r
 | 0,vs,_=>⟨[],by simp [takeN]⟩
 | n+1,[],h=>by simp at h
 | n+1,v::vs,h=>by
   obtain ⟨r,hr⟩:=Ut n vs (by simpa using h);exact ⟨v::r,by simp [takeN,hr,ob]⟩
theorem Xk {vs cs:List V}{off n:Nat}(hl:cs.length=n)(hn:n=0\/off+n<=vs.length)(h:∀j,j<n->vs[off+j]? =cs[j]?):rowFrom vs off n=some cs:=by
 obtain ⟨r,hr⟩:=Ut n (bB off vs) (by rw [ga];omega);have B8:rowFrom vs off n=some r:=hr;obtain ⟨h1,_,h3⟩:=rG B8;rw [B8]
 congr 1
 apply List.ext_getElem?;intro j
 by_cases hj:j<n
 ·rw [h3 j hj,h j hj]
 ·rw [List.getElem?_eq_none (by omega),List.getElem?_eq_none (by omega)]
theorem slI {a:Addr}{n c size:Nat}{xs:List Value}(h0:0<size)(hN:w.heap.size<=N)(hlen:xs.length=n*size)(hx:∀k,k<n*size->w.cell? (a.add k)=xs[k]?):
  Sl (kg w N) size (zK (gI w N) (.slice (some a) n c)) n (xs.map (zK (gI w N)))/\∀q,q∈af (zK (gI w N) (.slice (some a) n c))->(kg w N).get q≠none:=by
 cases n with
 | zero=>
   have:xs=[]:=by cases xs with | nil=>rfl | cons x r=>simp at hlen
   subst this;rw [aa3];exact ⟨.empty,λq hq=>by simp [af] at hq⟩
 | succ n=>
   have Pw:0<(n+1)*size:=Nat.mul_pos (by omega) h0;obtain ⟨ab,ao,asp⟩:=a;have hsp:asp=none:=by
    have e:=hx 0 Pw;rw [List.getElem?_eq_getElem (by omega)] at e;cases asp with
    | none=>rfl
    | some sp=>
      exfalso;unfold World.cell? at e;split at e
      ·split at e
       ·cases e
       ·rename_i hs
        exact hs (by simp [Addr.add])
      ·cases e
   subst hsp;have dC:∀k,k<(n+1)*size->∃c t fr x,w.heap[ab]? =some (.cells c t fr)/\c[ao+k]? =some x/\xs[k]? =some x:=λk hk=>by
    have e:=hx k hk;rw [List.getElem?_eq_getElem (by omega),c8] at e;unfold World.cell? at e;dsimp only at e;split at e
    ·rename_i c t fr hc
     split at e
     ·cases e
     ·exact ⟨c,t,fr,_,hc,e,by rw [List.getElem?_eq_getElem (by omega)]⟩
    ·cases e
   obtain ⟨row,t,fr,x0,hc,_,_⟩:=dC 0 Pw;have bA:ab<N:=Nat.lt_of_lt_of_le (mS hc) hN;have hv:zK (gI w N) (.slice (some ⟨ab,ao,none⟩) (n+1) c) = .slice (aZ ab) ao (n+1) (.exact c):=by
    refine ua rfl ?_;have:=RV.slice (ρ:=gI w N) ao (n+1) c (Rc (w:=w) bA);rw [Nat.zero_add] at this;exact this
   rw [hv];have hg:(kg w N).get (aZ ab)=some (.cells (row.toList.map (zK (gI w N))) t 0 .no):=by rw [OW bA];exact LU hc
   refine ⟨.row hg (Xk (by rw [List.length_map];exact hlen) (.inr ?_) λj hj=>?_),λq hq=>?_⟩
   ·obtain ⟨ai3,t',fr',x,Hb,h1,_⟩:=dC ((n+1)*size - 1) (by omega)
    rw [hc] at Hb;cases Hb;have:=(Array.getElem?_eq_some_iff.1 h1).1;simp;omega
   ·obtain ⟨ai3,t',fr',x,Hb,h1,h2⟩:=dC j hj
    rw [hc] at Hb;cases Hb;rw [List.getElem?_map,List.getElem?_map,h2];have:row.toList[ao+j]? =some x:=by simpa using h1
    rw [this]
   ·simp only [af,List.mem_singleton] at hq
    rw [hq,hg];simp
end
end Go.Dx
namespace K
open Go Go.Dx Go.RowKit Go.Proofs
set_option maxRecDepth 100000
section
variable {H:Type} {enc:TypeId×Value->H} {W:World} {spare:Nat->Bool} {held:Bool} {N:Nat}
theorem alT:Tryz.prog.cellsOf 3=1:=by kernel_rfl
theorem alU:Tryz.prog.cellsOf 9=1:=by kernel_rfl
theorem ahe:Tryz.prog.cellsOf 31=1:=by kernel_rfl
theorem ahf:Tryz.prog.cellsOf 41=1:=by kernel_rfl
theorem YE:Tryz.prog.cellsOf 35=4:=by kernel_rfl
theorem YF:Tryz.prog.cellsOf 37=6:=by kernel_rfl
theorem YG:Tryz.prog.cellsOf 40=7:=by kernel_rfl
theorem YH:Tryz.prog.cellsOf 43=10:=by kernel_rfl
theorem wf_i64 {n:Int}(h:(Lit.int .i64 n).wf=true):i64 n:=by
 simp only [Lit.wf,Bool.and_eq_true,decide_eq_true_eq] at h;have e1:IntKind.i64.min = -9223372036854775808:=by decide
 have e2:IntKind.i64.max=9223372036854775807:=by decide
 rw [e1,e2] at h;exact h
theorem fld {t c off k:Nat}{cs vs:List Value}{xs:List (DataW H×List MemPlace)}{i:Nat}(hf:DataW.trod enc Tryz.prog W 0 spare held k t ((cs.drop off).take (Tryz.prog.cellsOf t))=xs[i]?)(hc:Tryz.prog.cellsOf t=c)(hi:i<xs.length)(hv:(cs.drop off).take c=vs):∃y,DataW.trod enc Tryz.prog W 0 spare held k t vs=some y:=by
 rw [hc,hv,List.getElem?_eq_getElem hi] at hf;exact ⟨_,hf⟩
theorem Re {k off i:Nat}{cs:List Value}{v:Value}{xs:List (DataW H×List MemPlace)}(hf:DataW.trod enc Tryz.prog W 0 spare held k 3 ((cs.drop off).take (Tryz.prog.cellsOf 3))=xs[i]?)(hi:i<xs.length)(hv:(cs.drop off).take 1=[v]):∃n,v = .int .i64 n/\i64 n:=by
 obtain ⟨y,hy⟩:=fld hf alT hi hv;obtain ⟨n,e,_,h⟩:=DataW.trod_int Tryz.underlying3 hy;cases e;exact ⟨n,rfl,wf_i64 h⟩
theorem aeU {k off i:Nat}{cs:List Value}{v:Value}{xs:List (DataW H×List MemPlace)}(hf:DataW.trod enc Tryz.prog W 0 spare held k 9 ((cs.drop off).take (Tryz.prog.cellsOf 9))=xs[i]?)(hi:i<xs.length)(hv:(cs.drop off).take 1=[v]):∃s,v = .string s/\s.size<=maxLen:=by
 obtain ⟨y,hy⟩:=fld hf alU hi hv;obtain ⟨s,e,_,h⟩:=DataW.trod_string Tryz.underlying9 hy;cases e;exact ⟨s,rfl,h⟩
theorem alV {k:Nat}{cs:List Value}{x:DataW H×List MemPlace}(h:DataW.trod enc Tryz.prog W 0 spare held k 35 cs=some x):∃n s1 s2 s3,cs=[.int .i64 n,.string s1,.string s2,.string s3]/\i64 n/\s1.size<=maxLen/\s2.size<=maxLen/\s3.size<=maxLen:=by
 obtain ⟨xs,k',_,_,hl,hx,hf⟩:=DataW.trod_struct Tryz.underlying35 h;rw [YE] at hl;obtain ⟨a,b,c,d,rfl⟩:∃a b c d,cs=[a,b,c,d]:=by
  match cs,hl with
  | [a,b,c,d],_=>exact ⟨a,b,c,d,rfl⟩
 have hx:xs.length=4:=hx;obtain ⟨n,rfl,h0⟩:=Re (hf 0 _ rfl) (by omega) rfl;obtain ⟨s1,rfl,h1⟩:=aeU (hf 1 _ rfl) (by omega) rfl;obtain ⟨s2,rfl,h2⟩:=aeU (hf 2 _ rfl) (by omega) rfl;obtain ⟨s3,rfl,h3⟩:=aeU (hf 3 _ rfl) (by omega) rfl;exact ⟨n,s1,s2,s3,rfl,h0,h1,h2,h3⟩
theorem sV {s:ByteArray}(h:s.size<=maxLen):(ax s).length<=9223372036854775807:=by
 have:(ax s).length=s.size:=by
  unfold ax;rw [List.length_map];exact Array.length_toList
 have hm:maxLen=9223372036854775807:=rfl;omega
def alW (ρ:bE)(cs:List Value)(d:jB):Prop:=cs.map (zK ρ)=cW [d]/\L9 d/\d.text.length<=9223372036854775807
theorem alX {ρ:bE}{k:Nat}{cs:List Value}{x:DataW H×List MemPlace}(h:DataW.trod enc Tryz.prog W 0 spare held k 37 cs=some x):∃d,alW ρ cs d:=by
 obtain ⟨xs,k',_,_,hl,hx,hf⟩:=DataW.trod_struct Tryz.underlying37 h;rw [YF] at hl;obtain ⟨a,b,c,d,e,f,rfl⟩:∃a b c d e f,cs=[a,b,c,d,e,f]:=by
  match cs,hl with
  | [a,b,c,d,e,f],_=>exact ⟨a,b,c,d,e,f,rfl⟩
 have hx:xs.length=3:=hx;obtain ⟨s0,rfl,h0⟩:=aeU (hf 0 _ rfl) (by omega) rfl;obtain ⟨n,rfl,h1⟩:=Re (hf 1 _ rfl) (by omega) rfl;obtain ⟨y,hy⟩:=fld (hf 2 _ rfl) YE (by omega) (vs:=[c,d,e,f]) rfl;obtain ⟨n2,s1,s2,s3,e',h2,h3,h4,h5⟩:=alV hy;cases e';refine ⟨⟨ax s0,n,n2,ax s1,ax s2,ax s3⟩,?_,⟨sV h0,sV h3,sV h4,h1⟩,sV h5⟩;simp only [List.map_cons,List.map_nil,Rb,YD,cW]
inductive HN {δ:Type}(R:List Value->δ->Prop):List Value->List δ->Prop
 | nil:HN R [] []
 | snoc {xs cs:List Value} {ds:List δ} {d:δ} (h:HN R xs ds) (r:R cs d):HN R (xs++cs) (ds++[d])
theorem Xl {δ:Type}{size:Nat}{cell:Nat->Option Value} {R:List Value->δ->Prop}:∀n,(∀i,i<n->∃cs d,cs.length=size/\(∀j,j<size->cell (i*size+j)=cs[j]?)/\R cs d)->∃xs ds,xs.length=n*size/\ds.length=n/\(∀k,k<n*size->cell k=xs[k]?)/\HN R xs ds
 | 0,_=>⟨[],[],by simp,rfl,λk hk=>by simp at hk,.nil⟩
 | n+1,h=>by
   obtain ⟨xs,ds,a,b,c,r⟩:=Xl n λi hi=>h i (by omega);obtain ⟨cs,d,e1,e2,e3⟩:=h n (by omega);refine ⟨xs++cs,ds++[d],by rw [List.length_append,a,e1,Nat.add_mul];omega,by simp [b],λk hk=>?_,.snoc r e3⟩;rw [Nat.add_mul] at hk
   by_cases bA:k<n*size
   ·rw [List.getElem?_append_left (by omega)];exact c k bA
   ·rw [List.getElem?_append_right (by omega),a]
    have:=e2 (k - n*size) (by omega);rw [show n*size+(k - n*size)=k by omega] at this;exact this
theorem HN.lgd {ρ:bE}{xs:List Value}{l:List jB}(h:HN (alW ρ) xs l):xs.map (zK ρ)=cW l/\∀x∈l,L9 x/\x.text.length<=9223372036854775807:=by
 induction h with
 | nil=>exact ⟨rfl,by simp⟩
 | snoc h r ih=>
   refine ⟨by rw [List.map_append,ih.1,r.1,rB],λx hx=>?_⟩;rcases List.mem_append.1 hx with hx | hx
   ·exact ih.2 x hx
   ·simp at hx;subst hx;exact r.2
theorem alY {k:Nat}{v:Value}{x:DataW H×List MemPlace}(hN:W.heap.size<=N)(h:DataW.trod enc Tryz.prog W 0 spare held k 31 [v]=some x):∃l,C9 (kg W N) (zK (gI W N) v) l/\∀q,q∈af (zK (gI W N) v)->(kg W N).get q≠none:=by
 rcases Go.Deep.open_slice Tryz.underlying31 h with ⟨e,_⟩ | ⟨a,n,c,m,nn,D,Pl,e,_,hle,wm,hm,_,dw⟩
 ·cases e
  refine ⟨[],⟨?_,by simp,by simp⟩,?_⟩
  ·rw [IU];exact .nil 0
  ·rw [IU];simp [af]
 ·cases e
  have si:n<=m:=by rw [hm];split<;>omega
  rw [YF] at dw;obtain ⟨xs,l,h1,h2,h3,h4⟩:=Xl (size:=6) (cell:=λk=>W.cell? (a.add k)) (R:=alW (gI W N)) n λi hi=>by
   obtain ⟨cs,e1,e2⟩:=dw i (by omega);obtain ⟨_,e3,e4⟩:=World.cells?_some e1;obtain ⟨d,hd⟩:=alX (ρ:=gI W N) e2;exact ⟨cs,d,e3,λj hj=>by
    have:=e4 j hj
    rwa [Addr.add_add] at this,hd⟩
  obtain ⟨g1,g2⟩:=slI (w:=W) (N:=N) (c:=c) (by omega) hN h1 h3;obtain ⟨r1,r2⟩:=h4.lgd;rw [r1] at g1;have Mw:maxLen=9223372036854775807:=rfl;exact ⟨l,⟨by rw [h2];exact g1,by omega,r2⟩,g2⟩
theorem alZ {k:Nat}{v:Value}{x:DataW H×List MemPlace}(h:DataW.trod enc Tryz.prog W 0 spare held k 41 [v]=some x):∃a n c,v = .slice a n c:=by
 rcases Go.Deep.open_slice Tryz.underlying41 h with ⟨e,_⟩ | ⟨a,n,c,m,nn,D,Pl,e,_⟩
 ·cases e;exact ⟨_,_,_,rfl⟩
 ·cases e;exact ⟨_,_,_,rfl⟩
theorem LV {ρ:bE}{a:Option Addr}{n c:Nat}:bU (zK ρ (.slice a n c))=true:=by
 have h:=xr ρ (.slice a n c);generalize zK ρ (.slice a n c)=v at h;generalize hx:Value.slice a n c=x at h;cases h<;>first | rfl | cases hx
structure amM (h:Dx.H)(ρ:bE)(cs:List Value)(x:Mi):Prop where
 cells:cs.map (zK ρ)=[.int .i64 x.kind,.str x.client,.int .i64 x.from_,.int .i64 x.cookie,.int .i64 x.last,.int .i64 x.top,x.lv]
 Rj:C9 h x.lv x.list
 cookie:i64 x.cookie
 client:x.client.length<=9223372036854775807
 live:∀q,q∈af x.lv->h.get q≠none
 ints:i64 x.kind/\i64 x.from_/\i64 x.last/\i64 x.top
theorem UU {k:Nat}{cs:List Value}{x:DataW H×List MemPlace}(hN:W.heap.size<=N)(h:DataW.trod enc Tryz.prog W 0 spare held k 40 cs=some x)(op Il:Int)(kv:V):∃d,amM (kg W N) (gI W N) cs d/\d.op=op/\d.Il=Il/\d.kv=kv:=by
 obtain ⟨xs,k',_,_,hl,hx,hf⟩:=DataW.trod_struct Tryz.underlying40 h;rw [YG] at hl;obtain ⟨a,b,c,d,e,f,g,rfl⟩:∃a b c d e f g,cs=[a,b,c,d,e,f,g]:=by
  match cs,hl with
  | [a,b,c,d,e,f,g],_=>exact ⟨a,b,c,d,e,f,g,rfl⟩
 have hx:xs.length=7:=hx;obtain ⟨n0,rfl,h0⟩:=Re (hf 0 _ rfl) (by omega) rfl;obtain ⟨s,rfl,h1⟩:=aeU (hf 1 _ rfl) (by omega) rfl;obtain ⟨n2,rfl,h2⟩:=Re (hf 2 _ rfl) (by omega) rfl;obtain ⟨n3,rfl,h3⟩:=Re (hf 3 _ rfl) (by omega) rfl;obtain ⟨n4,rfl,h4⟩:=Re (hf 4 _ rfl) (by omega) rfl;obtain ⟨n5,rfl,h5⟩:=Re (hf 5 _ rfl) (by omega) rfl;obtain ⟨y,hy⟩:=fld (hf 6 _ rfl) ahe (by omega) (vs:=[g]) rfl;obtain ⟨l,jc,hlv⟩:=alY hN hy;refine ⟨⟨op,n0,ax s,n2,n3,n4,n5,zK (gI W N) g,l,kv,Il⟩,⟨?_,jc,h3,sV h1,hlv,h0,h2,h4,h5⟩,rfl,rfl,rfl⟩;simp only [List.map_cons,List.map_nil,Rb,YD]
def DoR (h:Dx.H)(ρ:bE)(cs:List Value)(d:Mi):Prop:=cs.map (zK ρ)=Rx [d]/\aaL h d/\∀q,q∈af d.lv->h.get q≠none
theorem al0 {k:Nat}{cs:List Value}{x:DataW H×List MemPlace}(hN:W.heap.size<=N)(h:DataW.trod enc Tryz.prog W 0 spare held k 43 cs=some x):∃d,DoR (kg W N) (gI W N) cs d:=by
 obtain ⟨xs,k',_,_,hl,hx,hf⟩:=DataW.trod_struct Tryz.underlying43 h;rw [YH] at hl;obtain ⟨a,m0,m1,m2,m3,m4,m5,m6,b,c,rfl⟩:∃a m0 m1 m2 m3 m4 m5 m6 b c,cs=[a,m0,m1,m2,m3,m4,m5,m6,b,c]:=by
  match cs,hl with
  | [a,m0,m1,m2,m3,m4,m5,m6,b,c],_=>exact ⟨a,m0,m1,m2,m3,m4,m5,m6,b,c,rfl⟩
 have hx:xs.length=4:=hx;obtain ⟨n0,rfl,h0⟩:=Re (hf 0 _ rfl) (by omega) rfl;obtain ⟨y,hy⟩:=fld (hf 1 _ rfl) YG (by omega) (vs:=[m0,m1,m2,m3,m4,m5,m6]) rfl;obtain ⟨y2,Rq⟩:=fld (hf 2 _ rfl) ahf (by omega) (vs:=[b]) rfl;obtain ⟨n3,rfl,h3⟩:=Re (hf 3 _ rfl) (by omega) rfl;obtain ⟨b1,b2,b3,rfl⟩:=alZ Rq;obtain ⟨d,hd,e1,e2,e3⟩:=UU hN hy n0 n3 (zK (gI W N) (.slice b1 b2 b3));refine ⟨d,?_,⟨hd.Rj,by rw [e3];exact LV,hd.cookie,hd.client⟩,hd.live⟩;have:=hd.cells;simp only [List.map_cons,List.map_nil,List.cons.injEq,and_true] at this;obtain ⟨q0,q1,q2,q3,q4,q5,q6⟩:=this;simp only [List.map_cons,List.map_nil,Rb,Rx,q0,q1,q2,q3,q4,q5,q6,e1,e2,e3]
theorem LY:∀(a b:List Mi),Rx (a++b)=Rx a++Rx b
 | [],b=>rfl
 | x::r,b=>by simp only [List.cons_append,Rx,LY r b]
theorem HN.dos {h:Dx.H}{ρ:bE}{xs:List Value}{l:List Mi}(g:HN (DoR h ρ) xs l):xs.map (zK ρ)=Rx l/\(∀x∈l,aaL h x)/\∀x∈l,∀q,q∈af x.lv->h.get q≠none:=by
 induction g with
 | nil=>exact ⟨rfl,by simp,by simp⟩
 | snoc g r ih=>
   refine ⟨by rw [List.map_append,ih.1,r.1,LY],λx hx=>?_,λx hx=>?_⟩
   ·rcases List.mem_append.1 hx with hx | hx
    ·exact ih.2.1 x hx
    ·simp at hx;subst hx;exact r.2.1
   ·rcases List.mem_append.1 hx with hx | hx
    ·exact ih.2.2 x hx
    ·simp at hx;subst hx;exact r.2.2
theorem O9 {k:Nat}{v:Value}{x:DataW H×List MemPlace}(hN:W.heap.size<=N)(h:DataW.trod enc Tryz.prog W 0 spare held k 22 [v]=some x):∃l,rz (kg W N) (zK (gI W N) v) l/\(∀q,q∈af (zK (gI W N) v)->(kg W N).get q≠none)/\∀x∈l,∀q,q∈af x.lv->(kg W N).get q≠none:=by
 rcases Go.Deep.open_slice Tryz.underlying22 h with ⟨e,_⟩ | ⟨a,n,c,m,nn,D,Pl,e,_,hle,wm,hm,_,dw⟩
 ·cases e
  refine ⟨[],⟨?_,by simp,by simp⟩,?_,by simp⟩
  ·rw [IU];exact .nil 0
  ·rw [IU];simp [af]
 ·cases e
  have si:n<=m:=by rw [hm];split<;>omega
  rw [YH] at dw;obtain ⟨xs,l,h1,h2,h3,h4⟩:=Xl (size:=10) (cell:=λk=>W.cell? (a.add k)) (R:=DoR (kg W N) (gI W N)) n λi hi=>by
   obtain ⟨cs,e1,e2⟩:=dw i (by omega);obtain ⟨_,e3,e4⟩:=World.cells?_some e1;obtain ⟨d,hd⟩:=al0 (N:=N) hN e2;exact ⟨cs,d,e3,λj hj=>by
    have:=e4 j hj
    rwa [Addr.add_add] at this,hd⟩
  obtain ⟨g1,g2⟩:=slI (w:=W) (N:=N) (c:=c) (by omega) hN h1 h3;obtain ⟨r1,r2,r3⟩:=h4.dos;rw [r1] at g1;have Mw:maxLen=9223372036854775807:=rfl;exact ⟨l,⟨by rw [h2];exact g1,by omega,r2⟩,g2,r3⟩
end
end K
namespace Go.Proofs.YteajeefphbjnmaaGreatDoor
open Go.ChangeShapes Go.WideShapes Go.ChangeAt Go.RowKit
theorem LZ {P:Program}{w0:World}{laid:List (String×DataW Unit)}(args:Array Value)
  (hf:w0.layFits P laid []=true) (hi:w0.layIfaces P laid (w0.layVars P laid)=true):
  laidMet P laid ((w0.layVars P laid).forCall (λ_ _=>0) ⟨#[],args,[]⟩).memory:=by
 have e1:(laid.filter λx=>(laid.map (·.1)).contains x.1)=laid:=List.filter_eq_self.2 λx hx=>List.contains_iff_mem.2 (List.mem_map.2 ⟨x,hx,rfl⟩);have e2:(laid.filter λx=>!(laid.map (·.1)).contains x.1)=[]:=List.filter_eq_nil_iff.2 λx hx=>by rw [List.contains_iff_mem.2 (List.mem_map.2 ⟨x,hx,rfl⟩)];simp
 have h:laidMet P laid (w0.layVars P laid):=laidMet_layVars (w0:=w0) (laid.map (·.1)) [] (by rw [e1]) (by rw [e1];exact hf) (by rw [e1];exact hi) (by rw [e2];exact LaidIn.none);exact h.of_heap (by simp [World.memory,World.forCall,Input.heap])
noncomputable def Rf (os:Os):World:=
 let w:=World.holding Tryz.prog os ⟨#[],#[],[]⟩
 {w with heap:=w.heap.modify 0 λ
   | .cells _ t frozen=>.cells #[.iface 324 (.agg #[.pointer (some ⟨7,112,none⟩)])] t frozen
   | o=>o}
def listed:List (String×DataW Unit):=Rows.sequencerOnceRow.laid.filter λx=>x.2.handleName?.isNone
noncomputable def start (os:Os):World:=(Rf os).layVars Tryz.prog listed
theorem Xm (os:Os):(Rf os).layFits Tryz.prog listed []=true:=by kernel_rfl
end Go.Proofs.YteajeefphbjnmaaGreatDoor
namespace Go.Proofs.YteajeefphbjnmaaGreatDoor
open Go.ChangeShapes Go.WideShapes Go.ChangeAt Go.RowKit
theorem Rg (os:Os):(Rf os).layIfaces Tryz.prog listed ((Rf os).layVars Tryz.prog listed)=true:=by kernel_rfl
theorem Rh (os:Os)(args:Array Value):((Rows.sequencerOnceRow.laid.filter λx=>x.2.handleName?.isSome&&x.2.funcsIn?.isNone).all (handleAtB Tryz.prog ((start os).forCall (λ_ _=>0) ⟨#[],args,[]⟩).memory))=true:=by kernel_rfl
theorem Dj (os:Os)(args:Array Value):laidMetH Tryz.prog Rows.sequencerOnceRow.laid ((start os).forCall (λ_ _=>0) ⟨#[],args,[]⟩).memory:=
 laidMetH_of_parts3 (fuel:=8) (LZ args (Xm os) (Rg os)) (Rh os args) (by kernel_rfl)
end Go.Proofs.YteajeefphbjnmaaGreatDoor
namespace Go.Proofs.YteajeefphbjnmaaGreatDoor
open Go.ChangeShapes Go.WideShapes Go.ChangeAt Go.RowKit
theorem own:ownKnob Tryz.prog.godebug=none:=by kernel_rfl
theorem laidOut:laidOutB Tryz.prog=true:=by kernel_rfl
theorem et:Tryz.prog.globalNamed "errors.errorType" =some 0:=by kernel_rfl
theorem axe:Tryz.prog.globalNamed "internal/strconv.uint64pow10" =some 1:=by kernel_rfl
theorem rt:(Tryz.prog.cutTypes.find? (·.1 == "internal/reflectlite.rtype")).map (·.2)=some 324:=by kernel_rfl
theorem al1:((List.range 446).filter λt=>Tryz.prog.rowNamed t [101,114,114,111,114])=[112]:=by kernel_rfl
theorem aqu:Tryz.prog.types.size=446:=by kernel_rfl
theorem L0 {W:World}(h:laidMetH Tryz.prog Rows.sequencerOnceRow.laid W):W.cell? ⟨0,0,none⟩=some (.iface 324 (.agg #[.pointer (some ⟨7,112,none⟩)])):=by
 have h':laidMet Tryz.prog (Rows.sequencerOnceRow.laid.filter λx=>x.2.handleName?.isNone) W/\handlesMet Tryz.prog [("errors.errorType",Rows.laid_errors_errorType)] W:=h;obtain ⟨name,u,ty,e1,e2,e3,e4,e5⟩:=h'.2 _ (List.mem_singleton.2 rfl);have en:name=[101,114,114,111,114]:=(Option.some.inj e1).symm;subst en;obtain rfl:=Option.some.inj (rt.symm.trans e2);have hm:ty∈(List.range 446).filter λt=>Tryz.prog.rowNamed t [101,114,114,111,114]:=List.mem_filter.2 ⟨List.mem_range.2 (by rw [<-aqu];exact e3),e4⟩;rw [al1] at hm;obtain rfl:=List.mem_singleton.1 hm;have hh:typeHandle Tryz.prog 112 = .pointer (some ⟨7,112,none⟩):=by kernel_rfl
 rw [hh] at e5;simpa using World.var?_cell et e5 0
theorem ahg:("internal/strconv.uint64pow10",(Lib.tabData .u64 Lib.pow10Tab:DataW Unit))∈Rows.sequencerOnceRow.laid.filter λx=>x.2.handleName?.isNone:=
 List.mem_of_getElem? (i:=2) (show (Rows.sequencerOnceRow.laid.filter λx=>x.2.handleName?.isNone)[2]? =some ("internal/strconv.uint64pow10",Lib.tabData .u64 Lib.pow10Tab) by kernel_rfl)
theorem Uu {W:World}(h:laidMetH Tryz.prog Rows.sequencerOnceRow.laid W):Lib.TabIs Tryz.prog W "internal/strconv.uint64pow10" .u64 Lib.pow10Tab:=by
 have h':laidMet Tryz.prog (Rows.sequencerOnceRow.laid.filter λx=>x.2.handleName?.isNone) W/\handlesMet Tryz.prog [("errors.errorType",Rows.laid_errors_errorType)] W:=h;obtain ⟨g,t,cs,fuel,p,hg,hty,axf,hd⟩:=Lib.laidMet.reads h'.1 ahg;obtain rfl:=Option.some.inj (axe.symm.trans hg);obtain rfl:=Option.some.inj ((show (Tryz.prog.globals[1]?).map (·.type)=some 355 by kernel_rfl).symm.trans hty);have:=Lib.cells_of_tab Tryz.underlying355 Tryz.underlying211 (by kernel_rfl) (by kernel_rfl) hd;unfold Lib.TabIs;rw [axf,<-this]
theorem one_cell {P:Program}{w:World}{base:Nat}{t e:TypeId}{v:Value}(ht:P.underlying t=some (.slice e))(h:Value.okWide P w .any base t v):v.cells.toList=[v]:=by
 unfold Value.okWide at h;rw [ht] at h;have h:Cell.okWide P w .any base t v:=h;unfold Cell.okWide Cell.ok at h;rw [ht] at h;cases v<;>first | rfl | simp at h
def top (W:World):Nat:=max W.heap.size 8
theorem Br (W:World):W.heap.size<=top W:=Nat.le_max_left _ _
theorem Xv {W:World}(hs:W.ShapedOpen Tryz.prog)(hl:laidMetH Tryz.prog Rows.sequencerOnceRow.laid W):K.HE (Dx.kg W (top W)):=by
 have hh:=L0 hl;have row:∃cs t fr,W.heap[0]? =some (.cells cs t fr)/\cs.size=1:=by
  have ht:(((begin Tryz.prog (λ_ _=>0) default).world.heap[0]?).bind Obj.row?).map (λx=>x.1.size)=some 1:=by kernel_rfl
  obtain ⟨⟨zero,t'⟩,hz,e⟩:=Option.map_eq_some_iff.1 ht;obtain ⟨cs,h1,h3,_⟩:=hs.1 0 zero t' (of_decide_eq_true (by kernel_rfl)) hz;exact ⟨cs,_,_,h1,by rw [h3];exact e⟩
 obtain ⟨cs,t,fr,h1,h2⟩:=row;have dw:cs = #[.iface 324 (.agg #[.pointer (some ⟨7,112,none⟩)])]:=by
  unfold World.cell? at hh;rw [h1] at hh;simp only [] at hh;cases cs with | mk l=>
  match l,h2 with
  | [x],_=>
    simp at hh;rw [hh]
 subst dw;have h8:8<=top W:=Nat.le_max_right _ _;refine ⟨t,0,?_⟩;rw [<-K.aeS 0 (by omega),<-K.aeS 7 (by omega),Dx.OW (by omega),Dx.LU h1];have e:Dx.zK (Dx.gI W (top W)) (.iface 324 (.agg #[.pointer (some ⟨7,112,none⟩)])) = .iface 324 (.agg [.ptr (Dx.aZ 7) 112]):=by
  refine Dx.ua rfl ?_;have hp:=Dx.RV.ptr (ρ:=Dx.gI W (top W)) 112 (Dx.Rc (w:=W) (N:=top W) (k:=7) (by omega));rw [Nat.zero_add] at hp;exact .iface 324 (.agg (.cons hp .nil))
 simp [e]
theorem aqv {W:World}(hl:laidMetH Tryz.prog Rows.sequencerOnceRow.laid W):Dx.GB (K.pf ()) W.heap.size W (Dx.gI W (top W)) K.G0:=
 ⟨Dx.aa6 K.aeS (Nat.le_max_right _ _),Lib.tabBelow_of_tabIs (Uu hl)⟩
theorem Di {f:FuncId}{func:Func}{c:Code}{args:List Dx.V}{xs:List Value}{W:World}(hf:Tryz.prog.funcs[f]? =some func)(hb:func.body=some c)(hn:(func.name == "runtime.NumGoroutine")=false)
  (hl:laidMetH Tryz.prog Rows.sequencerOnceRow.laid W) (h:Dx.CW K.pf K.G0 f args (Dx.kg W (top W)) λv _=>v = .bool true) (hx:Dx.cU (Dx.gI W (top W)) args xs):
  Calls Tryz.prog f ⟨xs⟩ W λe W'=>e = .returned (.bool true)/\Below W.heap.size W W':=by
 have g:=h.out (Dx.aa5 (w:=W) (Br W)) (aqv hl) hx;have g':Dx.Good Tryz.prog f xs W λx w'=>∃v h' ρ',v=Dx.V.bool true/\Dx.Step (Dx.gI W (top W)) ρ' (Dx.kg W (top W)) h'/\Dx.RV ρ' v x/\Dx.aA W.heap.size W ρ' h' w':=by
  rcases g with ⟨v,w',a,b⟩ | ⟨a,b⟩
  ·exact .inl ⟨v,w',a,b⟩
  ·refine .inr ⟨a,b.mono λe w' q=>?_⟩
   rcases q with q | ⟨v,_,_,_,_,q,_⟩
   ·exact q
   ·exact q.elim
 refine (g'.calls hf hb hn).mono λe w' ⟨x,he,v,h',ρ',hv,_,hr,R⟩=>?_;subst hv;cases hr;exact ⟨he,R.below⟩
end Go.Proofs.YteajeefphbjnmaaGreatDoor
namespace Go.Proofs.YteajeefphbjnmaaGreatDoor
open Go
theorem yX:Tryz.pinned.checked.prog.mainIs=some (true,"de65a4d898ac1301e293bb19b79b4d1fe68a35a2315695858bd7244b2e87cd7b".toList):=by kernel_rfl
theorem ui:true=Tryz.pinned.checked.prog.looks []:=by kernel_rfl
theorem Ri {P:Program}(h:P.funcs.any Func.goes=false)(f:FuncId):P.goes f=false:=by
 unfold Program.goes;have h1:∀g:Nat,(P.funcs[g]?).any Func.goes=false:=λg=>by
  cases hg:P.funcs[g]? with
  | none=>rfl
  | some fn=>
    have hm:fn∈P.funcs:=Array.mem_of_getElem? hg;rw [Array.any_eq_false'] at h;simpa using h fn hm
 have h2:((P.closure f).any λg=>(P.funcs[g]?).any Func.goes)=false:=by simp [h1]
 rw [h2,h];simp
theorem kj {P:Program}{c:OpenClaim}(hs:c.start = .entering)(h:P.funcs.any Func.goes=false):false=c.goesBy P:=by
 unfold OpenClaim.goesBy Program.goesAt Program.goesFrom;rw [hs];cases P.funcNamed c.func with
 | none=>rfl
 | some f=>simp [Ri h f]
theorem y9:Tryz.pinned.checked.prog.funcs.any Func.goes=false:=by kernel_rfl
end Go.Proofs.YteajeefphbjnmaaGreatDoor
