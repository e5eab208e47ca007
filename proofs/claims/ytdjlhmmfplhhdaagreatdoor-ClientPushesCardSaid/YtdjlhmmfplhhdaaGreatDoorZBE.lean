/-
  The client's laws. Part ZBE of the proof: slices.AppendSeq(nil, the keys of a map of texts), by the kit's shelf; slices.Sorted of it.
-/
import Derived.Shelf.SlIter.Collect
import Derived.Sort.KeysCollected
import Derived.Ground.GgzProg
import Derived.Test.YtdjlhmmfplhhdaaGreatDoorZAA
import Derived.Test.YtdjlhmmfplhhdaaGreatDoorZBB
import Derived.Test.YtdjlhmmfplhhdaaGreatDoorZBD
import Derived.Test.YtdjlhmmfplhhdaaGreatDoorZBC
import Derived.Test.YtdjlhmmfplhhdaaGreatDoorZAU
namespace K
open Go Go.Dx Go.RowKit Go.Proofs Go.Maps Go.Sort
open Go.WideElems (rg rd Fit)
set_option maxRecDepth 100000
variable{fz:Nat}{m:bH}{lb:Lb}{h:H}
def RU:Value->Option (DataW Unit×List MemPlace):=λ_=>some (.lit (.bool true),[])
theorem MC {ρ:bD}:∀{m:bH} {ms:List MapEntry},pO ρ (cd m) ms->(∀e∈m,e.1.length<=1000000)->
  ms.length=m.length/\ms.map (·.born)=m.map (λe=>e.2.2)/\(ms.map λx=>Ic x.key)=cF m/\∀x∈ms,∃t,x.key = .string t/\t.size<=1000000
 | [],_,r,_=>by
   generalize c:cd []=l at r;cases r with
   | nil=>exact ⟨rfl,rfl,rfl,by simp⟩
   | cons=>cases c
 | (k,v,b)::m,_,r,hg=>by
   generalize c:cd ((k,v,b)::m)=l at r;cases r with
   | nil=>cases c
   | cons hk hv hn hs=>
     simp only [cd,List.cons.injEq,Prod.mk.injEq] at c;obtain ⟨⟨rfl,rfl,rfl⟩,rfl⟩:=c;obtain ⟨i,n,g,j⟩:=MC (m:=m) hs λe p=>hg e (by simp [p]);have h:=hg (k,v,b) (by simp);simp only at h;obtain ⟨t,f,a⟩:=vR hk;refine ⟨by simp [i],by simp [n,hn],?_,λx d=>?_⟩
     ·have o:Ic (Value.string t)=k:=a
      simp only [List.map_cons,cF,f,o];simp only [cF] at g;rw [g]
     ·rcases List.mem_cons.1 d with rfl | d
      ·exact ⟨t,f,by rw [<-zJ,a];exact h⟩
      ·exact j x d
theorem ahX (d:List (List UInt8)):∃xs:List (List Nat),xs.length=d.length/\∀(ρ:bD) (i:Nat) v,(strs xs)[i]? =some v->∃x,(d.map encStr)[i]? =some x/\RV ρ v x:=by
 refine ⟨d.map λs=>au ⟨s.toArray⟩,by simp,λρ i v h=>?_⟩;obtain ⟨s,a,rfl⟩:=Ha h;rw [List.getElem?_map] at a;cases hs:d[i]? with
 | none=>rw [hs] at a;simp at a
 | some t=>
   rw [hs] at a;simp at a;subst a;exact ⟨encStr t,by rw [List.getElem?_map,hs];rfl,.str _⟩
theorem MD {C:Lb}{c:Nat}{e:TypeId}{j:Own}(W:Wf h)(hg:h.get C=some (.map (cd m) c))(V0:fS m c)(xE:∀e∈m,e.1.length<=1000000) (Io:m.length<=1000000000) (S:h.get lb=some (.cells [.map C] e fz j)) {Q:V->H->Prop} (X:∀ov (xs:List (List Nat)) h',aG h' 9 1 ov xs.length (strs xs)->xs.length<=m.length->Fr h ov->Mod h h' []->Wf h'->Q ov h'):
  CW pf G0 jo [.nilSlice 0,.func 210 [] [.ptr lb 0]] h Q:=by
 refine .mk λ{B w0 ρ w xs} R hG o=>?_;obtain ⟨x1,x2,rfl,r1,r2⟩:=o.two;cases r1;obtain ⟨a',b',rfl,ra,rb⟩:=qO r2;cases ra;obtain ⟨y,rfl,ry⟩:=rb.one;obtain ⟨f,g,rfl⟩:=dy ry;have c0:dE ρ f [.map C] e fz j w:=R.obj _ _ _ g S;obtain ⟨q,F,q2⟩:=c0.cell 0 _ rfl;obtain ⟨bm,M,rfl⟩:=lz q2;obtain ⟨ms,OJ,mz⟩:∃ms:Array MapEntry,w.heap[bm.block]? =some (.map ms c)/\pO ρ (cd m) ms.toList:=R.obj _ _ _ M hg;obtain ⟨J,O,f3,f4⟩:=MC mz xE;have Y:=(R.base _ _ g).1;unfold cQ at F;rw [Y] at F;have KI:maxLen=9223372036854775807:=rfl;have T:w.ownsMap Tryz.prog 9 RU bm.block m.length (.map ((ms.toList.map (rg Tryz.prog 9 RU)).foldr DataW.insert [])):=by
  refine ⟨ms,c,OJ,⟨?_,⟨λx o=>?_,?_,?_⟩,λx o=>?_⟩,?_,rfl⟩
  ·rw [<-Array.length_toList,J];omega
  ·have DB:x.born∈ms.toList.map (·.born):=List.mem_map_of_mem o
   rw [O] at DB;obtain ⟨U,Ji,e2⟩:=List.mem_map.1 DB;rw [<-e2];exact V0.old U Ji
  ·rw [O];exact V0.Eu
  ·have z:=V0.keys
   rw [<-f3] at z;have uF:((ms.toList.map (·.key)).map Ic).Nodup:=by rw [List.map_map];exact z
   exact List.Pairwise.of_map Ic (λ_ _ h e=>h (by rw [e])) uF
  ·obtain ⟨t,z,ht⟩:=f4 x o
   have L:Go.keyOf Tryz.prog 9 x.key=some (.string t.data.toList):=by
    rw [z];simp [Go.keyOf,Tryz.underlying9,mapKey];omega
   exact ⟨_,by unfold Go.WideElems.rd;rw [L];rfl⟩
  ·rw [<-Array.length_toList,J];exact Nat.le_refl _
 have XX:f.block<w.heap.size:=(R.obj _ _ _ g S:sS ρ f w _).lt;generalize hD:(ms.toList.map (rg Tryz.prog 9 RU)).foldr DataW.insert []=D at T;have k:D.length=m.length:=by rw [<-hD,(Go.WideShapes.sorted_perm _).length_eq,List.length_map,J]
 have I:SeqGives Fence.wide 1 Tryz.prog 210 #[.pointer (some ⟨f.block,0,none⟩)] encStr (λd=>d.Perm (strKeys (.map D))) (Maps.size (.map D)) w:=
  AnyZ.keys_gives (ρ:=Tryz.Ot) {Tryz.aoa with} Fence.wide 1 trivial rfl (by omega) f.block bm.block m.length _ w XX F T
 have Z:Maps.size (.map D)=m.length:=k;have gN:CallsIn Fence.wide 2 Tryz.prog 251 #[.slice none 0 0,.func (.func 210) #[] #[.pointer (some ⟨f.block,0,none⟩)]] w λe w'=>∃(v:Value) (d:List (List UInt8)),e = .returned v/\d.Perm (strKeys (.map D))/\w'.ownsRow w.heap.size 9 1 v d.length (d.map encStr)/\(v = .slice none 0 0<->d=[])/\RowKit.Below w.heap.size w w':=
  AnyZ.appendSeq_in (ρ:=Tryz.Hq) {Tryz.agu with} Fence.wide 2 trivial rfl (by omega) 210 _ trivial (enters Tryz.func210 rfl (by kernel_rfl)) _ _ (by omega) (by omega) w I
 have XY:Calls (pf ()) jo ⟨[.slice none 0 0,.func (.func 210) #[] #[.pointer (some ⟨f.block,f.base+0,none⟩)]]⟩ w λe w'=>∃(v:Value) (d:List (List UInt8)),e = .returned v/\d.Perm (strKeys (.map D))/\w'.ownsRow w.heap.size 9 1 v d.length (d.map encStr)/\(v = .slice none 0 0<->d=[])/\RowKit.Below w.heap.size w w':=by rw [Y];exact (callsIn_wide (n:=2)).1 gN
 refine Good.fQ Tryz.func251 rfl rfl (XY.mono λU w' ⟨v,d,he,xM,bC,WK,Mg⟩=>⟨_,he,?_⟩);have nW:d.length=m.length:=by
  rw [xM.length_eq];show (D.map λp=>strOf p.1).length=_
  rw [List.length_map,k]
 obtain ⟨es,K,e3⟩:=ahX d;rcases bC.2 with ⟨rfl,fg⟩ | ⟨u,cap,cur,rfl,jl,s,hle,wB,Z,fE⟩
 ·have:es=[]:=by cases es with | nil=>rfl | cons a b=>simp at K;omega
  subst this;exact ⟨.nilSlice 0,h,ρ,X _ [] h .nil (by simp) (Fr.Ff _ _) (Mod.refl _ _) W,Step.refl _ _,.nilSlice 0,R.Fq Mg⟩
 ·obtain ⟨a1,a2,a3,a4⟩:=H.add_mod W (.cells (strs es) 9 0 .yes)
  have E:=eS (b:=ej.mk u 0 (cap*1) .nilFunc) R.fresh;have jA:(strs es).length=d.length*1:=by rw [eC,K,Nat.mul_one]
  refine ⟨.slice h.next 0 es.length (.toEnd 1),_,uG ρ h.next (ej.mk u 0 (cap*1) .nilFunc),X _ es _ (.ends a1 (by rw [eC,Nat.mul_one])) (by omega) (λl G=>by simp [ag] at G;subst G;exact a2) a3 a4,Step.add _ _ _ _,?_,R.named Mg jl ⟨rfl,rfl⟩ ?_⟩
  ·have:=RV.sliceEnd (ρ:=uG ρ h.next (ej.mk u 0 (cap*1) .nilFunc)) (l:=h.next) 0 es.length 1 cap (aU _ _ _) (by omega) (by simp)
   rw [K] at this ⊢;simpa using this
  ·refine ⟨?_,?_,λi v P=>?_,λ_ i hi G=>?_,λ_=>⟨cur,0,0,s,Nat.zero_le _,Nat.le_refl _⟩⟩
   ·simp [World.shape?,s,Z]
   ·show 0+(strs es).length<=cap*1;omega
   ·obtain ⟨x,N,ke⟩:=e3 (uG ρ h.next (ej.mk u 0 (cap*1) .nilFunc)) i v P
    refine ⟨x,?_,ke⟩;have hi:=(List.getElem?_eq_some_iff.1 P).1;unfold cQ World.cell?;simp only [s,Nat.zero_add];have:cur.toList[i]? =some x:=by
     rw [<-fE,List.getElem?_take,if_pos (by omega)] at N;exact N
    simpa using this
   ·simp [World.frozen?,s]
theorem Vi {d:Lb}{c:Nat}(r:Wf h)(j:h.get d=some (.map (cd m) c))(V0:fS m c)(q:∀e∈m,e.1.length<=1000000) (Io:m.length<=1000000000)  {e:TypeId}  {b:Own} (k:h.get lb=some (.cells [.map d] e fz b)) {Q:V->H->Prop} (g:∀a (xs:List (List Nat)) h',aG h' 9 1 a xs.length (strs xs)->xs.length<=m.length->Fr h a->Mod h h' []->Wf h'->Q a h'):
  CW pf G0 lK [.func 210 [] [.ptr lb 0]] h Q:=by
 refine vD.enter (by kernel_rfl) ?_;cbv;refine um.enter (by kernel_rfl) ?_;cbv;refine MD r j V0 q Io k λa xs u Iw w Sz o f=>?_;cbv;refine U7 f Iw (by omega) λys t v _ i n p=>?_;cbv;exact g a ys t i (by omega) Sz (o.fr n λl s=>.inl (Sz l s)) p
end K
namespace K
open Go Go.Dx Go.RowKit Go.Proofs
set_option maxRecDepth 100000
variable{n:Int}{lb li ls lg:Lb}{h:H}{ci:Nat}{items:bH}{a d:V}
structure Itm where
 key:List Nat
 gone:Bool
 val:List Nat
 at_:Int
structure Itm.ok (x:Itm):Prop where
 key:x.key.length<=128
 val:x.val.length<=4096
 lo:0<=x.at_
 hi:x.at_<=1099511627776
def itC:List Itm->List V
 | []=>[]
 | x::r=>.str x.key :: .bool x.gone :: .str x.val :: .int .i64 x.at_::itC r
theorem ME:∀(a b:List Itm),itC (a++b)=itC a++itC b
 | [],b=>rfl
 | x::r,b=>by simp only [List.cons_append,itC,ME r b]
theorem Zv:∀(l:List Itm) (i:Nat) (x:Itm),l[i]? =some x->rowFrom (itC l) (i*4) 4=some [.str x.key,.bool x.gone,.str x.val,.int .i64 x.at_]
 | [],i,x,h=>by simp at h
 | y::r,0,x,h=>by simp at h;subst h;rfl
 | y::r,i+1,x,h=>by
   have:=Zv r i x (by simpa using h);rw [show (i+1)*4=i*4+1+1+1+1 by omega];exact this
abbrev itA (x:Itm):V:=.agg [.str x.key,.bool x.gone,.str x.val,.int .i64 x.at_]
theorem abM {x:Itm}(k:Wf h)(i:h.get lb=some (.cells [.int .i64 n] 3 0 .yes)){Q:V->H->Prop} (d:∀h' b,Mod h h' []->Wf h'->Q (.bool b) h'):CW pf G0 fU [itA x,.ptr lb 0] h Q:=by
 obtain ⟨key,f,val,at_⟩:=x;refine uk.enter (by kernel_rfl) ?_;cbv;refine .agg ?_;cbv;refine .of k λl e g FT a c=>?_;cbv;refine .of g rfl ?_;cbv;refine .of (a.get i) rfl ?_;cbv;refine .gt (λYV=>?_) λj=>?_
 ·cbv;exact d e true a c
 ·cbv;exact d e false a c
theorem _root_.Go.Dx.VP.item {m:bH}{c:Nat}{k:List Nat}{K:V->Prop} (hi:h.get li=some (.map (cd m) c)) (d:∀e,e∈m->e.1.length<=128/\Hf e.2.1) (f:∀(key:List Nat) (a:Bool) (val:List Nat) (at_:Int),Itm.ok ⟨key,a,val,at_⟩->K (.agg [.str key,.bool a,.str val,.int .i64 at_])):
  VP h .str (.agg [.str [],.bool false,.str [],.int .i64 0]) false (.map li) (.str k) K:=by
 cases hv:cO m k with
 | none=>
   refine .Gs hi hv ?_;exact f [] false [] 0 ⟨by simp,by simp,by decide,by decide⟩
 | some v=>
   obtain ⟨b,i⟩:=zI hv;obtain ⟨_,key,a,val,at_,e,a1,a2,j,g⟩:=d _ i;have e:v=_:=e;subst e;refine .hit hi hv ?_;exact f key a val at_ ⟨a1,a2,j,g⟩
theorem abN {b c:V}{t:TypeId}(T:Wf h)(y:h.get ls=some (.cells [a,b,.ptr lg 0,.map li,c,d] t 0 .yes))(hi:h.get li=some (.map (cd items) ci))(V0:fS items ci)(g:∀e,e∈items->e.1.length<=128/\Hf e.2.1) (Io:items.length<=100000000) (O:h.get lb=some (.cells [.int .i64 n] 3 0 .yes)) {Q:V->H->Prop}
  (Y:∀v h' (l:List Itm),aG h' Cw 4 v l.length (itC l)->l.length<=items.length->(∀x∈l,x.ok)->Loc h h' v->Q v h'):CW pf G0 lH [.ptr ls 0,.func 159 [] [.ptr lb 0]] h Q:=by
 refine vB.enter (by kernel_rfl) ?_;cbv;refine Jq y ?_;cbv;refine .of y rfl ?_;cbv;refine GM.enter (by kernel_rfl) ?_;cbv;refine .flat rfl ?_;cbv;refine .of T λlk h1 w hfk C U=>?_;cbv;refine Vi U (C.get hi) V0 (λe he=>by have:=(g e he).1;omega) (by omega) w λW xs I mh gb JE S aO=>?_;have u:Mod h I []:=(C.trans S).mono λl o _ hl=>by simp at hl
 cbv;refine .of mh.sl λm hm0 hmn=>?_;cbv;refine .inv [p0,p1,p5,p16,p17,p18] (λD X h'=>∃(i:Int) (v:V) (l:List Itm),X=[.ptr ls 0,.func 159 [] [.ptr lb 0],v,W,.int .i64 m,.int .i64 i]/\0<=i/\i.toNat<=xs.length/\D=xs.length - i.toNat/\aG h' Cw 4 v l.length (itC l)/\l.length<=i.toNat/\(∀x∈l,x.ok)/\Loc I h' v) [_,_,_,_,_,_] rfl _ ⟨0,_,[],rfl,by omega,by simp,rfl,.nil,by simp,by simp,Loc.nil aO 0⟩ ?_;rintro D _ h3 ⟨i,v,l,rfl,iB,I0,eF,K,gQ,p,q⟩;have r:=q.get (u.get y);have Pw:=q.get (u.get hi);have N:=q.get (u.get O);cbv;refine .lt (λbA=>?_) λjl=>?_;rotate_left
 ·cbv;exact Y v h3 l K (by omega) p (q.base u)
 obtain ⟨k,hk⟩:∃k,xs[i.toNat]? =some k:=⟨_,List.getElem?_eq_getElem (by omega)⟩;cbv;refine .of (q.sl mh.sl) iB rfl (by omega) (eZ hk) λsl off Z=>?_;cbv;refine .fR Z 0 rfl ?_;cbv;refine .of r rfl ?_;cbv;refine .item Pw g λkey f val at_ _=>?_
 cbv;refine ⟨_,_,_,rfl,?_⟩;show CX pf G0 fU [itA ⟨key,f,val,at_⟩,.ptr lb 0] h3 _ _
 refine abM q.wf N λh4 b s J=>?_;have z:=s.get r;have Ze:=s.get Pw;have E:=K.mono s;have F:=q.al s J;cases b
 ·cbv;refine .add (by omega) (by omega) λj hj=>?_
  cbv;exact ⟨rfl,xs.length - j.toNat,by omega,j,v,l,rfl,by omega,by omega,rfl,E,by omega,p,F⟩
 ·cbv;refine .of z rfl ?_
  cbv;refine .item Ze g λkey f val at_ hx=>?_
  cbv;refine .agg ?_;cbv;refine .of J λlr h5 NY dN G B=>?_;cbv;refine .own B (E.mono G) (m:=1) (new:=[.str key,.bool f,.str val,.int .i64 at_]) (by simp only [cW,NY];rfl) rfl rfl (by unfold bg;omega) (by decide) λR h6 L H4 M cz=>?_;have P:=(F.al G B).grow H4 M cz;have kM:itC l++[V.str key,.bool f,.str val,.int .i64 at_]=itC (l++[⟨key,f,val,at_⟩]):=by rw [ME];rfl
  rw [kM,show l.length+1=(l++[(⟨key,f,val,at_⟩:Itm)]).length by simp] at L;cbv;refine .add (by omega) (by omega) λj hj=>?_;cbv;exact ⟨rfl,xs.length - j.toNat,by omega,j,R,l++[⟨key,f,val,at_⟩],rfl,by omega,by omega,rfl,L,by simp;omega,λx MW=>by
   rcases List.mem_append.1 MW with MW | MW
   ·exact p x MW
   ·simp at MW;subst MW;exact hx,P⟩
theorem afj {b c:V}{t:TypeId}(q:Wf h)(k:h.get ls=some (.cells [a,b,.ptr lg 0,.map li,c,d] t 0 .yes))(hi:h.get li=some (.map (cd items) ci))(V0:fS items ci)(f:∀e,e∈items->e.1.length<=128/\Hf e.2.1) (Io:items.length<=100000000) {Q:V->H->Prop}
  (m:∀v h' (l:List Itm),aG h' Cw 4 v l.length (itC l)->l.length<=items.length->(∀x∈l,x.ok)->Loc h h' v->Q v h'):CW pf G0 mH [.ptr ls 0,.int .i64 n] h Q:=by
 refine xg.enter (by kernel_rfl) ?_;cbv;refine .flat rfl ?_;cbv;refine .of q λlb u p w y i=>?_;cbv;refine abN i (y.get k) (y.get hi) V0 f Io p λv s l o r j lo=>?_;cbv;exact m v s l o r j (lo.base y)
end K
namespace K
open Go Go.Dx Go.RowKit
set_option maxRecDepth 100000
variable{h h1:H}{k f0 z0:Int}{s1:Int×Int}{d d1:ei}{lg:Lb}
theorem _root_.Go.Dx.Ld.rest {e:TypeId}{size n:Nat}{s:V}{cs:List V}{k:IntKind}{i:Int}{K:V->Prop} (o:aG h e size s n cs) (hi:0<=i) (c:i.toNat<n)
  (d:∀v,Sl h size v (n - i.toNat) (cs.drop (i.toNat*size))->K v):Ld size s (some (.int k i)) none none K:=by
 obtain ⟨a,rfl⟩:=Int.eq_ofNat_of_zero_le hi;have c:a<n:=by simpa using c
 have d:∀v,Sl h size v (n - a) (cs.drop (a*size))->K v:=by simpa using d
 have f:cs.length=n*size->rowFrom cs (0+a*size) ((n - a)*size)=some (cs.drop (a*size)):=λb=>by
  unfold rowFrom;rw [Nat.zero_add,dM,Dh]
  ·rw [List.take_of_length_le]
   rw [List.length_drop,b,Nat.sub_mul];omega
  ·rw [List.length_drop,b,Nat.sub_mul];omega
 cases o with
 | nil=>omega
 | @exact l _ _ hg b=>
   refine ⟨sliceEnd l 0 size a n n,by simp only [dV,bB,dR (Nat.le_of_lt c),ob],d _ ?_⟩;have:sliceEnd l 0 size a n n = .slice l (0+a*size) (n - a) (.exact (n - a)):=by
    unfold sliceEnd;rw [show Nat.beq n a=false from by rw [<-Bool.not_eq_true];exact λe=>by have:=Nat.eq_of_beq_eq_true e;omega]
   rw [this];exact .row hg (f b)
 | @ends l _ _ hg b=>
   refine ⟨.slice l (0+a*size) (n - a) (.toEnd size),?_,d _ (.row hg (f b))⟩;simp only [dV,bB,dR (Nat.le_of_lt c),ob,Nat.beq_refl,bO];rw [show (Nat.blt a n||Nat.beq a 0)=true from by rw [Bool.or_eq_true];left;simpa using c]
theorem MF:∀(i:Nat) (vs:List V),aZ vs=true->aZ (vs.drop i)=true
 | 0,vs,h=>by simpa using h
 | i+1,[],_=>by simp [aZ]
 | i+1,v::vs,h=>by
   simp only [aZ,Bool.and_eq_true] at h;simpa using MF i vs h.2
theorem zD.drop :∀{l:List (List Nat)} {r:List V} (i:Nat),zD h l r->zD h (l.drop i) (r.drop i)
 | l,r,0,c=>by simpa using c
 | [],[],i+1,_=>by simpa using zD.nil
 | b::l,v::r,i+1,c=>by
   cases c with
   | cons _ t=>simpa using zD.drop i t
theorem MG:∀l:List (Int×Int),aZ (ta l)=true
 | []=>rfl
 | (f,s)::r=>by simp [ta,aZ,cf,MG r]
theorem iw.less {g:Lg}{d':ei}{r:List (Int×Int)}(q:iw g d)(c:g.cm=(f0,z0)::s1::r)(Tc:(cX (said d.seen)).Nodup)(hs:said d'.seen=(Act.drop (jQ f0.toNat)).run (said d.seen))(o:k=s1.1 - f0)
  {ld:Lb} {sv rv:V} {rc:List V}:iw ⟨ld,sv,rv,s1::r,g.bZ.drop k.toNat,rc,g.next⟩ d'/\0<=k/\k.toNat<g.bZ.length:=by
 have Fm:=q.abn;rw [c,List.pairwise_cons] at Fm;have n:=q.below (f0,z0) (by rw [c];simp);have p:=q.below s1 (by rw [c];simp);have f:=Fm.1 s1 (by simp);have l:=q.head (f0,z0) (by rw [c];rfl);dsimp only at n f l;have h:∀j:Int,f0<j->bM (said d'.seen) (jQ j.toNat)=bM (said d.seen) (jQ j.toNat):=λj e=>by
  rw [hs,Act.run_get _ Tc];refine uw (λi=>?_) _;have:=Mc i;omega
 have Mf:=q.mw;have m:=q.aht;rw [c] at Mf;simp at Mf;have mem:∀s,s∈s1::r->s∈g.cm:=λs a=>by rw [c];exact List.mem_cons_of_mem _ a
 refine ⟨⟨by simp;omega,by rw [List.length_drop];omega,q.one,q.top,Fm.2,λs a=>q.below s (mem s a),λs a=>?_,λs a=>q.size s (mem s a),λj e=>?_,λs a=>?_,λa=>by simp at a⟩,by omega,by omega⟩
 ·rw [h s.1 (Fm.1 s a)];exact q.files s (mem s a)
 ·have e:g.next<=j:=e
  rw [h j (by omega)];exact q.free j e
 ·simp at a
  subst a;show s1.1+((g.bZ.drop k.toNat).length:Int)=g.next
  rw [List.length_drop];omega
theorem X7:bI pf G0 wH (s7 fy 1 24):=⟨_,Go.Proofs.Tryz.func160,by kernel_rfl⟩
theorem X8:bI pf G0 ve (s7 fV 2 16):=⟨_,Go.Proofs.Tryz.func161,by kernel_rfl⟩
theorem Lk.trimmed {h3:H}{g:Lg}{r:List (Int×Int)}{sv2 rv2:V}(L:Lk h lg g d)(p:g.cm=(f0,z0)::s1::r)(m:k=s1.1 - f0)
  (D1:bF h1 g.ld d1) (a2:d1.room=d.room) (j:said d1.seen=(Act.drop (jQ f0.toNat)).run (said d.seen)) (n:d1.last=d.last) (f:d1.aJ=d.aJ++[.drop (jQ f0.toNat)]) (s:d1.held=hdo d.held d.ch (jQ f0.toNat) (bM (said d1.seen) (jQ f0.toNat)))
  (u:∀l,l∈d1.own g.ld->l∈d.own g.ld\/h.get l=none) (B:Mod h h1 (d.own g.ld)) (b:Mod h1 h3 [lg]) (w:Wf h3)
  (C3:h3.get lg=some (.cells [.ptr g.ld 0,sv2,rv2,.int .i64 g.next] gC 0 .yes)) (S3:aG h3 fV 2 sv2 (s1::r).length (ta (s1::r))) (R3:aG h3 fy 1 rv2 (g.bZ.drop k.toNat).length (g.rc.drop k.toNat)) (fs:Fr h1 sv2) (v:Fr h1 rv2):
  LS h h3 lg g ⟨g.ld,sv2,rv2,s1::r,g.bZ.drop k.toNat,g.rc.drop k.toNat,g.next⟩ d d1 1:=by
 have i:∀q,q∈[lg]->q∈g.own lg:=λq a=>by rw [List.mem_singleton] at a;subst a;simp [Lg.own]
 have L1:jq h1 lg g:=L.log.mono B (L.log.jh L.kc);obtain ⟨o,y,z⟩:=L.ok.less (ld:=g.ld) (sv:=sv2) (rv:=rv2) (rc:=g.rc.drop k.toNat) p (gD L.kc.seen) j m;have dev:Pt d [.act (.drop (jQ f0.toNat))] d1:=.act a2 j n f s;refine ⟨⟨⟨C3,S3,R3,(L.log.rcs.mono (B.trans b)).drop _⟩,D1.mono b λq a t=>L1.jh D1 q (i q t) a,o,dev.cons L.kc.nod L.cons⟩,rfl,by rw [f];simp,by show (g.bZ.drop k.toNat).length<=_;rw [List.length_drop];omega,by show g.next.toNat<=_;omega,λq a=>?_,(B.trans b).mono λq _ _ a=>?_,w⟩
 ·rcases List.mem_append.1 a with a | a
  ·simp only [Lg.own,List.mem_cons,List.mem_append] at a
   rcases a with rfl | a | a
   ·left;simp [Lg.all,Lg.own]
   ·have:=fs q a
    rcases zM B this with e | e
    ·exact .inr e
    ·exact .inl (List.mem_append_right _ e)
   ·have:=v q a
    rcases zM B this with e | e
    ·exact .inr e
    ·exact .inl (List.mem_append_right _ e)
  ·exact (u q a).imp_left λx=>List.mem_append_right _ x
 ·rcases List.mem_append.1 a with a | a
  ·exact List.mem_append_right _ a
  ·exact List.mem_append_left _ (i q a)
theorem LS.Zw {i:H}{g E:Lg}{a:ei}{k:Nat}(T:LS h h1 lg g E d d1 k)(B:E.bZ.length<=g.bZ.length)(y:E.next=g.next)
  (n:bF i E.ld a) (z:a.room=d1.room) (o:(said a.seen).Perm (said a.last)) (p:said a.last=runs d1.aJ (said d1.last)) (m:a.aJ=[]) (v:vP a.held (said a.last))
  (t:∀l,l∈a.own E.ld->l∈d1.own E.ld\/h1.get l=none) (F:Mod h1 i (d1.own E.ld)) (w:Wf i):LS h i lg g E d a 0:=by
 have dev:Pt d1 [.flush] a:=.flush z o p m v;have C2:=dev.cons T.lk.kc.nod T.lk.cons;have e:∀k,bM (said a.seen) k=bM (said d1.seen) k:=(Cons.flush T.lk.kc n T.lk.cons o p m).2;have C:=T.lk.ok;have U:LS h1 i lg E E d1 a 0:=⟨⟨T.lk.log.mono F (T.lk.log.jh T.lk.kc),n,⟨C.mw,C.aht,C.one,C.top,C.abn,C.below,λs hs=>by rw [e];exact C.files s hs,C.size,λj A=>by rw [e];exact C.free j A,C.head,C.none⟩,C2⟩,rfl,by rw [m];simp,by omega,by omega,λq f=>by
  rcases List.mem_append.1 f with f | f
  ·exact .inl (List.mem_append_left _ f)
  ·exact (t q f).imp_left λx=>List.mem_append_right _ x,F.mono λl _ _ u=>List.mem_append_right _ u,w⟩
 have V:=T.trans U (Nat.le_refl _);exact ⟨V.lk,V.ld,by rw [m];simp,by omega,by rw [y];omega,V.own,V.mod,V.wf⟩
theorem Vj {g:Lg}{tt:Int}(Y:Wf h)(L:Lk h lg g d)(hn:d.aJ.length+g.cm.length<=1000000000){Q:V->H->Prop}
  (j:∀h' y d' (e:Int),LS h h' lg g y d d' 0->Q (.int .i64 e) h'):CW pf G0 sw [.ptr lg 0,.int .i64 tt] h Q:=by
 obtain ⟨ld,sv,rv,m,bZ,rc,nx⟩:=g;have C:=L.log.cell;have S:=L.log.cm;dsimp only at C S hn;refine E0.enter (by kernel_rfl) ?_;cbv;refine sK C ?_;cbv;refine .of C rfl ?_;cbv;refine .of S.sl λn fg Dr=>?_;cbv;refine .lt (λbA=>?_) λjl=>?_
 ·cbv;exact j h _ d 0 (LS.refl L Y 0)
 obtain ⟨x,s1,r,f⟩:∃x s1 r,m=x::s1::r:=by
  rcases m with _ | ⟨a,_ | ⟨b,c⟩⟩
  ·simp at Dr;omega
  ·simp at Dr;omega
  ·exact ⟨a,b,c,rfl⟩
 have PO:=ux m 1 s1 (by rw [f];rfl);have Vk:1<m.length:=by rw [f];simp
 clear f;obtain ⟨t,s⟩:=s1;dsimp only at PO;cbv;refine .of C rfl ?_;cbv;refine .of S.sl (by decide) rfl Vk PO λl off o=>?_;cbv;refine .fR o 0 rfl ?_;cbv;refine .gt (λYV=>?_) λJ=>?_
 ·cbv;exact j h _ d 0 (LS.refl L Y 0)
 cbv;refine .inv [p0,p1] (λm' aB h'=>∃y d',aB=[.ptr lg 0,.int .i64 tt]/\m'=y.cm.length/\d'.aJ.length+y.cm.length<=d.aJ.length+m.length/\y.bZ.length<=bZ.length/\y.next=nx/\LS h h' lg ⟨ld,sv,rv,m,bZ,rc,nx⟩ y d d' (d.aJ.length+m.length)) [_,_] rfl _ ⟨_,d,rfl,rfl,Nat.le_refl _,Nat.le_refl _,rfl,LS.refl L Y _⟩ ?_;rintro m' _ h1 ⟨g1,d1,rfl,eF,hac,F,Nc,T⟩;obtain ⟨E,I,rv1,sM,Vl,rc1,nx1⟩:=g1;have C1:=T.lk.log.cell;have S1:=T.lk.log.cm;have R1:=T.lk.log.bZ;have D1:=T.lk.kc;have Du:=T.ld;dsimp only at C1 S1 R1 D1 eF hac F Nc Du;subst Du Nc;have aK:=T.wf;cbv;refine .of C1 rfl ?_;cbv;refine .of S1.sl λn1 aj7 N=>?_;cbv;refine .gt (λYV=>?_) λJ=>?_;rotate_left
 ·cbv;refine .of C1 rfl ?_
  cbv;refine Ma aK D1 (by omega) λw d2 b1 b2 b3 b4 b5 b6 b7 b8 b9=>?_;cbv;exact j w _ d2 0 (T.Zw F rfl b1 b2 b3 b4 b5 b6 b7 b8 b9)
 obtain ⟨x,s1,r,f⟩:∃x s1 r,sM=x::s1::r:=by
  rcases sM with _ | ⟨a,_ | ⟨b,c⟩⟩
  ·simp at N;omega
  ·simp at N;omega
  ·exact ⟨a,b,c,rfl⟩
 have B:=ux sM 0 x (by rw [f];rfl);have PO:=ux sM 1 s1 (by rw [f];rfl);have M:0<sM.length:=by rw [f];simp
 have Vk:1<sM.length:=by rw [f];simp
 obtain ⟨f0,z0⟩:=x;obtain ⟨t,s⟩:=s1;dsimp only at B PO;have fC:=T.lk.ok.below (f0,z0) (by show _∈sM;rw [f];simp);have cw:=T.lk.ok.below (t,s) (by show _∈sM;rw [f];simp);have RH:=T.lk.ok.top;have ajA:=T.lk.ok.aht;have Mf:=T.lk.ok.mw;obtain ⟨fb,gi,_⟩:=T.lk.ok.files (f0,z0) (by show _∈sM;rw [f];simp);dsimp only at fC cw RH gi ajA Mf;cbv;refine .of C1 rfl ?_;cbv;refine .of S1.sl (by decide) rfl Vk PO λl off o=>?_;cbv;refine .fR o 0 rfl ?_;cbv;refine .le (λJ=>?_) λaxN=>?_;rotate_left
 ·cbv;refine .of C1 rfl ?_
  cbv;refine Ma aK D1 (by omega) λw d2 b1 b2 b3 b4 b5 b6 b7 b8 b9=>?_;cbv;exact j w _ d2 0 (T.Zw F rfl b1 b2 b3 b4 b5 b6 b7 b8 b9)
 clear o;cbv;refine .of follows 5 ?_;cbv;refine .of C1 rfl ?_;cbv;refine .of C1 rfl ?_;cbv;refine .of S1.sl (by decide) rfl M B λl off o=>?_;cbv;refine .fR o 0 rfl ?_;cbv;refine kC (by omega) (by omega) λnm nu=>?_;cbv;refine .load C1 rfl (.nil ?_);cbv;refine abh aK D1 (by rw [nu];exact As (by omega)) (by omega) (λbJ=>?_) λw d2 a1 a2 a3 a4 a5 a6 a7 a8 a9 a10=>?_
 ·rw [nu,gi] at bJ;cases bJ
 clear o;rw [nu] at a3 a5 a6;refine .nil ?_;cbv;refine .iz rfl ?_;have L2:=T.lk.log.mono a8 (T.lk.log.jh T.lk.kc);have C2:=L2.cell;have S2:=L2.cm;have R2:=L2.bZ;dsimp only at C2 S2 R2;obtain ⟨_,Z,k1⟩:=T.lk.ok.less (ld:=E) (sv:=I) (rv:=rv1) (rc:=rc1) f (gD D1.seen) a3 rfl;dsimp only at Z k1;cbv;refine .of follows 5 ?_;cbv;refine .of C2 rfl ?_;cbv;refine .of C2 rfl ?_;cbv;refine .of S2.sl (by decide) rfl Vk PO λl off o=>?_;cbv;refine .fR o 0 rfl ?_;cbv;refine .of C2 rfl ?_;cbv;refine .of S2.sl (by decide) rfl M B λl2 xO B'=>?_;cbv;refine .fR B' 0 rfl ?_;cbv;refine .sub (by omega) (by omega) λk hk=>?_;rw [<-hk] at Z k1;cbv;refine .rest R2 Z k1 λv G=>?_;rw [Nat.mul_one] at G;have axO:aZ (rc1.drop k.toNat)=true:=MF _ _ T.lk.log.rcs.aZ;have Zh:Vl.length - k.toNat=(Vl.drop k.toNat).length:=by rw [List.length_drop]
 rw [Zh] at G;have ahr:(Vl.drop k.toNat).length<=1000000000:=by rw [List.length_drop];omega
 cbv;refine eP X7 a9 G axO (by omega) (by decide) λrv2 h3 jv u=>?_;refine .nil ?_;have C3:=u.mod.get C2 (by simp);have z:∀v,Fr w v->lg∉ag v:=λv G P=>by have:=G lg P;rw [C2] at this;cases this
 cbv;refine .one u.wf C3 jv.sl.flat rfl rfl rfl λh4 xD R aW=>?_;refine .nil ?_;have ju:=jv.mono R (dJ (z _ u.fr));have S4:aG h4 fV 2 I sM.length (ta sM):=(S2.mono u.mod (by simp)).mono R λq AA P=>by
  rw [List.mem_singleton] at P;rw [P] at AA;obtain ⟨r',Co⟩:=S2.row AA;rw [C2] at Co;cases Co
 cbv;refine .of xD rfl ?_;cbv;refine .rest S4 (by decide) Vk λv2 O=>?_;have B9:(ta sM).drop (Int.toNat 1*2)=ta ((t,s)::r):=by rw [f];rfl
 have hs3:sM.length - Int.toNat 1=((t,s)::r).length:=by rw [f];rfl
 rw [B9,hs3] at O;have rL:((t,s)::r).length<=1000000000:=by rw [f] at Mf;simp at Mf ⊢;omega
 cbv;refine eP X8 aW O (MG _) (by omega) (by decide) λsv2 h5 np MZ=>?_;have C5:=MZ.mod.get xD (by simp);have m25:Mod w h5 [lg]:=((u.mod.trans R).trans MZ.mod).mono λq _ _ j=>by simpa using j
 have K:Fr w sv2:=λq j=>by
  have:=MZ.fr q j;rcases zM (u.mod.trans R) this with e | e
  ·exact e
  ·simp at e;subst e;rw [xD] at this;cases this
 cbv;refine .one MZ.wf C5 np.sl.flat rfl rfl rfl λh6 Dn bR cz=>?_;have m26:Mod w h6 [lg]:=(m25.trans bR).mono λq _ _ j=>by simpa using j
 have oC:=np.mono bR (dJ (z _ K));have zv:=(ju.mono MZ.mod (by simp)).mono bR (dJ (z _ u.fr));have U:=T.lk.trimmed (h3:=h6) (sv2:=sv2) (rv2:=rv2) f hk a1 a2 a3 a4 a5 a6 a7 a8 m26 cz Dn oC zv K u.fr;have UA:=U.aJ;have TA:=T.aJ;have ya:d2.aJ.length=d1.aJ.length+1:=by rw [a5];simp
 have nW:sM.length=((t,s)::r).length+1:=by rw [f];rfl
 have V:LS h h6 lg ⟨E,sv,rv,m,bZ,rc,nx1⟩ ⟨E,sv2,rv2,(t,s)::r,Vl.drop k.toNat,rc1.drop k.toNat,nx1⟩ d d2 (d.aJ.length+m.length):=by
  have W:=T.trans U (Nat.le_refl _);refine ⟨W.lk,rfl,by omega,by show (Vl.drop k.toNat).length<=bZ.length+_;omega,by show nx1.toNat<=nx1.toNat+_;omega,W.own,W.mod,W.wf⟩
 cbv;exact ⟨rfl,((t,s)::r).length,by omega,_,d2,rfl,rfl,by dsimp only;omega,by dsimp only;rw [List.length_drop];omega,rfl,V⟩
end K
namespace K
open Go Go.Dx Go.RowKit Go.Proofs
set_option maxRecDepth 100000
variable{d d1:ei}{s:xB}{ls:Lb}{h h1 h2:H}{k:Nat}{g1:Lg}
structure KS (h h':H)(ls:Lb)(s:xB)(g g':Lg)(d d':ei)(k:Nat):Prop where
 lk:Lk h' s.lg g' d'
 items:h'.get s.li=some (.map (cd s.items) s.ci)
 nls:ls∉g'.all s.lg d'
 nli:s.li∉g'.all s.lg d'
 ld:g'.ld=g.ld
 aJ:d'.aJ.length<=d.aJ.length+k
 bZ:g'.bZ.length<=g.bZ.length+k
 next:g'.next.toNat<=g.next.toNat+k
 own:∀q,q∈g'.all s.lg d'->q∈g.all s.lg d\/h.get q=none
 mod:Mod h h' (ls::g.all s.lg d)
 wf:Wf h'
theorem fc.ks {g:Lg}(S:fc h ls s g d)(C:Cons d)(c:Wf h):KS h h ls s g g d d 0:=
 ⟨⟨S.log,S.kc,S.ok,C⟩,S.items,λa=>by
  rcases List.mem_append.1 a with a | a
  ·exact S.log.off S.cell (by decide) a
  ·exact S.kc.off S.cell (by decide) a,λa=>by
  rcases List.mem_append.1 a with a | a
  ·exact S.log.G4 S.items a
  ·exact S.apart a,rfl,by omega,by omega,by omega,λq b=>.inl b,Mod.refl _ _,c⟩
theorem KS.cell {g:Lg}(K:KS h h1 ls s g g1 d d1 k)(m:Mod h1 h2 [ls])(f:Wf h2)(Qt:∃vs e,h1.get ls=some (.cells vs e 0 .yes)):KS h h2 ls s g g1 d d1 k:=by
 have ne:s.li≠ls:=λe=>by obtain ⟨vs,t,a⟩:=Qt;have:=K.items;rw [e,a] at this;cases this
 exact ⟨K.lk.mono m λl a c=>by rw [List.mem_singleton] at c;rw [c] at a;exact K.nls a,m.get K.items (by simpa using ne),K.nls,K.nli,K.ld,K.aJ,K.bZ,K.next,K.own,(K.mod.trans m).mono λq _ _ b=>by
  simp at b ⊢;rcases b with h | h | h<;>simp [h],f⟩
theorem KS.new {g:Lg}(K:KS h h1 ls s g g1 d d1 k)(m:Mod h1 h2 [])(b:Wf h2):KS h h2 ls s g g1 d d1 k:=
 ⟨K.lk.mono m,m.get K.items,K.nls,K.nli,K.ld,K.aJ,K.bZ,K.next,K.own,(K.mod.trans m).mono λq _ _ a=>by simpa using a,b⟩
theorem KS.log {g j:Lg}{i:ei}{m n:Nat}(K:KS h h1 ls s g g1 d d1 k)(T:LS h1 h2 s.lg g1 j d1 i m)(a:h1.get ls≠none)(p:k+m<=n):KS h h2 ls s g j d i n:=by
 have a1:=K.aJ;have a2:=T.aJ;have u:=K.bZ;have v:=T.bZ;have t:=K.next;have r:=T.next;refine ⟨T.lk,T.mod.get K.items K.nli,λb=>?_,λb=>?_,T.ld.trans K.ld,by omega,by omega,by omega,λq o=>?_,K.mod.fr T.mod λl a=>?_,T.wf⟩
 ·rcases T.own _ b with e | e
  ·exact K.nls e
  ·exact a e
 ·rcases T.own _ b with e | e
  ·exact K.nli e
  ·rw [K.items] at e;cases e
 ·rcases T.own q o with e | e
  ·exact K.own q e
  ·rcases zM K.mod e with f | f
   ·exact .inr f
   ·rcases List.mem_cons.1 f with c | c
    ·subst c;exact absurd e a
    ·exact .inl c
 ·rcases K.own l a with e | e
  ·exact .inr (List.mem_cons_of_mem _ e)
  ·exact .inl e
theorem KS.store {h':H}{g c:Lg}{d':ei}{syn:Int}(K:KS h h' ls s g c d d' k)(f:fS s.items s.ci)(b:∀e,e∈s.items->e.1.length<=128/\Hf e.2.1)
  (j:h'.get ls=some (.cells [.int .i32 0,.int .u32 0,.ptr s.lg 0,.map s.li,.int .i64 s.version,.int .i64 syn] gP 0 .yes)):
  fc h' ls {s with synced:=syn} c d'/\(∀q,q∈xB.own {s with synced:=syn} ls c d'->q∈s.own ls g d\/h.get q=none)/\Mod h h' (s.own ls g d):=by
 refine ⟨⟨j,K.items,f,b,K.lk.log,K.lk.kc,K.lk.ok,λi=>K.nli (List.mem_append_right _ i)⟩,λq a=>?_,K.mod.mono λq _ _ a=>?_⟩
 ·rcases List.mem_cons.1 a with e | a
  ·subst e;exact .inl (by simp [xB.own])
  ·rcases List.mem_cons.1 a with e | a
   ·exact .inl (by rw [e];simp [xB.own])
   ·exact (K.own q a).imp_left λx=>List.mem_cons_of_mem _ (List.mem_cons_of_mem _ x)
 ·rcases List.mem_cons.1 a with e | a
  ·subst e;simp [xB.own]
  ·exact List.mem_cons_of_mem _ (List.mem_cons_of_mem _ a)
theorem X9 {g:Lg}(hw:Wf h)(S:fc h ls s g d)(C:Cons d)(hk:k=s.items.length+2)(uF:k<=100000000)(hn:d.aJ.length<=100000000)(hr:g.bZ.length<=100000000)(hx:g.next.toNat<=100000000)(hv0:0<=s.version)(hv:s.version<=1099511627776){Q:V->H->Prop}
  (hq:∀h' syn g' d' (e:Int),g'.ld=g.ld->fc h' ls {s with synced:=syn} g' d'->Cons d'->d'.aJ.length<=d.aJ.length+k->g'.bZ.length<=g.bZ.length+k->g'.next.toNat<=g.next.toNat+k->
   (∀q,q∈xB.own {s with synced:=syn} ls g' d'->q∈s.own ls g d\/h.get q=none)->Mod h h' (s.own ls g d)->Wf h'->Q (.int .i64 e) h'):CW pf G0 fT [.ptr ls 0] h Q:=by
 have C0:=S.cell;have K0:=S.ks C hw;have I:=S.iok;have z:=S.rows;obtain ⟨B,F,f,ci,X5,syn⟩:=s;dsimp only at C0 hk hv0 hv I z;have A:∀{h3 h4:H} {g':Lg} {d':ei} {sy e:Int},KS h h3 ls ⟨B,F,f,ci,X5,syn⟩ g g' d d' k->(∃vs e,h3.get ls=some (.cells vs e 0 .yes))->Mod h3 h4 [ls]->Wf h4->h4.get ls=some (.cells [.int .i32 0,.int .u32 0,.ptr B 0,.map F,.int .i64 X5,.int .i64 sy] gP 0 .yes)->Q (.int .i64 e) h4:=λ{h3 h4 g' d' sy e} K hl m aW Z=>by
  have K4:=K.cell m aW hl;obtain ⟨a,b,c⟩:=K4.store (syn:=sy) I z Z;exact hq h4 sy g' d' e K4.ld a K4.lk.cons K4.aJ K4.bZ K4.next b c aW
 refine ui.enter (by kernel_rfl) ?_;cbv;refine Jq C0 ?_;cbv;refine CU hw C0 λh1 kK ar aK=>?_;have K1:=K0.cell ar aK ⟨_,_,C0⟩;cbv;refine .of kK rfl ?_;cbv;refine Vh K1.lk.log ?_;generalize g.next=nx;cbv;refine .of kK rfl ?_;cbv;refine .of aK λlb h2 dh gi av aO=>?_;have K2:=K1.new av aO;have gb:=av.get kK;cbv;refine nt aO K2.lk (by omega) (Nat.le_trans hx (by decide)) (by omega) (vb:=.slice lb 0 1 (.exact 1)) (bs:=[4]) (.row dh rfl) (λl hl w=>?_) (by decide) (by simp) λh3 g3 d3 n e T=>?_
 ·simp [ag] at hl;subst hl
  exact K1.lk.live w gi
 have K3:=K2.log T (by rw [gb];simp) (show 0+1<=1 by omega);have Y:=T.mod.get gb K2.nls;have wk:∀{h':H} {g':Lg} {d':ei} {k':Nat},KS h h' ls ⟨B,F,f,ci,X5,syn⟩ g g' d d' k'->k'<=k->KS h h' ls ⟨B,F,f,ci,X5,syn⟩ g g' d d' k:=λK Hz=>{K with aJ:=by have:=K.aJ;omega,bZ:=by have:=K.bZ;omega,next:=by have:=K.next;omega};cbv;refine .ne (λe0=>?_) λe1=>?_;rotate_left
 ·cbv;refine cq K3.wf Y λh4 Z aL aW=>?_
  cbv;exact A (h3:=h3) (h4:=h4) (wk K3 (by omega)) ⟨_,_,Y⟩ aL aW Z
 have Pw:h3.get F=some (.map (cd f) ci):=K3.items;cbv;refine afj K3.wf Y Pw I z (by omega) λv h4 l ju hll axQ vT=>?_;have Z:=vT.get Y;have K4:=K3.new vT.mod vT.wf;have nv:∀q,q∈ag v->q∉g3.all B d3:=λq hq w=>K3.lk.live w (vT.fr q hq);have nvl:ls∉ag v:=λw=>by have:=vT.fr ls w;rw [Y] at this;cases this
 cbv;refine .of ju.sl λm hm0 hmn=>?_;cbv;refine .inv [p0,p3,p42,p43,p44] (λm' aB h'=>∃(i:Int) (g':Lg) (d':ei),aB=[.ptr ls 0,.int .i64 nx,v,.int .i64 m,.int .i64 i]/\0<=i/\i.toNat<=l.length/\m'=l.length - i.toNat/\KS h h' ls ⟨B,F,f,ci,X5,syn⟩ g g' d d' (i.toNat+1)/\h'.get ls=some (.cells [.int .i32 1,.int .u32 0,.ptr B 0,.map F,.int .i64 X5,.int .i64 syn] gP 0 .yes)/\Sl h' 4 v l.length (itC l)/\(∀q,q∈ag v->q∉g'.all B d')) [_,_,_,_,_] rfl _
  ⟨0,g3,d3,rfl,by omega,by simp,rfl,K4,Z,ju.sl,nv⟩ ?_
 rintro m' _ h5 ⟨i,g5,d5,rfl,iB,I0,eF,K5,Bn,G,U⟩;have bK:=K5.wf;have a5:=K5.aJ;have r5:=K5.bZ;have x5:=K5.next;cbv;refine .lt (λbA=>?_) λjl=>?_
 ·obtain ⟨x,hx⟩:∃x,l[i.toNat]? =some x:=⟨_,List.getElem?_eq_getElem (by omega)⟩
  obtain ⟨q1,q2,q3,q4⟩:=axQ x (List.mem_of_getElem? hx);have bC:=Zv _ _ _ hx;obtain ⟨key,o,val,at_⟩:=x;dsimp only at q1 q2 q3 q4 bC;cbv;refine .of G iB rfl (by omega) bC λsl off jA=>?_;cbv;refine .jC jA rfl ?_;cbv;refine .of bK λlx h6 FK Il bR cz=>?_;cbv;refine .of (cs:=[.str key,.bool o,.str val,.int .i64 at_]) cz FK rfl rfl rfl rfl rfl rfl λh7 hx7 db eJ=>?_;have sO:Mod h5 h7 []:=bR.fr db λq r=>.inl (by rw [List.mem_singleton] at r;rw [r];exact Il);cbv;refine .of follows 8 ?_;cbv;refine .of eJ λlr h8 W dN cU eL=>?_;have t:=cU.get hx7;cbv;refine .freshS W rfl ?_;cbv;refine .of t rfl ?_;cbv;refine .of t rfl ?_;cbv;refine .of t rfl ?_;cbv;refine .of t rfl ?_;have uJ:aG h8 5 1 (.slice lr 0 1 (.exact 1)) 1 (ae [2]):=.exact W rfl;cbv;refine kA eL uJ.sl rfl (by omega) (by omega) (by omega) λb9 h9 Rv L=>?_;have D:=L.get t;have e9:=(cJ (x:=at_.toNat) (by omega)).2;refine .load D rfl (.load D rfl (.load D rfl (.nil ?_)));cbv;refine CX.bytes λcw _=>GY L.wf Rv.sl (eW rfl (aD _)) (by omega) (by omega) λb10 sQ zA xA=>?_;have hkb:∀y∈key,y<256:=cw key (by simp);have N:=xA.get D;have e10:=(cJ (x:=key.length) (by omega)).2;refine .load N rfl (.load N rfl (.nil ?_));have L10:Loc h8 sQ b10:=xA.base L.mod;cbv;refine CX.bytes λdh _=>Zo L10 zA (eW (eW rfl (aD _)) (aD _)) (by rw [List.length_append];omega) (by omega) λb11 VH L0 E=>?_;have LY:∀y∈val,y<256:=dh val (by simp);refine .nil ?_;have Zx:Mod h5 VH []:=((sO.trans cU).trans E.mod).mono λq _ _ r=>by simp at r
  have K11:=K5.new Zx E.wf;have K8:=K5.new ((sO.trans cU).mono λq _ _ r=>by simp at r) eL;have Ry:=Zx.get Bn;obtain ⟨bs,Nn⟩:∃bs,bs=[2]++c8 at_.toNat++(c8 key.length++key)++mU o val:=⟨_,rfl⟩;have u:ae [2]++ae (c8 at_.toNat)++ae (c8 key.length++key)++ae (mU o val)=ae bs:=by rw [Nn];simp only [aM]
  have e11:(mU o val).length<=4110:=by
   have:=(cJ (x:=val.length) (by omega)).2;unfold mU;split
   ·simp
   ·simp;omega
  have MT:1+(c8 at_.toNat).length+(c8 key.length++key).length+(mU o val).length=bs.length:=by rw [Nn];simp;omega
  rw [u,MT] at L0;have axR:bs.length<=9000:=by rw [<-MT];simp;omega
  have J:∀y∈bs,y<256:=λy hy=>by
   rw [Nn] at hy;simp only [List.mem_append] at hy;rcases hy with ((hy | hy) | (hy | hy)) | hy
   ·simp at hy;omega
   ·exact jR (by omega) y hy
   ·exact jR (by omega) y hy
   ·exact hkb y hy
   ·unfold mU at hy
    split at hy
    ·simp at hy;omega
    ·rcases List.mem_cons.1 hy with rfl | hy
     ·omega
     ·rcases List.mem_append.1 hy with hy | hy
      ·exact jR (by omega) y hy
      ·exact LY y hy
  clear u MT Nn;cbv;refine .of Ry rfl ?_;cbv;refine nt E.wf K11.lk (by omega) (by omega) (by omega) L0.sl (λq r w=>K8.lk.live w (E.fr q r)) (by omega) J λSy M R n12 e12 T12=>?_;have K12:=K11.log T12 (by rw [Ry];simp) (show i.toNat+1+1<=i.toNat+2 by omega);have O:=T12.mod.get Ry K11.nls;cbv;refine .ne (λe0=>?_) λe1=>?_;rotate_left
  ·cbv;refine cq K12.wf O λZP alg jD Z0=>?_
   cbv;exact A (h3:=Sy) (h4:=ZP) (wk K12 (by omega)) ⟨_,_,O⟩ jD Z0 alg
  cbv;refine .add (by omega) (by omega) λj hj=>?_;have Dp:i.toNat+2=j.toNat+1:=by omega
  rw [Dp] at K12;have axS:=(G.mono Zx).mono T12.mod U;have axT:∀q,q∈ag v->q∉M.all B R:=λq r w=>(T12.own q w).elim (U q r) λe=>(G.mono Zx).live r e;cbv;exact ⟨rfl,l.length - j.toNat,by omega,j,M,R,rfl,by omega,by omega,rfl,K12,O,axS,axT⟩
 ·cbv;refine .of follows 6 ?_
  cbv;refine .of bK λlr h6 zv dN bR cz=>?_;have Dn:=bR.get Bn;have K6:=K5.new bR cz;cbv;refine .of Dn rfl ?_;cbv;refine .freshS zv rfl ?_;cbv;refine .of Dn rfl ?_;have oC:aG h6 5 1 (.slice lr 0 1 (.exact 1)) 1 (ae [3]):=.exact zv rfl;cbv;refine kA cz oC.sl rfl (by omega) (by omega) (by omega) λb7 h7 O8 ZX=>?_;have tf:=ZX.get Dn;have K7:=K6.new ZX.mod ZX.wf;have e7:=(cJ (x:=X5.toNat) (by omega)).2;obtain ⟨bs,Nn⟩:∃bs,bs=[3]++c8 X5.toNat:=⟨_,rfl⟩;have u:ae [3]++ae (c8 X5.toNat)=ae bs:=by rw [Nn];simp only [aM]
  have MT:1+(c8 X5.toNat).length=bs.length:=by rw [Nn];simp;omega
  rw [u,MT] at O8;have axR:bs.length<=9000:=by rw [<-MT];omega
  have J:∀y∈bs,y<256:=λy hy=>by
   rw [Nn] at hy;simp only [List.mem_append] at hy;rcases hy with hy | hy
   ·simp at hy;omega
   ·exact jR (by omega) y hy
  clear u MT Nn;refine .load tf rfl (.nil ?_);cbv;refine nt ZX.wf K7.lk (by omega) (by omega) (by omega) O8.sl (λq r w=>K6.lk.live w (ZX.fr q r)) (by omega) J λh8 g8 d8 n8 e8 T8=>?_;have K8:=K7.log T8 (by rw [tf];simp) (show i.toNat+1+1<=k by omega);have P:=T8.mod.get tf K7.nls;refine .nil ?_;cbv;refine .ne (λe0=>?_) λe1=>?_;rotate_left
  ·cbv;refine cq K8.wf P λh9 FM gE th=>?_
   cbv;exact A (h3:=h8) (h4:=h9) K8 ⟨_,_,P⟩ gE th FM
  have a8:=K8.aJ;have x8:=K8.next;cbv;refine .of P rfl ?_;cbv;refine MB K8.wf K8.lk (by omega) λh9 d9 e9 T9=>?_;have K9:=K8.log T9 (by rw [P];simp) (show k+0<=k by omega);have FM:=T9.mod.get P K8.nls;cbv;refine .ne (λe0=>?_) λe1=>?_;rotate_left
  ·cbv;refine cq K9.wf FM λsQ X ix qy=>?_
   cbv;exact A (h3:=h9) (h4:=sQ) K9 ⟨_,_,FM⟩ ix qy X
  cbv;refine .of FM rfl ?_;cbv;refine .one (vs':=[.int .i32 1,.int .u32 0,.ptr B 0,.map F,.int .i64 X5,.int .i64 X5]) K9.wf FM rfl rfl rfl rfl λsQ X ix qy=>?_;have K10:=K9.cell ix qy ⟨_,_,FM⟩;have a10:=K10.aJ;have x10:=K10.next;have sg:=K10.lk.ok.X6;cbv;refine .of X rfl ?_;cbv;refine Vj qy K10.lk (by omega) λVH g11 d11 e11 T11=>?_;have K11:=K10.log T11 (by rw [X];simp) (show k+0<=k by omega);have Ry:=T11.mod.get X K10.nls;cbv;refine cq K11.wf Ry λSy O fI FN=>?_;cbv;exact A (h3:=VH) (h4:=Sy) K11 ⟨_,_,Ry⟩ fI FN O
end K
namespace K
open Go Go.Dx Go.RowKit Go.Proofs
set_option maxRecDepth 100000
abbrev M5 (kind:Int)(af:List Nat)(from_ az last top:Int)(lv:V):V:=.agg [.int .i64 kind,.str af,.int .i64 from_,.int .i64 az,.int .i64 last,.int .i64 top,lv]
abbrev axU:V:=.agg [.int .i64 0,.str [],.int .i64 0,.int .i64 0,.int .i64 0,.int .i64 0,.nilSlice 0]
end K
namespace K
open Go Go.Dx Go.RowKit Go.Proofs
set_option maxRecDepth 100000
variable{wait:List ep}{lp:Lb}{h h':H}
def mq (l:List ep)(c:List Nat):Nat:=l.countP λx=>decide (x.af=c)
theorem zV (l:List ep)(x:ep)(c:List Nat):mq (l++[x]) c=mq l c+if x.af=c then 1 else 0:=by
 unfold mq;rw [List.countP_append]
 by_cases h:x.af=c<;>simp [h]
def bS (a:List Nat)(base wait:List ep):Prop:=∀(i:Nat) (x:ep),wait[i]? =some x->x.af=a/\x.id=bP base a+i+1/\mr x
theorem bS.nil (a:List Nat)(base:List ep):bS a base []:=λi x h=>by simp at h
theorem bS.snoc {a:List Nat}{base:List ep}{x:ep}(w:bS a base wait)(c:x.af=a)(d:x.id=bP base a+wait.length+1)(h3:mr x):bS a base (wait++[x]):=λi y hy=>by
 by_cases hi:i<wait.length
 ·rw [List.getElem?_append_left hi] at hy;exact w i y hy
 ·have b:=(List.getElem?_eq_some_iff.1 hy).1
  rw [List.length_append] at b;have:i=wait.length:=by simp at b;omega
  subst this;rw [List.getElem?_append_right (Nat.le_refl _)] at hy;simp at hy;subst hy;exact ⟨c,d,h3⟩
theorem bS.other {a:List Nat}{base:List ep}{x:ep}(w:bS a base wait)(h:x.af≠a):bS a (base++[x]) wait:=λi y hy=>by
 rw [dX,if_neg h];exact w i y hy
theorem bS.axV {f:List Nat}{base:List ep}{x:ep}(w:bS f base wait)(g:wait[0]? =some x):bS f (base++[x]) (wait.drop 1):=λi y hy=>by
 obtain ⟨a,b,_⟩:=w 0 x g;rw [List.getElem?_drop] at hy;obtain ⟨c,d,e⟩:=w (1+i) y hy;rw [dX,if_pos a];exact ⟨c,by omega,e⟩
structure pq where
 nm:List Nat
 ls:Lb
 bv:V
 lm:Lb
 sv:V
 wv:V
 vv:V
 base:List ep
 m:bH
 c:Nat
 st:EL
 wait:List ep
 vw:EL
def pq.own (r:pq)(lp:Lb):List Lb:=lp::r.lm::(ag r.bv++ag r.sv++ag r.wv++ag r.vv)
structure eI (h:H)(lp:Lb)(r:pq):Prop where
 cell:h.get lp=some (.cells [.str r.nm,.ptr r.ls 0,r.bv,.map r.lm,r.sv,r.wv,r.vv] jY 0 .yes)
 base:aG h cD 6 r.bv r.base.length (cx r.base)
 st:aG h kz 2 r.sv r.st.length (dD r.st)
 wait:aG h cD 6 r.wv r.wait.length (cx r.wait)
 vw:aG h kz 2 r.vv r.vw.length (dD r.vw)
 mg:h.get r.lm=some (.map (cd r.m) r.c)
 V0:fS r.m r.c
 ints:∀e∈r.m,∃n,e.2.1 = .int .i64 n
 last:∀c,jV r.m c=bP r.base c
 good:iY r.base
 mw:r.base.length<=2000
 stl:r.st.length<=r.base.length
 ZW:r.vw.length<=r.base.length+40
 keys:∀e∈r.st,e.1.length<=1000000
 PQ:∀e∈r.vw,e.1.length<=1000000
 may:∀x∈r.base,mr x
 R8:∀x∈r.wait,mr x
 xC:r.wait.length<=32
 name:isName r.nm
 nb:∀q,q∈ag r.bv->q∉ag r.wv
theorem eI.lookup {r:pq}(S:eI h lp r){c:List Nat}{K:V->Prop} (e:K (.int .i64 (bP r.base c))):VP h .str (.int .i64 0) false (.map r.lm) (.str c) K:=by
 have a:=S.last c;cases hv:cO r.m c with
 | none=>
   simp only [jV,hv] at a;refine .Gs S.mg hv ?_;show K (.int .i64 0)
   rw [a];exact e
 | some v=>
   obtain ⟨b,f⟩:=zI hv;obtain ⟨n,d⟩:=S.ints _ f;have d:v = .int .i64 n:=d;subst d;simp only [jV,hv] at a;refine .hit S.mg hv ?_;show K (.int .i64 n)
   rw [a];exact e
theorem eI.mono {r:pq}{F:List Lb}(S:eI h lp r)(m:Mod h h' F)(b:∀l,l∈r.own lp->l∉F:=by simp):eI h' lp r:=
 ⟨m.get S.cell (b _ (by simp [pq.own])),S.base.mono m λl a=>b _ (by simp [pq.own,a]),S.st.mono m λl a=>b _ (by simp [pq.own,a]),S.wait.mono m λl a=>b _ (by simp [pq.own,a]),S.vw.mono m λl a=>b _ (by simp [pq.own,a]),m.get S.mg (b _ (by simp [pq.own])),S.V0,S.ints,S.last,S.good,S.mw,S.stl,S.ZW,S.keys,S.PQ,S.may,S.R8,S.xC,S.name,S.nb⟩
theorem eI.live {r:pq}(S:eI h lp r){q:Lb}(b:q∈r.own lp):h.get q≠none:=by
 simp only [pq.own,List.mem_cons,List.mem_append] at b;rcases b with e | e | ((e | e) | e) | e
 ·rw [e,S.cell];simp
 ·rw [e,S.mg];simp
 ·obtain ⟨r,a⟩:=S.base.row e;rw [a];simp
 ·obtain ⟨r,a⟩:=S.st.row e;rw [a];simp
 ·obtain ⟨r,a⟩:=S.wait.row e;rw [a];simp
 ·obtain ⟨r,a⟩:=S.vw.row e;rw [a];simp
theorem eI.afm {r:pq}(S:eI h lp r):lp≠r.lm/\lp∉ag r.bv/\lp∉ag r.sv/\lp∉ag r.wv/\lp∉ag r.vv:=by
 refine ⟨λe=>?_,λe=>?_,λe=>?_,λe=>?_,λe=>?_⟩
 ·have:=S.cell;rw [e,S.mg] at this;cases this
 ·obtain ⟨c,a⟩:=S.base.row e;rw [S.cell] at a;cases a
 ·obtain ⟨c,a⟩:=S.st.row e;rw [S.cell] at a;cases a
 ·obtain ⟨c,a⟩:=S.wait.row e;rw [S.cell] at a;cases a
 ·obtain ⟨c,a⟩:=S.vw.row e;rw [S.cell] at a;cases a
theorem eI.view {r:pq}{vv:V}{es:EL}(S:eI h lp r)(m:Mod h h' [lp])(c:h'.get lp=some (.cells [.str r.nm,.ptr r.ls 0,r.bv,.map r.lm,r.sv,r.wv,vv] jY 0 .yes))
  (d:aG h' kz 2 vv es.length (dD es)) (g:es.length<=r.base.length+40) (a:∀e∈es,e.1.length<=1000000):eI h' lp {r with vv:=vv,vw:=es}:=by
 obtain ⟨b,i,f,j,k⟩:=S.afm;exact ⟨c,S.base.mono m (dJ i),S.st.mono m (dJ f),S.wait.mono m (dJ j),d,m.get S.mg (by simpa using Ne.symm b),S.V0,S.ints,S.last,S.good,S.mw,S.stl,g,S.keys,a,S.may,S.R8,S.xC,S.name,S.nb⟩
end K
