/-
  The client's laws. Part ZBC of the proof: slices.SortFunc over entries as a contract; tracker: list.
-/
import Derived.Test.YtdjlhmmfplhhdaaGreatDoorZBB
import Derived.Test.YtdjlhmmfplhhdaaGreatDoorZAW
import Derived.Test.YtdjlhmmfplhhdaaGreatDoorZAR
import Derived.Test.YtdjlhmmfplhhdaaGreatDoorZAY
namespace K
open Go Go.Dx Go.RowKit Go.Proofs Go.Sort
set_option maxRecDepth 100000
variable{h:H}
def X2 (x:PG):List Nat×List Nat:=(au x.1,au x.2)
theorem Mv {ρ:bD}{w:World}{blk:Nat}:∀{es:EL} {o:Nat},(∀i v,(dD es)[i]? =some v->∃x,w.cell? ⟨blk,o+i,none⟩=some x/\RV ρ v x)->∃q:List PG,q.map X2=es/\∀(j:Nat) v,(cb q)[j]? =some v->w.cell? ⟨blk,o+j,none⟩=some v
 | [],o,h=>⟨[],rfl,λj v a=>by simp [cb] at a⟩
 | e::es,o,h=>by
   obtain ⟨n,a1,g⟩:=h 0 (.str e.1) rfl;obtain ⟨p,a2,d⟩:=h 1 (.str e.2) rfl;obtain ⟨f,rfl,c⟩:=vR g;obtain ⟨k,rfl,m⟩:=vR d;obtain ⟨q,l,B9⟩:=Mv (es:=es) (o:=o+2) (w:=w) (ρ:=ρ) (blk:=blk) λi v a=>by
    have:=h (i+2) v (by simpa [dD] using a)
    rwa [show o+(i+2)=o+2+i by omega] at this
   refine ⟨(f,k)::q,by simp [l,X2,c,m],λj v a=>?_⟩
   match j with
   | 0=>simp [cb] at a;subst a;exact a1
   | 1=>simp [cb] at a;subst a;exact a2
   | j+2=>
     have:=B9 j v (by simpa [cb] using a)
     rwa [show o+(j+2)=o+2+j by omega]
theorem Vb (ρ:bD):∀(a:List PG) (i:Nat) v,(dD (a.map X2))[i]? =some v->∃x,(cb a)[i]? =some x/\RV ρ v x
 | [],i,v,h=>by simp [dD] at h
 | x::a,0,v,h=>by simp [dD] at h;subst h;exact ⟨_,by simp [cb],.str _⟩
 | x::a,1,v,h=>by simp [dD] at h;subst h;exact ⟨_,by simp [cb],.str _⟩
 | x::a,i+2,v,h=>by
   obtain ⟨y,hy,r⟩:=Vb ρ a i v (by simpa [dD] using h);exact ⟨y,by simpa [cb] using hy,r⟩
theorem Vc:∀(a:List PG) (j:Nat),j<a.length*2->(cb a)[j]? =some ((uA (a[j / 2]!))[j % 2]!)
 | [],j,h=>by simp at h
 | x::a,0,h=>by simp [cb,uA]
 | x::a,1,h=>by simp [cb,uA]
 | x::a,j+2,h=>by
   have:=Vc a j (by simp at h;omega);rw [show (j+2) / 2=j / 2+1 by omega,show (j+2) % 2=j % 2 by omega];simpa [cb] using this
theorem PJ (a:List PG)(j:Nat)(h:j<a.length*2):(cb a)[j]? =some ((flatK uA 2 a.toArray)[j]!):=by
 rw [get_flatK _ _ _ _ (by simpa using h),Vc a j h];simp
theorem abG {v:V}{es:EL}(I:Wf h)(r:aG h 55 2 v es.length (dD es))(hl:es.length<=1000000000000){Q:V->H->Prop} (J:∀(q:EL) h',q.length=es.length->(∀e∈q,e∈es)->aG h' 55 2 v q.length (dD q)->Mod h h' (ag v)->Wf h'->Q (.tuple []) h'):CW pf G0 dL [v,.func 243 [] []] h Q:=by
 refine .mk λ{B w0 ρ w us} R hG Y=>?_;have key:∀(l:Lb) (b:ej) (cap:Nat),h.get l=some (.cells (dD es) 55 0 .yes)->ρ l=some b->ag v=[l]->(∀h' (ys:EL),ys.length=es.length->h'.get l=some (.cells (dD ys) 55 0 .yes)->aG h' 55 2 v ys.length (dD ys))->Good (pf ()) dL [.slice (some ⟨b.block,b.base,none⟩) es.length cap,.func (.func 243) #[] #[]] w λx w'=>∃v h' k,Q v h'/\Step ρ k h h'/\RV k v x/\aA B w0 k h' w':=λl b cap g f Oq O=>by
  have c:dE ρ b (dD es) 55 0 .yes w:=R.obj l b _ f g;obtain ⟨d,L,B9⟩:=Mv (o:=b.base) λi v p=>c.cell i v p;have M:d.length=es.length:=by rw [<-L,List.length_map]
  have fC:=(R.base l b f).1;have tB:=c.fits;rw [jU] at tB;have hH:HoldsK uA 2 w b.block b.base d.toArray:=λj hj=>by
   have E:j<d.length*2:=by simpa using hj
   exact ⟨B9 j _ (PJ d j E),c.free rfl _ (by omega) (by omega)⟩
  have F:Calls (pf ()) dL ⟨[.slice (some ⟨b.block,b.base,none⟩) es.length cap,.func (.func 243) #[] #[]]⟩ w λe w'=>e = .returned (.tuple #[])/\∃d' n os,PermIn 0 d.toArray.size d.toArray d'/\SortedIn (ltOf XZ) 0 d.toArray.size d'/\w'=sortWorldK uA 2 w b.block b.base n d' os:=by
   have:=Tryz.abF b.block b.base cap d.toArray w hH (R.obj l b _ f g:sS ρ b w _).lt (by simp;omega);rw [show d.toArray.size=es.length by simp [M]] at this ⊢;exact this
  refine Good.fQ Tryz.func280 rfl rfl (F.mono λe w' ⟨A,d',n,os,Z,_,C⟩=>⟨_,A,?_⟩);obtain ⟨Bl,_,Ao⟩:=Z;obtain ⟨ts,By⟩:∃ts,ts=d'.toList:=⟨_,rfl⟩;have u:d'=ts.toArray:=by rw [By]
  subst u;have Ct:ts.length=es.length:=by simpa [M] using Bl
  have aqU:ts.Perm d:=by
   rw [show d.toArray.size=ts.toArray.size from Bl.symm] at Ao;simp [Ct] at Ao
   rwa [List.take_of_length_le (by omega),List.take_of_length_le (by omega)] at Ao
  have z:(ts.map X2).length=es.length:=by rw [List.length_map,Ct]
  obtain ⟨U,K,P⟩:=H.eD I g rfl (.cells (dD (ts.map X2)) 55 0 .yes);have R':aA B w0 ρ (h.set l (.cells (dD (ts.map X2)) 55 0 .yes)) (putRow id (Sort.ahead w n) b.block 0 (flatK uA 2 ts.toArray)):=(Df R n).rewrite f g id (flatK uA 2 ts.toArray) (by simp [jU,Ct]) (by rw [jU,jU,z]) λi v p=>by
   have hi:=(List.getElem?_eq_some_iff.1 p).1;rw [jU,List.length_map] at hi;obtain ⟨x,G,X⟩:=Vb ρ ts i v p;rw [PJ ts i hi] at G;cases G;exact X
  refine ⟨.tuple [],_,ρ,J (ts.map X2) _ z (λy hy=>?_) (O _ _ z U) (Oq▸K) P,⟨λ_ _=>rfl,K.next⟩,.tuple .nil,?_⟩
  ·obtain ⟨t,ht,rfl⟩:=List.mem_map.1 hy
   rw [<-L];exact List.mem_map_of_mem (aqU.mem_iff.1 ht)
  ·rw [C,fC]
   have:=Dg os.toList R';simpa [sortWorldK,putRowK] using this
 generalize N:es.length=n at r key;generalize kM:dD es=cs at r key;obtain ⟨x1,x2,rfl,s,W⟩:=Y.two;obtain ⟨a',b',rfl,T,S⟩:=qO W;cases T;cases S;cases r with
 | nil=>
   cases s with
   | nilSlice c=>
     have F:Calls (pf ()) dL ⟨[.slice none 0 0,.func (.func 243) #[] #[]]⟩ w λe w'=>e = .returned (.tuple #[])/\w'=w:=Tryz.Mt 0 w;refine Good.fQ Tryz.func280 rfl rfl (F.mono λe w' ⟨A,C⟩=>⟨_,A,?_⟩);have kG:es=[]:=by cases es with | nil=>rfl | cons a b=>cases N
     subst kG;exact ⟨.tuple [],h,ρ,J [] h rfl (by simp) .nil (Mod.refl _ _) I,Step.refl _ _,.tuple .nil,C▸R⟩
 | ends g hlen=>
   cases s with
   | @sliceEnd _ b _ _ size c f gb HQ=>
     exact key _ b c g f rfl λh' ys hy m=>by rw [hy];exact .ends m (by rw [jU,hy])
 | exact g hlen=>
   cases s with
   | @slice _ b _ _ c f=>
     exact key _ b _ g f rfl λh' ys hy m=>by rw [hy];exact .exact m (by rw [jU,hy])
theorem ahQ {f:Lb}{m:bH}{c:Nat}(j:Wf h)(S:rF h f m c)(Io:m.length<=1000000000){Q:V->H->Prop} (p:∀a (es:EL) h',aG h' 55 2 a es.length (dD es)->es.length<=m.length->(∀e∈es,e.1.length<=1000000)->Fr h a->Mod h h' []->Wf h'->Q a h'):CW pf G0 ot [.map f] h Q:=by
 refine zo.enter (by kernel_rfl) ?_;cbv;refine Be.enter (by kernel_rfl) ?_;cbv;refine .flat rfl ?_;cbv;refine .of j λB C A F d k=>?_;cbv;refine rS.enter (by kernel_rfl) ?_;cbv;refine vF.enter (by kernel_rfl) ?_;cbv;refine Hd k (S.mono d) Io A λa es y q D n JE i w=>?_;have G:Mod h y []:=(d.trans i).mono λl o _ b=>by simp at b
 have g:Fr h a:=λl b=>aj d (by simp) (JE l b);cbv;refine abG w q (by omega) λu h3 E r z v x=>?_;cbv;exact p a u h3 z (by omega) (λe s=>n e (r e s)) g (G.fr v λl b=>.inl (g l b)) x
end K
namespace K
open Go Go.Dx Go.RowKit Go.Proofs
set_option maxRecDepth 100000
variable{es:EL}{h:H}
theorem Oe (m:bH)(k:List Nat)(v:V)(c:Nat):(gY (dt m k v c) k).length<=m.length:=by
 induction m with
 | nil=>simp [dt,gY]
 | cons e r ih=>
   obtain ⟨x,w,b⟩:=e;simp only [dt];split
   ·rename_i e
    subst e;simp [gY]
   ·rename_i e
    simp only [gY,if_neg e,List.length_cons];omega
theorem Vd {J s:V}{ops:List FI}(N:Wf h)(hs:Sl h 2 J es.length (dD es))(B:XU es)(ho:Sl h 3 s ops.length (xF ops))(hol:ops.length<=1000000)(Z:∀o∈ops,o.key.length<=1000000) {Q:V->H->Prop} (R:∀rv (f:EL) h',aG h' 55 2 rv f.length (dD f)->f.length<=es.length+(ops.filter λo=>!o.gone).length->(∀e∈f,e.1.length<=1000000)->Fr h rv->Mod h h' []->Wf h'->Q rv h'):CW pf G0 wq [J,s] h Q:=by
 have u:=B.tr;refine IM.enter (by kernel_rfl) ?_;cbv;refine ajq N hs (by omega) B.keys λp W c0 h1 S1 Io FC u O=>?_;cbv;refine .of (ho.mono u) λn fg hn=>?_;cbv;refine .inv [p5,YB,p11,SB] (λF P h'=>∃(x:Int) (m:bH) (c:Nat),P=[.map p,s,.int .i64 n,.int .i64 x]/\0<=x/\x.toNat<=ops.length/\F=ops.length - x.toNat/\m.length<=es.length+((ops.take x.toNat).filter λo=>!o.gone).length/\rF h' p m c/\Mod h h' []/\Wf h') [_,_,_,_] rfl _
  ⟨0,W,c0,rfl,by omega,by simp,rfl,by simpa using Io,S1,u,O⟩ ?_
 rintro F _ h2 ⟨x,m,c,rfl,Y,hx,eF,r,S2,av,G⟩;cbv;refine .lt (λbA=>?_) λjl=>?_
 ·obtain ⟨o,d⟩:∃o,ops[x.toNat]? =some o:=⟨_,List.getElem?_eq_getElem (by omega)⟩
  have S:=Z o (List.mem_of_getElem? d);have Ik:((ops.take (x.toNat+1)).filter λo=>!o.gone).length=((ops.take x.toNat).filter λo=>!o.gone).length+(if o.gone then 0 else 1):=by
   rw [List.take_add_one,d,List.filter_append,List.length_append];obtain ⟨k,g,v⟩:=o;cases g<;>simp
  obtain ⟨k,g,v⟩:=o;cbv;refine .of (ho.mono av) Y rfl (by omega) (Fs ops _ _ d) λq off heq=>?_;cbv;refine .jC heq rfl ?_;cbv;refine .of G λle h3 L t j y=>?_;cbv;refine .of (cs:=[.str k,.bool g,.str v]) y L rfl rfl rfl rfl rfl rfl λh4 Ay C X=>?_;have fe:=aj av (by simp) t;have z:p≠le:=λe=>by subst e;rw [S2.get] at t;cases t
  have S4:=(S2.mono j).mono C (by simpa using z);have aC:Mod h h4 []:=((av.trans j).fr C λl a=>by simp at a;subst a;exact .inl fe).mono λl o _ a=>by simp at a
  cbv;refine .of Ay rfl ?_;cbv;refine .of Ay rfl ?_;cbv;refine .of Ay rfl ?_;cbv;refine .flat rfl ?_;cbv;refine .flat rfl ?_;cbv;refine .of X S4.get λM Ap bf D=>?_;have E:Mod h M []:=aC.fr bf λl a=>by simp at a;subst a;exact .inl FC
  have S5:=S4.set S Ap;have MR:=bf.get Ay (by simpa using Ne.symm z);cbv;refine .of MR rfl ?_;cases g
  ·have:=Mn m k (.agg [.str k,.str v]) c
   simp only [Bool.false_eq_true,if_false] at Ik;cbv;refine .add (by omega) (by omega) λx2 T=>?_;have w:x2.toNat=x.toNat+1:=by omega
   have WJ:(dt m k (.agg [.str k,.str v]) c).length<=es.length+((ops.take x2.toNat).filter λo=>!o.gone).length:=by rw [w,Ik];omega
   cbv;exact ⟨rfl,ops.length - x2.toNat,by omega,x2,_,_,rfl,by omega,by omega,rfl,WJ,S5,E,D⟩
  ·cbv;refine .of MR rfl ?_
   cbv;refine .of D S5.get λU H4 K cz=>?_;have bQ:Mod h U []:=E.fr K λl a=>by simp at a;subst a;exact .inl FC
   have:=Oe m k (.agg [.str k,.str v]) c;simp only [if_true] at Ik;cbv;refine .add (by omega) (by omega) λx2 T=>?_;have w:x2.toNat=x.toNat+1:=by omega
   have WJ:(gY (dt m k (.agg [.str k,.str v]) c) k).length<=es.length+((ops.take x2.toNat).filter λo=>!o.gone).length:=by rw [w,Ik];omega
   cbv;exact ⟨rfl,ops.length - x2.toNat,by omega,x2,_,_,rfl,by omega,by omega,rfl,WJ,S5.del H4,bQ,cz⟩
 ·rw [List.take_of_length_le (by omega)] at r
  have fK:(ops.filter λo=>!o.gone).length<=ops.length:=List.length_filter_le _ _;cbv;refine ahQ G S2 (by omega) λrv f h3 jv gQ V9 J9 j y=>?_;cbv;exact R rv f h3 jv (by omega) V9 (λl a=>aj av (by simp) (J9 l a)) ((av.trans j).mono λl o _ a=>by simp at a) y
theorem aju {u:V}{kind:Int}{PF M name text:List Nat}(x:Wf h)(C:HE h)(hs:Sl h 2 u es.length (dD es))(f:XU es)(i:PF.length<=1000000)(hi:M.length<=1000000)(v:name.length<=1000000){Q:V->H->Prop}
  (q:∀rv (K:EL) err h',(err = .nilIface\/∃a y,err=FP a y)->aG h' 55 2 rv K.length (dD K)->K.length<=es.length+1->(∀e∈K,e.1.length<=1000000)->Fr h rv->Mod h h' []->Wf h'->Q (.tuple [rv,err]) h'):
  CW pf G0 EB [u,.str PF,Mu kind M name text] h Q:=by
 refine Rg.enter (by kernel_rfl) ?_;cbv;refine .agg ?_;cbv;refine .of x λF B E J L z=>?_;cbv;refine .of E rfl ?_;have I:=f.tr;cbv;refine Mr z (C.mono L) (hs.mono L) f i hi v (λa y t _ _ p k=>?_) λG ops t N T _ _ p JE k=>?_
 all_goals
  have d:Mod h t []:=(L.trans p).mono λl o _ b=>by simp at b
 ·cbv;refine Vd (ops:=[]) k (hs.mono d) f (aG.nil (e:=0)).sl (by simp) (by simp) λrv K h3 n s V9 J9 j m=>?_
  cbv;exact q rv K (FP a y) h3 (.inr ⟨a,y,rfl⟩) n (by simp at s;omega) V9 (λl b=>aj d (by simp) (J9 l b)) ((d.trans j).mono λl o _ b=>by simp at b) m
 ·have B:=T.tr
  have D:=T.aw8;cbv;refine Vd k (hs.mono d) f N.sl (by omega) (λo w=>(T.each o w).1) λrv K h3 n s V9 J9 j m=>?_;cbv;exact q rv K .nilIface h3 (.inl rfl) n (by omega) V9 (λl b=>aj d (by simp) (J9 l b)) ((d.trans j).mono λl o _ b=>by simp at b) m
end K
namespace K
open Go Go.Dx Go.RowKit
set_option maxRecDepth 100000
structure ep where
 af:List Nat
 id:Int
 kind:Int
 aE:List Nat
 name:List Nat
 text:List Nat
def cx:List ep->List V
 | []=>[]
 | x::r=>.str x.af :: .int .i64 x.id :: .int .i64 x.kind :: .str x.aE :: .str x.name :: .str x.text::cx r
theorem oH:∀(a b:List ep),cx (a++b)=cx a++cx b
 | [],b=>rfl
 | x::r,b=>by simp only [List.cons_append,cx,oH r b]
theorem dP:∀(l:List ep) (i:Nat) (x:ep),l[i]? =some x->rowFrom (cx l) (i*6) 6=some [.str x.af,.int .i64 x.id,.int .i64 x.kind,.str x.aE,.str x.name,.str x.text]
 | [],i,x,h=>by simp at h
 | y::r,0,x,h=>by simp at h;subst h;rfl
 | y::r,i+1,x,h=>by
   have:=dP r i x (by simpa using h);rw [show (i+1)*6=i*6+1+1+1+1+1+1 by omega];exact this
theorem ka:∀l:List ep,aZ (cx l)=true
 | []=>rfl
 | x::r=>by simp [cx,aZ,cf,ka r]
end K
namespace K
open Go Go.Dx Go.RowKit
set_option maxRecDepth 100000
theorem dM:∀(i:Nat) (vs:List V),bz i vs=vs.drop i
 | 0,vs=>by simp [bz]
 | i+1,[]=>by simp [bz]
 | i+1,v::vs=>by simp only [bz,List.drop_succ_cons];exact dM i vs
theorem Dh:∀(k:Nat) (vs:List V),k<=vs.length->takeN k vs=some (vs.take k)
 | 0,vs,_=>by simp [takeN]
 | k+1,[],h=>by simp at h
 | k+1,v::vs,h=>by simp only [takeN,Dh k vs (by simpa using h),ob,List.take_succ_cons]
theorem PL:∀(l:List ep) (i:Nat),(cx l).drop (i*6)=cx (l.drop i)
 | l,0=>by simp
 | [],i+1=>by simp [cx]
 | x::r,i+1=>by rw [show (i+1)*6=i*6+1+1+1+1+1+1 by omega];simp only [cx,List.drop_succ_cons];exact PL r i
theorem zS:∀(l:List ep) (i:Nat),(cx l).take (i*6)=cx (l.take i)
 | l,0=>by simp [cx]
 | [],i+1=>by simp [cx]
 | x::r,i+1=>by rw [show (i+1)*6=i*6+1+1+1+1+1+1 by omega];simp only [cx,List.take_succ_cons];rw [zS r i]
end K
namespace K
open Go Go.Dx Go.RowKit
set_option maxRecDepth 100000
variable{h:H}
theorem rG {n:Int}{Q:V->H->Prop} (c:0<=n->n<=1099511627776->Q (.bool true) h) (b:(n<0\/1099511627776<n)->Q (.bool false) h):CW pf G0 Ew [.int .i64 n] h Q:=by
 refine Rb.enter (by kernel_rfl) ?_;cbv;refine .ge (λh0=>?_) λh0=>?_
 ·cbv;refine .le (λa=>?_) λa=>?_
  ·cbv;exact c h0 a
  ·cbv;exact b (.inr a)
 ·cbv;exact b (.inl h0)
theorem ae' {kind a b c d:Int}{r:List Nat}{u:V}{n:Nat}{cs:List V}(x:Wf h)(hs:Sl h 6 u n cs){Q:V->H->Prop}
  (w:∀h',r=[]->a=0->b=0->c=0->d=0->n=0->Mod h h' []->Wf h'->Q (.bool true) h') (i:∀h',¬(r=[]/\a=0/\b=0/\c=0/\d=0/\n=0)->Mod h h' []->Wf h'->Q (.bool false) h'):CW pf G0 Lw [.agg [.int .i64 kind,.str r,.int .i64 a,.int .i64 b,.int .i64 c,.int .i64 d,u]] h Q:=by
 refine Xm.enter (by kernel_rfl) ?_;cbv;refine .agg ?_;cbv;refine .of x λl g j z e f=>?_;cbv;refine .of j rfl ?_;cbv;refine .seq (λm=>?_) λm=>?_
 ·cbv;refine .of j rfl ?_
  cbv;refine .eq (λt=>?_) λt=>?_
  ·cbv;refine .of j rfl ?_
   cbv;refine .eq (λo=>?_) λo=>?_
   ·cbv;refine .of j rfl ?_
    cbv;refine .eq (λp=>?_) λp=>?_
    ·cbv;refine .of j rfl ?_
     cbv;refine .eq (λs=>?_) λs=>?_
     ·cbv;refine .of j rfl ?_
      cbv;refine .of (hs.mono e (by simp)) λk A y=>?_;cbv;refine .eq (λv=>?_) λv=>?_
      ·cbv;exact w g m t o p s (by omega) e f
      ·cbv;exact i g (λq=>v (by omega)) e f
     ·cbv;exact i g (λq=>s q.2.2.2.2.1) e f
    ·cbv;exact i g (λq=>p q.2.2.2.1) e f
   ·cbv;exact i g (λq=>o q.2.2.1) e f
  ·cbv;exact i g (λq=>t q.2.1) e f
 ·cbv;exact i g (λq=>m q.1) e f
end K
namespace K
open Go Go.Dx Go.RowKit Go.Proofs
set_option maxRecDepth 100000
variable{h:H}
structure mr (x:ep):Prop where
 af:isName x.af
 id:1<=x.id
 m:abw x.kind x.aE x.name x.text
theorem mr.Bt {x:ep}(m:mr x):x.af.length<=24/\x.aE.length<=24/\x.name.length<=24:=⟨m.af.2.2,m.m.Bt.1,m.m.Bt.2.1⟩
theorem mr.text {x:ep}(m:mr x):x.text.length<=512:=m.m.Bt.2.2
structure MQ (x:ep):Prop where
 af:x.af.length<=9223372036854775807
 aE:x.aE.length<=9223372036854775807
 name:x.name.length<=9223372036854775807
 id:i64 x.id
abbrev afa (x:ep):V:=.agg [.str x.af,.int .i64 x.id,.int .i64 x.kind,.str x.aE,.str x.name,.str x.text]
theorem Zr {x:ep}(v:Wf h)(A:MQ x){Q:V->H->Prop} (k:∀h',¬mr x->Mod h h' []->Wf h'->Q (.bool false) h') (B:∀h',mr x->Mod h h' []->Wf h'->Q (.bool true) h'):CW pf G0 O7 [afa x] h Q:=by
 obtain ⟨I,id,kind,E,name,text⟩:=x;obtain ⟨w,p,l,u⟩:=A;dsimp only at w p l u;refine aaO.enter (by kernel_rfl) ?_;cbv;refine .agg ?_;cbv;refine .of v λC D s G J y=>?_;cbv;refine .of s rfl ?_;cbv;refine dW y (by omega) (λb c d a=>?_) λb c d a=>?_
 all_goals
  have f:Mod h b []:=(J.trans d).mono λx o _ i=>by simp at i
 ·have t:=d.get s
  cbv;refine .of t rfl ?_;cbv;refine .ge (λe=>?_) λe=>?_
  ·cbv;refine .of t rfl ?_
   cbv;refine U6 a p l (λr h3 g F q j=>?_) λh3 g q j=>?_
   all_goals
    have n:Mod h h3 []:=(f.trans q).mono λx o _ i=>by simp at i
   ·cbv;refine .DF (by omega) ?_
    cbv;exact k h3 (λm=>g m.m) n j
   ·cbv;refine .QP (by omega) ?_
    cbv;exact B h3 ⟨c,e,g⟩ n j
  ·cbv;exact k b (λm=>by have:=m.id;dsimp only at this;omega) f a
 ·cbv;exact k b (λm=>c m.af) f a
theorem Mw {v:V}{l:List ep}(B:Wf h)(hs:Sl h 6 v l.length (cx l))(K:∀x∈l,MQ x) (a:l.length<=1000000) {Q:V->H->Prop} (u:∀h',¬(l.length<=8/\∀x∈l,mr x)->Mod h h' []->Wf h'->Q (.bool false) h') (L:∀h',l.length<=8->(∀x∈l,mr x)->Mod h h' []->Wf h'->Q (.bool true) h'):CW pf G0 Ey [v] h Q:=by
 refine Rc.enter (by kernel_rfl) ?_;cbv;refine .of hs λn P O=>?_;cbv;refine .inv [p0,p5,p6,p7] (λs C h'=>∃i:Int,C=[v,v,.int .i64 n,.int .i64 i]/\0<=i/\i.toNat<=l.length/\s=l.length - i.toNat/\(∀x∈l.take i.toNat,mr x)/\Mod h h' []/\Wf h') [_,_,_,_] rfl _ ⟨0,rfl,by omega,by simp,rfl,by simp,Mod.refl _ _,B⟩ ?_;rintro s _ r ⟨i,rfl,M,hi,U,c,Z,d⟩;cbv;refine .lt (λS=>?_) λW=>?_
 ·obtain ⟨x,f⟩:∃x,l[i.toNat]? =some x:=⟨_,List.getElem?_eq_getElem (by omega)⟩
  have DH:=List.mem_of_getElem? f;cbv;refine .of (hs.mono Z) M rfl (by omega) (dP l _ _ f) λq off E=>?_;cbv;refine .jC E rfl ?_;cbv;refine .of d λle T F D z I=>?_;have N:=aj Z (by simp) D;cbv;refine .of (cs:=[.str x.af,.int .i64 x.id,.int .i64 x.kind,.str x.aE,.str x.name,.str x.text]) I F rfl rfl rfl rfl rfl rfl λh3 w G J=>?_;have aN:Mod h h3 []:=((Z.trans z).fr G λl a=>by simp at a;subst a;exact .inl N).mono λl o _ a=>by simp at a
  cbv;refine .of w rfl ?_;cbv;refine Zr J (K x DH) (λh4 g p m=>?_) λh4 g p m=>?_
  all_goals
   have t:Mod h h4 []:=(aN.trans p).mono λl o _ a=>by simp at a
  ·cbv;exact u h4 (λq=>g (q.2 x DH)) t m
  ·cbv;refine .add (by omega) (by omega) λj Y=>?_
   cbv;exact ⟨rfl,l.length - j.toNat,by omega,j,rfl,by omega,by omega,rfl,(λy hy=>by
    rw [show j.toNat=i.toNat+1 by omega,List.take_add_one,f] at hy;rcases List.mem_append.1 hy with q | q
    ·exact c y q
    ·simp at q;subst q;exact g),t,m⟩
 ·rw [List.take_of_length_le (by omega)] at c
  cbv;refine .of (hs.mono Z) λk X R=>?_;cbv;refine .le (λe=>?_) λe=>?_
  ·cbv;exact L r (by omega) c Z d
  ·cbv;exact u r (λq=>by have:=q.1;omega) Z d
end K
namespace K
open Go Go.Dx Go.RowKit Go.Proofs
set_option maxRecDepth 100000
structure xH (c:List Nat)(l:List ep):Prop where
 af:isName c
 some:l≠[]
 tr:l.length<=8
 each:∀x∈l,x.af=c/\mr x
 next:∀(i:Nat) x y,l[i]? = .some x->l[i+1]? = .some y->y.id - 1=x.id
theorem Zs {x:Int}(h:i64 x)(c:1<=x):bU .i64 (x - 1)=x - 1:=by
 obtain ⟨a,b⟩:=h;exact qq (by omega) (by omega)
theorem afb {h:H}{kind a b c d:Int}{af:List Nat}{R:V}{l:List ep}(hw:Wf h)(hs:Sl h 6 R l.length (cx l))(hz:∀x∈l,MQ x) (m:l.length<=1000000) (FB:af.length<=9223372036854775807) {Q:V->H->Prop}
  (M:∀h',¬xH af l->Mod h h' []->Wf h'->Q (.bool false) h') (bN:∀h',xH af l->Mod h h' []->Wf h'->Q (.bool true) h'):
  CW pf G0 Lv [.agg [.int .i64 kind,.str af,.int .i64 a,.int .i64 b,.int .i64 c,.int .i64 d,R]] h Q:=by
 have hlf:=hs.flat;refine Xl.enter (by kernel_rfl) ?_;cbv;refine .agg ?_;cbv;refine .of hw λX h1 cw gi ar aK=>?_;cbv;refine .of cw rfl ?_;cbv;refine .of (hs.mono ar) λn fg hn=>?_;cbv;refine .inv [p1,p6,p7,p8] (λm' aB h'=>∃i:Int,aB=[.ptr X 0,R,.int .i64 n,.int .i64 i]/\0<=i/\i.toNat<=l.length/\m'=l.length - i.toNat/\(∀x∈l.take i.toNat,x.af=af)/\(∀(k:Nat) x y,k+1<i.toNat->l[k]? =some x->l[k+1]? =some y->bU .i64 (y.id - 1)=x.id)/\h'.get X=some (.cells [.int .i64 kind,.str af,.int .i64 a,.int .i64 b,.int .i64 c,.int .i64 d,R] 33 0 .yes)/\Mod h h' []/\Wf h') [_,_,_,_] rfl _ ⟨0,rfl,by omega,by simp,rfl,by simp,λk x y D=>by simp at D,cw,ar,aK⟩ ?_;rintro m' _ h2 ⟨i,rfl,iB,hi,eF,U,Nc,S,av,aO⟩;cbv;refine .lt (λbA=>?_) λjl=>?_
 ·obtain ⟨x,s⟩:∃x,l[i.toNat]? =some x:=⟨_,List.getElem?_eq_getElem (by omega)⟩
  have DH:=List.mem_of_getElem? s;cbv;refine .of (hs.mono av) iB rfl (by omega) (dP l _ _ s) λq off he=>?_;cbv;refine .jC he rfl ?_;cbv;refine .of aO λle h3 xJ Y G I=>?_;have fe:=aj av (by simp) Y;have FH:X≠le:=λe=>by subst e;rw [S] at Y;cases Y
  cbv;refine .of (cs:=[.str x.af,.int .i64 x.id,.int .i64 x.kind,.str x.aE,.str x.name,.str x.text]) I xJ rfl rfl rfl rfl rfl rfl λh4 Ay K v=>?_;have P:=K.get (G.get S) (by simpa using FH);have A:Mod h h4 []:=((av.trans G).fr K λl m=>by simp at m;subst m;exact .inl fe).mono λl o _ m=>by simp at m
  cbv;refine .of follows 8 ?_;cbv;refine .of Ay rfl ?_;cbv;refine .of P rfl ?_;cbv;refine .sne (λW=>?_) λW=>?_
  ·have Zt:∀y∈l.take (i.toNat+1),y.af=af:=λy hy=>by
    rw [List.take_add_one,s] at hy;rcases List.mem_append.1 hy with q | q
    ·exact U y q
    ·simp at q;subst q;exact W
   cbv;refine .gt (λQr=>?_) λhz0=>?_
   ·obtain ⟨z,F⟩:∃z,l[i.toNat - 1]? =some z:=⟨_,List.getElem?_eq_getElem (by omega)⟩
    cbv;refine .of Ay rfl ?_;cbv;refine .Ll λy hy=>?_;cbv;refine .of P rfl ?_;cbv;refine .sub (by omega) (by omega) λj hj=>?_;have Z:l[j.toNat]? =some z:=by rw [<-F];congr 1;omega
    cbv;refine .of (hs.mono A) (by omega) rfl (by omega) (dP l _ _ Z) λq2 xO uE=>?_;cbv;refine .fR uE 1 rfl ?_;cbv;refine .ne (λT=>?_) λT=>?_
    ·have C:∀(k:Nat) u w,k+1<i.toNat+1->l[k]? =some u->l[k+1]? =some w->bU .i64 (w.id - 1)=u.id:=λk u w D N E=>by
      by_cases e1:k+1<i.toNat
      ·exact Nc k u w e1 N E
      ·have e2:k=i.toNat - 1:=by omega
       subst e2;rw [F] at N;rw [show i.toNat - 1+1=i.toNat by omega,s] at E;cases N;cases E;rw [<-hy];exact T
     cbv;refine .add (by omega) (by omega) λB JG=>?_;have f:B.toNat=i.toNat+1:=by omega
     cbv;exact ⟨rfl,l.length - B.toNat,by omega,B,rfl,by omega,by omega,rfl,by rw [f];exact Zt,by rw [f];exact C,P,A,v⟩
    ·have bad:¬xH af l:=λp=>by
      have h1:=(p.each x DH).2.id;have h2:=Zs (hz x DH).id h1;have h3:=p.next (i.toNat - 1) z x F (by rw [show i.toNat - 1+1=i.toNat by omega];exact s);exact T (by rw [hy,h2];exact h3)
     cbv;exact M h4 bad A v
   ·have C:∀(k:Nat) u w,k+1<i.toNat+1->l[k]? =some u->l[k+1]? =some w->bU .i64 (w.id - 1)=u.id:=λk u w D=>by omega
    cbv;refine .add (by omega) (by omega) λB JG=>?_;have f:B.toNat=i.toNat+1:=by omega
    cbv;exact ⟨rfl,l.length - B.toNat,by omega,B,rfl,by omega,by omega,rfl,by rw [f];exact Zt,by rw [f];exact C,P,A,v⟩
  ·have bad:¬xH af l:=λp=>W (p.each x DH).1
   cbv;exact M h4 bad A v
 ·rw [List.take_of_length_le (by omega)] at U
  cbv;refine .of S rfl ?_;cbv;refine dW aO (by omega) (λh3 NV G I=>?_) λh3 NV G I=>?_
  all_goals
   have J:Mod h h3 []:=(av.trans G).mono λl o _ m=>by simp at m
   have gZ:=G.get S
  ·cbv;refine .of gZ rfl ?_
   cbv;refine .of (hs.mono J) λk zQ D=>?_;cbv;refine .gt (λe=>?_) λe=>?_
   ·cbv;refine .of gZ rfl ?_
    cbv;refine Mw I (hs.mono J) hz m (λh4 g K v=>?_) λh4 g1 g2 K v=>?_
    all_goals
     have A:Mod h h4 []:=(J.trans K).mono λl o _ m=>by simp at m
    ·cbv;exact M h4 (λp=>g ⟨p.tr,λx s=>(p.each x s).2⟩) A v
    ·have good:xH af l:=⟨NV,λe0=>by rw [e0] at D;simp at D;omega,g1,λx s=>⟨U x s,g2 x s⟩,λk u w N E=>by
      have L:=List.mem_of_getElem? E;rw [<-Zs (hz w L).id (g2 w L).id];exact Nc k u w (by have:=(List.getElem?_eq_some_iff.1 E).1;omega) N E⟩
     cbv;exact bN h4 good A v
   ·cbv;exact M h3 (λp=>by have:=p.some;exact this (by cases l with | nil=>rfl | cons x r=>simp at D;omega)) J I
  ·cbv;exact M h3 (λp=>NV p.af) J I
end K
namespace K
open Go Go.Dx Go.RowKit Go.Proofs
set_option maxRecDepth 100000
variable{lv:V}{af:List Nat}{h:H}
def zL (n:Int):Prop:=0<=n/\n<=1099511627776
inductive sL (kind:Int)(af:List Nat)(from_ az last top:Int)(l:List ep):Prop
 | push (hk:kind=1) (h:xH af l) (h2:from_=0) (h3:az=0) (h4:last=0) (h5:top=0)
 | X3 (hk:kind=2) (h:0<=last) (h1:zL top) (h2:af=[]) (h3:from_=0) (h4:az=0) (h5:l=[])
 | pull (hk:kind=3) (h:isName af) (h1:zL az) (h2:from_=0) (h3:last=0) (h4:top=0) (h5:l=[])
 | patch (hk:kind=4) (h:zL from_) (h1:zL top) (h2:0<=last) (h3:az<=top) (h4:az - from_=l.length) (h5:l.length<=8) (h6:∀x∈l,mr x) (h7:af=[])
 | ami (hk:kind=5) (h:zL top) (h1:af=[]) (h2:from_=0) (h3:az=0) (h4:last=0) (h5:l=[])
noncomputable def afd:DC:=ja (ja (ja (ja H0.code)))
def afe (af:List Nat)(a b c d:Int)(n:Nat):Prop:=af=[]/\a=0/\b=0/\c=0/\d=0/\n=0
theorem abH {le:Lb}{e:Bool}{kind a b c d:Int}{n:Nat}{cs:List V}(l:Wf h)(hs:Sl h 6 lv n cs)(t:h.get le=some (.cells [.int .i64 kind,.str af,.int .i64 a,.int .i64 b,.int .i64 c,.int .i64 d,lv] 33 0 .yes)){Q:V->H->Prop}
  (k:∀h',¬(e=true/\afe af a b c d n)->Mod h h' []->Wf h'->Q (.int .i64 130) h') (o:∀h',e=true->afe af a b c d n->Mod h h' []->Wf h'->Q (.int .i64 0) h'):
  I3 pf G0 94 afd {tmps:=gU [p3,p4] [.ptr le 0,.bool e],defers:=[]} h (tw pf G0 [.tmp p2] Q) λ_ _ _=>False:=by
 refine .of ?_;cases e
 ·cbv;exact k h (λq=>by cases q.1) (Mod.refl _ _) l
 ·cbv;refine .of t rfl ?_
  cbv;refine ae' l hs (λi m v p r u s j f=>?_) λi g j f=>?_
  ·cbv;exact o i rfl ⟨m,v,p,r,u,s⟩ j f
  ·cbv;exact k i (λq=>g q.2) j f
theorem zR {kind from_ c last top:Int}{l:List ep}(hw:Wf h)(hs:Sl h 6 lv l.length (cx l))(hz:∀x∈l,MQ x) (s:l.length<=1000000) (FB:af.length<=9223372036854775807) (P7:i64 c) {Q:V->H->Prop}
  (bJ:∀h',¬sL kind af from_ c last top l->Mod h h' []->Wf h'->Q (.int .i64 130) h') (bN:∀h',sL kind af from_ c last top l->Mod h h' []->Wf h'->Q (.int .i64 0) h'):
  CW pf G0 HT [.agg [.int .i64 kind,.str af,.int .i64 from_,.int .i64 c,.int .i64 last,.int .i64 top,lv]] h Q:=by
 have hlf:=hs.flat;refine Uz.oM (by kernel_rfl) ?_;refine .seq (.of ?_);cbv;refine .agg ?_;cbv;refine .of hw λlb h1 cw gi ar aK=>?_;cbv;refine .seq (.of ?_);cbv;refine .of cw rfl ?_;cbv;refine .of aK λle h2 uE mS av aO=>?_;have FH:lb≠le:=λe=>by subst e;rw [cw] at mS;cases mS
 have fe:=aj ar (by simp) mS;cbv;refine .of (cs:=[.int .i64 kind,.str af,.int .i64 from_,.int .i64 c,.int .i64 last,.int .i64 top,lv]) aO uE rfl rfl rfl rfl (by show (true&&(true&&(true&&(true&&(true&&(true&&(cf lv&&true)))))))=true;rw [hlf];rfl) rfl λh3 P aI W=>?_;have U:=aI.get (av.get cw) (by simpa using FH);have N:Mod h h3 []:=((ar.trans av).fr aI λl s=>by simp at s;subst s;exact .inl fe).mono λl o _ s=>by simp at s
 clear ar av aI;have go:∀(a:A) (ok:Bool) (h4:H) (cl:List Nat) (E X M e4:Int) (K:V) (n:Nat) (cs:List V),([p3,p4].map λp=>a.tmps.get p)=[V.ptr le 0,.bool ok].map some->a.defers=[]->Mod h h4 []->Wf h4->Sl h4 6 K n cs->h4.get le=some (.cells [.int .i64 kind,.str cl,.int .i64 E,.int .i64 X,.int .i64 M,.int .i64 e4,K] 33 0 .yes)->(ok=true/\afe cl E X M e4 n<->sL kind af from_ c last top l)->I3 pf G0 94 afd a h4 (tw pf G0 [.tmp p2] Q) λ_ _ _=>False:=λa ok h4 cl E X M e4 K n cs hv hd j t Xu Ay aqW=>by
  obtain ⟨tm,df⟩:=a;cases hd;exact .weak [p3,p4] hv (abH t Xu Ay (λh' g eF dO=>bJ h' (λq=>g (aqW.2 q)) ((j.trans eF).mono λx o _ b=>by simp at b) dO) λh' g1 g2 eF dO=>bN h' (aqW.1 ⟨g1,g2⟩) ((j.trans eF).mono λx o _ b=>by simp at b) dO)
 have v:∀x,x∈[le]->h.get x=none:=λx b=>by simp at b;subst b;exact fe
 have RT:∀h4,Sl h4 6 (.nilSlice 0) 0 []:=λh4=>(aG.nil (h:=h4) (e:=0) (size:=6)).sl;have l0:l.length=0<->l=[]:=by cases l<;>simp
 cbv;refine .seq (.of ?_);cbv;refine .seq (.of ?_);cbv;refine .of U rfl ?_;cbv;refine .eq (λk1=>?_) λk1=>?_
 ·subst k1
  cbv;refine .one (vs':=[.int .i64 1,.str [],.int .i64 from_,.int .i64 c,.int .i64 last,.int .i64 top,lv]) W P rfl rfl rfl rfl λh4 Ay j t=>?_;have F:=j.get U (by simpa using FH);have aC:Mod h h4 []:=N.fr j λx b=>.inl (v x b);cbv;refine .one (vs':=[.int .i64 1,.str [],.int .i64 from_,.int .i64 c,.int .i64 last,.int .i64 top,.nilSlice 0]) t Ay rfl rfl rfl rfl λD MR B J=>?_;have G:=B.get F (by simpa using FH);have m:Mod h D []:=aC.fr B λx b=>.inl (v x b);cbv;refine .of G rfl ?_;cbv;refine afb J (hs.mono m) hz s FB (λd g C k=>?_) λd g C k=>?_
  all_goals
   have dT:Mod h d []:=(m.trans C).mono λl o _ s=>by simp at s
   have XI:=C.get MR
  ·skip
   cbv;exact go _ false d [] from_ c last top (.nilSlice 0) 0 [] rfl rfl dT k (RT d) XI (⟨λq=>(by cases q.1),λq=>by cases q<;>first | exact absurd (by assumption) g | omega⟩)
  ·skip
   cbv;exact go _ true d [] from_ c last top (.nilSlice 0) 0 [] rfl rfl dT k (RT d) XI (⟨λq=>.push rfl g q.2.2.1 q.2.2.2.1 q.2.2.2.2.1 q.2.2.2.2.2.1,λq=>by cases q<;>first | exact ⟨rfl,rfl,by assumption,by assumption,by assumption,by assumption,rfl⟩ | omega⟩)
 cbv;refine .eq (λk2=>?_) λk2=>?_
 ·subst k2
  cbv;refine .one (vs':=[.int .i64 2,.str af,.int .i64 from_,.int .i64 c,.int .i64 0,.int .i64 top,lv]) W P rfl rfl rfl rfl λh4 Ay j t=>?_;have F:=j.get U (by simpa using FH);have aC:Mod h h4 []:=N.fr j λx b=>.inl (v x b);cbv;refine .one (vs':=[.int .i64 2,.str af,.int .i64 from_,.int .i64 c,.int .i64 0,.int .i64 0,lv]) t Ay rfl rfl rfl rfl λD MR B J=>?_;have G:=B.get F (by simpa using FH);have m:Mod h D []:=aC.fr B λx b=>.inl (v x b);cbv;refine .of G rfl ?_;cbv;refine .ge (λE=>?_) λE=>?_
  ·cbv;refine .of G rfl ?_
   cbv;refine rG (λL O=>?_) λw=>?_
   ·skip
    cbv;exact go _ true D af from_ c 0 0 (lv) l.length (cx l) rfl rfl m J (hs.mono m) MR (⟨λq=>.X3 rfl E ⟨L,O⟩ q.2.1 q.2.2.1 q.2.2.2.1 (l0.1 q.2.2.2.2.2.2),λq=>by cases q<;>first | exact ⟨rfl,by assumption,by assumption,by assumption,rfl,rfl,l0.2 (by assumption)⟩ | omega⟩)
   ·skip
    cbv;exact go _ false D af from_ c 0 0 (lv) l.length (cx l) rfl rfl m J (hs.mono m) MR (⟨λq=>(by cases q.1),λq=>by cases q<;>first | omega | (rename_i h1 _ _ _ _;have:=h1.1;have:=h1.2;omega)⟩)
  ·skip
   cbv;exact go _ false D af from_ c 0 0 (lv) l.length (cx l) rfl rfl m J (hs.mono m) MR (⟨λq=>(by cases q.1),λq=>by cases q<;>omega⟩)
 cbv;refine .eq (λk3=>?_) λk3=>?_
 ·subst k3
  cbv;refine .one (vs':=[.int .i64 3,.str [],.int .i64 from_,.int .i64 c,.int .i64 last,.int .i64 top,lv]) W P rfl rfl rfl rfl λh4 Ay j t=>?_;have F:=j.get U (by simpa using FH);have aC:Mod h h4 []:=N.fr j λx b=>.inl (v x b);cbv;refine .one (vs':=[.int .i64 3,.str [],.int .i64 from_,.int .i64 0,.int .i64 last,.int .i64 top,lv]) t Ay rfl rfl rfl rfl λD MR B J=>?_;have G:=B.get F (by simpa using FH);have m:Mod h D []:=aC.fr B λx b=>.inl (v x b);cbv;refine .of G rfl ?_;cbv;refine dW J (by omega) (λd g C k=>?_) λd g C k=>?_
  all_goals
   have dT:Mod h d []:=(m.trans C).mono λl o _ s=>by simp at s
   have XI:=C.get MR;have Jl:=C.get G
  ·cbv;refine .of Jl rfl ?_
   cbv;refine rG (λL O=>?_) λw=>?_
   ·skip
    cbv;exact go _ true d [] from_ 0 last top (lv) l.length (cx l) rfl rfl dT k (hs.mono dT) XI (⟨λq=>.pull rfl g ⟨L,O⟩ q.2.2.1 q.2.2.2.2.1 q.2.2.2.2.2.1 (l0.1 q.2.2.2.2.2.2),λq=>by cases q<;>first | exact ⟨rfl,rfl,by assumption,rfl,by assumption,by assumption,l0.2 (by assumption)⟩ | omega⟩)
   ·skip
    cbv;exact go _ false d [] from_ 0 last top (lv) l.length (cx l) rfl rfl dT k (hs.mono dT) XI (⟨λq=>(by cases q.1),λq=>by cases q<;>first | omega | (rename_i h1 _ _ _ _;have:=h1.1;have:=h1.2;omega)⟩)
  ·skip
   cbv;exact go _ false d [] from_ 0 last top (lv) l.length (cx l) rfl rfl dT k (hs.mono dT) XI (⟨λq=>(by cases q.1),λq=>by cases q<;>first | omega | exact absurd (by assumption) g⟩)
 cbv;refine .eq (λk4=>?_) λk4=>?_
 ·subst k4
  cbv;refine .one (vs':=[.int .i64 4,.str af,.int .i64 0,.int .i64 c,.int .i64 last,.int .i64 top,lv]) W P rfl rfl rfl rfl λh4 Ay j t=>?_;have F:=j.get U (by simpa using FH);have aC:Mod h h4 []:=N.fr j λx b=>.inl (v x b);cbv;refine .one (vs':=[.int .i64 4,.str af,.int .i64 0,.int .i64 0,.int .i64 last,.int .i64 top,lv]) t Ay rfl rfl rfl rfl λD MR B J=>?_;have G:=B.get F (by simpa using FH);have m:Mod h D []:=aC.fr B λx b=>.inl (v x b);cbv;refine .one (vs':=[.int .i64 4,.str af,.int .i64 0,.int .i64 0,.int .i64 0,.int .i64 top,lv]) J MR rfl rfl rfl rfl λh6 Bu bR cz=>?_;have VL:=bR.get G (by simpa using FH);have bQ:Mod h h6 []:=m.fr bR λx b=>.inl (v x b);cbv;refine .one (vs':=[.int .i64 4,.str af,.int .i64 0,.int .i64 0,.int .i64 0,.int .i64 0,lv]) cz Bu rfl rfl rfl rfl λh7 Fg db eJ=>?_;have FG:=db.get VL (by simpa using FH);have cH:Mod h h7 []:=bQ.fr db λx b=>.inl (v x b);cbv;refine .one (vs':=[.int .i64 4,.str af,.int .i64 0,.int .i64 0,.int .i64 0,.int .i64 0,.nilSlice 0]) eJ Fg rfl rfl rfl rfl λd XI C k=>?_;have Jl:=C.get FG (by simpa using FH);have dT:Mod h d []:=cH.fr C λx b=>.inl (v x b);have bad:∀(g:Prop),(zL from_->zL top->0<=last->c<=top->c - from_=l.length->l.length<=8->(∀x∈l,mr x)->False)->¬sL 4 af from_ c last top l:=λ_ f q=>by
   cases q<;>first | omega | exact f (by assumption) (by assumption) (by assumption) (by assumption) (by assumption) (by assumption) (by assumption)
  cbv;refine .of Jl rfl ?_;cbv;refine rG (λL O=>?_) λw=>?_;rotate_left
  ·skip
   cbv;exact go _ false d af 0 0 0 0 (.nilSlice 0) 0 [] rfl rfl dT k (RT d) XI (⟨λq=>(by cases q.1),λq=>(bad True (λa1 a2 a3 Z R Y T=>by have:=a1.1;have:=a1.2;omega) q).elim⟩)
  cbv;refine .of Jl rfl ?_;cbv;refine rG (λw3 w4=>?_) λw=>?_;rotate_left
  ·skip
   cbv;exact go _ false d af 0 0 0 0 (.nilSlice 0) 0 [] rfl rfl dT k (RT d) XI (⟨λq=>(by cases q.1),λq=>(bad True (λa1 a2 a3 Z R Y T=>by have:=a2.1;have:=a2.2;omega) q).elim⟩)
  cbv;refine .of Jl rfl ?_;cbv;refine .ge (λE=>?_) λE=>?_;rotate_left
  ·skip
   cbv;exact go _ false d af 0 0 0 0 (.nilSlice 0) 0 [] rfl rfl dT k (RT d) XI (⟨λq=>(by cases q.1),λq=>(bad True (λa1 a2 a3 Z R Y T=>by omega) q).elim⟩)
  cbv;refine .of Jl rfl ?_;cbv;refine .of Jl rfl ?_;cbv;refine .le (λX=>?_) λX=>?_;rotate_left
  ·skip
   cbv;exact go _ false d af 0 0 0 0 (.nilSlice 0) 0 [] rfl rfl dT k (RT d) XI (⟨λq=>(by cases q.1),λq=>(bad True (λa1 a2 a3 Z R Y T=>by omega) q).elim⟩)
  cbv;refine .of Jl rfl ?_;cbv;refine .of Jl rfl ?_;cbv;refine .Ll λy hy=>?_;cbv;refine .of Jl rfl ?_;cbv;refine .of (hs.mono dT) λu hu0 hu=>?_;have hwr:y=u->c - from_=l.length:=λe=>by
   rw [ma] at hy;have:=P7.1;have:=P7.2;omega
  have axp:c - from_=l.length->y=u:=λe=>by
   rw [ma] at hy;omega
  cbv;refine .eq (λM=>?_) λM=>?_;rotate_left
  ·skip
   cbv;exact go _ false d af 0 0 0 0 (.nilSlice 0) 0 [] rfl rfl dT k (RT d) XI (⟨λq=>(by cases q.1),λq=>(bad True (λa1 a2 a3 Z R Y T=>M (axp R)) q).elim⟩)
  cbv;refine .of Jl rfl ?_;cbv;refine Mw k (hs.mono dT) hz s (λr g L3 L4=>?_) λr g1 g2 L3 L4=>?_
  all_goals
   have H7:Mod h r []:=(dT.trans L3).mono λl o _ s=>by simp at s
   have ae2:=L3.get XI
  ·skip
   cbv;exact go _ false r af 0 0 0 0 (.nilSlice 0) 0 [] rfl rfl H7 L4 (RT r) ae2 (⟨λq=>(by cases q.1),λq=>(bad True (λa1 a2 a3 Z R Y T=>g ⟨Y,T⟩) q).elim⟩)
  ·skip
   cbv;exact go _ true r af 0 0 0 0 (.nilSlice 0) 0 [] rfl rfl H7 L4 (RT r) ae2 (⟨λq=>.patch rfl ⟨L,O⟩ ⟨w3,w4⟩ E X (hwr M) g1 g2 q.2.1,λq=>by cases q<;>first | exact ⟨rfl,by assumption,rfl,rfl,rfl,rfl,rfl⟩ | omega⟩)
 cbv;refine .eq (λk5=>?_) λk5=>?_
 ·subst k5
  cbv;refine .one (vs':=[.int .i64 5,.str af,.int .i64 from_,.int .i64 c,.int .i64 last,.int .i64 0,lv]) W P rfl rfl rfl rfl λh4 Ay j t=>?_;have F:=j.get U (by simpa using FH);have aC:Mod h h4 []:=N.fr j λx b=>.inl (v x b);cbv;refine .of F rfl ?_;cbv;refine rG (λL O=>?_) λw=>?_
  ·skip
   cbv;exact go _ true h4 af from_ c last 0 (lv) l.length (cx l) rfl rfl aC t (hs.mono aC) Ay (⟨λq=>.ami rfl ⟨L,O⟩ q.2.1 q.2.2.1 q.2.2.2.1 q.2.2.2.2.1 (l0.1 q.2.2.2.2.2.2),λq=>by cases q<;>first | exact ⟨rfl,by assumption,by assumption,by assumption,by assumption,rfl,l0.2 (by assumption)⟩ | omega⟩)
  ·skip
   cbv;exact go _ false h4 af from_ c last 0 (lv) l.length (cx l) rfl rfl aC t (hs.mono aC) Ay (⟨λq=>(by cases q.1),λq=>by cases q<;>first | omega | (rename_i h1 _ _ _ _ _;have:=h1.1;have:=h1.2;omega)⟩)
 ·skip
  cbv;exact go _ false h3 af from_ c last top (lv) l.length (cx l) rfl rfl N W (hs.mono N) P (⟨λq=>(by cases q.1),λq=>by cases q<;>omega⟩)
end K
namespace K
open Go Go.Dx Go.RowKit Go.Proofs
set_option maxRecDepth 100000
variable{h:H}
theorem Mx {n:Int}(k:Wf h){Q:V->H->Prop} (c:∀h',Mod h h' []->Wf h'->Q (.agg [.int .i64 2,.int .i64 n,.str [],.nilSlice 0,.nilSlice 0]) h'):CW pf G0 EE [.int .i64 n] h Q:=by
 refine Ri.enter (by kernel_rfl) ?_;cbv;refine .of k λo p j i q b=>?_;cbv;refine .flat rfl ?_;cbv;refine .flat rfl ?_;cbv;refine .of (cs:=[.int .i64 2,.int .i64 n,.str [],.nilSlice 0,.nilSlice 0]) b j rfl rfl rfl rfl rfl rfl λm d g f=>?_;cbv;refine .of d rfl ?_;cbv;exact c m (q.fr g λl a=>by simp at a;subst a;exact .inl i) f
theorem Fu {s:List Nat}(k:Wf h){Q:V->H->Prop} (c:∀h',Mod h h' []->Wf h'->Q (.agg [.int .i64 3,.int .i64 0,.str s,.nilSlice 0,.nilSlice 0]) h'):CW pf G0 Ly [.str s] h Q:=by
 refine Xn.enter (by kernel_rfl) ?_;cbv;refine .of k λn o j i q b=>?_;cbv;refine .flat rfl ?_;cbv;refine .flat rfl ?_;cbv;refine .of (cs:=[.int .i64 3,.int .i64 0,.str s,.nilSlice 0,.nilSlice 0]) b j rfl rfl rfl rfl rfl rfl λm d g f=>?_;cbv;refine .of d rfl ?_;cbv;exact c m (q.fr g λl a=>by simp at a;subst a;exact .inl i) f
inductive He (h:H):List (List Nat×Js)->List V->Prop
 | nil:He h [] []
 | cons {n:List Nat} {t:Js} {r:List (List Nat×Js)} {a b:List V} (ha:oL h t a) (hb:He h r b):He h ((n,t)::r) (.str n::a++b)
theorem He.mono {h':H}{F:List Lb}(m:Mod h h' F):∀{l:List (List Nat×Js)} {ds:List V},He h l ds->He h' l ds
 | _,_,.nil=>.nil
 | _,_,.cons ha hb=>.cons (ha.mono m) (He.mono m hb)
theorem He.get :∀{l:List (List Nat×Js)} {ds:List V},He h l ds->∀{i:Nat} {p:List Nat×Js},l[i]? =some p->∃cs,oL h p.2 cs/\rowFrom ds (i*6) 6=some (.str p.1::cs)
 | _,_,.nil,i,p,e=>by simp at e
 | _,_,.cons (n:=n) (t:=t) ha hb,0,p,e=>by
   simp at e;subst e;obtain ⟨a1,a2,f,a,c,rfl⟩:=ha.five;exact ⟨_,ha,rfl⟩
 | _,_,.cons ha hb,i+1,p,e=>by
   obtain ⟨cs,b,d⟩:=He.get hb (i:=i) (p:=p) (by simpa using e);obtain ⟨a1,a2,f,a,c,rfl⟩:=ha.five;refine ⟨cs,b,?_⟩;rw [show (i+1)*6=i*6+1+1+1+1+1+1 by omega];exact d
theorem My {v:V}{ps:List (List Nat×Js)}{k:List V}(hw:Wf h)(hs:Sl h 6 v ps.length k)(hp:He h ps k)(a:ps.length<=12)(hb:∀p∈ps,bt p.1) {Q:V->H->Prop} (hq:∀cs h',oL h' (.mk 5 0 [] (ps.map (·.1)) (ps.map (·.2))) cs->Mod h h' []->Wf h'->Q (.agg cs) h'):CW pf G0 EC [v] h Q:=by
 refine CW.qp ?_;refine Rh.enter (by kernel_rfl) ?_;cbv;refine .of hw λt h1 Rr dN ar aK=>?_;cbv;refine .flat rfl ?_;cbv;refine .of aK λN h2 dh gi av aO=>?_;have G:t≠N:=λe=>by subst e;rw [Rr] at gi;cases gi
 have A:=aj ar (by simp) gi;cbv;refine .of (cs:=[.int .i64 5,.int .i64 0,.str [],.nilSlice 0,.nilSlice 0]) aO dh rfl rfl rfl rfl rfl rfl λh3 gZ aI aS=>?_;have uI:=aI.get (av.get Rr) (by simpa using G);have aN:Mod h h3 []:=((ar.trans av).fr aI λl a=>by simp at a;subst a;exact .inl A).mono λl o _ a=>by simp at a
 cbv;refine .of (hs.mono aN) λn fg hn=>?_;cbv;refine .inv [p2,p3,p7,p8,p9] (λm' aB h'=>∃(x:Int) (nv iv:V) (O:List V),aB=[.ptr t 0,.ptr N 0,v,.int .i64 n,.int .i64 x]/\0<=x/\x.toNat<=ps.length/\m'=ps.length - x.toNat/\aG h' 9 1 nv ((ps.take x.toNat).map (·.1)).length (strs ((ps.take x.toNat).map (·.1)))/\aG h' bL 5 iv ((ps.take x.toNat).map (·.2)).length O/\pj h' ((ps.take x.toNat).map (·.2)) O/\Fr h nv/\Fr h iv/\N∉ag nv/\N∉ag iv/\t∉ag nv/\t∉ag iv/\(∀z,z∈ag nv->z∉ag iv)/\
   h'.get t=some (.cells [.int .i64 0,.int .i64 0,.str [],.nilSlice 0,.nilSlice 0] bL 0 .yes)/\h'.get N=some (.cells [.int .i64 5,.int .i64 0,.str [],nv,iv] bL 0 .yes)/\Mod h h' []/\Wf h') [_,_,_,_,_] rfl _
  ⟨0,.nilSlice 0,.nilSlice 0,[],rfl,by omega,by simp,rfl,.nil,.nil,.nil,Fr.Ff _ _,Fr.Ff _ _,by simp [ag],by simp [ag],by simp [ag],by simp [ag],by simp [ag],uI,gZ,aN,aS⟩ ?_
 rintro m' _ h4 ⟨x,nv,iv,O,rfl,kG,hx,eF,ju,Ze,XF,Dm,FD,nbn,M,K,w,I,xu,dH,aC,aW⟩;cbv;refine .lt (λbA=>?_) λjl=>?_
 ·obtain ⟨p,hpe⟩:∃p,ps[x.toNat]? =some p:=⟨_,List.getElem?_eq_getElem (by omega)⟩
  obtain ⟨cs,J,bC⟩:=(hp.mono aC).get hpe;have fK:=J.aZ;obtain ⟨a1,a2,a3,Y,U,rfl⟩:=J.five;cbv;refine .of (hs.mono aC) kG rfl (by omega) bC λq off heq=>?_;cbv;refine .jC heq rfl ?_;cbv;refine .of aW λle h5 MR F d bK=>?_;have fe:=aj aC (by simp) F;have FH:N≠le:=λe=>by subst e;rw [dH] at F;cases F
  have hre:t≠le:=λe=>by subst e;rw [xu] at F;cases F
  have cV:le∉ag nv:=λqK=>by obtain ⟨c,e⟩:=ju.row qK;rw [F] at e;cases e
  have hie:le∉ag iv:=λqK=>by obtain ⟨c,e⟩:=Ze.row qK;rw [F] at e;cases e
  cbv;refine .of (cs:=[.str p.1,a1,a2,a3,Y,U]) bK MR rfl rfl rfl rfl fK rfl λh6 Bu C cz=>?_;have VL:=C.get (d.get dH) (by simpa using FH);have zv:=C.get (d.get xu) (by simpa using hre);have oC:=(ju.mono d).mono C (dJ cV);have u:=(Ze.mono d).mono C (dJ hie);have bQ:Mod h h6 []:=((aC.trans d).fr C λl a=>by simp at a;subst a;exact .inl fe).mono λl o _ a=>by simp at a
  have hj6:=(XF.mono d).mono C;have axv:=(J.mono d).mono C;have Ct:(ps.take x.toNat).length<=12:=by rw [List.length_take];omega
  have ya:ps.take (x.toNat+1)=ps.take x.toNat++[p]:=by rw [List.take_add_one,hpe];rfl
  cbv;refine .of VL rfl ?_;cbv;refine .of Bu rfl ?_;cbv;refine .flat rfl ?_;cbv;refine .of cz λl7 Z tf hf7 db eJ=>?_;cbv;refine .own eJ (oC.mono db) (m:=1) (new:=[.str p.1]) (by simp only [cW,tf];rfl) rfl rfl (by unfold bg;simp;omega) (by decide) λb h8 uJ SI L eL=>?_;have hi7:=u.mono db;have cH:Mod h Z []:=(bQ.trans db).mono λl o _ a=>by simp at a
  have dT:Mod h h8 []:=cH.fr L λl a=>.inl (Dm l a);have FG:=db.get VL;have UO:=db.get zv;have Fg:=db.get Bu;have axw:Fr h b:=SI.fr cH (by simp) Dm;have X:∀z,z∈ag b->z∉ag iv:=λz g j=>by
   rcases SI z g with e | e
   ·obtain ⟨c,e2⟩:=hi7.row j;rw [e] at e2;cases e2
   ·exact I z e j
  have y:=SI.dp FG nbn;have axx:=SI.dp UO K;have axy:=L.get Fg cV;have Jl:=L.get FG nbn;have hr8:=L.get UO K;have hi8:=hi7.mono L (λz g W=>I z W g);have aFf:=SI.dp Fg cV;cbv;refine .one (vs':=[.int .i64 5,.int .i64 0,.str [],b,iv]) eL Jl uJ.sl.flat rfl rfl rfl λh9 hb9 gE th=>?_;have hr9:=gE.get hr8 (by simpa using G);have he9:=gE.get axy (by simpa using Ne.symm FH);have Rv:=uJ.mono gE (dJ y);have hi9:=hi8.mono gE (dJ M);have oE:Mod h h9 []:=dT.fr gE λl a=>by simp at a;subst a;exact .inl A
  cbv;refine .of hb9 rfl ?_;cbv;refine .of he9 rfl ?_;cbv;refine .agg ?_;cbv;refine .of th λl10 sQ tq ap6 B qy=>?_;cbv;refine .own qy (hi9.mono B) (m:=1) (new:=[a1,a2,a3,Y,U]) (by simp only [cW,tq];rfl) rfl fK (by unfold bg;simp;omega) (by decide) λf VH aqY ahR P Dz=>?_;have mR:Mod h sQ []:=(oE.trans B).mono λl o _ a=>by simp at a
  have Pc:Mod h VH []:=mR.fr P λl a=>.inl (FD l a);have T:=B.get hb9;have S:=B.get hr9;have zA:=Rv.mono B;have aq0:Fr h f:=ahR.fr mR (by simp) FD;have aml:∀z,z∈ag b->z∉ag f:=λz g j=>by
   rcases ahR z j with e | e
   ·obtain ⟨c,e2⟩:=zA.row g;rw [e] at e2;cases e2
   ·exact X z g e
  have ajw:=ahR.dp T M;have aq1:=ahR.dp S w;have axz:=P.get T M;have XD:=P.get S w;have L0:=zA.mono P (λz g W=>X z g W);cbv;refine .one (vs':=[.int .i64 5,.int .i64 0,.str [],b,f]) Dz axz aqY.sl.flat rfl rfl rfl λSy axA R FN=>?_;have ald:=R.get XD (by simpa using G);have ale:=L0.mono R (dJ y);have axB:=aqY.mono R (dJ ajw);have Pd:Mod h Sy []:=Pc.fr R λl a=>by simp at a;subst a;exact .inl A
  have axC:=(((((hj6.mono db).mono L).mono gE).mono B).mono P).mono R;have aq2:=(((((axv.mono db).mono L).mono gE).mono B).mono P).mono R;have hjs:=axC.snoc aq2;cbv;refine .add (by omega) (by omega) λE ke=>?_;have uE:E.toNat=x.toNat+1:=by omega
  have F1:aG Sy 9 1 b ((ps.take E.toNat).map (·.1)).length (strs ((ps.take E.toNat).map (·.1))):=by
   rw [uE,ya,List.map_append,List.length_append,kB];exact ale
  have F2:aG Sy bL 5 f ((ps.take E.toNat).map (·.2)).length (O++[a1,a2,a3,Y,U]):=by
   rw [uE,ya,List.map_append,List.length_append];exact axB
  have F3:pj Sy ((ps.take E.toNat).map (·.2)) (O++[a1,a2,a3,Y,U]):=by
   rw [uE,ya,List.map_append];exact hjs
  cbv;exact ⟨rfl,ps.length - E.toNat,by omega,E,b,f,O++[a1,a2,a3,Y,U],rfl,by omega,by omega,rfl,F1,F2,F3,axw,aq0,y,ajw,axx,aq1,aml,ald,axA,Pd,FN⟩
 ·rw [List.take_of_length_le (by omega)] at ju Ze XF
  cbv;refine .of dH rfl ?_;have fr0:h.get t=none:=dN;cbv;refine .of (cs:=[.int .i64 5,.int .i64 0,.str [],nv,iv]) aW xu rfl rfl rfl rfl (by show (true&&(true&&(true&&(cf nv&&(cf iv&&true)))))=true;rw [ju.sl.flat,Ze.sl.flat];rfl) rfl λh5 NY d bK=>?_;have aT:Mod h h5 []:=aC.fr d λl a=>by simp at a;subst a;exact .inl fr0
  cbv;refine .of NY rfl ?_;obtain ⟨h6,l6,rn6,m6,w6⟩:=(ju.mono d (dJ K)).freeze bK;have u:=(Ze.mono d (dJ w)).mono m6 (λz g W=>I z W g);obtain ⟨Z,l7,ri7,m7,w7⟩:=u.freeze w6;have bQ:Mod h h6 []:=aT.fr m6 λl a=>.inl (Dm l a);have cH:Mod h Z []:=bQ.fr m7 λl a=>.inl (FD l a);cbv;exact ⟨Z,l6.trans l7,hq _ Z (.mk ⟨by simp,by simp⟩ (λs mf=>by
   obtain ⟨p,hpm,rfl⟩:=List.mem_map.1 mf;exact hb p hpm) (by simp;omega) (by simp;omega) (λ_=>by simp) (rn6.mono m7) ri7 (((XF.mono d).mono m6).mono m7)) cH w7⟩
end K
