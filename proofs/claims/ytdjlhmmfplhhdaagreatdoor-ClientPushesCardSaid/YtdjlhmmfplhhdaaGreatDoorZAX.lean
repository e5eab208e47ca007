/-
  The client's laws. Part ZAX of the proof: blotter/seglog: a log in memory; Sync.
-/
import Derived.Test.YtdjlhmmfplhhdaaGreatDoorZAW
namespace K
open Go Go.Dx Go.RowKit
set_option maxRecDepth 100000
variable{l:List (List Nat)}{h h':H}{lg:Lb}{d:ei}
structure Lg where
 ld:Lb
 sv:V
 rv:V
 cm:List (Int×Int)
 bZ:List (List Nat)
 rc:List V
 next:Int
def ta:List (Int×Int)->List V
 | []=>[]
 | (f,s)::r=>.int .i64 f :: .int .i64 s::ta r
inductive zD (h:H):List (List Nat)->List V->Prop
 | nil:zD h [] []
 | cons {b:List Nat} {v:V} {l:List (List Nat)} {r:List V} (c:Ro h 1 v b.length (ae b)) (t:zD h l r):zD h (b::l) (v::r)
theorem zD.mono {r:List V}{F:List Lb}(c:zD h l r)(m:Mod h h' F):zD h' l r:=by
 induction c with
 | nil=>exact .nil
 | cons c _ ih=>exact .cons (c.mono m) ih
theorem zD.aZ {h:H}{l:List (List Nat)}{r:List V}(c:zD h l r):aZ r=true:=by
 induction c with
 | nil=>rfl
 | cons c _ ih=>simp only [Dx.aZ,c.flat,ih,Bool.and_self]
theorem zD.snoc {r:List V}{b:List Nat}{v:V}(c:zD h l r)(k:Ro h 1 v b.length (ae b)):zD h (l++[b]) (r++[v]):=by
 induction c with
 | nil=>exact .cons k .nil
 | cons c _ ih=>exact .cons c ih
structure jq (h:H)(lg:Lb)(g:Lg):Prop where
 cell:h.get lg=some (.cells [.ptr g.ld 0,g.sv,g.rv,.int .i64 g.next] gC 0 .yes)
 cm:aG h fV 2 g.sv g.cm.length (ta g.cm)
 bZ:aG h fy 1 g.rv g.bZ.length g.rc
 rcs:zD h g.bZ g.rc
def Lg.own (g:Lg)(lg:Lb):List Lb:=lg::(ag g.sv++ag g.rv)
theorem jq.mono {g:Lg}{F:List Lb}(L:jq h lg g)(m:Mod h h' F)(a:∀l,l∈g.own lg->l∉F:=by simp):jq h' lg g:=
 ⟨m.get L.cell (a _ (by simp [Lg.own])),L.cm.mono m λl b=>a _ (by simp [Lg.own,b]),L.bZ.mono m λl b=>a _ (by simp [Lg.own,b]),L.rcs.mono m⟩
theorem bF.kind {ld:Lb}(D:bF h ld d){l:Lb}(a:l∈d.own ld):(∃es c,h.get l=some (.map es c))\/∃vs e,h.get l=some (.cells vs e 0 .yes)/\(e=sH\/e=vh\/e=ea):=by
 simp only [ei.own,List.map_append,List.mem_cons,List.mem_append] at a;rcases a with rfl | rfl | rfl | rfl | a | a | a
 ·exact .inr ⟨_,_,D.cell,.inl rfl⟩
 ·exact .inl ⟨_,_,D.seen.map⟩
 ·exact .inl ⟨_,_,D.last.map⟩
 ·exact .inl ⟨_,_,D.held⟩
 ·obtain ⟨r,g⟩:=D.Cn.row a;exact .inr ⟨_,_,g,.inr (.inl rfl)⟩
 ·obtain ⟨f,b,rfl⟩:=List.mem_map.1 a;exact .inr ⟨_,_,(D.seen.file f b).cell,.inr (.inr rfl)⟩
 ·obtain ⟨f,b,rfl⟩:=List.mem_map.1 a;exact .inr ⟨_,_,(D.last.file f b).cell,.inr (.inr rfl)⟩
theorem bF.off {ld:Lb}(D:bF h ld d){l:Lb}{vs:List V}{e:TypeId}{i:Nat}{c:Own}(g:h.get l=some (.cells vs e i c))(f:e≠sH/\e≠vh/\e≠ea):l∉d.own ld:=λj=>by
 rcases D.kind j with ⟨_,_,b⟩ | ⟨vs,k,b,a⟩
 ·rw [g] at b;cases b
 ·rw [g] at b;cases b
  rcases a with a | a | a
  ·exact f.1 a
  ·exact f.2.1 a
  ·exact f.2.2 a
theorem jq.jh {ld:Lb}{g:Lg}(L:jq h lg g)(D:bF h ld d):∀l,l∈g.own lg->l∉d.own ld:=λl a=>by
 simp only [Lg.own,List.mem_cons,List.mem_append] at a;rcases a with rfl | a | a
 ·exact D.off L.cell (by decide)
 ·obtain ⟨r,b⟩:=L.cm.row a;exact D.off b (by decide)
 ·obtain ⟨r,b⟩:=L.bZ.row a;exact D.off b (by decide)
structure iw (g:Lg)(d:ei):Prop where
 mw:g.cm.length<=1000000000
 aht:g.bZ.length<=1000000000
 one:1<=g.next
 top:g.next<=4000000000000000000
 abn:g.cm.Pairwise λa b=>a.1<b.1
 below:∀s,s∈g.cm->1<=s.1/\s.1<g.next
 files:∀s,s∈g.cm->∃b,bM (said d.seen) (jQ s.1.toNat)=some b/\(b.length:Int)=s.2
 size:∀s,s∈g.cm->s.2<=100000
 free:∀k:Int,g.next<=k->bM (said d.seen) (jQ k.toNat)=none
 head:∀s,g.cm.head? =some s->s.1+(g.bZ.length:Int)=g.next
 none:g.cm=[]->g.bZ=[]
theorem Me:∀l:List (Int×Int),(ta l).length=l.length*2
 | []=>rfl
 | (f,s)::r=>by simp only [ta,List.length_cons,Me r];omega
theorem ux:∀(l:List (Int×Int)) (i:Nat) (s:Int×Int),l[i]? =some s->rowFrom (ta l) (i*2) 2=some [.int .i64 s.1,.int .i64 s.2]
 | [],i,s,h=>by simp at h
 | (f,z)::r,0,s,h=>by simp at h;subst h;rfl
 | (f,z)::r,i+1,s,h=>by
   have:=ux r i s (by simpa using h);rw [show (i+1)*2=i*2+1+1 by omega];exact this
theorem sK {ld:Lb}{a b c:V}{t:TypeId}(e:h.get lg=some (.cells [.ptr ld 0,a,b,c] t 0 .yes)){Q:V->H->Prop} (d:Q (.bool true) h):CW pf G0 sB [.ptr lg 0] h Q:=by
 refine E6.enter (by kernel_rfl) ?_;cbv;refine .of e rfl ?_;cbv;exact d
theorem Ia {g:Lg}(r:Wf h)(L:jq h lg g)(D:bF h g.ld d)(f:iw g d)(p:d.aJ.length<=1000000000){Q:V->H->Prop}
  (I:g.cm=[]->Q (.int .i64 0) h)
  (t:∀h' d' b,bF h' g.ld d'->d'.room=d.room->d'.seen=d.seen->said d'.last=runs (d.aJ.filter (jP b)) (said d.last)->d'.aJ=d.aJ.filter (λa=>!jP b a)->(∃c,d'.held=rC d.held c b (bM (said d'.last) b))->(∃s,g.cm.getLast? =some s/\b=jQ s.1.toNat)->
   (∀l,l∈d'.own g.ld->l∈d.own g.ld\/h.get l=none)->Mod h h' (d.own g.ld)->Wf h'->Q (.int .i64 0) h'):CW pf G0 lG [.ptr lg 0] h Q:=by
 have C:=L.cell;have S:=L.cm;generalize Du:g.ld=ld at*;generalize g.next=P at C;generalize Qx:g.sv=sv at*;generalize g.rv=rv at C;refine EY.enter (by kernel_rfl) ?_;cbv;refine sK C ?_;cbv;refine .of C rfl ?_;cbv;refine .of S.sl λn M Dr=>?_;cbv;refine .gt (λYV=>?_) λu=>?_
 ·obtain ⟨s,hs⟩:∃s,g.cm[g.cm.length - 1]? =some s:=⟨_,List.getElem?_eq_getElem (by omega)⟩
  have w:g.cm.getLast? =some s:=by rw [List.getLast?_eq_getElem?];exact hs
  have m:=List.mem_of_getElem? hs;obtain ⟨K,R⟩:=f.below s m;obtain ⟨T,E,_⟩:=f.files s m;have RH:=f.top;have Mf:=f.mw;have o:=ux _ _ _ hs;generalize j:s.1=fs at*;generalize s.2=O at*;cbv;refine .of follows 5 ?_;cbv;refine .of C rfl ?_;cbv;refine .of C rfl ?_;cbv;refine .sub (by omega) (by omega) λk N=>?_;cbv;refine .of S.sl (by omega) (show k.toNat=g.cm.length - 1 by omega) (by omega) o λl off y=>?_;cbv;refine .fR y 0 rfl ?_;cbv;refine kC (by omega) (by omega) λb i=>?_;cbv;refine .load C rfl (.nil ?_);cbv;refine Pm r D (by rw [i];exact As (by omega)) p (λh' e _ _=>?_) λv d' J a1 a2 z B x q G A F=>?_
  ·rw [i,E] at e;cases e
  ·refine .nil ?_
   cbv;exact t v d' b a1 a2 z B x q ⟨s,w,by rw [j];exact i⟩ G A F
 ·cbv;exact I (List.length_eq_zero_iff.1 (by omega))
end K
namespace K
open Go Go.Dx Go.RowKit
set_option maxRecDepth 100000
theorem Zj:∀(k x:Nat),∀b∈beN k x,b<256
 | 0,x=>by simp [beN]
 | k+1,x=>by
   intro b a;simp only [beN,List.mem_cons] at a;rcases a with rfl | a
   ·omega
   ·exact Zj k x b a
theorem jR {x:Nat}(h:x<=18446744073709551615):∀b∈c8 x,b<256:=by
 have c:=cJ h;unfold c8 at*;intro b a;split at a
 ·simp at a;omega
 ·rename_i d
  rw [if_neg d] at c;rcases List.mem_cons.1 a with rfl | a
  ·have:(beN (CT x) x).length=CT x:=CS _ _
   simp at c;omega
  ·exact Zj _ _ b a
theorem N5 {h:H}{n:Int}{vb:V}{bs:List Nat}(p:Wf h)(h0:0<=n)(j:n<=9223372036854775807)(k:Sl h 1 vb bs.length (ae bs))(r:bs.length<=9000000)(IT:∀x∈bs,x<256) {Q:V->H->Prop}
  (JB:∀h',65536<(c8 n.toNat++bs).length->Mod h h' []->Wf h'->Q (.tuple [.nilSlice 0,.int .i64 4]) h')
  (i:(c8 n.toNat++bs).length<=65536->∀v h',aG h' 5 1 v (frame (c8 n.toNat++bs)).length (ae (frame (c8 n.toNat++bs)))->Loc h h' v->Q (.tuple [v,.int .i64 0]) h'):CW pf G0 wj [.int .i64 n,vb] h Q:=by
 have e:=cJ (x:=n.toNat) (by omega);refine IL.enter (by kernel_rfl) ?_;cbv;refine kA p (.nil 0) rfl (by omega) (by omega) j λt s g lo=>?_;rw [Nat.zero_add,List.nil_append] at g;have f:=lo.sl k;cbv;refine .loc lo g f.elems f.len (aD _) (by omega) (by decide) λq h3 d u _=>?_;rw [<-aM,<-List.length_append] at d;cbv;refine Xr u.wf d.sl (by rw [List.length_append];omega) (λx a=>?_) (λc=>?_) λm v h4 l o=>?_
 ·rcases List.mem_append.1 a with a | a
  ·exact jR (by omega) x a
  ·exact IT x a
 ·cbv;exact JB _ c u.mod u.wf
 ·cbv;exact i m _ _ l (o.base u.mod)
end K
namespace K
open Go Go.Dx Go.RowKit
set_option maxRecDepth 100000
variable{bs fb:List Nat}{n size:Nat}{l:Lb}{cs rc:List V}{v sv rv:V}{h:H}{d d':ei}{nz:Int}
inductive DOp where
 | act (a:Act)
 | sync (nm:List Nat)
 | flush
inductive Pt:ei->List DOp->ei->Prop
 | nil (d:ei):Pt d [] d
 | act {d d':ei} {a:Act} (room:d'.room=d.room) (seen:said d'.seen=a.run (said d.seen)) (last:d'.last=d.last) (aJ:d'.aJ=d.aJ++[a]) (held:d'.held=hdo d.held d.ch a.nm (bM (said d'.seen) a.nm)):Pt d [.act a] d'
 | sync {d d':ei} {nm:List Nat} (room:d'.room=d.room) (seen:d'.seen=d.seen) (last:said d'.last=runs (d.aJ.filter (jP nm)) (said d.last)) (aJ:d'.aJ=d.aJ.filter (λa=>!jP nm a)) (held:∃c,d'.held=rC d.held c nm (bM (said d'.last) nm)):Pt d [.sync nm] d'
 | flush {d d':ei} (room:d'.room=d.room) (seen:(said d'.seen).Perm (said d'.last)) (last:said d'.last=runs d.aJ (said d.last)) (aJ:d'.aJ=[]) (held:vP d'.held (said d'.last)):Pt d [.flush] d'
 | trans {d d' d'':ei} {l l':List DOp} (a:Pt d l d') (b:Pt d' l' d''):Pt d (l++l') d''
def mT:List DOp->Nat
 | []=>0
 | .act _::r=>mT r+1
 | _::r=>mT r
theorem jj:∀a b:List DOp,mT (a++b)=mT a+mT b
 | [],b=>by simp [mT]
 | .act _::r,b=>by simp only [List.cons_append,mT,jj r b];omega
 | .sync _::r,b=>by simp only [List.cons_append,mT,jj r b]
 | .flush::r,b=>by simp only [List.cons_append,mT,jj r b]
theorem Pt.aJ {d d':ei}{l:List DOp}(v:Pt d l d'):d'.aJ.length<=d.aJ.length+mT l:=by
 induction v with
 | nil d=>simp [mT]
 | act room seen last aJ held=>rw [aJ];simp [mT]
 | sync room seen last aJ held=>rw [aJ];exact Nat.le_trans (List.length_filter_le _ _) (by simp)
 | flush room seen last aJ held=>rw [aJ];simp
 | trans a b iha ihb=>rw [jj];omega
structure ahu (d:ei)(l:List DOp)(d':ei):Prop where
 dev:Pt d l d'
 one:mT l<=1
theorem aeR (b:n<=18446744073709551615)(h:∀x∈bs,x<256):∀x∈c8 n++bs,x<256:=λx a=>by
 rcases List.mem_append.1 a with a | a
 ·exact jR b x a
 ·exact h x a
theorem abo {l:List Nat}(h:∀x∈l,x<256) (c:l.length<=65536):∀x∈frame l,x<256:=by
 intro x a;have b:=Y8 (hd3 l.length++l);unfold u32 at b;simp only [frame,List.mem_append] at a;rcases a with (a | a) | a
 ·simp only [hd3,List.mem_cons,List.not_mem_nil,or_false] at a;omega
 ·exact h x a
 ·simp only [UI,List.mem_cons,List.not_mem_nil,or_false] at a;omega
theorem Pu (l:List Nat):(frame l).length=l.length+7:=by simp [frame,hd3,UI]
theorem oF:∀(a b:List (Int×Int)),ta (a++b)=ta a++ta b
 | [],b=>rfl
 | (f,s)::r,b=>by simp only [List.cons_append,ta,oF r b]
theorem _root_.Go.Dx.Sl.live (s:Sl h size v n cs)(a:l∈ag v):h.get l≠none:=by
 cases s with
 | nil c=>simp [ag] at a
 | empty=>simp [ag] at a
 | row hg hr=>simp only [ag,List.mem_singleton] at a;subst a;rw [hg];simp
theorem iw.same {g:Lg}(a:iw g d)(e:d'.seen=d.seen):iw g d':=
 ⟨a.mw,a.aht,a.one,a.top,a.abn,a.below,by rw [e];exact a.files,a.size,by rw [e];exact a.free,a.head,a.none⟩
theorem iw.new {g:Lg}{y:Int}(h:iw g d)(Tc:(cX (said d.seen)).Nodup)(hs:said d'.seen=(Act.wrote (jQ g.next.toNat) 0 fb).run (said d.seen))(VJ:0<=y)(w:y.toNat=fb.length)(t:y<=100000)(v:g.cm.length<=999999999)(x:g.bZ.length<=999999999)(h3:g.next<4000000000000000000)
  {ld:Lb}    (p:nz=g.next+1):iw ⟨ld,sv,rv,g.cm++[(g.next,y)],g.bZ++[bs],rc,nz⟩ d':=by
 subst p;have l:∀k:Int,0<=k->bM (said d'.seen) (jQ k.toNat)=if k=g.next then some fb else bM (said d.seen) (jQ k.toNat):=λk j=>by
  rw [hs,Act.run_get _ Tc]
  by_cases e:k=g.next
  ·subst e
   rw [if_pos rfl];unfold Act.at;rw [if_pos (show jQ g.next.toNat=(Act.wrote (jQ g.next.toNat) 0 fb).nm from rfl),h.free g.next (by omega)];simp [fB]
  ·rw [if_neg e]
   refine uw (λc=>e ?_) _;have:=Mc c;have:=h.one;omega
 have n:=h.one;refine ⟨by simp;omega,by simp;omega,by show 1<=g.next+1;omega,by show g.next+1<=_;omega,?_,λs f=>?_,λs f=>?_,λs f=>?_,λk j=>?_,λs f=>?_,λf=>by simp at f⟩
 ·refine List.pairwise_append.2 ⟨h.abn,by simp,λa q b m=>?_⟩
  rw [List.mem_singleton] at m;subst m;exact (h.below a q).2
 ·show 1<=s.1/\s.1<g.next+1
  rcases List.mem_append.1 f with c | c
  ·have:=h.below s c;omega
  ·rw [List.mem_singleton] at c;subst c;exact ⟨n,by show g.next<g.next+1;omega⟩
 ·rcases List.mem_append.1 f with c | c
  ·have m:=h.below s c
   obtain ⟨b,o,u⟩:=h.files s c;exact ⟨b,by rw [l s.1 (by omega),if_neg (by omega)];exact o,u⟩
  ·rw [List.mem_singleton] at c;subst c
   exact ⟨fb,by rw [l g.next (by omega),if_pos rfl],by show (fb.length:Int)=y;omega⟩
 ·rcases List.mem_append.1 f with c | c
  ·exact h.size s c
  ·rw [List.mem_singleton] at c;subst c;exact t
 ·have j:g.next+1<=k:=j
  rw [l k (by omega),if_neg (by omega)];exact h.free k (by omega)
 ·show s.1+((g.bZ++[bs]).length:Int)=g.next+1
  rw [List.length_append];cases oG:g.cm with
  | nil=>
    rw [oG] at f;simp at f;subst f;rw [h.none oG]
    rfl
  | cons s0 r=>
    rw [oG] at f;simp at f;subst f;have:=h.head s0 (by rw [oG];rfl);simp only [List.length_cons,List.length_nil];omega
theorem U4:∀(A:List V) (f z a:V),aX (A++[f,z]) (A.length+1) [a]=some (A++[f,a])
 | [],f,z,a=>rfl
 | x::A,f,z,a=>by
   have:=U4 A f z a;simp only [List.cons_append,List.length_cons,aX,this,ob]
theorem ahv (A:List V)(f z:V):dB .one (A++[f,z]) (A.length+1)=some z:=by
 show (bz (A.length+1) (A++[f,z])).head? =some z
 rw [<-sd 1 A.length,vJ];rfl
theorem _root_.Go.Dx.WW.own {e:TypeId}{k:IntKind}{i:Int}{K:V->Prop} (o:aG h e size v n cs) (h0:0<=i) (hi:i.toNat<n) (a:∀l off,l∈ag v->h.get l=some (.cells cs e 0 .yes)->off=i.toNat*size->K (.ptr l off)):WW size v (.int k i) K:=by
 obtain ⟨j,rfl⟩:=Int.eq_ofNat_of_zero_le h0;have c:j<n:=by simpa using hi
 have b:Nat.blt j n=true:=by simpa using c
 cases o with
 | nil=>omega
 | @ends l _ _ hg hl=>
   refine ⟨.ptr l (0+j*size),?_,a _ _ (by simp [ag]) hg (by simp)⟩;show ob (bO (Nat.blt j n) (some j)) (λi=>some (V.ptr l (0+i*size)))=_
   rw [b];rfl
 | @exact l _ _ hg hl=>
   refine ⟨.ptr l (0+j*size),?_,a _ _ (by simp [ag]) hg (by simp)⟩;show ob (bO (Nat.blt j n) (some j)) (λi=>some (V.ptr l (0+i*size)))=_
   rw [b];rfl
theorem _root_.Go.Dx.aG.stored {h':H}{e:TypeId}{W0:List V}(o:aG h e size v n cs)(a:l∈ag v)(b:h'.get l=some (.cells W0 e 0 .yes))(d:W0.length=cs.length):aG h' e size v n W0:=by
 cases o with
 | nil=>simp [ag] at a
 | ends hg0 VJ=>simp only [ag,List.mem_singleton] at a;subst a;exact .ends b (d.trans VJ)
 | exact hg0 VJ=>simp only [ag,List.mem_singleton] at a;subst a;exact .exact b (d.trans VJ)
theorem iw.more {g:Lg}{E:List Nat}{f z m:Int}{init:List (Int×Int)}(j:iw g d)(l:g.cm=init++[(f,z)])(Tc:(cX (said d.seen)).Nodup)(x:bM (said d.seen) (jQ f.toNat)=some E)(hs:said d'.seen=(Act.wrote (jQ f.toNat) E.length fb).run (said d.seen))(A:z=(E.length:Int))(D:m=z+(fb.length:Int))(t:m<=100000)(C:g.bZ.length<=999999999)(h3:g.next<4000000000000000000)
  {ld:Lb}    (n:nz=g.next+1):iw ⟨ld,sv,rv,init++[(f,m)],g.bZ++[bs],rc,nz⟩ d':=by
 subst n;have q:=j.below (f,z) (by rw [l];simp);dsimp only at q;have p:∀k:Int,0<=k->bM (said d'.seen) (jQ k.toNat)=if k=f then some (E++fb) else bM (said d.seen) (jQ k.toNat):=λk o=>by
  rw [hs,Act.run_get _ Tc]
  by_cases e:k=f
  ·subst e
   rw [if_pos rfl];unfold Act.at;rw [if_pos (show jQ k.toNat=(Act.wrote (jQ k.toNat) E.length fb).nm from rfl),x];show some (fB E E.length fb)=_
   congr 1
   unfold fB;dsimp only;rw [show E.length+fb.length - E.length=fb.length by omega,List.take_left,List.drop_eq_nil_of_le (by simp),List.append_nil]
  ·rw [if_neg e]
   refine uw (λc=>e ?_) _;have:=Mc c;omega
 have B:=j.one;have Fm:=j.abn;rw [l,List.pairwise_append] at Fm;have Mf:=j.mw;rw [l] at Mf;refine ⟨by simpa using Mf,by simp;omega,by show 1<=g.next+1;omega,by show g.next+1<=_;omega,?_,λs h=>?_,λs h=>?_,λs h=>?_,λk o=>?_,λs h=>?_,λh=>by simp at h⟩
 ·refine List.pairwise_append.2 ⟨Fm.1,by simp,λa u b DB=>?_⟩
  rw [List.mem_singleton] at DB;subst DB;exact Fm.2.2 a u (f,z) (by simp)
 ·show 1<=s.1/\s.1<g.next+1
  rcases List.mem_append.1 h with c | c
  ·have:=j.below s (by rw [l];exact List.mem_append_left _ c);omega
  ·rw [List.mem_singleton] at c;subst c;exact ⟨q.1,by show f<g.next+1;omega⟩
 ·rcases List.mem_append.1 h with c | c
  ·have Nn:=j.below s (by rw [l];exact List.mem_append_left _ c)
   obtain ⟨b,y,w⟩:=j.files s (by rw [l];exact List.mem_append_left _ c);have v:=Fm.2.2 s c (f,z) (by simp);dsimp only at v;exact ⟨b,by rw [p s.1 (by omega),if_neg (by omega)];exact y,w⟩
  ·rw [List.mem_singleton] at c;subst c
   exact ⟨E++fb,by rw [p f (by omega),if_pos rfl],by show (((E++fb).length:Nat):Int)=m;rw [List.length_append];omega⟩
 ·rcases List.mem_append.1 h with c | c
  ·exact j.size s (by rw [l];exact List.mem_append_left _ c)
  ·rw [List.mem_singleton] at c;subst c;exact t
 ·have o:g.next+1<=k:=o
  rw [p k (by omega),if_neg (by omega)];exact j.free k (by omega)
 ·show s.1+((g.bZ++[bs]).length:Int)=g.next+1
  rw [List.length_append];simp only [List.length_cons,List.length_nil];cases init with
  | nil=>
    simp at h;subst h;have:=j.head (f,z) (by rw [l];rfl);dsimp only at this ⊢;omega
  | cons s0 r=>
    simp at h;subst h;have:=j.head s0 (by rw [l];rfl);omega
theorem BX {j:Lb}{g:Lg}{vb:V}(hw:Wf h)(L:jq h j g)(D:bF h g.ld d)(ok:iw g d)(hn:d.aJ.length<=999999999)(hfs:g.cm.length<=999999999)(dN:g.bZ.length<=999999999)(RH:g.next<4000000000000000000)
  (hb:Sl h 1 vb bs.length (ae bs)) (Jn:∀l,l∈ag vb->l∉g.own j/\l∉d.own g.ld) (b:bs.length<=9000000) (IT:∀x∈bs,x<256) {Q:V->H->Prop}
  (XM:∀h' d' ops (e:Int),e≠0->bF h' g.ld d'->jq h' j g->iw g d'->ahu d ops d'->(∀l,l∈d'.own g.ld->l∈d.own g.ld\/h.get l=none)->Mod h h' (d.own g.ld)->Wf h'->Q (.tuple [.int .i64 0,.int .i64 e]) h')
  (hq:∀h' g' d' ops,bF h' g.ld d'->jq h' j g'->iw g' d'->ahu d ops d'->g'.ld=g.ld->g'.next=g.next+1->g'.bZ=g.bZ++[bs]->(∀l,l∈g'.own j++d'.own g.ld->l∈g.own j++d.own g.ld\/h.get l=none)->Mod h h' (g.own j++d.own g.ld)->Wf h'->Q (.tuple [.int .i64 g.next,.int .i64 0]) h'):CW pf G0 jy [.ptr j 0,vb] h Q:=by
 have C:=L.cell;have S:=L.cm;have vM:=ok.one;generalize Du:g.ld=ld at*;generalize Nc:g.next=w at*;generalize Qx:g.sv=sv at*;generalize IX:g.rv=rv at*;have LM:∀{h':H} {F:List Lb},Mod h h' F->(∀l,l∈g.own j->l∉F)->h'.get j=some (.cells [.ptr ld 0,sv,rv,.int .i64 w] gC 0 .yes):=λm hF=>m.get C (hF _ (by simp [Lg.own]));refine A8.enter (by kernel_rfl) ?_;cbv;refine sK C ?_;cbv;refine .of C rfl ?_;cbv;refine .cK (by omega) ?_;cbv;refine .of C rfl ?_;cbv;refine N5 hw (by omega) (by omega) hb b IT (λh1 JB ar aK=>?_) λrN fv h1 Iw Dq=>?_
 ·cbv;refine .yr (by decide) ?_
  cbv;exact XM h1 d [] 4 (by decide) (D.mono ar (by simp)) (L.mono ar (by simp)) ok ⟨.nil d,by decide⟩ (λl b=>.inl b) (ar.mono (by simp)) aK
 ·have fK:(frame (c8 w.toNat++bs)).length<=65543:=by rw [Pu];omega
  have aeS:IV (frame (c8 w.toNat++bs)):=⟨by omega,abo (aeR (by omega) IT) rN⟩;have hf0:0<(frame (c8 w.toNat++bs)).length:=by rw [Pu];omega
  generalize frame (c8 w.toNat++bs)=fb at*;have C1:=LM Dq.mod (by simp);cbv;refine .iz rfl ?_;cbv;refine .of C1 rfl ?_;cbv;refine .of (Dq.sl S.sl) λn fg Dr=>?_;cbv;refine .sub (by omega) (by omega) λla kd=>?_;cbv;refine .lt (λbA=>?_) λjl=>?_
  ·cbv;refine .qQ (by omega) ?_
   have DX:=D.mono Dq.mod (by simp);have LX:=L.mono Dq.mod (by simp);obtain ⟨B,hdx⟩:∃B,B=d:=⟨_,rfl⟩;rw [<-hdx] at DX;have OX:iw g B:=hdx▸ok;have VX:Pt d [] B:=hdx▸.nil d;have nX:B.aJ.length<=1000000000:=by rw [hdx];omega
   have oX:∀l,l∈B.own ld->l∈d.own ld\/h.get l=none:=λl b=>.inl (hdx▸b);have mX:Mod h h1 (d.own ld):=Dq.mod.mono (by simp);have wX:=Dq.wf;have fX:=Iw;have bX:Sl h1 1 vb bs.length (ae bs):=Dq.sl hb;have VN:mT ([]:List DOp)=0:=rfl;generalize ([]:List DOp)=opx at VX VN;have CX:=C1;cbv;refine .of follows 6 ?_;cbv;refine .of CX rfl ?_;cbv;refine .of CX rfl ?_;cbv;refine kC (by omega) (by omega) λnm nu=>?_;cbv;refine .load CX rfl (.nil ?_);have rC:=OX.free w (by omega);have okn:zw nm:=by rw [nu];exact As (by omega)
   cbv;refine Dc wX DX okn nX fX.sl aeS hf0 (by rw [nu,rC];show 0+_<=_;omega) (λI _ av aO=>?_) λI d2 _ a1 a2 K a4 a5 a6 a7 v a9=>?_
   ·refine .nil ?_
    cbv;refine .yr (by decide) ?_;cbv;exact XM I B opx 7 (by decide) (DX.mono av (by simp)) (LX.mono av (by simp)) OX ⟨VX,by omega⟩ oX ((mX.trans av).mono (by simp)) aO
   ·refine .nil ?_
    cbv;refine .iz rfl ?_;have L2:=LX.mono v (Du▸LX.jh (Du▸DX));have C2:=L2.cell;rw [Du,Qx,IX,Nc] at C2;have S2:=L2.cm;rw [Qx] at S2;have P:Sl I 1 fv fb.length (ae fb):=(fX.mono v λl b=>by obtain ⟨r,c⟩:=fX.row b;exact DX.off c (by decide)).sl;cbv;refine .of follows 6 ?_;cbv;refine .of C2 rfl ?_;cbv;refine .of C2 rfl ?_;cbv;refine .of P λln ahw ahx=>?_;cbv;refine .flat rfl ?_;cbv;refine .flat rfl ?_;cbv;refine .agg ?_;cbv;refine .of a9 λlb h3 Oq av8 aI aS=>?_;have C3:=aI.get C2 (by simp);refine .load C3 rfl (.nil ?_);have nW:Sl h3 2 (.slice lb 0 1 (.exact 1)) 1 [.int .i64 w,.int .i64 ln]:=.row Oq rfl;cbv;refine .own aS (S2.mono aI (by simp)) nW.elems rfl rfl (by show _<=1099511627776;omega) (by decide) λsv2 h4 ju gr4 aL aW=>?_;have C4:=aL.get C3 λb=>by obtain ⟨r,c⟩:=S2.row b;rw [C2] at c;cases c
    refine .nil ?_;cbv;refine .one aW C4 ju.sl.flat rfl rfl rfl λh5 Bn bf bK=>?_;refine .nil ?_;have L2':=Du▸L2.jh (Du▸a1);have q:=(aI.trans aL).trans bf;have RI:∀l,l∈[]++ag sv++[j]->l∈g.own j:=λl b=>by
     simp only [List.nil_append,List.mem_append,List.mem_singleton] at b;simp only [Lg.own,Qx,List.mem_cons,List.mem_append];rcases b with b | b
     ·exact .inr (.inl b)
     ·exact .inl b
    have DY:bF h5 ld d2:=a1.mono q λl b f=>L2' l (RI l f) b;have R2:=L2.bZ;rw [IX] at R2;have RY:aG h5 fy 1 rv g.bZ.length g.rc:=R2.mono q λl b f=>by
     obtain ⟨r,c⟩:=R2.row b;simp only [List.nil_append,List.mem_append,List.mem_singleton] at f;rcases f with f | rfl
     ·obtain ⟨r',Co⟩:=S2.row f;rw [c] at Co;cases Co
     ·rw [C2] at c;cases c
    have nvb:∀l,l∈ag vb->l∉B.own ld:=λl b f=>(oX l f).elim (Jn l b).2 (hb.live b);have aly:∀l,l∈d2.own ld->l∈d.own ld\/h.get l=none:=λl b=>by
     rcases a7 l b with i | i
     ·exact oX l i
     ·cases hy:h.get l with
      | none=>exact .inr rfl
      | some o=>
        left
        refine Classical.byContradiction λhz=>?_;have:=mX.get hy hz;rw [i] at this;cases this
    have Dd:∀l,h5.get l=none\/h3.get l=none->h.get l=none\/l∈g.own j++d.own ld:=λl i=>by
     cases hy:h.get l with
     | none=>exact .inl rfl
     | some o=>
       right
       refine Classical.byContradiction λhz=>?_;rw [List.mem_append,not_or] at hz;have e2:=v.get (mX.get hy hz.2) λf=>(oX l f).elim hz.2 (by rw [hy];simp);have e3:=aI.get e2 (by simp);have e5:=q.get e2 λf=>hz.1 (RI l f);rcases i with i | i
       ·rw [i] at e5;cases e5
       ·rw [i] at e3;cases e3
    have wY:=bK;have CY:=Bn;have bY:Sl h5 1 vb bs.length (ae bs):=(bX.mono v nvb).mono q λl b f=>(Jn l b).1 (RI l f);obtain ⟨svY,XN⟩:∃x,x=sv2:=⟨_,rfl⟩;rw [<-XN] at CY;have tail:∀h' rv2 t nz,h'.get j=some (.cells [.ptr ld 0,svY,rv2,.int .i64 nz] gC 0 .yes)->nz=w+1->aG h' fy 1 rv2 (g.bZ.length+1) t->(∃k,t=g.rc++[k]/\Ro h' 1 k bs.length (ae bs))->(∀l,l∈ag rv2->l∈ag rv\/h5.get l=none)->Mod h5 h' (j::ag rv)->Wf h'->Q (.tuple [.int .i64 w,.int .i64 0]) h':=λh' rv2 t nz g1 g2 g3 g4 g5 O g7=>by
     obtain ⟨k,rfl,U⟩:=g4;have A:∀l,l∈j::ag rv->l∈g.own j:=λl b=>by
      simp only [Lg.own,IX,List.mem_cons,List.mem_append] at b ⊢;rcases b with b | b
      ·exact .inl b
      ·exact .inr (.inr b)
     have o5:=ju.mono bf λl b=>by
      obtain ⟨r,c⟩:=ju.row b;rw [List.mem_singleton];rintro rfl;rw [C4] at c;cases c
     have o6:=o5.mono O λl b f=>by
      obtain ⟨r,c⟩:=o5.row b;rcases List.mem_cons.1 f with rfl | f
      ·rw [Bn] at c;cases c
      ·obtain ⟨r',Co⟩:=RY.row f;rw [c] at Co;cases Co
     have N6:=(mX.trans v).trans (q.trans O);refine hq h' ⟨ld,svY,rv2,g.cm++[(w,ln)],g.bZ++[bs],g.rc++[k],nz⟩ d2 _ (Du▸DY.mono O λl b f=>L2' l (A l f) b) ⟨g1,?_,by simpa using g3,(L.rcs.mono N6).snoc U⟩ ?_ ⟨VX.trans (.act (a:=.wrote nm ((bM (said B.seen) nm).getD []).length fb) a2 K a4 a5 a6),by rw [jj,VN];simp [mT]⟩ rfl g2 rfl (λl b=>?_) (N6.mono λl o ho b=>?_) g7
     ·rw [oF,XN];simpa [ta] using o6
     ·subst Nc
      rw [nu,rC] at K;exact OX.new (gD DX.seen) K ahw ahx (by omega) hfs dN RH g2
     ·rw [List.mem_append]
      rcases List.mem_append.1 b with b | b
      ·simp only [Lg.own,List.mem_cons,List.mem_append] at b
       rcases b with rfl | b | b
       ·left;left;simp [Lg.own]
       ·rw [XN] at b
        rcases gr4 l b with i | i
        ·exact (Dd l (.inr i)).symm.imp_left List.mem_append.1
        ·left;left;simp only [Lg.own,Qx,List.mem_cons,List.mem_append];exact .inr (.inl i)
       ·rcases g5 l b with i | i
        ·left;left;simp only [Lg.own,IX,List.mem_cons,List.mem_append];exact .inr (.inr i)
        ·exact (Dd l (.inl i)).symm.imp_left List.mem_append.1
      ·exact (aly l (Du▸b)).imp_left .inr
     ·simp only [List.mem_append] at b ⊢
      rcases b with (b | b) | (b | b)
      ·exact .inr b
      ·exact .inr ((oX l b).resolve_right (by rw [ho];simp))
      ·exact .inl (RI l (by simpa using b))
      ·exact .inl (A l b)
    cbv;refine .of follows 7 ?_;cbv;refine .of CY rfl ?_;cbv;refine rn zr wY bY (aD _) (by omega) (by decide) λk h6 Z G w6=>?_;have C6:=G.get CY (by simp);refine .load C6 rfl (.nil ?_);cbv;refine .flat Z.flat ?_;cbv;refine .of w6 λlc h7 Qt hfc y w7=>?_;have C7:=y.get C6 (by simp);have R7:=(RY.mono G (by simp)).mono y (by simp);refine .load C7 rfl (.nil ?_);have R:Sl h7 1 (.slice lc 0 1 (.exact 1)) 1 [k]:=.row Qt rfl;cbv;refine .own w7 R7 R.elems rfl (by show (cf k&&true)=true;rw [Z.flat];rfl) (by show _<=1099511627776;omega) (by decide) λrv2 h8 M X m8 w8=>?_;have T:j∉ag rv:=λb=>by obtain ⟨r,c⟩:=R7.row b;rw [C7] at c;cases c
    have C8:=m8.get C7 T;refine .nil ?_;cbv;refine .one w8 C8 M.sl.flat rfl rfl rfl λh9 FM W w9=>?_;refine .nil ?_;cbv;refine .of FM rfl ?_;cbv;refine .add (by omega) (by omega) λnx1 N=>?_;cbv;refine .one w9 FM rfl rfl rfl rfl λsQ tq u Y=>?_;cbv;refine .of tq rfl ?_;cbv;refine .sub (by omega) (by omega) λnz hnz=>?_;cbv;have:nz=w:=by omega
    subst this;have o9:=M.mono W λl b=>by
     obtain ⟨r,c⟩:=M.row b;rw [List.mem_singleton];rintro rfl;rw [C8] at c;cases c
    have o10:=o9.mono u λl b=>by
     obtain ⟨r,c⟩:=o9.row b;rw [List.mem_singleton];rintro rfl;rw [FM] at c;cases c
    refine tail sQ rv2 _ nx1 tq N o10 ⟨k,rfl,(((Z.mono y).mono m8).mono W).mono u⟩ (λl b=>?_) ((((G.trans y).trans m8).trans (W.trans u)).mono λl _ _ b=>?_) Y
    ·rcases X l b with i | i
     ·right
      cases hy:h5.get l with
      | none=>rfl
      | some o=>have:=y.get (G.get hy (by simp)) (by simp);rw [i] at this;cases this
     ·exact .inl i
    ·simp at b ⊢
     rcases b with b | b
     ·exact .inr b
     ·exact .inl b
  ·obtain ⟨s,hs⟩:∃s,g.cm[g.cm.length - 1]? =some s:=⟨_,List.getElem?_eq_getElem (by omega)⟩
   have gw:=List.mem_of_getElem? hs;have Mg:=ok.below s gw;obtain ⟨b0,fC,aqj⟩:=ok.files s gw;have fL:=ok.size s gw;have bC:=ux _ _ _ hs;obtain ⟨fs,sz⟩:=s;dsimp only at Mg fC aqj fL bC;have aEj:0<=sz:=by omega
   have aEk:sz.toNat=b0.length:=by omega
   clear aqj;have S1:=Dq.sl S.sl;cbv;refine .of C1 rfl ?_;cbv;refine .of S1 (by omega) (show la.toNat=g.cm.length - 1 by omega) (by omega) bC λsl off jA=>?_;cbv;refine .fR jA 1 rfl ?_;cbv;refine .ge (λPj=>?_) λxX=>?_
   ·cbv;refine .AB (by omega) ?_
    cbv;refine .of follows 6 ?_;cbv;refine .of C1 rfl ?_;cbv;refine .of C1 rfl ?_;cbv;refine .of S1 (by omega) (show la.toNat=g.cm.length - 1 by omega) (by omega) bC λZV xO B'=>?_;cbv;refine .fR B' 0 rfl ?_;cbv;refine kC (by omega) (by omega) λE J=>?_;refine .load C1 rfl (.nil ?_);have D1:=D.mono Dq.mod (by simp);have L1:=L.mono Dq.mod (by simp);cbv;refine Pm Dq.wf D1 (by rw [J];exact As (by omega)) (by omega) (λh' aeQ _ _=>?_) λh1b B a0 DX a2 K a4 a5 a6 a7 v wX=>?_
    ·rw [J,fC] at aeQ;cases aeQ
    refine .nil ?_;cbv;refine .iz rfl ?_;have LX:=L1.mono v (Du▸L1.jh (Du▸D1));have OX:iw g B:=ok.same K;have VX:Pt d [.sync E] B:=.sync a2 K a4 a5 a6;have nX:B.aJ.length<=1000000000:=by rw [a5];have:=List.length_filter_le (λa=>!jP E a) d.aJ;omega
    have oX:∀l,l∈B.own ld->l∈d.own ld\/h.get l=none:=λl b=>(a7 l b).imp_right λi=>by
     cases hy:h.get l with
     | none=>rfl
     | some o=>have:=Dq.mod.get hy (by simp);rw [i] at this;cases this
    have mX:Mod h h1b (d.own ld):=(Dq.mod.trans v).mono λl _ _ b=>by simpa using b
    have fX:=Iw.mono v λl b=>by obtain ⟨r,c⟩:=Iw.row b;exact D1.off c (by decide)
    have bX:Sl h1b 1 vb bs.length (ae bs):=(Dq.sl hb).mono v λl b=>(Jn l b).2;have CX:=LX.cell;rw [Du,Qx,IX,Nc] at CX;have VN:mT [DOp.sync E]=0:=rfl;generalize [DOp.sync E]=opx at VX VN;cbv;refine .of follows 6 ?_;cbv;refine .of CX rfl ?_;cbv;refine .of CX rfl ?_;cbv;refine kC (by omega) (by omega) λnm nu=>?_;cbv;refine .load CX rfl (.nil ?_);have rC:=OX.free w (by omega);have okn:zw nm:=by rw [nu];exact As (by omega)
    cbv;refine Dc wX DX okn nX fX.sl aeS hf0 (by rw [nu,rC];show 0+_<=_;omega) (λI _ av aO=>?_) λI d2 _ a1 a2 K a4 a5 a6 a7 v a9=>?_
    ·refine .nil ?_
     cbv;refine .yr (by decide) ?_;cbv;exact XM I B opx 7 (by decide) (DX.mono av (by simp)) (LX.mono av (by simp)) OX ⟨VX,by omega⟩ oX ((mX.trans av).mono (by simp)) aO
    ·refine .nil ?_
     cbv;refine .iz rfl ?_;have L2:=LX.mono v (Du▸LX.jh (Du▸DX));have C2:=L2.cell;rw [Du,Qx,IX,Nc] at C2;have S2:=L2.cm;rw [Qx] at S2;have P:Sl I 1 fv fb.length (ae fb):=(fX.mono v λl b=>by obtain ⟨r,c⟩:=fX.row b;exact DX.off c (by decide)).sl;cbv;refine .of follows 6 ?_;cbv;refine .of C2 rfl ?_;cbv;refine .of C2 rfl ?_;cbv;refine .of P λln ahw ahx=>?_;cbv;refine .flat rfl ?_;cbv;refine .flat rfl ?_;cbv;refine .agg ?_;cbv;refine .of a9 λlb h3 Oq av8 aI aS=>?_;have C3:=aI.get C2 (by simp);refine .load C3 rfl (.nil ?_);have nW:Sl h3 2 (.slice lb 0 1 (.exact 1)) 1 [.int .i64 w,.int .i64 ln]:=.row Oq rfl;cbv;refine .own aS (S2.mono aI (by simp)) nW.elems rfl rfl (by show _<=1099511627776;omega) (by decide) λsv2 h4 ju gr4 aL aW=>?_;have C4:=aL.get C3 λb=>by obtain ⟨r,c⟩:=S2.row b;rw [C2] at c;cases c
     refine .nil ?_;cbv;refine .one aW C4 ju.sl.flat rfl rfl rfl λh5 Bn bf bK=>?_;refine .nil ?_;have L2':=Du▸L2.jh (Du▸a1);have q:=(aI.trans aL).trans bf;have RI:∀l,l∈[]++ag sv++[j]->l∈g.own j:=λl b=>by
      simp only [List.nil_append,List.mem_append,List.mem_singleton] at b;simp only [Lg.own,Qx,List.mem_cons,List.mem_append];rcases b with b | b
      ·exact .inr (.inl b)
      ·exact .inl b
     have DY:bF h5 ld d2:=a1.mono q λl b f=>L2' l (RI l f) b;have R2:=L2.bZ;rw [IX] at R2;have RY:aG h5 fy 1 rv g.bZ.length g.rc:=R2.mono q λl b f=>by
      obtain ⟨r,c⟩:=R2.row b;simp only [List.nil_append,List.mem_append,List.mem_singleton] at f;rcases f with f | rfl
      ·obtain ⟨r',Co⟩:=S2.row f;rw [c] at Co;cases Co
      ·rw [C2] at c;cases c
     have nvb:∀l,l∈ag vb->l∉B.own ld:=λl b f=>(oX l f).elim (Jn l b).2 (hb.live b);have aly:∀l,l∈d2.own ld->l∈d.own ld\/h.get l=none:=λl b=>by
      rcases a7 l b with i | i
      ·exact oX l i
      ·cases hy:h.get l with
       | none=>exact .inr rfl
       | some o=>
         left
         refine Classical.byContradiction λhz=>?_;have:=mX.get hy hz;rw [i] at this;cases this
     have Dd:∀l,h5.get l=none\/h3.get l=none->h.get l=none\/l∈g.own j++d.own ld:=λl i=>by
      cases hy:h.get l with
      | none=>exact .inl rfl
      | some o=>
        right
        refine Classical.byContradiction λhz=>?_;rw [List.mem_append,not_or] at hz;have e2:=v.get (mX.get hy hz.2) λf=>(oX l f).elim hz.2 (by rw [hy];simp);have e3:=aI.get e2 (by simp);have e5:=q.get e2 λf=>hz.1 (RI l f);rcases i with i | i
        ·rw [i] at e5;cases e5
        ·rw [i] at e3;cases e3
     have wY:=bK;have CY:=Bn;have bY:Sl h5 1 vb bs.length (ae bs):=(bX.mono v nvb).mono q λl b f=>(Jn l b).1 (RI l f);obtain ⟨svY,XN⟩:∃x,x=sv2:=⟨_,rfl⟩;rw [<-XN] at CY;have tail:∀h' rv2 t nz,h'.get j=some (.cells [.ptr ld 0,svY,rv2,.int .i64 nz] gC 0 .yes)->nz=w+1->aG h' fy 1 rv2 (g.bZ.length+1) t->(∃k,t=g.rc++[k]/\Ro h' 1 k bs.length (ae bs))->(∀l,l∈ag rv2->l∈ag rv\/h5.get l=none)->Mod h5 h' (j::ag rv)->Wf h'->Q (.tuple [.int .i64 w,.int .i64 0]) h':=λh' rv2 t nz g1 g2 g3 g4 g5 O g7=>by
      obtain ⟨k,rfl,U⟩:=g4;have A:∀l,l∈j::ag rv->l∈g.own j:=λl b=>by
       simp only [Lg.own,IX,List.mem_cons,List.mem_append] at b ⊢;rcases b with b | b
       ·exact .inl b
       ·exact .inr (.inr b)
      have o5:=ju.mono bf λl b=>by
       obtain ⟨r,c⟩:=ju.row b;rw [List.mem_singleton];rintro rfl;rw [C4] at c;cases c
      have o6:=o5.mono O λl b f=>by
       obtain ⟨r,c⟩:=o5.row b;rcases List.mem_cons.1 f with rfl | f
       ·rw [Bn] at c;cases c
       ·obtain ⟨r',Co⟩:=RY.row f;rw [c] at Co;cases Co
      have N6:=(mX.trans v).trans (q.trans O);refine hq h' ⟨ld,svY,rv2,g.cm++[(w,ln)],g.bZ++[bs],g.rc++[k],nz⟩ d2 _ (Du▸DY.mono O λl b f=>L2' l (A l f) b) ⟨g1,?_,by simpa using g3,(L.rcs.mono N6).snoc U⟩ ?_ ⟨VX.trans (.act (a:=.wrote nm ((bM (said B.seen) nm).getD []).length fb) a2 K a4 a5 a6),by rw [jj,VN];simp [mT]⟩ rfl g2 rfl (λl b=>?_) (N6.mono λl o ho b=>?_) g7
      ·rw [oF,XN];simpa [ta] using o6
      ·subst Nc
       rw [nu,rC] at K;exact OX.new (gD DX.seen) K ahw ahx (by omega) hfs dN RH g2
      ·rw [List.mem_append]
       rcases List.mem_append.1 b with b | b
       ·simp only [Lg.own,List.mem_cons,List.mem_append] at b
        rcases b with rfl | b | b
        ·left;left;simp [Lg.own]
        ·rw [XN] at b
         rcases gr4 l b with i | i
         ·exact (Dd l (.inr i)).symm.imp_left List.mem_append.1
         ·left;left;simp only [Lg.own,Qx,List.mem_cons,List.mem_append];exact .inr (.inl i)
        ·rcases g5 l b with i | i
         ·left;left;simp only [Lg.own,IX,List.mem_cons,List.mem_append];exact .inr (.inr i)
         ·exact (Dd l (.inl i)).symm.imp_left List.mem_append.1
       ·exact (aly l (Du▸b)).imp_left .inr
      ·simp only [List.mem_append] at b ⊢
       rcases b with (b | b) | (b | b)
       ·exact .inr b
       ·exact .inr ((oX l b).resolve_right (by rw [ho];simp))
       ·exact .inl (RI l (by simpa using b))
       ·exact .inl (A l b)
     cbv;refine .of follows 7 ?_;cbv;refine .of CY rfl ?_;cbv;refine rn zr wY bY (aD _) (by omega) (by decide) λk h6 Z G w6=>?_;have C6:=G.get CY (by simp);refine .load C6 rfl (.nil ?_);cbv;refine .flat Z.flat ?_;cbv;refine .of w6 λlc h7 Qt hfc y w7=>?_;have C7:=y.get C6 (by simp);have R7:=(RY.mono G (by simp)).mono y (by simp);refine .load C7 rfl (.nil ?_);have R:Sl h7 1 (.slice lc 0 1 (.exact 1)) 1 [k]:=.row Qt rfl;cbv;refine .own w7 R7 R.elems rfl (by show (cf k&&true)=true;rw [Z.flat];rfl) (by show _<=1099511627776;omega) (by decide) λrv2 h8 M X m8 w8=>?_;have T:j∉ag rv:=λb=>by obtain ⟨r,c⟩:=R7.row b;rw [C7] at c;cases c
     have C8:=m8.get C7 T;refine .nil ?_;cbv;refine .one w8 C8 M.sl.flat rfl rfl rfl λh9 FM W w9=>?_;refine .nil ?_;cbv;refine .of FM rfl ?_;cbv;refine .add (by omega) (by omega) λnx1 N=>?_;cbv;refine .one w9 FM rfl rfl rfl rfl λsQ tq u Y=>?_;cbv;refine .of tq rfl ?_;cbv;refine .sub (by omega) (by omega) λnz hnz=>?_;cbv;have:nz=w:=by omega
     subst this;have o9:=M.mono W λl b=>by
      obtain ⟨r,c⟩:=M.row b;rw [List.mem_singleton];rintro rfl;rw [C8] at c;cases c
     have o10:=o9.mono u λl b=>by
      obtain ⟨r,c⟩:=o9.row b;rw [List.mem_singleton];rintro rfl;rw [FM] at c;cases c
     refine tail sQ rv2 _ nx1 tq N o10 ⟨k,rfl,(((Z.mono y).mono m8).mono W).mono u⟩ (λl b=>?_) ((((G.trans y).trans m8).trans (W.trans u)).mono λl _ _ b=>?_) Y
     ·rcases X l b with i | i
      ·right
       cases hy:h5.get l with
       | none=>rfl
       | some o=>have:=y.get (G.get hy (by simp)) (by simp);rw [i] at this;cases this
      ·exact .inl i
     ·simp at b ⊢
      rcases b with b | b
      ·exact .inr b
      ·exact .inl b
   ·cbv;refine .of follows 6 ?_
    cbv;refine .of C1 rfl ?_;cbv;refine .of C1 rfl ?_;cbv;refine .of S1 (by omega) (show la.toNat=g.cm.length - 1 by omega) (by omega) bC λZV xO B'=>?_;cbv;refine .fR B' 0 rfl ?_;cbv;refine kC (by omega) (by omega) λE J=>?_;refine .load C1 rfl (.nil ?_);have D1:=D.mono Dq.mod (by simp);have L1:=L.mono Dq.mod (by simp);have hat:b0.length+fb.length<=400000:=by omega
    cbv;refine Dc Dq.wf D1 (by rw [J];exact As (by omega)) (by omega) Iw.sl aeS hf0 (by rw [J,fC];exact hat) (λI _ av aO=>?_) λI d2 _ a1 a2 K a4 a5 a6 a7 v a9=>?_
    ·refine .nil ?_
     cbv;refine .yr (by decide) ?_;cbv;have mm:=Dq.mod.trans av;exact XM I d [] 7 (by decide) (D.mono mm (by simp)) (L.mono mm (by simp)) ok ⟨.nil d,by decide⟩ (λl b=>.inl b) (mm.mono (by simp)) aO
    ·refine .nil ?_
     cbv;refine .iz rfl ?_;have L2:=L1.mono v (Du▸L1.jh (Du▸D1));have C2:=L2.cell;rw [Du,Qx,IX,Nc] at C2;have S2:=L2.cm;rw [Qx] at S2;have hsp:g.cm=g.cm.dropLast++[(fs,sz)]:=by
      have h1:g.cm.getLast? =some (fs,sz):=by rw [List.getLast?_eq_getElem?];exact hs
      have I:g.cm≠[]:=by rintro e;rw [e] at h1;cases h1
      have:=(List.dropLast_concat_getLast I).symm;rw [List.getLast?_eq_some_getLast I] at h1;rw [Option.some.inj h1] at this;exact this
     have P:Sl I 1 fv fb.length (ae fb):=(Iw.mono v λl b=>by obtain ⟨r,c⟩:=Iw.row b;exact D1.off c (by decide)).sl;cbv;refine .of C2 rfl ?_;cbv;refine .own S2 (by omega) (by omega) λlq FQ hlq hrq aeW=>?_;have aoh:FQ=(ta g.cm.dropLast).length:=by rw [aeW,Me,List.length_dropLast];omega
     have oG:ta g.cm=ta g.cm.dropLast++[.int .i64 fs,.int .i64 sz]:=by have:=oF g.cm.dropLast [(fs,sz)];rw [<-hsp] at this;exact this
     rw [oG] at hrq S2;cbv;refine .of hrq (by rw [aoh];exact ahv _ _ _) ?_;cbv;refine .of P λln ahw ahx=>?_;cbv;refine .add (by omega) (by omega) λsz2 aEl=>?_;cbv;refine .own S2 (by omega) (by omega) λlq2 ahp aqk alz aeX=>?_;have aql:ahp=(ta g.cm.dropLast).length:=by rw [aeX,Me,List.length_dropLast];omega
     cbv;refine .of a9 alz rfl rfl rfl rfl rfl (by rw [aql];exact U4 _ _ _ _) λh5 Bn bf bK=>?_;have S5:=S2.stored aqk Bn (by simp);have L2':=Du▸L2.jh (Du▸a1);have inS:∀l,l∈ag sv->l∈g.own j:=λl b=>by
      simp only [Lg.own,Qx,List.mem_cons,List.mem_append];exact .inr (.inl b)
     have in5:∀l,l∈[lq2]->l∈g.own j:=λl b=>by rw [List.mem_singleton] at b;subst b;exact inS _ aqk
     have DY:bF h5 ld d2:=a1.mono bf λl b f=>L2' l (in5 l f) b;have R2:=L2.bZ;rw [IX] at R2;have RY:aG h5 fy 1 rv g.bZ.length g.rc:=R2.mono bf λl b f=>by
      obtain ⟨r,c⟩:=R2.row b;rw [List.mem_singleton] at f;subst f;rw [alz] at c;cases c
     have CY:=bf.get C2 λf=>by rw [List.mem_singleton] at f;subst f;rw [alz] at C2;exact absurd (Dx.Obj.cells.inj (Option.some.inj C2)).2.1 (by decide)
     have bY:Sl h5 1 vb bs.length (ae bs):=((Dq.sl hb).mono v λl b=>(Jn l b).2).mono bf λl b f=>(Jn l b).1 (in5 l f);have wY:=bK;have m15:=(Dq.mod.trans v).trans bf;have Dd:∀l,h5.get l=none->h.get l=none\/l∈g.own j++d.own ld:=λl i=>by
      cases hy:h.get l with
      | none=>exact .inl rfl
      | some o=>
        right
        refine Classical.byContradiction λhz=>?_;rw [List.mem_append,not_or] at hz;have e5:=m15.get hy λf=>by
         simp only [List.nil_append,List.mem_append] at f;exact f.elim hz.2 λf=>hz.1 (in5 l f)
        rw [i] at e5;cases e5
     have tail:∀h' rv2 t nz,h'.get j=some (.cells [.ptr ld 0,sv,rv2,.int .i64 nz] gC 0 .yes)->nz=w+1->aG h' fy 1 rv2 (g.bZ.length+1) t->(∃k,t=g.rc++[k]/\Ro h' 1 k bs.length (ae bs))->(∀l,l∈ag rv2->l∈ag rv\/h5.get l=none)->Mod h5 h' (j::ag rv)->Wf h'->Q (.tuple [.int .i64 w,.int .i64 0]) h':=λh' rv2 t nz g1 g2 g3 g4 g5 O g7=>by
      obtain ⟨k,rfl,U⟩:=g4;have A:∀l,l∈j::ag rv->l∈g.own j:=λl b=>by
       simp only [Lg.own,IX,List.mem_cons,List.mem_append] at b ⊢;rcases b with b | b
       ·exact .inl b
       ·exact .inr (.inr b)
      have o6:=S5.mono O λl b f=>by
       obtain ⟨r,c⟩:=S5.row b;rcases List.mem_cons.1 f with rfl | f
       ·rw [CY] at c;cases c
       ·obtain ⟨r',Co⟩:=RY.row f;rw [c] at Co;cases Co
      have N6:=m15.trans O;refine hq h' ⟨ld,sv,rv2,g.cm.dropLast++[(fs,sz2)],g.bZ++[bs],g.rc++[k],nz⟩ d2 _ (Du▸DY.mono O λl b f=>L2' l (A l f) b) ⟨g1,?_,by simpa using g3,(L.rcs.mono N6).snoc U⟩ ?_ ⟨.act (a:=.wrote E ((bM (said d.seen) E).getD []).length fb) a2 K a4 a5 a6,by simp [mT]⟩ rfl g2 rfl (λl b=>?_) (N6.mono λl o ho b=>?_) g7
      ·rw [oF]
       have e:(g.cm.dropLast++[(fs,sz2)]).length=g.cm.length:=by rw [List.length_append,List.length_dropLast];simp;omega
       rw [e];exact o6
      ·subst Nc
       have a3':said d2.seen=(Act.wrote (jQ fs.toNat) b0.length fb).run (said d.seen):=by rw [K,J,fC];rfl
       exact ok.more hsp (gD D.seen) fC a3' (by omega) (by omega) (by omega) dN RH g2
      ·rw [List.mem_append]
       rcases List.mem_append.1 b with b | b
       ·simp only [Lg.own,List.mem_cons,List.mem_append] at b
        rcases b with rfl | b | b
        ·left;left;simp [Lg.own]
        ·left;left;exact inS l b
        ·rcases g5 l b with i | i
         ·left;left;simp only [Lg.own,IX,List.mem_cons,List.mem_append];exact .inr (.inr i)
         ·exact (Dd l i).symm.imp_left List.mem_append.1
       ·rcases a7 l (Du▸b) with i | i
        ·exact .inl (.inr i)
        ·right
         cases hy:h.get l with
         | none=>rfl
         | some o=>have:=Dq.mod.get hy (by simp);rw [i] at this;cases this
      ·simp only [List.nil_append,List.mem_append] at b ⊢
       rcases b with (b | b) | b
       ·exact .inr b
       ·exact .inl (in5 l b)
       ·exact .inl (A l b)
     cbv;refine .of follows 7 ?_;cbv;refine .of CY rfl ?_;cbv;refine rn zr wY bY (aD _) (by omega) (by decide) λk h6 Z G w6=>?_;have C6:=G.get CY (by simp);refine .load C6 rfl (.nil ?_);cbv;refine .flat Z.flat ?_;cbv;refine .of w6 λlc h7 Qt hfc y w7=>?_;have C7:=y.get C6 (by simp);have R7:=(RY.mono G (by simp)).mono y (by simp);refine .load C7 rfl (.nil ?_);have R:Sl h7 1 (.slice lc 0 1 (.exact 1)) 1 [k]:=.row Qt rfl;cbv;refine .own w7 R7 R.elems rfl (by show (cf k&&true)=true;rw [Z.flat];rfl) (by show _<=1099511627776;omega) (by decide) λrv2 h8 M X m8 w8=>?_;have T:j∉ag rv:=λb=>by obtain ⟨r,c⟩:=R7.row b;rw [C7] at c;cases c
     have C8:=m8.get C7 T;refine .nil ?_;cbv;refine .one w8 C8 M.sl.flat rfl rfl rfl λh9 FM W w9=>?_;refine .nil ?_;cbv;refine .of FM rfl ?_;cbv;refine .add (by omega) (by omega) λnx1 N=>?_;cbv;refine .one w9 FM rfl rfl rfl rfl λsQ tq u Y=>?_;cbv;refine .of tq rfl ?_;cbv;refine .sub (by omega) (by omega) λnz hnz=>?_;cbv;have:nz=w:=by omega
     subst this;have o9:=M.mono W λl b=>by
      obtain ⟨r,c⟩:=M.row b;rw [List.mem_singleton];rintro rfl;rw [C8] at c;cases c
     have o10:=o9.mono u λl b=>by
      obtain ⟨r,c⟩:=o9.row b;rw [List.mem_singleton];rintro rfl;rw [FM] at c;cases c
     refine tail sQ rv2 _ nx1 tq N o10 ⟨k,rfl,(((Z.mono y).mono m8).mono W).mono u⟩ (λl b=>?_) ((((G.trans y).trans m8).trans (W.trans u)).mono λl _ _ b=>?_) Y
     ·rcases X l b with i | i
      ·right
       cases hy:h5.get l with
       | none=>rfl
       | some o=>have:=y.get (G.get hy (by simp)) (by simp);rw [i] at this;cases this
      ·exact .inl i
     ·simp at b ⊢
      rcases b with b | b
      ·exact .inr b
      ·exact .inl b
end K
