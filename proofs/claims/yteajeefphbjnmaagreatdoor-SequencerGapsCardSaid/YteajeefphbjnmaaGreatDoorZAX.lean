/-
  The sequencer's laws. Part ZAX of the proof: blotter/seglog: a log in memory; Sync.
-/
import Derived.Test.YteajeefphbjnmaaGreatDoorZAW
namespace K
open Go Go.Dx Go.RowKit
set_option maxRecDepth 100000
structure Lg where
 ld:Lb
 sv:V
 rv:V
 cm:List (Int×Int)
 bZ:List (List Nat)
 rc:List V
 next:Int
def sJ:List (Int×Int)->List V
 | []=>[]
 | (f,s)::r=>.int .i64 f :: .int .i64 s::sJ r
inductive yK (h:H):List (List Nat)->List V->Prop
 | nil:yK h [] []
 | cons {b:List Nat} {v:V} {l:List (List Nat)} {r:List V} (c:Ro h 1 v b.length (ae b)) (t:yK h l r):yK h (b::l) (v::r)
theorem yK.mono {h h':H}{l:List (List Nat)}{r:List V}{F:List Lb}(c:yK h l r)(m:Mod h h' F):yK h' l r:=by
 induction c with
 | nil=>exact .nil
 | cons c _ ih=>exact .cons (c.mono m) ih
theorem yK.bd {h:H}{l:List (List Nat)}{r:List V}(c:yK h l r):bd r=true:=by
 induction c with
 | nil=>rfl
 | cons c _ ih=>simp only [Dx.bd,c.flat,ih,Bool.and_self]
theorem yK.snoc {h:H}{l:List (List Nat)}{r:List V}{b:List Nat}{v:V}(c:yK h l r)(k:Ro h 1 v b.length (ae b)):yK h (l++[b]) (r++[v]):=by
 induction c with
 | nil=>exact .cons k .nil
 | cons c _ ih=>exact .cons c ih
structure iQ (h:H)(lg:Lb)(g:Lg):Prop where
 cell:h.get lg=some (.cells [.ptr g.ld 0,g.sv,g.rv,.int .i64 g.next] gj 0 .yes)
 cm:aE h fJ 2 g.sv g.cm.length (sJ g.cm)
 bZ:aE h eZ 1 g.rv g.bZ.length g.rc
 rcs:yK h g.bZ g.rc
def Lg.own (g:Lg)(lg:Lb):List Lb:=lg::(af g.sv++af g.rv)
theorem iQ.mono {h h':H}{lg:Lb}{g:Lg}{F:List Lb}(L:iQ h lg g)(m:Mod h h' F)(hF:∀l,l∈g.own lg->l∉F:=by simp):iQ h' lg g:=
 ⟨m.get L.cell (hF _ (by simp [Lg.own])),L.cm.mono m λl hl=>hF _ (by simp [Lg.own,hl]),L.bZ.mono m λl hl=>hF _ (by simp [Lg.own,hl]),L.rcs.mono m⟩
theorem bJ.kind {h:H}{ld:Lb}{d:dR}(D:bJ h ld d){l:Lb}(hl:l∈d.own ld):(∃es c,h.get l=some (.map es c))\/∃vs e,h.get l=some (.cells vs e 0 .yes)/\(e=rZ\/e=uY\/e=dU):=by
 simp only [dR.own,List.map_append,List.mem_cons,List.mem_append] at hl;rcases hl with rfl | rfl | rfl | rfl | hl | hl | hl
 ·exact .inr ⟨_,_,D.cell,.inl rfl⟩
 ·exact .inl ⟨_,_,D.seen.map⟩
 ·exact .inl ⟨_,_,D.last.map⟩
 ·exact .inl ⟨_,_,D.held⟩
 ·obtain ⟨r,hr⟩:=D.B7.row hl;exact .inr ⟨_,_,hr,.inr (.inl rfl)⟩
 ·obtain ⟨f,hf,rfl⟩:=List.mem_map.1 hl;exact .inr ⟨_,_,(D.seen.file f hf).cell,.inr (.inr rfl)⟩
 ·obtain ⟨f,hf,rfl⟩:=List.mem_map.1 hl;exact .inr ⟨_,_,(D.last.file f hf).cell,.inr (.inr rfl)⟩
theorem bJ.off {h:H}{ld:Lb}{d:dR}(D:bJ h ld d){l:Lb}{vs:List V}{e:TypeId}{fz:Nat}{own:Own}(hg:h.get l=some (.cells vs e fz own))(he:e≠rZ/\e≠uY/\e≠dU):l∉d.own ld:=λhl=>by
 rcases D.kind hl with ⟨_,_,h1⟩ | ⟨vs,e',h1,h2⟩
 ·rw [hg] at h1;cases h1
 ·rw [hg] at h1;cases h1
  rcases h2 with h2 | h2 | h2
  ·exact he.1 h2
  ·exact he.2.1 h2
  ·exact he.2.2 h2
theorem iQ.iK {h:H}{lg ld:Lb}{g:Lg}{d:dR}(L:iQ h lg g)(D:bJ h ld d):∀l,l∈g.own lg->l∉d.own ld:=λl hl=>by
 simp only [Lg.own,List.mem_cons,List.mem_append] at hl;rcases hl with rfl | hl | hl
 ·exact D.off L.cell (by decide)
 ·obtain ⟨r,hr⟩:=L.cm.row hl;exact D.off hr (by decide)
 ·obtain ⟨r,hr⟩:=L.bZ.row hl;exact D.off hr (by decide)
structure gS (g:Lg)(d:dR):Prop where
 Fh:g.cm.length<=1000000000
 agt:g.bZ.length<=1000000000
 one:1<=g.next
 top:g.next<=4000000000000000000
 aai:g.cm.Pairwise λa b=>a.1<b.1
 below:∀s,s∈g.cm->1<=s.1/\s.1<g.next
 files:∀s,s∈g.cm->∃b,bL (said d.seen) (jw s.1.toNat)=some b/\(b.length:Int)=s.2
 size:∀s,s∈g.cm->s.2<=100000
 free:∀k:Int,g.next<=k->bL (said d.seen) (jw k.toNat)=none
 head:∀s,g.cm.head? =some s->s.1+(g.bZ.length:Int)=g.next
 none:g.cm=[]->g.bZ=[]
theorem Lp:∀l:List (Int×Int),(sJ l).length=l.length*2
 | []=>rfl
 | (f,s)::r=>by simp only [sJ,List.length_cons,Lp r];omega
theorem tV:∀(l:List (Int×Int)) (i:Nat) (s:Int×Int),l[i]? =some s->rowFrom (sJ l) (i*2) 2=some [.int .i64 s.1,.int .i64 s.2]
 | [],i,s,h=>by simp at h
 | (f,z)::r,0,s,h=>by simp at h;subst h;rfl
 | (f,z)::r,i+1,s,h=>by
   have:=tV r i s (by simpa using h);rw [show (i+1)*2=i*2+1+1 by omega];exact this
theorem sa {h:H}{lg ld:Lb}{a b c:V}{t:TypeId}(hc:h.get lg=some (.cells [.ptr ld 0,a,b,c] t 0 .yes)){Q:V->H->Prop} (hq:Q (.bool true) h):CW pf G0 rU [.ptr lg 0] h Q:=by
 refine EB.enter (by kernel_rfl) ?_;cbv;refine .of hc rfl ?_;cbv;exact hq
theorem HD {h:H}{lg:Lb}{g:Lg}{d:dR}(hw:Wf h)(L:iQ h lg g)(D:bJ h g.ld d)(ok:gS g d)(hn:d.aH.length<=1000000000){Q:V->H->Prop}
  (bq:g.cm=[]->Q (.int .i64 0) h)
  (hq:∀h' d' nm,bJ h' g.ld d'->d'.room=d.room->d'.seen=d.seen->said d'.last=runs (d.aH.filter (gX nm)) (said d.last)->d'.aH=d.aH.filter (λa=>!gX nm a)->(∃c,d'.held=jL d.held c nm (bL (said d'.last) nm))->(∃s,g.cm.getLast? =some s/\nm=jw s.1.toNat)->
   (∀l,l∈d'.own g.ld->l∈d.own g.ld\/h.get l=none)->Mod h h' (d.own g.ld)->Wf h'->Q (.int .i64 0) h'):CW pf G0 kJ [.ptr lg 0] h Q:=by
 have C:=L.cell;have S:=L.cm;generalize AK:g.ld=ld at*;generalize g.next=nx at C;generalize Jg:g.sv=sv at*;generalize g.rv=rv at C;refine Ew.enter (by kernel_rfl) ?_;cbv;refine sa C ?_;cbv;refine .of C rfl ?_;cbv;refine .of S.sl λn eT Fj=>?_;cbv;refine .gt (λIq=>?_) λhle=>?_
 ·obtain ⟨s,hs⟩:∃s,g.cm[g.cm.length - 1]? =some s:=⟨_,List.getElem?_eq_getElem (by omega)⟩
  have pY:g.cm.getLast? =some s:=by rw [List.getLast?_eq_getElem?];exact hs
  have gi:=List.mem_of_getElem? hs;obtain ⟨b1,b2⟩:=ok.below s gi;obtain ⟨fb,gG,_⟩:=ok.files s gi;have QH:=ok.top;have yL:=ok.Fh;have bG:=tV _ _ _ hs;generalize auD:s.1=fs at*;generalize s.2=sz at*;cbv;refine .of follows 5 ?_;cbv;refine .of C rfl ?_;cbv;refine .of C rfl ?_;cbv;refine .sub (by omega) (by omega) λk hk=>?_;cbv;refine .of S.sl (by omega) (show k.toNat=g.cm.length - 1 by omega) (by omega) bG λl off iR=>?_;cbv;refine .gH iR 0 rfl ?_;cbv;refine j0 (by omega) (by omega) λnm si=>?_;cbv;refine .load C rfl (.nil ?_);cbv;refine Ov hw D (by rw [si];exact zC (by omega)) hn (λh' adJ _ _=>?_) λh1 d' a0 a1 a2 a3 a4 a5 a6 a7 a8 a9=>?_
  ·rw [si,gG] at adJ;cases adJ
  ·refine .nil ?_
   cbv;exact hq h1 d' nm a1 a2 a3 a4 a5 a6 ⟨s,pY,by rw [auD];exact si⟩ a7 a8 a9
 ·cbv;exact bq (List.length_eq_zero_iff.1 (by omega))
end K
namespace K
open Go Go.Dx Go.RowKit
set_option maxRecDepth 100000
theorem Yc:∀(k x:Nat),∀b∈beN k x,b<256
 | 0,x=>by simp [beN]
 | k+1,x=>by
   intro b hb;simp only [beN,List.mem_cons] at hb;rcases hb with rfl | hb
   ·omega
   ·exact Yc k x b hb
theorem jx {x:Nat}(h:x<=18446744073709551615):∀b∈cV x,b<256:=by
 have hl:=cF h;unfold cV at*;intro b hb;split at hb
 ·simp at hb;omega
 ·rename_i hx
  rw [if_neg hx] at hl;rcases List.mem_cons.1 hb with rfl | hb
  ·have:(beN (Cy x) x).length=Cy x:=Cx _ _
   simp at hl;omega
  ·exact Yc _ _ b hb
theorem Nl {h:H}{n:Int}{vb:V}{bs:List Nat}(hw:Wf h)(h0:0<=n)(h1:n<=9223372036854775807)(hb:Sl h 1 vb bs.length (ae bs))(hl:bs.length<=9000000)(EJ:∀x∈bs,x<256) {Q:V->H->Prop}
  (Da:∀h',65536<(cV n.toNat++bs).length->Mod h h' []->Wf h'->Q (.tuple [.nilSlice 0,.int .i64 4]) h')
  (hq:(cV n.toNat++bs).length<=65536->∀v h',aE h' 5 1 v (frame (cV n.toNat++bs)).length (ae (frame (cV n.toNat++bs)))->Loc h h' v->Q (.tuple [v,.int .i64 0]) h'):CW pf G0 wa [.int .i64 n,vb] h Q:=by
 have hlen:=cF (x:=n.toNat) (by omega);refine H9.enter (by kernel_rfl) ?_;cbv;refine jY hw (.nil 0) rfl (by omega) (by omega) h1 λv1 h2 ho lo=>?_;rw [Nat.zero_add,List.nil_append] at ho;have cR:=lo.sl hb;cbv;refine .loc lo ho cR.elems cR.len (az _) (by omega) (by decide) λv2 h3 fT lL _=>?_;rw [<-aK,<-List.length_append] at fT;cbv;refine V0 lL.wf fT.sl (by rw [List.length_append];omega) (λx hx=>?_) (λhbg=>?_) λqY v h4 jv Hy=>?_
 ·rcases List.mem_append.1 hx with hx | hx
  ·exact jx (by omega) x hx
  ·exact EJ x hx
 ·cbv;exact Da _ hbg lL.mod lL.wf
 ·cbv;exact hq qY _ _ jv (Hy.base lL.mod)
end K
namespace K
open Go Go.Dx Go.RowKit
set_option maxRecDepth 100000
inductive DOp where
 | act (a:Act)
 | sync (nm:List Nat)
 | flush
inductive OB:dR->List DOp->dR->Prop
 | nil (d:dR):OB d [] d
 | act {d d':dR} {a:Act} (room:d'.room=d.room) (seen:said d'.seen=a.run (said d.seen)) (last:d'.last=d.last) (aH:d'.aH=d.aH++[a]) (held:d'.held=hdo d.held d.ch a.nm (bL (said d'.seen) a.nm)):OB d [.act a] d'
 | sync {d d':dR} {nm:List Nat} (room:d'.room=d.room) (seen:d'.seen=d.seen) (last:said d'.last=runs (d.aH.filter (gX nm)) (said d.last)) (aH:d'.aH=d.aH.filter (λa=>!gX nm a)) (held:∃c,d'.held=jL d.held c nm (bL (said d'.last) nm)):OB d [.sync nm] d'
 | flush {d d':dR} (room:d'.room=d.room) (seen:(said d'.seen).Perm (said d'.last)) (last:said d'.last=runs d.aH (said d.last)) (aH:d'.aH=[]) (held:vG d'.held (said d'.last)):OB d [.flush] d'
 | trans {d d' d'':dR} {l l':List DOp} (a:OB d l d') (b:OB d' l' d''):OB d (l++l') d''
def ma:List DOp->Nat
 | []=>0
 | .act _::r=>ma r+1
 | _::r=>ma r
theorem iL:∀a b:List DOp,ma (a++b)=ma a+ma b
 | [],b=>by simp [ma]
 | .act _::r,b=>by simp only [List.cons_append,ma,iL r b];omega
 | .sync _::r,b=>by simp only [List.cons_append,ma,iL r b]
 | .flush::r,b=>by simp only [List.cons_append,ma,iL r b]
theorem OB.aH {d d':dR}{l:List DOp}(v:OB d l d'):d'.aH.length<=d.aH.length+ma l:=by
 induction v with
 | nil d=>simp [ma]
 | act room seen last aH held=>rw [aH];simp [ma]
 | sync room seen last aH held=>rw [aH];exact Nat.le_trans (List.length_filter_le _ _) (by simp)
 | flush room seen last aH held=>rw [aH];simp
 | trans a b iha ihb=>rw [iL];omega
structure agu (d:dR)(l:List DOp)(d':dR):Prop where
 dev:OB d l d'
 one:ma l<=1
theorem adK {n:Nat}{bs:List Nat}(hn:n<=18446744073709551615)(h:∀x∈bs,x<256):∀x∈cV n++bs,x<256:=λx hx=>by
 rcases List.mem_append.1 hx with hx | hx
 ·exact jx hn x hx
 ·exact h x hx
theorem aaj {l:List Nat}(h:∀x∈l,x<256) (hl:l.length<=65536):∀x∈frame l,x<256:=by
 intro x hx;have hc:=XY (Zy l.length++l);unfold u32 at hc;simp only [frame,List.mem_append] at hx;rcases hx with (hx | hx) | hx
 ·simp only [Zy,List.mem_cons,List.not_mem_nil,or_false] at hx;omega
 ·exact h x hx
 ·simp only [Tv,List.mem_cons,List.not_mem_nil,or_false] at hx;omega
theorem OC (l:List Nat):(frame l).length=l.length+7:=by simp [frame,Zy,Tv]
theorem nP:∀(a b:List (Int×Int)),sJ (a++b)=sJ a++sJ b
 | [],b=>rfl
 | (f,s)::r,b=>by simp only [List.cons_append,sJ,nP r b]
theorem _root_.Go.Dx.Sl.live {h:H}{size:Nat}{v:V}{n:Nat}{cs:List V}(s:Sl h size v n cs){l:Lb}(hl:l∈af v):h.get l≠none:=by
 cases s with
 | nil c=>simp [af] at hl
 | empty=>simp [af] at hl
 | row hg hr=>simp only [af,List.mem_singleton] at hl;subst hl;rw [hg];simp
theorem gS.same {g:Lg}{d d':dR}(ok:gS g d)(e:d'.seen=d.seen):gS g d':=
 ⟨ok.Fh,ok.agt,ok.one,ok.top,ok.aai,ok.below,by rw [e];exact ok.files,ok.size,by rw [e];exact ok.free,ok.head,ok.none⟩
theorem gS.new {g:Lg}{d d':dR}{fb bs:List Nat}{ln:Int}(ok:gS g d)(Rl:(cQ (said d.seen)).Nodup)(hs:said d'.seen=(Act.wrote (jw g.next.toNat) 0 fb).run (said d.seen))(Xp:0<=ln)(hl:ln.toNat=fb.length)(jc:ln<=100000)(h1:g.cm.length<=999999999)(h2:g.bZ.length<=999999999)(h3:g.next<4000000000000000000)
  {ld:Lb} {sv rv:V} {rc:List V} {nz:Int} (hz:nz=g.next+1):gS ⟨ld,sv,rv,g.cm++[(g.next,ln)],g.bZ++[bs],rc,nz⟩ d':=by
 subst hz;have dC:∀k:Int,0<=k->bL (said d'.seen) (jw k.toNat)=if k=g.next then some fb else bL (said d.seen) (jw k.toNat):=λk hk=>by
  rw [hs,Act.run_get _ Rl]
  by_cases e:k=g.next
  ·subst e
   rw [if_pos rfl];unfold Act.at;rw [if_pos (show jw g.next.toNat=(Act.wrote (jw g.next.toNat) 0 fb).nm from rfl),ok.free g.next (by omega)];simp [ff]
  ·rw [if_neg e]
   refine tU (λhx=>e ?_) _;have:=Lm hx;have:=ok.one;omega
 have AG:=ok.one;refine ⟨by simp;omega,by simp;omega,by show 1<=g.next+1;omega,by show g.next+1<=_;omega,?_,λs lJ=>?_,λs lJ=>?_,λs lJ=>?_,λk hk=>?_,λs lJ=>?_,λlJ=>by simp at lJ⟩
 ·refine List.pairwise_append.2 ⟨ok.aai,by simp,λa ha b hb=>?_⟩
  rw [List.mem_singleton] at hb;subst hb;exact (ok.below a ha).2
 ·show 1<=s.1/\s.1<g.next+1
  rcases List.mem_append.1 lJ with hx | hx
  ·have:=ok.below s hx;omega
  ·rw [List.mem_singleton] at hx;subst hx;exact ⟨AG,by show g.next<g.next+1;omega⟩
 ·rcases List.mem_append.1 lJ with hx | hx
  ·have hb:=ok.below s hx
   obtain ⟨b,e1,e2⟩:=ok.files s hx;exact ⟨b,by rw [dC s.1 (by omega),if_neg (by omega)];exact e1,e2⟩
  ·rw [List.mem_singleton] at hx;subst hx
   exact ⟨fb,by rw [dC g.next (by omega),if_pos rfl],by show (fb.length:Int)=ln;omega⟩
 ·rcases List.mem_append.1 lJ with hx | hx
  ·exact ok.size s hx
  ·rw [List.mem_singleton] at hx;subst hx;exact jc
 ·have hk:g.next+1<=k:=hk
  rw [dC k (by omega),if_neg (by omega)];exact ok.free k (by omega)
 ·show s.1+((g.bZ++[bs]).length:Int)=g.next+1
  rw [List.length_append];cases nQ:g.cm with
  | nil=>
    rw [nQ] at lJ;simp at lJ;subst lJ;rw [ok.none nQ]
    rfl
  | cons s0 r=>
    rw [nQ] at lJ;simp at lJ;subst lJ;have:=ok.head s0 (by rw [nQ];rfl);simp only [List.length_cons,List.length_nil];omega
theorem TR:∀(A:List V) (f z z':V),aX (A++[f,z]) (A.length+1) [z']=some (A++[f,z'])
 | [],f,z,z'=>rfl
 | x::A,f,z,z'=>by
   have:=TR A f z z';simp only [List.cons_append,List.length_cons,aX,this,ob]
theorem agv (A:List V)(f z:V):dI .one (A++[f,z]) (A.length+1)=some z:=by
 show (bB (A.length+1) (A++[f,z])).head? =some z
 rw [<-rK 1 A.length,vA];rfl
theorem _root_.Go.Dx.VA.own {h:H}{e:TypeId}{size:Nat}{v:V}{n:Nat}{cs:List V}{k:IntKind}{i:Int}{K:V->Prop} (o:aE h e size v n cs) (h0:0<=i) (hi:i.toNat<n) (hk:∀l off,l∈af v->h.get l=some (.cells cs e 0 .yes)->off=i.toNat*size->K (.ptr l off)):VA size v (.int k i) K:=by
 obtain ⟨j,rfl⟩:=Int.eq_ofNat_of_zero_le h0;have hj:j<n:=by simpa using hi
 have hb:Nat.blt j n=true:=by simpa using hj
 cases o with
 | nil=>omega
 | @ends l _ _ hg hl=>
   refine ⟨.ptr l (0+j*size),?_,hk _ _ (by simp [af]) hg (by simp)⟩;show ob (bN (Nat.blt j n) (some j)) (λi=>some (V.ptr l (0+i*size)))=_
   rw [hb];rfl
 | @exact l _ _ hg hl=>
   refine ⟨.ptr l (0+j*size),?_,hk _ _ (by simp [af]) hg (by simp)⟩;show ob (bN (Nat.blt j n) (some j)) (λi=>some (V.ptr l (0+i*size)))=_
   rw [hb];rfl
theorem _root_.Go.Dx.aE.stored {h h':H}{e:TypeId}{size:Nat}{v:V}{n:Nat}{cs VE:List V}(o:aE h e size v n cs){l:Lb}(hl:l∈af v)(hg:h'.get l=some (.cells VE e 0 .yes))(hc:VE.length=cs.length):aE h' e size v n VE:=by
 cases o with
 | nil=>simp [af] at hl
 | ends hg0 Xp=>simp only [af,List.mem_singleton] at hl;subst hl;exact .ends hg (hc.trans Xp)
 | exact hg0 Xp=>simp only [af,List.mem_singleton] at hl;subst hl;exact .exact hg (hc.trans Xp)
theorem gS.more {g:Lg}{d d':dR}{b0 fb bs:List Nat}{f z z':Int}{init:List (Int×Int)}(ok:gS g d)(hg:g.cm=init++[(f,z)])(Rl:(cQ (said d.seen)).Nodup)(fC:bL (said d.seen) (jw f.toNat)=some b0)(hs:said d'.seen=(Act.wrote (jw f.toNat) b0.length fb).run (said d.seen))(hz0:z=(b0.length:Int))(hz:z'=z+(fb.length:Int))(pV:z'<=100000)(h2:g.bZ.length<=999999999)(h3:g.next<4000000000000000000)
  {ld:Lb} {sv rv:V} {rc:List V} {nz:Int} (hnz:nz=g.next+1):gS ⟨ld,sv,rv,init++[(f,z')],g.bZ++[bs],rc,nz⟩ d':=by
 subst hnz;have hb:=ok.below (f,z) (by rw [hg];simp);dsimp only at hb;have dC:∀k:Int,0<=k->bL (said d'.seen) (jw k.toNat)=if k=f then some (b0++fb) else bL (said d.seen) (jw k.toNat):=λk hk=>by
  rw [hs,Act.run_get _ Rl]
  by_cases e:k=f
  ·subst e
   rw [if_pos rfl];unfold Act.at;rw [if_pos (show jw k.toNat=(Act.wrote (jw k.toNat) b0.length fb).nm from rfl),fC];show some (ff b0 b0.length fb)=_
   congr 1
   unfold ff;dsimp only;rw [show b0.length+fb.length - b0.length=fb.length by omega,List.take_left,List.drop_eq_nil_of_le (by simp),List.append_nil]
  ·rw [if_neg e]
   refine tU (λhx=>e ?_) _;have:=Lm hx;omega
 have AG:=ok.one;have EU:=ok.aai;rw [hg,List.pairwise_append] at EU;have yL:=ok.Fh;rw [hg] at yL;refine ⟨by simpa using yL,by simp;omega,by show 1<=g.next+1;omega,by show g.next+1<=_;omega,?_,λs lJ=>?_,λs lJ=>?_,λs lJ=>?_,λk hk=>?_,λs lJ=>?_,λlJ=>by simp at lJ⟩
 ·refine List.pairwise_append.2 ⟨EU.1,by simp,λa ha b G3=>?_⟩
  rw [List.mem_singleton] at G3;subst G3;exact EU.2.2 a ha (f,z) (by simp)
 ·show 1<=s.1/\s.1<g.next+1
  rcases List.mem_append.1 lJ with hx | hx
  ·have:=ok.below s (by rw [hg];exact List.mem_append_left _ hx);omega
  ·rw [List.mem_singleton] at hx;subst hx;exact ⟨hb.1,by show f<g.next+1;omega⟩
 ·rcases List.mem_append.1 lJ with hx | hx
  ·have Mv:=ok.below s (by rw [hg];exact List.mem_append_left _ hx)
   obtain ⟨b,e1,e2⟩:=ok.files s (by rw [hg];exact List.mem_append_left _ hx);have bA:=EU.2.2 s hx (f,z) (by simp);dsimp only at bA;exact ⟨b,by rw [dC s.1 (by omega),if_neg (by omega)];exact e1,e2⟩
  ·rw [List.mem_singleton] at hx;subst hx
   exact ⟨b0++fb,by rw [dC f (by omega),if_pos rfl],by show (((b0++fb).length:Nat):Int)=z';rw [List.length_append];omega⟩
 ·rcases List.mem_append.1 lJ with hx | hx
  ·exact ok.size s (by rw [hg];exact List.mem_append_left _ hx)
  ·rw [List.mem_singleton] at hx;subst hx;exact pV
 ·have hk:g.next+1<=k:=hk
  rw [dC k (by omega),if_neg (by omega)];exact ok.free k (by omega)
 ·show s.1+((g.bZ++[bs]).length:Int)=g.next+1
  rw [List.length_append];simp only [List.length_cons,List.length_nil];cases init with
  | nil=>
    simp at lJ;subst lJ;have:=ok.head (f,z) (by rw [hg];rfl);dsimp only at this ⊢;omega
  | cons s0 r=>
    simp at lJ;subst lJ;have:=ok.head s0 (by rw [hg];rfl);omega
theorem Bh {h:H}{lg:Lb}{g:Lg}{d:dR}{vb:V}{bs:List Nat}(hw:Wf h)(L:iQ h lg g)(D:bJ h g.ld d)(ok:gS g d)(hn:d.aH.length<=999999999)(hfs:g.cm.length<=999999999)(dt:g.bZ.length<=999999999)(QH:g.next<4000000000000000000)
  (hb:Sl h 1 vb bs.length (ae bs)) (Nc:∀l,l∈af vb->l∉g.own lg/\l∉d.own g.ld) (hl:bs.length<=9000000) (EJ:∀x∈bs,x<256) {Q:V->H->Prop}
  (Wm:∀h' d' ops (e:Int),e≠0->bJ h' g.ld d'->iQ h' lg g->gS g d'->agu d ops d'->(∀l,l∈d'.own g.ld->l∈d.own g.ld\/h.get l=none)->Mod h h' (d.own g.ld)->Wf h'->Q (.tuple [.int .i64 0,.int .i64 e]) h')
  (hq:∀h' g' d' ops,bJ h' g.ld d'->iQ h' lg g'->gS g' d'->agu d ops d'->g'.ld=g.ld->g'.next=g.next+1->g'.bZ=g.bZ++[bs]->(∀l,l∈g'.own lg++d'.own g.ld->l∈g.own lg++d.own g.ld\/h.get l=none)->Mod h h' (g.own lg++d.own g.ld)->Wf h'->Q (.tuple [.int .i64 g.next,.int .i64 0]) h'):CW pf G0 iX [.ptr lg 0,vb] h Q:=by
 have C:=L.cell;have S:=L.cm;have AG:=ok.one;generalize AK:g.ld=ld at*;generalize Mc:g.next=nx at*;generalize Jg:g.sv=sv at*;generalize Ii:g.rv=rv at*;have LM:∀{h':H} {F:List Lb},Mod h h' F->(∀l,l∈g.own lg->l∉F)->h'.get lg=some (.cells [.ptr ld 0,sv,rv,.int .i64 nx] gj 0 .yes):=λm hF=>m.get C (hF _ (by simp [Lg.own]));refine Ao.enter (by kernel_rfl) ?_;cbv;refine sa C ?_;cbv;refine .of C rfl ?_;cbv;refine .cP (by omega) ?_;cbv;refine .of C rfl ?_;cbv;refine Nl hw (by omega) (by omega) hb hl EJ (λh1 Da ar aM=>?_) λqY fv h1 MA HV=>?_
 ·cbv;refine .uk (by decide) ?_
  cbv;exact Wm h1 d [] 4 (by decide) (D.mono ar (by simp)) (L.mono ar (by simp)) ok ⟨.nil d,by decide⟩ (λl hl=>.inl hl) (ar.mono (by simp)) aM
 ·have gC:(frame (cV nx.toNat++bs)).length<=65543:=by rw [OC];omega
  have adL:Ig (frame (cV nx.toNat++bs)):=⟨by omega,aaj (adK (by omega) EJ) qY⟩;have hf0:0<(frame (cV nx.toNat++bs)).length:=by rw [OC];omega
  generalize frame (cV nx.toNat++bs)=fb at*;have C1:=LM HV.mod (by simp);cbv;refine .eC rfl ?_;cbv;refine .of C1 rfl ?_;cbv;refine .of (HV.sl S.sl) λn eT Fj=>?_;cbv;refine .sub (by omega) (by omega) λla fS=>?_;cbv;refine .lt (λbA=>?_) λjb=>?_
  ·cbv;refine .qp (by omega) ?_
   have DX:=D.mono HV.mod (by simp);have LX:=L.mono HV.mod (by simp);obtain ⟨dx,hdx⟩:∃dx,dx=d:=⟨_,rfl⟩;rw [<-hdx] at DX;have OX:gS g dx:=hdx▸ok;have VX:OB d [] dx:=hdx▸.nil d;have nX:dx.aH.length<=1000000000:=by rw [hdx];omega
   have oX:∀l,l∈dx.own ld->l∈d.own ld\/h.get l=none:=λl hl=>.inl (hdx▸hl);have mX:Mod h h1 (d.own ld):=HV.mod.mono (by simp);have wX:=HV.wf;have fX:=MA;have bX:Sl h1 1 vb bs.length (ae bs):=HV.sl hb;have VN:ma ([]:List DOp)=0:=rfl;generalize ([]:List DOp)=opx at VX VN;have CX:=C1;cbv;refine .of follows 6 ?_;cbv;refine .of CX rfl ?_;cbv;refine .of CX rfl ?_;cbv;refine j0 (by omega) (by omega) λnm si=>?_;cbv;refine .load CX rfl (.nil ?_);have jL:=OX.free nx (by omega);have okn:yG nm:=by rw [si];exact zC (by omega)
   cbv;refine CJ wX DX okn nX fX.sl adL hf0 (by rw [si,jL];show 0+_<=_;omega) (λh2 _ aq aN=>?_) λh2 d2 _ a1 a2 a3 a4 a5 a6 a7 a8 a9=>?_
   ·refine .nil ?_
    cbv;refine .uk (by decide) ?_;cbv;exact Wm h2 dx opx 7 (by decide) (DX.mono aq (by simp)) (LX.mono aq (by simp)) OX ⟨VX,by omega⟩ oX ((mX.trans aq).mono (by simp)) aN
   ·refine .nil ?_
    cbv;refine .eC rfl ?_;have L2:=LX.mono a8 (AK▸LX.iK (AK▸DX));have C2:=L2.cell;rw [AK,Jg,Ii,Mc] at C2;have S2:=L2.cm;rw [Jg] at S2;have fX2:Sl h2 1 fv fb.length (ae fb):=(fX.mono a8 λl hl=>by obtain ⟨r,hr⟩:=fX.row hl;exact DX.off hr (by decide)).sl;cbv;refine .of follows 6 ?_;cbv;refine .of C2 rfl ?_;cbv;refine .of C2 rfl ?_;cbv;refine .of fX2 λln agw adM=>?_;cbv;refine .flat rfl ?_;cbv;refine .flat rfl ?_;cbv;refine .agg ?_;cbv;refine .of a9 λlb h3 Qt auH aF aR=>?_;have C3:=aF.get C2 (by simp);refine .load C3 rfl (.nil ?_);have mD:Sl h3 2 (.slice lb 0 1 (.exact 1)) 1 [.int .i64 nx,.int .i64 ln]:=.row Qt rfl;cbv;refine .own aR (S2.mono aF (by simp)) mD.elems rfl rfl (by show _<=1099511627776;omega) (by decide) λsv2 h4 jv gr4 aD aQ=>?_;have C4:=aD.get C3 λhl=>by obtain ⟨r,hr⟩:=S2.row hl;rw [C2] at hr;cases hr
    refine .nil ?_;cbv;refine .one aQ C4 jv.sl.flat rfl rfl rfl λh5 Bg aY bH=>?_;refine .nil ?_;have L2':=AK▸L2.iK (AK▸a1);have m25:=(aF.trans aD).trans aY;have QI:∀l,l∈[]++af sv++[lg]->l∈g.own lg:=λl hl=>by
     simp only [List.nil_append,List.mem_append,List.mem_singleton] at hl;simp only [Lg.own,Jg,List.mem_cons,List.mem_append];rcases hl with hl | hl
     ·exact .inr (.inl hl)
     ·exact .inl hl
    have DY:bJ h5 ld d2:=a1.mono m25 λl hl hm=>L2' l (QI l hm) hl;have R2:=L2.bZ;rw [Ii] at R2;have RY:aE h5 eZ 1 rv g.bZ.length g.rc:=R2.mono m25 λl hl hm=>by
     obtain ⟨r,hr⟩:=R2.row hl;simp only [List.nil_append,List.mem_append,List.mem_singleton] at hm;rcases hm with hm | rfl
     ·obtain ⟨r',B8⟩:=S2.row hm;rw [hr] at B8;cases B8
     ·rw [C2] at hr;cases hr
    have nvb:∀l,l∈af vb->l∉dx.own ld:=λl hl hm=>(oX l hm).elim (Nc l hl).2 (hb.live hl);have akn:∀l,l∈d2.own ld->l∈d.own ld\/h.get l=none:=λl hl=>by
     rcases a7 l hl with hx | hx
     ·exact oX l hx
     ·cases hy:h.get l with
      | none=>exact .inr rfl
      | some o=>
        left
        refine Classical.byContradiction λhz=>?_;have:=mX.get hy hz;rw [hx] at this;cases this
    have CK:∀l,h5.get l=none\/h3.get l=none->h.get l=none\/l∈g.own lg++d.own ld:=λl hx=>by
     cases hy:h.get l with
     | none=>exact .inl rfl
     | some o=>
       right
       refine Classical.byContradiction λhz=>?_;rw [List.mem_append,not_or] at hz;have e2:=a8.get (mX.get hy hz.2) λhm=>(oX l hm).elim hz.2 (by rw [hy];simp);have e3:=aF.get e2 (by simp);have e5:=m25.get e2 λhm=>hz.1 (QI l hm);rcases hx with hx | hx
       ·rw [hx] at e5;cases e5
       ·rw [hx] at e3;cases e3
    have wY:=bH;have CY:=Bg;have bY:Sl h5 1 vb bs.length (ae bs):=(bX.mono a8 nvb).mono m25 λl hl hm=>(Nc l hl).1 (QI l hm);obtain ⟨svY,Wn⟩:∃x,x=sv2:=⟨_,rfl⟩;rw [<-Wn] at CY;have tail:∀h' rv2 rc2 nz,h'.get lg=some (.cells [.ptr ld 0,svY,rv2,.int .i64 nz] gj 0 .yes)->nz=nx+1->aE h' eZ 1 rv2 (g.bZ.length+1) rc2->(∃rb,rc2=g.rc++[rb]/\Ro h' 1 rb bs.length (ae bs))->(∀l,l∈af rv2->l∈af rv\/h5.get l=none)->Mod h5 h' (lg::af rv)->Wf h'->Q (.tuple [.int .i64 nx,.int .i64 0]) h':=λh' rv2 rc2 nz g1 g2 g3 g4 g5 g6 g7=>by
     obtain ⟨rb,rfl,hrb⟩:=g4;have inZ:∀l,l∈lg::af rv->l∈g.own lg:=λl hl=>by
      simp only [Lg.own,Ii,List.mem_cons,List.mem_append] at hl ⊢;rcases hl with hl | hl
      ·exact .inl hl
      ·exact .inr (.inr hl)
     have o5:=jv.mono aY λl hl=>by
      obtain ⟨r,hr⟩:=jv.row hl;rw [List.mem_singleton];rintro rfl;rw [C4] at hr;cases hr
     have o6:=o5.mono g6 λl hl hm=>by
      obtain ⟨r,hr⟩:=o5.row hl;rcases List.mem_cons.1 hm with rfl | hm
      ·rw [Bg] at hr;cases hr
      ·obtain ⟨r',B8⟩:=RY.row hm;rw [hr] at B8;cases B8
     have Nn:=(mX.trans a8).trans (m25.trans g6);refine hq h' ⟨ld,svY,rv2,g.cm++[(nx,ln)],g.bZ++[bs],g.rc++[rb],nz⟩ d2 _ (AK▸DY.mono g6 λl hl hm=>L2' l (inZ l hm) hl) ⟨g1,?_,by simpa using g3,(L.rcs.mono Nn).snoc hrb⟩ ?_ ⟨VX.trans (.act (a:=.wrote nm ((bL (said dx.seen) nm).getD []).length fb) a2 a3 a4 a5 a6),by rw [iL,VN];simp [ma]⟩ rfl g2 rfl (λl hl=>?_) (Nn.mono λl o ho hl=>?_) g7
     ·rw [nP,Wn];simpa [sJ] using o6
     ·subst Mc
      rw [si,jL] at a3;exact OX.new (gk DX.seen) a3 agw adM (by omega) hfs dt QH g2
     ·rw [List.mem_append]
      rcases List.mem_append.1 hl with hl | hl
      ·simp only [Lg.own,List.mem_cons,List.mem_append] at hl
       rcases hl with rfl | hl | hl
       ·left;left;simp [Lg.own]
       ·rw [Wn] at hl
        rcases gr4 l hl with hx | hx
        ·exact (CK l (.inr hx)).symm.imp_left List.mem_append.1
        ·left;left;simp only [Lg.own,Jg,List.mem_cons,List.mem_append];exact .inr (.inl hx)
       ·rcases g5 l hl with hx | hx
        ·left;left;simp only [Lg.own,Ii,List.mem_cons,List.mem_append];exact .inr (.inr hx)
        ·exact (CK l (.inl hx)).symm.imp_left List.mem_append.1
      ·exact (akn l (AK▸hl)).imp_left .inr
     ·simp only [List.mem_append] at hl ⊢
      rcases hl with (hl | hl) | (hl | hl)
      ·exact .inr hl
      ·exact .inr ((oX l hl).resolve_right (by rw [ho];simp))
      ·exact .inl (QI l (by simpa using hl))
      ·exact .inl (inZ l hl)
    cbv;refine .of follows 7 ?_;cbv;refine .of CY rfl ?_;cbv;refine qM yD wY bY (az _) (by omega) (by decide) λrb h6 r6 m6 w6=>?_;have C6:=m6.get CY (by simp);refine .load C6 rfl (.nil ?_);cbv;refine .flat r6.flat ?_;cbv;refine .of w6 λlc h7 Pz hfc m7 w7=>?_;have C7:=m7.get C6 (by simp);have R7:=(RY.mono m6 (by simp)).mono m7 (by simp);refine .load C7 rfl (.nil ?_);have adO:Sl h7 1 (.slice lc 0 1 (.exact 1)) 1 [rb]:=.row Pz rfl;cbv;refine .own w7 R7 adO.elems rfl (by show (bU rb&&true)=true;rw [r6.flat];rfl) (by show _<=1099511627776;omega) (by decide) λrv2 h8 sd gr8 m8 w8=>?_;have nrv:lg∉af rv:=λhl=>by obtain ⟨r,hr⟩:=R7.row hl;rw [C7] at hr;cases hr
    have C8:=m8.get C7 nrv;refine .nil ?_;cbv;refine .one w8 C8 sd.sl.flat rfl rfl rfl λh9 Lf m9 w9=>?_;refine .nil ?_;cbv;refine .of Lf rfl ?_;cbv;refine .add (by omega) (by omega) λnx1 adP=>?_;cbv;refine .one w9 Lf rfl rfl rfl rfl λvM AH m10 w10=>?_;cbv;refine .of AH rfl ?_;cbv;refine .sub (by omega) (by omega) λnz hnz=>?_;cbv;have:nz=nx:=by omega
    subst this;have o9:=sd.mono m9 λl hl=>by
     obtain ⟨r,hr⟩:=sd.row hl;rw [List.mem_singleton];rintro rfl;rw [C8] at hr;cases hr
    have o10:=o9.mono m10 λl hl=>by
     obtain ⟨r,hr⟩:=o9.row hl;rw [List.mem_singleton];rintro rfl;rw [Lf] at hr;cases hr
    refine tail vM rv2 _ nx1 AH adP o10 ⟨rb,rfl,(((r6.mono m7).mono m8).mono m9).mono m10⟩ (λl hl=>?_) ((((m6.trans m7).trans m8).trans (m9.trans m10)).mono λl _ _ hl=>?_) w10
    ·rcases gr8 l hl with hx | hx
     ·right
      cases hy:h5.get l with
      | none=>rfl
      | some o=>have:=m7.get (m6.get hy (by simp)) (by simp);rw [hx] at this;cases this
     ·exact .inl hx
    ·simp at hl ⊢
     rcases hl with hl | hl
     ·exact .inr hl
     ·exact .inl hl
  ·obtain ⟨s,hs⟩:∃s,g.cm[g.cm.length - 1]? =some s:=⟨_,List.getElem?_eq_getElem (by omega)⟩
   have gi:=List.mem_of_getElem? hs;have Lq:=ok.below s gi;obtain ⟨b0,fC,ao3⟩:=ok.files s gi;have ft:=ok.size s gi;have bG:=tV _ _ _ hs;obtain ⟨fs,sz⟩:=s;dsimp only at Lq fC ao3 ft bG;have aCU:0<=sz:=by omega
   have aCV:sz.toNat=b0.length:=by omega
   clear ao3;have S1:=HV.sl S.sl;cbv;refine .of C1 rfl ?_;cbv;refine .of S1 (by omega) (show la.toNat=g.cm.length - 1 by omega) (by omega) bG λsl off iR=>?_;cbv;refine .gH iR 1 rfl ?_;cbv;refine .ge (λX'=>?_) λxH=>?_
   ·cbv;refine .um (by omega) ?_
    cbv;refine .of follows 6 ?_;cbv;refine .of C1 rfl ?_;cbv;refine .of C1 rfl ?_;cbv;refine .of S1 (by omega) (show la.toNat=g.cm.length - 1 by omega) (by omega) bG λYJ Fk Wo=>?_;cbv;refine .gH Wo 0 rfl ?_;cbv;refine j0 (by omega) (by omega) λnm0 aal=>?_;refine .load C1 rfl (.nil ?_);have D1:=D.mono HV.mod (by simp);have L1:=L.mono HV.mod (by simp);cbv;refine Ov HV.wf D1 (by rw [aal];exact zC (by omega)) (by omega) (λh' adJ _ _=>?_) λh1b dx a0 DX a2 a3 a4 a5 a6 a7 a8 wX=>?_
    ·rw [aal,fC] at adJ;cases adJ
    refine .nil ?_;cbv;refine .eC rfl ?_;have LX:=L1.mono a8 (AK▸L1.iK (AK▸D1));have OX:gS g dx:=ok.same a3;have VX:OB d [.sync nm0] dx:=.sync a2 a3 a4 a5 a6;have nX:dx.aH.length<=1000000000:=by rw [a5];have:=List.length_filter_le (λa=>!gX nm0 a) d.aH;omega
    have oX:∀l,l∈dx.own ld->l∈d.own ld\/h.get l=none:=λl hl=>(a7 l hl).imp_right λhx=>by
     cases hy:h.get l with
     | none=>rfl
     | some o=>have:=HV.mod.get hy (by simp);rw [hx] at this;cases this
    have mX:Mod h h1b (d.own ld):=(HV.mod.trans a8).mono λl _ _ hl=>by simpa using hl
    have fX:=MA.mono a8 λl hl=>by obtain ⟨r,hr⟩:=MA.row hl;exact D1.off hr (by decide)
    have bX:Sl h1b 1 vb bs.length (ae bs):=(HV.sl hb).mono a8 λl hl=>(Nc l hl).2;have CX:=LX.cell;rw [AK,Jg,Ii,Mc] at CX;have VN:ma [DOp.sync nm0]=0:=rfl;generalize [DOp.sync nm0]=opx at VX VN;cbv;refine .of follows 6 ?_;cbv;refine .of CX rfl ?_;cbv;refine .of CX rfl ?_;cbv;refine j0 (by omega) (by omega) λnm si=>?_;cbv;refine .load CX rfl (.nil ?_);have jL:=OX.free nx (by omega);have okn:yG nm:=by rw [si];exact zC (by omega)
    cbv;refine CJ wX DX okn nX fX.sl adL hf0 (by rw [si,jL];show 0+_<=_;omega) (λh2 _ aq aN=>?_) λh2 d2 _ a1 a2 a3 a4 a5 a6 a7 a8 a9=>?_
    ·refine .nil ?_
     cbv;refine .uk (by decide) ?_;cbv;exact Wm h2 dx opx 7 (by decide) (DX.mono aq (by simp)) (LX.mono aq (by simp)) OX ⟨VX,by omega⟩ oX ((mX.trans aq).mono (by simp)) aN
    ·refine .nil ?_
     cbv;refine .eC rfl ?_;have L2:=LX.mono a8 (AK▸LX.iK (AK▸DX));have C2:=L2.cell;rw [AK,Jg,Ii,Mc] at C2;have S2:=L2.cm;rw [Jg] at S2;have fX2:Sl h2 1 fv fb.length (ae fb):=(fX.mono a8 λl hl=>by obtain ⟨r,hr⟩:=fX.row hl;exact DX.off hr (by decide)).sl;cbv;refine .of follows 6 ?_;cbv;refine .of C2 rfl ?_;cbv;refine .of C2 rfl ?_;cbv;refine .of fX2 λln agw adM=>?_;cbv;refine .flat rfl ?_;cbv;refine .flat rfl ?_;cbv;refine .agg ?_;cbv;refine .of a9 λlb h3 Qt auH aF aR=>?_;have C3:=aF.get C2 (by simp);refine .load C3 rfl (.nil ?_);have mD:Sl h3 2 (.slice lb 0 1 (.exact 1)) 1 [.int .i64 nx,.int .i64 ln]:=.row Qt rfl;cbv;refine .own aR (S2.mono aF (by simp)) mD.elems rfl rfl (by show _<=1099511627776;omega) (by decide) λsv2 h4 jv gr4 aD aQ=>?_;have C4:=aD.get C3 λhl=>by obtain ⟨r,hr⟩:=S2.row hl;rw [C2] at hr;cases hr
     refine .nil ?_;cbv;refine .one aQ C4 jv.sl.flat rfl rfl rfl λh5 Bg aY bH=>?_;refine .nil ?_;have L2':=AK▸L2.iK (AK▸a1);have m25:=(aF.trans aD).trans aY;have QI:∀l,l∈[]++af sv++[lg]->l∈g.own lg:=λl hl=>by
      simp only [List.nil_append,List.mem_append,List.mem_singleton] at hl;simp only [Lg.own,Jg,List.mem_cons,List.mem_append];rcases hl with hl | hl
      ·exact .inr (.inl hl)
      ·exact .inl hl
     have DY:bJ h5 ld d2:=a1.mono m25 λl hl hm=>L2' l (QI l hm) hl;have R2:=L2.bZ;rw [Ii] at R2;have RY:aE h5 eZ 1 rv g.bZ.length g.rc:=R2.mono m25 λl hl hm=>by
      obtain ⟨r,hr⟩:=R2.row hl;simp only [List.nil_append,List.mem_append,List.mem_singleton] at hm;rcases hm with hm | rfl
      ·obtain ⟨r',B8⟩:=S2.row hm;rw [hr] at B8;cases B8
      ·rw [C2] at hr;cases hr
     have nvb:∀l,l∈af vb->l∉dx.own ld:=λl hl hm=>(oX l hm).elim (Nc l hl).2 (hb.live hl);have akn:∀l,l∈d2.own ld->l∈d.own ld\/h.get l=none:=λl hl=>by
      rcases a7 l hl with hx | hx
      ·exact oX l hx
      ·cases hy:h.get l with
       | none=>exact .inr rfl
       | some o=>
         left
         refine Classical.byContradiction λhz=>?_;have:=mX.get hy hz;rw [hx] at this;cases this
     have CK:∀l,h5.get l=none\/h3.get l=none->h.get l=none\/l∈g.own lg++d.own ld:=λl hx=>by
      cases hy:h.get l with
      | none=>exact .inl rfl
      | some o=>
        right
        refine Classical.byContradiction λhz=>?_;rw [List.mem_append,not_or] at hz;have e2:=a8.get (mX.get hy hz.2) λhm=>(oX l hm).elim hz.2 (by rw [hy];simp);have e3:=aF.get e2 (by simp);have e5:=m25.get e2 λhm=>hz.1 (QI l hm);rcases hx with hx | hx
        ·rw [hx] at e5;cases e5
        ·rw [hx] at e3;cases e3
     have wY:=bH;have CY:=Bg;have bY:Sl h5 1 vb bs.length (ae bs):=(bX.mono a8 nvb).mono m25 λl hl hm=>(Nc l hl).1 (QI l hm);obtain ⟨svY,Wn⟩:∃x,x=sv2:=⟨_,rfl⟩;rw [<-Wn] at CY;have tail:∀h' rv2 rc2 nz,h'.get lg=some (.cells [.ptr ld 0,svY,rv2,.int .i64 nz] gj 0 .yes)->nz=nx+1->aE h' eZ 1 rv2 (g.bZ.length+1) rc2->(∃rb,rc2=g.rc++[rb]/\Ro h' 1 rb bs.length (ae bs))->(∀l,l∈af rv2->l∈af rv\/h5.get l=none)->Mod h5 h' (lg::af rv)->Wf h'->Q (.tuple [.int .i64 nx,.int .i64 0]) h':=λh' rv2 rc2 nz g1 g2 g3 g4 g5 g6 g7=>by
      obtain ⟨rb,rfl,hrb⟩:=g4;have inZ:∀l,l∈lg::af rv->l∈g.own lg:=λl hl=>by
       simp only [Lg.own,Ii,List.mem_cons,List.mem_append] at hl ⊢;rcases hl with hl | hl
       ·exact .inl hl
       ·exact .inr (.inr hl)
      have o5:=jv.mono aY λl hl=>by
       obtain ⟨r,hr⟩:=jv.row hl;rw [List.mem_singleton];rintro rfl;rw [C4] at hr;cases hr
      have o6:=o5.mono g6 λl hl hm=>by
       obtain ⟨r,hr⟩:=o5.row hl;rcases List.mem_cons.1 hm with rfl | hm
       ·rw [Bg] at hr;cases hr
       ·obtain ⟨r',B8⟩:=RY.row hm;rw [hr] at B8;cases B8
      have Nn:=(mX.trans a8).trans (m25.trans g6);refine hq h' ⟨ld,svY,rv2,g.cm++[(nx,ln)],g.bZ++[bs],g.rc++[rb],nz⟩ d2 _ (AK▸DY.mono g6 λl hl hm=>L2' l (inZ l hm) hl) ⟨g1,?_,by simpa using g3,(L.rcs.mono Nn).snoc hrb⟩ ?_ ⟨VX.trans (.act (a:=.wrote nm ((bL (said dx.seen) nm).getD []).length fb) a2 a3 a4 a5 a6),by rw [iL,VN];simp [ma]⟩ rfl g2 rfl (λl hl=>?_) (Nn.mono λl o ho hl=>?_) g7
      ·rw [nP,Wn];simpa [sJ] using o6
      ·subst Mc
       rw [si,jL] at a3;exact OX.new (gk DX.seen) a3 agw adM (by omega) hfs dt QH g2
      ·rw [List.mem_append]
       rcases List.mem_append.1 hl with hl | hl
       ·simp only [Lg.own,List.mem_cons,List.mem_append] at hl
        rcases hl with rfl | hl | hl
        ·left;left;simp [Lg.own]
        ·rw [Wn] at hl
         rcases gr4 l hl with hx | hx
         ·exact (CK l (.inr hx)).symm.imp_left List.mem_append.1
         ·left;left;simp only [Lg.own,Jg,List.mem_cons,List.mem_append];exact .inr (.inl hx)
        ·rcases g5 l hl with hx | hx
         ·left;left;simp only [Lg.own,Ii,List.mem_cons,List.mem_append];exact .inr (.inr hx)
         ·exact (CK l (.inl hx)).symm.imp_left List.mem_append.1
       ·exact (akn l (AK▸hl)).imp_left .inr
      ·simp only [List.mem_append] at hl ⊢
       rcases hl with (hl | hl) | (hl | hl)
       ·exact .inr hl
       ·exact .inr ((oX l hl).resolve_right (by rw [ho];simp))
       ·exact .inl (QI l (by simpa using hl))
       ·exact .inl (inZ l hl)
     cbv;refine .of follows 7 ?_;cbv;refine .of CY rfl ?_;cbv;refine qM yD wY bY (az _) (by omega) (by decide) λrb h6 r6 m6 w6=>?_;have C6:=m6.get CY (by simp);refine .load C6 rfl (.nil ?_);cbv;refine .flat r6.flat ?_;cbv;refine .of w6 λlc h7 Pz hfc m7 w7=>?_;have C7:=m7.get C6 (by simp);have R7:=(RY.mono m6 (by simp)).mono m7 (by simp);refine .load C7 rfl (.nil ?_);have adO:Sl h7 1 (.slice lc 0 1 (.exact 1)) 1 [rb]:=.row Pz rfl;cbv;refine .own w7 R7 adO.elems rfl (by show (bU rb&&true)=true;rw [r6.flat];rfl) (by show _<=1099511627776;omega) (by decide) λrv2 h8 sd gr8 m8 w8=>?_;have nrv:lg∉af rv:=λhl=>by obtain ⟨r,hr⟩:=R7.row hl;rw [C7] at hr;cases hr
     have C8:=m8.get C7 nrv;refine .nil ?_;cbv;refine .one w8 C8 sd.sl.flat rfl rfl rfl λh9 Lf m9 w9=>?_;refine .nil ?_;cbv;refine .of Lf rfl ?_;cbv;refine .add (by omega) (by omega) λnx1 adP=>?_;cbv;refine .one w9 Lf rfl rfl rfl rfl λvM AH m10 w10=>?_;cbv;refine .of AH rfl ?_;cbv;refine .sub (by omega) (by omega) λnz hnz=>?_;cbv;have:nz=nx:=by omega
     subst this;have o9:=sd.mono m9 λl hl=>by
      obtain ⟨r,hr⟩:=sd.row hl;rw [List.mem_singleton];rintro rfl;rw [C8] at hr;cases hr
     have o10:=o9.mono m10 λl hl=>by
      obtain ⟨r,hr⟩:=o9.row hl;rw [List.mem_singleton];rintro rfl;rw [Lf] at hr;cases hr
     refine tail vM rv2 _ nx1 AH adP o10 ⟨rb,rfl,(((r6.mono m7).mono m8).mono m9).mono m10⟩ (λl hl=>?_) ((((m6.trans m7).trans m8).trans (m9.trans m10)).mono λl _ _ hl=>?_) w10
     ·rcases gr8 l hl with hx | hx
      ·right
       cases hy:h5.get l with
       | none=>rfl
       | some o=>have:=m7.get (m6.get hy (by simp)) (by simp);rw [hx] at this;cases this
      ·exact .inl hx
     ·simp at hl ⊢
      rcases hl with hl | hl
      ·exact .inr hl
      ·exact .inl hl
   ·cbv;refine .of follows 6 ?_
    cbv;refine .of C1 rfl ?_;cbv;refine .of C1 rfl ?_;cbv;refine .of S1 (by omega) (show la.toNat=g.cm.length - 1 by omega) (by omega) bG λYJ Fk Wo=>?_;cbv;refine .gH Wo 0 rfl ?_;cbv;refine j0 (by omega) (by omega) λnm0 aal=>?_;refine .load C1 rfl (.nil ?_);have D1:=D.mono HV.mod (by simp);have L1:=L.mono HV.mod (by simp);have hat:b0.length+fb.length<=400000:=by omega
    cbv;refine CJ HV.wf D1 (by rw [aal];exact zC (by omega)) (by omega) MA.sl adL hf0 (by rw [aal,fC];exact hat) (λh2 _ aq aN=>?_) λh2 d2 _ a1 a2 a3 a4 a5 a6 a7 a8 a9=>?_
    ·refine .nil ?_
     cbv;refine .uk (by decide) ?_;cbv;have mm:=HV.mod.trans aq;exact Wm h2 d [] 7 (by decide) (D.mono mm (by simp)) (L.mono mm (by simp)) ok ⟨.nil d,by decide⟩ (λl hl=>.inl hl) (mm.mono (by simp)) aN
    ·refine .nil ?_
     cbv;refine .eC rfl ?_;have L2:=L1.mono a8 (AK▸L1.iK (AK▸D1));have C2:=L2.cell;rw [AK,Jg,Ii,Mc] at C2;have S2:=L2.cm;rw [Jg] at S2;have hsp:g.cm=g.cm.dropLast++[(fs,sz)]:=by
      have h1:g.cm.getLast? =some (fs,sz):=by rw [List.getLast?_eq_getElem?];exact hs
      have h2:g.cm≠[]:=by rintro e;rw [e] at h1;cases h1
      have:=(List.dropLast_concat_getLast h2).symm;rw [List.getLast?_eq_some_getLast h2] at h1;rw [Option.some.inj h1] at this;exact this
     have fX2:Sl h2 1 fv fb.length (ae fb):=(MA.mono a8 λl hl=>by obtain ⟨r,hr⟩:=MA.row hl;exact D1.off hr (by decide)).sl;cbv;refine .of C2 rfl ?_;cbv;refine .own S2 (by omega) (by omega) λlq UJ hlq hrq adQ=>?_;have am6:UJ=(sJ g.cm.dropLast).length:=by rw [adQ,Lp,List.length_dropLast];omega
     have nQ:sJ g.cm=sJ g.cm.dropLast++[.int .i64 fs,.int .i64 sz]:=by have:=nP g.cm.dropLast [(fs,sz)];rw [<-hsp] at this;exact this
     rw [nQ] at hrq S2;cbv;refine .of hrq (by rw [am6];exact agv _ _ _) ?_;cbv;refine .of fX2 λln agw adM=>?_;cbv;refine .add (by omega) (by omega) λsz2 aCW=>?_;cbv;refine .own S2 (by omega) (by omega) λlq2 ago ao4 ako adR=>?_;have ao5:ago=(sJ g.cm.dropLast).length:=by rw [adR,Lp,List.length_dropLast];omega
     cbv;refine .of a9 ako rfl rfl rfl rfl rfl (by rw [ao5];exact TR _ _ _ _) λh5 Bg aY bH=>?_;have S5:=S2.stored ao4 Bg (by simp);have L2':=AK▸L2.iK (AK▸a1);have inS:∀l,l∈af sv->l∈g.own lg:=λl hl=>by
      simp only [Lg.own,Jg,List.mem_cons,List.mem_append];exact .inr (.inl hl)
     have in5:∀l,l∈[lq2]->l∈g.own lg:=λl hl=>by rw [List.mem_singleton] at hl;subst hl;exact inS _ ao4
     have DY:bJ h5 ld d2:=a1.mono aY λl hl hm=>L2' l (in5 l hm) hl;have R2:=L2.bZ;rw [Ii] at R2;have RY:aE h5 eZ 1 rv g.bZ.length g.rc:=R2.mono aY λl hl hm=>by
      obtain ⟨r,hr⟩:=R2.row hl;rw [List.mem_singleton] at hm;subst hm;rw [ako] at hr;cases hr
     have CY:=aY.get C2 λhm=>by rw [List.mem_singleton] at hm;subst hm;rw [ako] at C2;exact absurd (Dx.Obj.cells.inj (Option.some.inj C2)).2.1 (by decide)
     have bY:Sl h5 1 vb bs.length (ae bs):=((HV.sl hb).mono a8 λl hl=>(Nc l hl).2).mono aY λl hl hm=>(Nc l hl).1 (in5 l hm);have wY:=bH;have m15:=(HV.mod.trans a8).trans aY;have CK:∀l,h5.get l=none->h.get l=none\/l∈g.own lg++d.own ld:=λl hx=>by
      cases hy:h.get l with
      | none=>exact .inl rfl
      | some o=>
        right
        refine Classical.byContradiction λhz=>?_;rw [List.mem_append,not_or] at hz;have e5:=m15.get hy λhm=>by
         simp only [List.nil_append,List.mem_append] at hm;exact hm.elim hz.2 λhm=>hz.1 (in5 l hm)
        rw [hx] at e5;cases e5
     have tail:∀h' rv2 rc2 nz,h'.get lg=some (.cells [.ptr ld 0,sv,rv2,.int .i64 nz] gj 0 .yes)->nz=nx+1->aE h' eZ 1 rv2 (g.bZ.length+1) rc2->(∃rb,rc2=g.rc++[rb]/\Ro h' 1 rb bs.length (ae bs))->(∀l,l∈af rv2->l∈af rv\/h5.get l=none)->Mod h5 h' (lg::af rv)->Wf h'->Q (.tuple [.int .i64 nx,.int .i64 0]) h':=λh' rv2 rc2 nz g1 g2 g3 g4 g5 g6 g7=>by
      obtain ⟨rb,rfl,hrb⟩:=g4;have inZ:∀l,l∈lg::af rv->l∈g.own lg:=λl hl=>by
       simp only [Lg.own,Ii,List.mem_cons,List.mem_append] at hl ⊢;rcases hl with hl | hl
       ·exact .inl hl
       ·exact .inr (.inr hl)
      have o6:=S5.mono g6 λl hl hm=>by
       obtain ⟨r,hr⟩:=S5.row hl;rcases List.mem_cons.1 hm with rfl | hm
       ·rw [CY] at hr;cases hr
       ·obtain ⟨r',B8⟩:=RY.row hm;rw [hr] at B8;cases B8
      have Nn:=m15.trans g6;refine hq h' ⟨ld,sv,rv2,g.cm.dropLast++[(fs,sz2)],g.bZ++[bs],g.rc++[rb],nz⟩ d2 _ (AK▸DY.mono g6 λl hl hm=>L2' l (inZ l hm) hl) ⟨g1,?_,by simpa using g3,(L.rcs.mono Nn).snoc hrb⟩ ?_ ⟨.act (a:=.wrote nm0 ((bL (said d.seen) nm0).getD []).length fb) a2 a3 a4 a5 a6,by simp [ma]⟩ rfl g2 rfl (λl hl=>?_) (Nn.mono λl o ho hl=>?_) g7
      ·rw [nP]
       have e:(g.cm.dropLast++[(fs,sz2)]).length=g.cm.length:=by rw [List.length_append,List.length_dropLast];simp;omega
       rw [e];exact o6
      ·subst Mc
       have a3':said d2.seen=(Act.wrote (jw fs.toNat) b0.length fb).run (said d.seen):=by rw [a3,aal,fC];rfl
       exact ok.more hsp (gk D.seen) fC a3' (by omega) (by omega) (by omega) dt QH g2
      ·rw [List.mem_append]
       rcases List.mem_append.1 hl with hl | hl
       ·simp only [Lg.own,List.mem_cons,List.mem_append] at hl
        rcases hl with rfl | hl | hl
        ·left;left;simp [Lg.own]
        ·left;left;exact inS l hl
        ·rcases g5 l hl with hx | hx
         ·left;left;simp only [Lg.own,Ii,List.mem_cons,List.mem_append];exact .inr (.inr hx)
         ·exact (CK l hx).symm.imp_left List.mem_append.1
       ·rcases a7 l (AK▸hl) with hx | hx
        ·exact .inl (.inr hx)
        ·right
         cases hy:h.get l with
         | none=>rfl
         | some o=>have:=HV.mod.get hy (by simp);rw [hx] at this;cases this
      ·simp only [List.nil_append,List.mem_append] at hl ⊢
       rcases hl with (hl | hl) | hl
       ·exact .inr hl
       ·exact .inl (in5 l hl)
       ·exact .inl (inZ l hl)
     cbv;refine .of follows 7 ?_;cbv;refine .of CY rfl ?_;cbv;refine qM yD wY bY (az _) (by omega) (by decide) λrb h6 r6 m6 w6=>?_;have C6:=m6.get CY (by simp);refine .load C6 rfl (.nil ?_);cbv;refine .flat r6.flat ?_;cbv;refine .of w6 λlc h7 Pz hfc m7 w7=>?_;have C7:=m7.get C6 (by simp);have R7:=(RY.mono m6 (by simp)).mono m7 (by simp);refine .load C7 rfl (.nil ?_);have adO:Sl h7 1 (.slice lc 0 1 (.exact 1)) 1 [rb]:=.row Pz rfl;cbv;refine .own w7 R7 adO.elems rfl (by show (bU rb&&true)=true;rw [r6.flat];rfl) (by show _<=1099511627776;omega) (by decide) λrv2 h8 sd gr8 m8 w8=>?_;have nrv:lg∉af rv:=λhl=>by obtain ⟨r,hr⟩:=R7.row hl;rw [C7] at hr;cases hr
     have C8:=m8.get C7 nrv;refine .nil ?_;cbv;refine .one w8 C8 sd.sl.flat rfl rfl rfl λh9 Lf m9 w9=>?_;refine .nil ?_;cbv;refine .of Lf rfl ?_;cbv;refine .add (by omega) (by omega) λnx1 adP=>?_;cbv;refine .one w9 Lf rfl rfl rfl rfl λvM AH m10 w10=>?_;cbv;refine .of AH rfl ?_;cbv;refine .sub (by omega) (by omega) λnz hnz=>?_;cbv;have:nz=nx:=by omega
     subst this;have o9:=sd.mono m9 λl hl=>by
      obtain ⟨r,hr⟩:=sd.row hl;rw [List.mem_singleton];rintro rfl;rw [C8] at hr;cases hr
     have o10:=o9.mono m10 λl hl=>by
      obtain ⟨r,hr⟩:=o9.row hl;rw [List.mem_singleton];rintro rfl;rw [Lf] at hr;cases hr
     refine tail vM rv2 _ nx1 AH adP o10 ⟨rb,rfl,(((r6.mono m7).mono m8).mono m9).mono m10⟩ (λl hl=>?_) ((((m6.trans m7).trans m8).trans (m9.trans m10)).mono λl _ _ hl=>?_) w10
     ·rcases gr8 l hl with hx | hx
      ·right
       cases hy:h5.get l with
       | none=>rfl
       | some o=>have:=m7.get (m6.get hy (by simp)) (by simp);rw [hx] at this;cases this
      ·exact .inl hx
     ·simp at hl ⊢
      rcases hl with hl | hl
      ·exact .inr hl
      ·exact .inl hl
end K
