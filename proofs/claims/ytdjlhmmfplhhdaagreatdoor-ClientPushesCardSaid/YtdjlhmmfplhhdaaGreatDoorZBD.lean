/-
  The client's laws. Part ZBD of the proof: blotter/msg: mutation, logged, Put.
-/
import Derived.Test.YtdjlhmmfplhhdaaGreatDoorZBC
import Derived.Test.YtdjlhmmfplhhdaaGreatDoorZBA
import Derived.Test.YtdjlhmmfplhhdaaGreatDoorZAX
namespace K
open Go Go.Dx Go.RowKit Go.Proofs
set_option maxRecDepth 100000
variable{h:H}
def abI (n:Int):Js:=.mk 2 n [] [] []
theorem oL.int (h:H)(n:Int):oL h (abI n) [.int .i64 2,.int .i64 n,.str [],.nilSlice 0,.nilSlice 0]:=.zero h 2 n ⟨by simp,by simp⟩
theorem oL.text {s:List Nat}(h:H)(hs:bt s):oL h (XQ s) [.int .i64 3,.int .i64 0,.str s,.nilSlice 0,.nilSlice 0]:=.zero h 3 0 hs
def ahS (kind:Int)(a name text:List Nat):Js:=.mk 5 0 [] [[107,105,110,100],[105,115,115,117,101],[110,97,109,101],[116,101,120,116]] [abI kind,XQ a,XQ name,XQ text]
theorem RX {kind:Int}{d name text:List Nat}(A:Wf h)(bi:bt d)(T:bt name)(I:bt text){Q:V->H->Prop} (C:∀cs h',oL h' (ahS kind d name text) cs->Mod h h' []->Wf h'->Q (.agg cs) h'):CW pf G0 yG [Mu kind d name text] h Q:=by
 refine LO.enter (by kernel_rfl) ?_;cbv;refine .agg ?_;cbv;refine .of A λlb h1 cw gi u B=>?_;cbv;refine .of B λlr X w L s S=>?_;have f:=s.get cw;have M:Mod h X []:=(u.trans s).mono λl o _ a=>by simp at a
 have p:=aj u (by simp) L;cbv;refine .of follows 12 ?_;cbv;refine .of f rfl ?_;cbv;refine .of f rfl ?_;cbv;refine .of f rfl ?_;cbv;refine .of f rfl ?_;cbv;refine Mx S λh3 k W=>?_;have g:=k.get f;cbv;refine .load g rfl ?_;cbv;refine .load g rfl ?_;cbv;refine .load g rfl ?_;cbv;refine .nil ?_;cbv;refine .flat rfl ?_;cbv;refine .agg ?_;cbv;refine Fu W λh4 aL Y=>?_;have j:=aL.get g;cbv;refine .load j rfl ?_;cbv;refine .load j rfl ?_;cbv;refine .nil ?_;cbv;refine .flat rfl ?_;cbv;refine .agg ?_;cbv;refine Fu Y λh5 n E=>?_;have Z:=n.get j;cbv;refine .load Z rfl ?_;cbv;refine .nil ?_;cbv;refine .flat rfl ?_;cbv;refine .agg ?_;cbv;refine Fu E λh6 q cz=>?_;cbv;refine .nil ?_;cbv;refine .flat rfl ?_;cbv;refine .agg ?_;cbv;refine .agg ?_;cbv;refine .agg ?_;cbv;refine .agg ?_;cbv;refine .agg ?_;cbv;refine .of cz λx b N P db U=>?_;have sl:Sl b 6 (.slice x 0 4 (.exact 4)) 4 [.str [107,105,110,100],.int .i64 2,.int .i64 kind,.str [],.nilSlice 0,.nilSlice 0,.str [105,115,115,117,101],.int .i64 3,.int .i64 0,.str d,.nilSlice 0,.nilSlice 0,.str [110,97,109,101],.int .i64 3,.int .i64 0,.str name,.nilSlice 0,.nilSlice 0,.str [116,101,120,116],.int .i64 3,.int .i64 0,.str text,.nilSlice 0,.nilSlice 0]:=(aG.exact (e:=203) N rfl).sl;have ps:He b [([107,105,110,100],abI kind),([105,115,115,117,101],XQ d),([110,97,109,101],XQ name),([116,101,120,116],XQ text)] [.str [107,105,110,100],.int .i64 2,.int .i64 kind,.str [],.nilSlice 0,.nilSlice 0,.str [105,115,115,117,101],.int .i64 3,.int .i64 0,.str d,.nilSlice 0,.nilSlice 0,.str [110,97,109,101],.int .i64 3,.int .i64 0,.str name,.nilSlice 0,.nilSlice 0,.str [116,101,120,116],.int .i64 3,.int .i64 0,.str text,.nilSlice 0,.nilSlice 0]:=
  .cons (oL.int b kind) (.cons (oL.text b bi) (.cons (oL.text b T) (.cons (oL.text b I) .nil)))
 have y:Mod h b []:=(((((M.trans k).trans aL).trans n).trans q).trans db).mono λl o _ a=>by simp at a
 have UO:=db.get (q.get (n.get (aL.get (k.get w))));cbv;refine .nil ?_;cbv;refine My U sl ps (by simp) (by simp;exact ⟨⟨by decide,by decide⟩,⟨by decide,by decide⟩,⟨by decide,by decide⟩,⟨by decide,by decide⟩⟩) λcs D hj8 v O=>?_;have J:=hj8.aZ;have F:Mod h D []:=(y.trans v).mono λl o _ a=>by simp at a
 obtain ⟨a1,a2,K,R,G,rfl⟩:=hj8.five;cbv;refine .nil ?_;cbv;refine .of (cs:=[a1,a2,K,R,G]) O (v.get UO) rfl rfl rfl rfl J rfl λh9 m r z=>?_;cbv;refine .nil ?_;cbv;refine .of m rfl ?_;cbv;exact C _ h9 (hj8.mono r) (F.fr r λl a=>by simp at a;subst a;exact .inl p) z
def ahT (x:ep):Js:=.mk 5 0 [] [[99,108,105,101,110,116],[105,100],[109]] [XQ x.af,abI x.id,ahS x.kind x.aE x.name x.text]
theorem X4 {x:ep}(J:Wf h)(s:bt x.af)(bi:bt x.aE)(z:bt x.name)(v:bt x.text){Q:V->H->Prop} (L:∀cs h',oL h' (ahT x) cs->Mod h h' []->Wf h'->Q (.agg cs) h'):CW pf G0 EA [afa x] h Q:=by
 obtain ⟨p,id,kind,W,name,text⟩:=x;dsimp only at s bi z v;refine Rf.enter (by kernel_rfl) ?_;cbv;refine .agg ?_;cbv;refine .of J λlb h1 cw gi ar K=>?_;cbv;refine .of K λlr h2 C T av aO=>?_;have f:=av.get cw;have U:Mod h h2 []:=(ar.trans av).mono λl o _ a=>by simp at a
 have n:=aj ar (by simp) T;cbv;refine .of follows 12 ?_;cbv;refine .of f rfl ?_;cbv;refine .of f rfl ?_;cbv;refine .of f rfl ?_;cbv;refine Fu aO λh3 k aS=>?_;have g:=k.get f;cbv;refine .load g rfl ?_;cbv;refine .load g rfl ?_;cbv;refine .nil ?_;cbv;refine .flat rfl ?_;cbv;refine .agg ?_;cbv;refine Mx aS λh4 j aW=>?_;have R:=j.get g;cbv;refine .load R rfl ?_;cbv;refine .nil ?_;cbv;refine .flat rfl ?_;cbv;refine .agg ?_;cbv;refine RX aW bi z v λcs h5 hj5 bf N=>?_;obtain ⟨a1,a2,w,y,u,rfl⟩:=hj5.five;have I:=hj5.aZ;cbv;refine .nil ?_;cbv;refine .flat rfl ?_;cbv;refine .agg ?_;cbv;refine .agg ?_;cbv;refine .agg ?_;cbv;refine .agg ?_;cbv;refine .of N λD d Y Z db eJ=>?_;have sl:Sl d 6 (.slice D 0 3 (.exact 3)) 3 [.str [99,108,105,101,110,116],.int .i64 3,.int .i64 0,.str p,.nilSlice 0,.nilSlice 0,.str [105,100],.int .i64 2,.int .i64 id,.str [],.nilSlice 0,.nilSlice 0,.str [109],a1,a2,w,y,u]:=(aG.exact (e:=203) Y rfl).sl;have ps:He d [([99,108,105,101,110,116],XQ p),([105,100],abI id),([109],ahS kind W name text)] [.str [99,108,105,101,110,116],.int .i64 3,.int .i64 0,.str p,.nilSlice 0,.nilSlice 0,.str [105,100],.int .i64 2,.int .i64 id,.str [],.nilSlice 0,.nilSlice 0,.str [109],a1,a2,w,y,u]:=
  .cons (oL.text d s) (.cons (oL.int d id) (.cons (hj5.mono db) .nil))
 have E:Mod h d []:=((((U.trans k).trans j).trans bf).trans db).mono λl o _ a=>by simp at a
 have UO:=db.get (bf.get (j.get (k.get C)));cbv;refine .nil ?_;cbv;refine My eJ sl ps (by simp) (by simp;exact ⟨⟨by decide,by decide⟩,⟨by decide,by decide⟩,⟨by decide,by decide⟩⟩) λcs O hj8 B X=>?_;have S:=hj8.aZ;have P:Mod h O []:=(E.trans B).mono λl o _ a=>by simp at a
 obtain ⟨F,b2,M,b4,b5,rfl⟩:=hj8.five;cbv;refine .nil ?_;cbv;refine .of (cs:=[F,b2,M,b4,b5]) X (B.get UO) rfl rfl rfl rfl S rfl λh9 m q G=>?_;cbv;refine .nil ?_;cbv;refine .of m rfl ?_;cbv;exact L _ h9 (hj8.mono q) (P.fr q λl a=>by simp at a;subst a;exact .inl n) G
theorem Zu {x:ep}(G:Wf h)(A:MQ x)(B:x.text.length<=300000){Q:V->H->Prop} (w:∀s (e:Int) h',s.length<=65536->(e=0->mr x)->(∀b∈s,b<256)->Mod h h' []->Wf h'->Q (.tuple [.str s,.int .i64 e]) h'):CW pf G0 O6 [afa x] h Q:=by
 obtain ⟨d,id,kind,Z,name,text⟩:=x;have t:=A;obtain ⟨I,F,D,v⟩:=t;dsimp only at I F D v B;refine CX.bytes λ_ u=>?_;have a:∀s,V.str s∈[V.str d,.int .i64 id,.int .i64 kind,.str Z,.str name,.str text]->∀b∈s,b<256:=λs hs=>u _ s (.head _) hs;clear u;refine aaN.enter (by kernel_rfl) ?_;cbv;refine .agg ?_;cbv;refine .of G λS T C Y L J=>?_;cbv;refine .of C rfl ?_;cbv;refine Zr (x:=⟨d,id,kind,Z,name,text⟩) J A (λp g k n=>?_) λp g k n=>?_
 all_goals
  have aQ:Mod h p []:=(L.trans k).mono λl o _ i=>by simp at i
 ·cbv;exact w [] 130 p (by simp) (λe=>by omega) (by simp) aQ n
 ·have P:=k.get C
  have FB:d.length<=24:=g.af.2.2;have I0:Z.length<=24:=g.m.aE.2.2;have R:name.length<=24:=by
   have:=g.m.name;dsimp only at this;unfold td at this;split at this
   ·rcases this with e | e
    ·rw [e];simp
    ·exact e.2.2
   ·split at this
    ·exact this.2.2
    ·rw [this];simp
  have Ct:text.length<=512:=by
   have:=g.m.text;dsimp only at this;unfold jk at this;split at this
   ·rcases this with e | e<;>rw [e]<;>decide
   ·split at this
    ·exact this.tr
    ·rw [this];simp
  have f:=g.m.known;have m:=v;have r:Lay (ahT ⟨d,id,kind,Z,name,text⟩):=by
   refine .obj rfl (by simp) (by simp) λy hy=>?_;simp at hy;rcases hy with rfl | rfl | rfl
   ·exact .text
   ·exact .int m
   ·refine .obj rfl (by simp) (by simp) λy hy=>?_
    simp at hy;rcases hy with rfl | rfl | rfl | rfl
    ·exact .int ⟨by dsimp only at f;omega,by dsimp only at f;omega⟩
    ·exact .text
    ·exact .text
    ·exact .text
  have q:XP (ahT ⟨d,id,kind,Z,name,text⟩)<=90000000:=by
   simp [ahT,ahS,XP,Fo,XQ,abI];omega
  cbv;refine .of P rfl ?_;cbv;refine X4 (x:=⟨d,id,kind,Z,name,text⟩) n ⟨by dsimp only;omega,a _ (by simp)⟩ ⟨by dsimp only;omega,a _ (by simp)⟩ ⟨by dsimp only;omega,a _ (by simp)⟩ ⟨B,a _ (by simp)⟩ λcs h3 Wc M N=>?_;obtain ⟨a1,a2,W,X,U,rfl⟩:=Wc.five;have E:Mod h h3 []:=(aQ.trans M).mono λl o _ i=>by simp at i
  cbv;refine zF N Wc r q λs e h4 hs j K O=>?_;cbv;exact w s e h4 hs (λ_=>g) j ((E.trans K).mono λl o _ i=>by simp at i) O
end K
namespace K
open Go Go.Dx Go.RowKit
set_option maxRecDepth 100000
variable{ls lg l:Lb}{h:H}{d:ei}
structure xB where
 lg:Lb
 li:Lb
 items:bH
 ci:Nat
 version:Int
 synced:Int
def Hf (v:V):Prop:=∃k x t at_,v = .agg [.str k,.bool x,.str t,.int .i64 at_]/\k.length<=128/\t.length<=4096/\0<=at_/\at_<=1099511627776
structure fc (h:H)(ls:Lb)(s:xB)(g:Lg)(d:ei):Prop where
 cell:h.get ls=some (.cells [.int .i32 0,.int .u32 0,.ptr s.lg 0,.map s.li,.int .i64 s.version,.int .i64 s.synced] gP 0 .yes)
 items:h.get s.li=some (.map (cd s.items) s.ci)
 iok:fS s.items s.ci
 rows:∀e,e∈s.items->e.1.length<=128/\Hf e.2.1
 log:jq h s.lg g
 kc:bF h g.ld d
 ok:iw g d
 apart:s.li∉d.own g.ld
def xB.own (s:xB)(ls:Lb)(g:Lg)(d:ei):List Lb:=ls::s.li::(g.own s.lg++d.own g.ld)
theorem Jq {a b c e f:V}{t:TypeId}(g:h.get ls=some (.cells [a,b,.ptr lg 0,c,e,f] t 0 .yes)){Q:V->H->Prop} (d:Q (.bool true) h):CW pf G0 oj [.ptr ls 0] h Q:=by
 refine zj.enter (by kernel_rfl) ?_;cbv;refine .of g rfl ?_;cbv;exact d
theorem jq.off {g:Lg}(L:jq h lg g){vs:List V}{e:TypeId}{i:Nat}{c:Own}(a:h.get l=some (.cells vs e i c))(f:e≠gC/\e≠fV/\e≠fy):l∉g.own lg:=λb=>by
 simp only [Lg.own,List.mem_cons,List.mem_append] at b;rcases b with rfl | b | b
 ·rw [L.cell] at a;cases a;exact f.1 rfl
 ·obtain ⟨r,d⟩:=L.cm.row b;rw [d] at a;cases a;exact f.2.1 rfl
 ·obtain ⟨r,d⟩:=L.bZ.row b;rw [d] at a;cases a;exact f.2.2 rfl
theorem jq.G4 {g:Lg}(L:jq h lg g){es:List (V×V×Nat)}{c:Nat}(b:h.get l=some (.map es c)):l∉g.own lg:=λa=>by
 simp only [Lg.own,List.mem_cons,List.mem_append] at a;rcases a with rfl | a | a
 ·rw [L.cell] at b;cases b
 ·obtain ⟨r,d⟩:=L.cm.row a;rw [d] at b;cases b
 ·obtain ⟨r,d⟩:=L.bZ.row a;rw [d] at b;cases b
inductive Mz (g:Lg)(d d':ei):Prop
 | none (h:g.cm=[]) (e:d'=d)
 | some (nm:List Nat) (hs:∃s,g.cm.getLast? =some s/\nm=jQ s.1.toNat) (room:d'.room=d.room) (seen:d'.seen=d.seen) (last:said d'.last=runs (d.aJ.filter (jP nm)) (said d.last)) (aJ:d'.aJ=d.aJ.filter (λa=>!jP nm a)) (held:∃c,d'.held=rC d.held c nm (bM (said d'.last) nm)) (free:cO (gY d.held nm) nm=none)
theorem Mz.dev {g:Lg}{d':ei}(s:Mz g d d'):∃ops,Pt d ops d':=by
 cases s with
 | none h e=>subst e;exact ⟨_,.nil _⟩
 | some nm hs room seen last aJ held _=>exact ⟨_,.sync room seen last aJ held⟩
theorem ahU {s:xB}{g:Lg}(M:Wf h)(S:fc h ls s g d)(J:d.aJ.length<=1000000000){Q:V->H->Prop}
  (N:∀h' d',fc h' ls {s with synced:=s.version} g d'->Mz g d d'->d'.aJ.length<=d.aJ.length->(∀l,l∈d'.own g.ld->l∈d.own g.ld\/h.get l=none)->Mod h h' (s.own ls g d)->Wf h'->Q (.int .i64 0) h'):CW pf G0 iR [.ptr ls 0] h Q:=by
 have C:=S.cell;generalize j:s.lg=lg at C;generalize Jp:s.li=li at C;generalize w:s.version=X5 at C;generalize s.synced=syn at C;refine zg.enter (by kernel_rfl) ?_;cbv;refine Jq C ?_;cbv;refine CU M C λh1 x m B=>?_;cbv;refine .of x rfl ?_;have A:ls∉d.own g.ld:=S.kc.off S.cell (by decide);have ng:ls∉g.own s.lg:=S.log.off S.cell (by decide);have D1:=S.kc.mono m (λl a b=>by rw [List.mem_singleton] at b;subst b;exact A a);have L1:=S.log.mono m (λl a b=>by rw [List.mem_singleton] at b;subst b;exact ng a);rw [j] at L1;refine CW.mono (Q:=λv k=>v = .int .i64 0/\∃d2,bF k g.ld d2/\iw g d2/\Mz g d d2/\d2.aJ.length<=d.aJ.length/\(∀l,l∈d2.own g.ld->l∈d.own g.ld\/h1.get l=none)/\Mod h1 k (d.own g.ld)/\Wf k) ?_ ?_
 ·refine Ia B L1 D1 S.ok J (λZ=>?_) λk d2 E a1 a2 G R F K Pg a7 P X=>?_
  ·exact ⟨rfl,d,D1,S.ok,.none Z rfl,Nat.le_refl _,λl a=>.inl a,Mod.refl _ _,B⟩
  ·exact ⟨rfl,d2,a1,S.ok.same G,.some E Pg a2 G R F K (L9 D1.rJ.keys E),by rw [F];exact List.length_filter_le _ _,a7,P,X⟩
 ·rintro v k ⟨rfl,d2,D2,t,dev,u,L,q,U⟩
  have n:=q.get x A;cbv;refine .nH rfl ?_;cbv;refine .of n rfl ?_;cbv;refine .one U n rfl rfl rfl rfl λh3 W aI Y=>?_;cbv;refine cq Y W λh4 I O aW=>?_;cbv;have L2:jq k lg g:=L1.mono q (L1.jh D1);have r:ls∉d2.own g.ld:=D2.off n (by decide);have y:ls∉g.own lg:=L2.off n (by decide);have z:∀l,l∈[ls]++[ls]->l=ls:=λl a=>by simpa using a
  have f:=aI.trans O;have N6:=(m.trans q).trans f;have p:∀l,l∈d2.own g.ld->l∈d.own g.ld\/h.get l=none:=λl a=>(L l a).imp_right λi=>by
   cases hy:h.get l with
   | none=>rfl
   | some o=>
     by_cases e:l=ls
     ·subst e;rw [x] at i;cases i
     ·have:=m.get hy (by simpa using e);rw [i] at this;cases this
  have I1:=m.get S.items (by rw [List.mem_singleton];rintro e;have:=S.items;rw [e,S.cell] at this;cases this);have I2:=q.get I1 S.apart;have I4:=f.get I2 λb=>by have:=z _ b;rw [this,n] at I2;cases I2
  refine N h4 d2 ⟨?_,I4,S.iok,S.rows,?_,D2.mono f λl a b=>r (z l b▸a),t,λb=>?_⟩ dev u p (N6.mono λl _ _ a=>?_) aW
  ·show h4.get ls=some (.cells [.int .i32 0,.int .u32 0,.ptr s.lg 0,.map s.li,.int .i64 s.version,.int .i64 s.version] gP 0 .yes)
   rw [j,Jp,w];exact I
  ·show jq h4 s.lg g
   rw [j];exact L2.mono f λl a b=>y (z l b▸a)
  ·rcases p _ b with i | i
   ·exact S.apart i
   ·rw [S.items] at i;cases i
  ·simp only [xB.own,List.mem_cons,List.mem_append,List.not_mem_nil,or_false] at a ⊢
   rcases a with (a | a) | (a | a)
   ·exact .inl a
   ·exact .inr (.inr (.inr a))
   ·exact .inl a
   ·exact .inl a
end K
namespace K
open Go Go.Dx Go.RowKit
set_option maxRecDepth 100000
variable{h:H}
def nq:List FI->List Nat
 | []=>[]
 | o::r=>c8 o.key.length++o.key++mU o.gone o.val++nq r
def abJ (v:Nat)(l:List FI):List Nat:=[1]++c8 v++c8 l.length++nq l
theorem Ve (a b:List FI):nq (a++b)=nq a++nq b:=by
 induction a with
 | nil=>rfl
 | cons o r ih=>simp only [List.cons_append,nq,ih,List.append_assoc]
theorem MA:∀(l:List FI),(∀o,o∈l->o.key.length<=128/\o.val.length<=4096)->(nq l).length<=l.length*4300
 | [],_=>by simp [nq]
 | o::r,h=>by
   have c:=MA r λx a=>h x (List.mem_cons_of_mem _ a);obtain ⟨b,e⟩:=h o (List.mem_cons_self ..);have h3:=(cJ (x:=o.key.length) (by omega)).2;have h4:=(cJ (x:=o.val.length) (by omega)).2;have d:(mU o.gone o.val).length<=4106:=by
    unfold mU;split
    ·simp
    ·simp;omega
   simp only [nq,List.length_append,List.length_cons] at*;omega
def me (v:Int):List FI->bH->Nat->bH×Nat
 | [],m,c=>(m,c)
 | o::r,m,c=>me v r (dt m o.key (.agg [.str o.key,.bool o.gone,.str o.val,.int .i64 v]) c) (eB m o.key c)
theorem Fv (v:Int):∀(a:List FI) (o:FI) (m:bH) (c:Nat),me v (a++[o]) m c=(dt (me v a m c).1 o.key (.agg [.str o.key,.bool o.gone,.str o.val,.int .i64 v]) (me v a m c).2,eB (me v a m c).1 o.key (me v a m c).2)
 | [],_o,_m,_c=>rfl
 | _x::a,o,_m,_c=>Fv v a o _ _
theorem jq.live {c:Lb}{g:Lg}(L:jq h c g){l:Lb}(a:l∈g.own c):h.get l≠none:=by
 simp only [Lg.own,List.mem_cons,List.mem_append] at a;rcases a with rfl | a | a
 ·rw [L.cell];simp
 ·obtain ⟨r,b⟩:=L.cm.row a;rw [b];simp
 ·obtain ⟨r,b⟩:=L.bZ.row a;rw [b];simp
theorem Vf:∀(l:List FI),(∀o,o∈l->(∀x∈o.key,x<256)/\∀x∈o.val,x<256)->(∀o,o∈l->o.key.length<=100000000/\o.val.length<=100000000)->∀x∈nq l,x<256
 | [],_,_=>by simp [nq]
 | o::r,h,hk=>by
   intro x a;obtain ⟨c,d⟩:=h o (List.mem_cons_self ..);obtain ⟨e,f⟩:=hk o (List.mem_cons_self ..);simp only [nq,List.mem_append] at a;rcases a with ((a | a) | a) | a
   ·exact jR (by omega) x a
   ·exact c x a
   ·unfold mU at a
    split at a
    ·simp at a;omega
    ·rcases List.mem_cons.1 a with rfl | a
     ·omega
     ·rcases List.mem_append.1 a with a | a
      ·exact jR (by omega) x a
      ·exact d x a
   ·exact Vf r (λq b=>h q (List.mem_cons_of_mem _ b)) (λq b=>hk q (List.mem_cons_of_mem _ b)) x a
theorem abK {ls:Lb}{s:xB}{g:Lg}{d:ei}{vo:V}{l:List FI}(hw:Wf h)(S:fc h ls s g d)(hn:d.aJ.length<=999999999)(hfs:g.cm.length<=999999999)(dN:g.bZ.length<=999999999)(RH:g.next<4000000000000000000)(hv0:0<=s.version)(hv:s.version<1099511627776)
  (hs:Sl h 3 vo l.length (xF l)) (P:∀q,q∈ag vo->q∉s.own ls g d) (hk:∀o,o∈l->o.key.length<=100000000/\o.val.length<=100000000) (IT:∀o,o∈l->(∀x∈o.key,x<256)/\∀x∈o.val,x<256) (hl:l.length<=1000000) {Q:V->H->Prop}
  (XM:∀h' d' ops (e:Int),e≠0->fc h' ls s g d'->ahu d ops d'->(∀q,q∈d'.own g.ld->q∈d.own g.ld\/h.get q=none)->Mod h h' (s.own ls g d)->Wf h'->Q (.tuple [.int .i64 0,.int .i64 e]) h')
  (hq:∀h' s' g' d' ops,ajs l->fc h' ls s' g' d'->ahu d ops d'->s'.lg=s.lg->s'.li=s.li->s'.version=s.version+1->s'.synced=s.synced->(s'.items,s'.ci)=me (s.version+1) l s.items s.ci->g'.ld=g.ld->g'.next=g.next+1->g'.bZ=g.bZ++[abJ (s.version+1).toNat l]->
   (∀q,q∈s'.own ls g' d'->q∈s.own ls g d\/h.get q=none)->Mod h h' (s.own ls g d)->Wf h'->Q (.tuple [.int .i64 (s.version+1),.int .i64 0]) h'):CW pf G0 gB [.ptr ls 0,vo] h Q:=by
 have C:=S.cell;generalize hlg:s.lg=U at C;generalize Jp:s.li=t at C;generalize ahV:s.version=X5 at*;generalize aq5:s.synced=syn at*;have Y:ls∈s.own ls g d:=by simp [xB.own]
 refine vy.enter (by kernel_rfl) ?_;cbv;refine Jq C ?_;cbv;refine CU hw C λh1 kK Z aK=>?_;have xM:=hs.mono Z λq f k=>by rw [List.mem_singleton] at k;subst k;exact P _ f Y
 cbv;refine ae4 aK xM hk hl (λh2 e w B aO=>?_) λh2 M B aO=>?_
 ·cbv;refine .yr w ?_
  cbv;refine cq aO (B.get kK (by simp)) λh3 gQ aI aS=>?_;cbv;have nd:ls∉d.own g.ld:=S.kc.off S.cell (by decide);have ng:ls∉g.own s.lg:=S.log.off S.cell (by decide);have mm:Mod h h3 [ls]:=((Z.trans B).trans aI).mono λq _ _ f=>by simpa using f
  have off:∀q,q∈[ls]->q=ls:=λq f=>by simpa using f
  refine XM h3 d [] e w ⟨?_,mm.get S.items (by rw [List.mem_singleton];rintro e;have:=S.items;rw [e,S.cell] at this;cases this),S.iok,S.rows,S.log.mono mm λq f k=>ng (off q k▸f),S.kc.mono mm λq f k=>nd (off q k▸f),S.ok,S.apart⟩ ⟨.nil d,by decide⟩ (λq f=>.inl f) (mm.mono λq _ _ f=>by rw [off q f];exact Y) aS;rw [hlg,Jp,ahV,aq5];exact gQ
 ·cbv;refine .iz rfl ?_
  have gb:=B.get kK (by simp);cbv;refine .of gb rfl ?_;cbv;refine .cK (by omega) ?_;cbv;refine .of gb rfl ?_;cbv;refine .add (by omega) (by omega) λv1 O3=>?_;cbv;refine .of aO λlb h3 Oq gi aI aS=>?_;have ho0:aG h3 5 1 (.slice lb 0 1 (.exact 1)) 1 (ae [1]):=.exact Oq rfl;have lo0:Loc h2 h3 (.slice lb 0 1 (.exact 1)):=⟨aI,by simp [Fr,ag,gi],aS⟩;cbv;refine kA aS ho0.sl rfl (by omega) (by omega) (by omega) λb1 h4 ju vT=>?_;have Xu:Sl h4 3 vo l.length (xF l):=((xM.mono B (by simp)).mono aI (by simp)).mono vT.mod (by simp);cbv;refine .of Xu λn fg Dr=>?_;have e1:=cJ (x:=v1.toNat) (by omega);cbv;refine kA vT.wf ju.sl (eW rfl (aD _)) (by omega) (by omega) (by omega) λb2 h5 np MZ=>?_;have e2:=cJ (x:=n.toNat) (by omega);have hs5:=Xu.mono MZ.mod (by simp);cbv;refine .of hs5 λn2 SP aj'=>?_;have hwd:(nq l).length<=1100800:=by
   have:=MA l λo y=>let ⟨_,a,_,b⟩:=M.each o y;⟨a,b⟩
   have:=M.tr;omega
  have aAF:=M.tr;have oB:aG h5 5 1 b2 ([1]++c8 v1.toNat++c8 l.length++nq (l.take 0)).length (ae ([1]++c8 v1.toNat++c8 l.length++nq (l.take 0))):=by
   rw [Dr] at np;simp only [List.take_zero,nq,List.append_nil,aM,List.length_append,List.length_cons,List.length_nil,Nat.zero_add];exact np
  have lB:Loc h2 h5 b2:=(MZ.base vT.mod).base lo0.mod;have pre:([1]++c8 v1.toNat++c8 l.length).length<=19:=by
   have:=(cJ (x:=l.length) (by omega)).2;simp;omega
  cbv;refine .inv [p0,p1,p7,p8,p46,p47,p48] (λm' aB h'=>∃i bv,aB=[.ptr ls 0,vo,.int .i64 v1,bv,vo,.int .i64 n2,.int .i64 i]/\0<=i/\i.toNat<=l.length/\m'=l.length - i.toNat/\
    aG h' 5 1 bv ([1]++c8 v1.toNat++c8 l.length++nq (l.take i.toNat)).length (ae ([1]++c8 v1.toNat++c8 l.length++nq (l.take i.toNat)))/\Loc h2 h' bv) [_,_,_,_,_,_,_] rfl _
   ⟨0,b2,rfl,by omega,by simp,rfl,oB,lB⟩ ?_
  rintro m' _ h' ⟨i,bv,rfl,iB,hi,eF,oI,lI⟩;have hsI:=lI.sl (xM.mono B (by simp));cbv;refine .lt (λbA=>?_) λjl=>?_
  ·obtain ⟨o,y⟩:∃o,l[i.toNat]? =some o:=⟨_,List.getElem?_eq_getElem (by omega)⟩
   have bC:=Fs _ _ _ y;have fE:=eM y;obtain ⟨_,hk1,_,uF⟩:=M.each o (List.mem_of_getElem? y);have hpw:(nq (l.take i.toNat)).length<=1100800:=by
    have:=MA (l.take i.toNat) λo y=>let ⟨_,a,_,b⟩:=M.each o (List.mem_of_mem_take y);⟨a,b⟩
    rw [List.length_take] at this;omega
   have aq6:nq (l.take (i.toNat+1))=nq (l.take i.toNat)++(c8 o.key.length++o.key++mU o.gone o.val):=by
    rw [fE,Ve];simp [nq]
   obtain ⟨key,v,val⟩:=o;dsimp only at bC hk1 uF aq6;have dl:([1]++c8 v1.toNat++c8 l.length++nq (l.take i.toNat)).length<=1200000:=by rw [List.length_append];omega
   generalize hdn:[1]++c8 v1.toNat++c8 l.length++nq (l.take i.toNat)=dn at*;cbv;refine .of hsI iB rfl (by omega) bC λsl off jA=>?_;cbv;refine .jC jA rfl ?_;cbv;refine .of lI.wf λla h6 kd FT bR cz=>?_;cbv;refine .of cz kd rfl rfl rfl rfl rfl rfl λh7 G db eJ=>?_;have m67:Mod h' h7 []:=bR.fr db λq f=>.inl (by rw [List.mem_singleton] at f;subst f;exact FT);have oI7:=oI.mono m67 (by simp);have lI7:=lI.al m67 eJ;cbv;refine .of follows 5 ?_;cbv;refine .of G rfl ?_;cbv;refine .of G rfl ?_;cbv;refine .of G rfl ?_;cbv;refine GY eJ oI7.sl (aD _) (by omega) (by omega) λb8 X uJ lo8=>?_;have A:=lo8.get G;refine .load A rfl (.load A rfl (.nil ?_));have e8:=(cJ (x:=key.length) (by omega)).2;have lB8:Loc h2 X b8:=lo8.base lI7.mod;have l8:dn.length+(c8 key.length++key).length<=2000000:=by rw [List.length_append];omega
   cbv;refine Zo lB8 uJ (eW (aD _) (aD _)) (by omega) (by omega) λb9 h9 Rv lo9=>?_;refine .nil ?_;cbv;refine .add (by omega) (by omega) λj hj=>?_;cbv;refine ⟨rfl,l.length - j.toNat,by omega,j,b9,rfl,by omega,by omega,rfl,?_,lo9⟩;have e:[1]++c8 v1.toNat++c8 l.length++nq (l.take j.toNat)=dn++(c8 key.length++key)++mU v val:=by
    rw [show j.toNat=i.toNat+1 by omega,aq6,<-hdn];simp only [List.append_assoc]
   rw [e,aM,aM];rw [List.length_append,List.length_append];exact Rv
  ·have dA:l.take i.toNat=l:=List.take_of_length_le (by omega)
   rw [dA,show [1]++c8 v1.toNat++c8 l.length++nq l=abJ v1.toNat l from rfl] at oI;have Zh:(abJ v1.toNat l).length<=1200000:=by
    show ([1]++c8 v1.toNat++c8 l.length++nq l).length<=_
    rw [List.length_append];omega
   have aq7:∀x∈abJ v1.toNat l,x<256:=λx m=>by
    simp only [abJ,List.mem_append] at m;rcases m with ((m | m) | m) | m
    ·simp at m;omega
    ·exact jR (by omega) x m
    ·exact jR (by omega) x m
    ·exact Vf l IT hk x m
   have nd:ls∉d.own g.ld:=S.kc.off S.cell (by decide);have ng:ls∉g.own s.lg:=S.log.off S.cell (by decide);have D2:=(S.kc.mono Z (λq f k=>by rw [List.mem_singleton] at k;subst k;exact nd f)).mono B (by simp);have L2:=(S.log.mono Z (λq f k=>by rw [List.mem_singleton] at k;subst k;exact ng f)).mono B (by simp);have D':=D2.mono lI.mod (by simp);have L':=L2.mono lI.mod (by simp);rw [hlg] at L' L2 ng;have W:=lI.get gb;have m0:Mod h h' [ls]:=((Z.trans B).trans lI.mod).mono λq _ _ f=>by simpa using f
   have U2:∀q,h'.get q=none->h.get q=none:=λq m=>by
    cases hy:h.get q with
    | none=>rfl
    | some o=>
      by_cases e:q=ls
      ·subst e;rw [W] at m;cases m
      ·have:=m0.get hy (by simpa using e);rw [m] at this;cases this
   have I':=m0.get S.items (by rw [List.mem_singleton];rintro e;have:=S.items;rw [e,S.cell] at this;cases this);have Jn:∀q,q∈ag bv->q∉g.own U/\q∉d.own g.ld:=λq f=>⟨λk=>L2.live k (lI.fr q f),λk=>D2.live k (lI.fr q f)⟩;generalize aeH:abJ v1.toNat l=rec at*;cbv;refine .of W rfl ?_;cbv;refine BX lI.wf L' D' S.ok hn hfs dN RH oI.sl Jn (by omega) aq7 (λh6 E ops e w D6 L6 I R u F w6=>?_) λh6 g6 E ops D6 L6 I R f1 f2 f3 u F w6=>?_
   ·cbv;refine .yr w ?_
    have Dn:=F.get W nd;cbv;refine cq w6 Dn λh7 G J w7=>?_;cbv;have n6d:ls∉E.own g.ld:=D6.off Dn (by decide);have n6g:ls∉g.own U:=L6.off Dn (by decide);have I6:=F.get I' S.apart;have I7:=J.get I6 (by rw [List.mem_singleton];rintro e;rw [e,Dn] at I6;cases I6);refine XM h7 E ops e w ⟨?_,I7,S.iok,S.rows,?_,D6.mono J (λq f k=>by rw [List.mem_singleton] at k;subst k;exact n6d f),I,λk=>?_⟩ R (λq f=>(u q f).imp_right (U2 q)) (((m0.trans F).trans J).mono λq _ _ f=>?_) w7
    ·rw [hlg,Jp,ahV,aq5];exact G
    ·rw [hlg];exact L6.mono J (λq f k=>by rw [List.mem_singleton] at k;subst k;exact n6g f)
    ·rcases u _ k with m | m
     ·exact S.apart m
     ·rw [I'] at m;cases m
    ·simp only [xB.own,List.mem_cons,List.mem_append,List.not_mem_nil,or_false] at f ⊢
     rcases f with (f | f) | f
     ·exact .inl f
     ·exact .inr (.inr (.inr f))
     ·exact .inl f
   ·cbv;refine .iz rfl ?_
    have hs6:Sl h6 3 vo l.length (xF l):=hsI.mono F λq f k=>by
     refine P q f ?_;simp only [xB.own,hlg,List.mem_cons,List.mem_append] at k ⊢;exact .inr (.inr k)
    cbv;refine .of hs6 λn3 agk aw0=>?_;have Dn:=F.get W λk=>by
     rcases List.mem_append.1 k with k | k
     ·exact ng k
     ·exact nd k
    have nli:t∉g.own U++d.own g.ld:=λk=>by
     rcases List.mem_append.1 k with k | k
     ·exact L'.G4 (Jp▸I') k
     ·exact (Jp▸S.apart) k
    rw [Jp] at I';have I6:=F.get I' nli;have aq8:t≠ls:=by rintro rfl;rw [I'] at W;cases W
    cbv;refine .inv [p0,p7,p74,p75,p76] (λm' aB h'=>∃i es c,aB=[.ptr ls 0,.int .i64 v1,vo,.int .i64 n3,.int .i64 i]/\0<=i/\i.toNat<=l.length/\m'=l.length - i.toNat/\(es,c)=me v1 (l.take i.toNat) s.items s.ci/\h'.get t=some (.map (cd es) c)/\fS es c/\(∀e,e∈es->e.1.length<=128/\Hf e.2.1)/\Mod h6 h' [t]/\Wf h') [_,_,_,_,_] rfl _
     ⟨0,s.items,s.ci,rfl,by omega,by simp,rfl,rfl,I6,S.iok,S.rows,Mod.refl _ _,w6⟩ ?_
    rintro m' _ m ⟨i,es,c,rfl,iB,hi,eF,O,ae5,aq9,ajy,KI,hwx⟩;have hsx:Sl m 3 vo l.length (xF l):=hs6.mono KI λq f k=>by
     rw [List.mem_singleton] at k;exact P q f (by rw [k,<-Jp];simp [xB.own])
    have FK:=KI.get Dn (by simpa using Ne.symm aq8);cbv;refine .lt (λbA=>?_) λjl=>?_
    ·obtain ⟨o,y⟩:∃o,l[i.toNat]? =some o:=⟨_,List.getElem?_eq_getElem (by omega)⟩
     have bC:=Fs _ _ _ y;have fE:=eM y;obtain ⟨_,N,_,ik2⟩:=M.each o (List.mem_of_getElem? y);obtain ⟨key,v,val⟩:=o;dsimp only at bC N ik2;cbv;refine .of hsx iB rfl (by omega) bC λsl off jA=>?_;cbv;refine .jC jA rfl ?_;cbv;refine .of hwx λla h7 kd FT db eJ=>?_;cbv;refine .of eJ kd rfl rfl rfl rfl rfl rfl λX A cU eL=>?_;have L:Mod m X []:=db.fr cU λq f=>.inl (by rw [List.mem_singleton] at f;subst f;exact FT);have ahF:=L.get FK (by simp);have K:=L.get ae5 (by simp);cbv;refine .of follows 3 ?_;cbv;refine .of ahF rfl ?_;cbv;refine .of A rfl ?_;cbv;refine .of A rfl ?_;cbv;refine .of A rfl ?_;cbv;refine .of A rfl ?_;cbv;refine .flat rfl ?_;cbv;refine .flat rfl ?_;cbv;refine .flat rfl ?_;cbv;refine .flat rfl ?_;cbv;refine .of eL K λh9 FM gE th=>?_;cbv;refine .nil ?_;cbv;refine .add (by omega) (by omega) λj hj=>?_;cbv;refine ⟨rfl,l.length - j.toNat,by omega,j,_,_,rfl,by omega,by omega,rfl,?_,FM,aq9.set _ _,λe w=>?_,(KI.trans (L.trans gE)).mono (λq _ _ f=>by simpa using f),th⟩
     ·rw [show j.toNat=i.toNat+1 by omega,fE,Fv,<-O]
     ·rcases lD w with w | ⟨hek,w,_⟩
      ·exact ajy e w
      ·exact ⟨by rw [hek];exact N,key,v,val,v1,w,N,ik2,by omega,by omega⟩
    ·have Zt:l.take i.toNat=l:=List.take_of_length_le (by omega)
     rw [Zt] at O;cbv;refine .one hwx FK rfl rfl rfl rfl λh7 G J w7=>?_;cbv;refine cq w7 G λX A m8 w8=>?_;cbv;have aq':t∉g6.own U++E.own g.ld:=λk=>by
      rcases u _ k with hy | hy
      ·exact nli hy
      ·rw [I'] at hy;cases hy
     have axH:ls∉g6.own U++E.own g.ld:=λk=>by
      rcases List.mem_append.1 k with k | k
      ·exact L6.off Dn (by decide) k
      ·exact D6.off Dn (by decide) k
     have T:Mod h6 X ([t]++([ls]++[ls])):=KI.trans (J.trans m8);have axJ:∀q,q∈[t]++([ls]++[ls])->q=t\/q=ls:=λq f=>by simpa using f
     have ajz:∀q,q∈g6.own U++E.own g.ld->q∉[t]++([ls]++[ls]):=λq f k=>by
      rcases axJ q k with e | e
      ·exact aq' (e▸f)
      ·exact axH (e▸f)
     have K:=(J.trans m8).get ae5 (by simpa using aq8);subst O3;refine hq X ⟨U,t,es,c,X5+1,syn⟩ g6 E ops M ⟨?_,K,aq9,ajy,L6.mono T λq f=>ajz q (List.mem_append_left _ f),?_,I,?_⟩ R hlg.symm Jp.symm rfl rfl O f1 f2 (by rw [aeH];exact f3) (λq f=>?_) (((m0.trans F).trans T).mono λq _ _ f=>?_) w8
     ·exact A
     ·rw [f1];exact D6.mono T λq f=>ajz q (List.mem_append_right _ f)
     ·show t∉E.own g6.ld
      rw [f1];exact λk=>aq' (List.mem_append_right _ k)
     ·simp only [xB.own,f1,List.mem_cons] at f ⊢
      rcases f with rfl | rfl | f
      ·exact .inl (.inl rfl)
      ·exact .inl (.inr (.inl Jp.symm))
      ·rw [hlg]
       exact (u q f).imp (λx=>.inr (.inr x)) (U2 q)
     ·simp only [xB.own,List.mem_cons,List.mem_append,List.not_mem_nil,or_false,hlg,Jp] at f ⊢
      rcases f with (f | f) | (f | f | f)
      ·exact .inl f
      ·exact .inr (.inr f)
      ·exact .inr (.inl f)
      ·exact .inl f
      ·exact .inl f
end K
namespace K
open Go Go.Dx Go.RowKit Go.Proofs
set_option maxRecDepth 100000
variable{l:List ep}
def bP (l:List ep)(c:List Nat):Int:=l.foldl (λa x=>if x.af=c then x.id else a) 0
def iY (l:List ep):Prop:=∀(i:Nat) (x:ep),l[i]? =some x->x.id=bP (l.take i) x.af+1
theorem dX (l:List ep)(x:ep)(c:List Nat):bP (l++[x]) c=if x.af=c then x.id else bP l c:=by simp [bP]
theorem iY.snoc {x:ep}(g:iY l)(a:x.id=bP l x.af+1):iY (l++[x]):=λi y hy=>by
 by_cases hi:i<l.length
 ·rw [List.getElem?_append_left hi] at hy
  rw [List.take_append_of_le_length (by omega)];exact g i y hy
 ·have Ip:i<(l++[x]).length:=(List.getElem?_eq_some_iff.1 hy).1
  simp at Ip;have:i=l.length:=by omega
  subst this;simp at hy;subst hy;simpa using a
theorem dK (g:iY l)(c:List Nat):0<=bP l c/\bP l c<=l.length:=by
 have key:∀n,n<=l.length->∀c,0<=bP (l.take n) c/\bP (l.take n) c<=n:=λn=>by
  induction n with
  | zero=>intro _ c;simp [bP]
  | succ n ih=>
    intro d c;obtain ⟨x,b⟩:∃x,l[n]? =some x:=⟨_,List.getElem?_eq_getElem (by omega)⟩;have a:=ih (by omega);have e:=g n x b;have h3:=a x.af;have h4:=a c;rw [List.take_add_one,b];simp only [Option.toList];rw [dX];split<;>omega
 have:=key l.length (Nat.le_refl _) c
 rwa [List.take_length] at this
def jV (m:bH)(c:List Nat):Int:=match cO m c with | some (.int _ n)=>n | _=>0
end K
namespace K
open Go Go.Dx Go.RowKit Go.Proofs
set_option maxRecDepth 100000
theorem Di (m:bH)(k c:List Nat)(n:Int)(a:Nat):jV (dt m k (.int .i64 n) a) c=if c=k then n else jV m c:=by
 unfold jV;rw [eh]
 by_cases h:c=k
 ·rw [if_pos h,if_pos h]
 ·rw [if_neg h,if_neg h]
end K
namespace K
open Go Go.Dx Go.RowKit Go.Proofs
set_option maxRecDepth 100000
variable{h h':H}{d:ei}{s:xB}{ls q:Lb}
theorem _root_.Go.Dx.CX.afi {pf:Unit->Program} {G:Nat} {f:FuncId} {args:List V}  {Q Pn:V->H->Prop} {e:TypeId} {size n:Nat} {v:V} {cs:List V} (A:aG h e size v n cs) (o:v∈args) (k:(∀s,V.str s∈cs->∀b∈s,b<256)->CX pf G f args h Q Pn):CX pf G f args h Q Pn:=by
 refine ⟨λ{B w0 ρ w xs} R m j=>(k λs hs=>?_).out R m j⟩;obtain ⟨x,r⟩:=RQ j _ o;have key:∀{l:Lb} {b:ej},h.get l=some (.cells cs e 0 .yes)->ρ l=some b->∀y∈s,y<256:=λ{l b} d a=>by
  have c:dE ρ b cs e 0 .yes w:=R.obj l b _ a d;obtain ⟨i,hi,C⟩:=List.getElem_of_mem hs;obtain ⟨y,_,p⟩:=c.cell i _ (by rw [List.getElem?_eq_getElem hi,C]);obtain ⟨t,rfl,q⟩:=vR p;intro z g;rw [<-q] at g;unfold au at g;obtain ⟨u,_,rfl⟩:=List.mem_map.1 g;exact u.toNat_lt
 cases A with
 | nil=>simp at hs
 | ends d _=>cases r with | sliceEnd _ _ _ _ a _ _=>exact key d a
 | exact d _=>cases r with | slice _ _ _ a=>exact key d a
theorem fc.mono {g:Lg}{F:List Lb}(S:fc h ls s g d)(m:Mod h h' F)(a:∀l,l∈s.own ls g d->l∉F:=by simp):fc h' ls s g d:=
 ⟨m.get S.cell (a _ (by simp [xB.own])),m.get S.items (a _ (by simp [xB.own])),S.iok,S.rows,S.log.mono m λl b=>a _ (by simp [xB.own,b]),S.kc.mono m λl b=>a _ (by simp [xB.own,b]),S.ok,S.apart⟩
theorem fc.live {g:Lg}(S:fc h ls s g d)(a:q∈s.own ls g d):h.get q≠none:=by
 simp only [xB.own,List.mem_cons,List.mem_append] at a;rcases a with e | e | e | e
 ·rw [e,S.cell];simp
 ·rw [e,S.items];simp
 ·exact S.log.live e
 ·exact S.kc.live e
theorem PN {F:List Lb}(m:Mod h h' F)(e:h'.get q=none):h.get q=none\/q∈F:=by
 cases hy:h.get q with
 | none=>exact .inl rfl
 | some o=>
   right
   refine Classical.byContradiction λa=>?_;have:=m.get hy a;rw [e] at this;cases this
end K
namespace K
open Go Go.Dx Go.RowKit
set_option maxRecDepth 100000
variable{d:ei}{h h':H}{lg:Lb}
structure Nod (d:ei):Prop where
 seen:(cX (said d.seen)).Nodup
 last:(cX (said d.last)).Nodup
theorem bF.nod {ld:Lb}(D:bF h ld d):Nod d:=⟨gD D.seen,gD D.last⟩
theorem Pt.nod {d':ei}{l:List DOp}(v:Pt d l d'):Nod d->Nod d':=by
 induction v with
 | nil d=>exact id
 | @act d d' a room seen last aJ held=>exact λn=>⟨by rw [seen];exact a.G' n.seen,by rw [last];exact n.last⟩
 | sync room seen last aJ held=>exact λn=>⟨by rw [seen];exact n.seen,by rw [last];exact rD _ n.last⟩
 | @flush d d' room seen last aJ held=>exact λn=>⟨(seen.map _).nodup_iff.2 (by show (cX (said d'.last)).Nodup;rw [last];exact rD _ n.last),by rw [last];exact rD _ n.last⟩
 | trans a b iha ihb=>exact λn=>ihb (iha n)
theorem Pt.cons {d d':ei}{l:List DOp}(v:Pt d l d'):Nod d->Cons d->Cons d':=by
 induction v with
 | nil d=>exact λ_ c=>c
 | @act d d' a room seen last aJ held=>
   intro n C k;rw [seen,a.run_get n.seen,C k,last,aJ];simp [zC]
 | @sync d d' nm room seen last aJ held=>
   intro n C k;rw [seen,last,aJ,C k,Md _ k n.last,XL]
 | @flush d d' room seen last aJ held=>
   intro n C k;have e:(cX (said d'.last)).Nodup:=by rw [last];exact rD _ n.last
   rw [G8 seen ((seen.map _).nodup_iff.2 e) k,aJ];rfl
 | trans a b iha ihb=>exact λn c=>ihb (a.nod n) (iha n c)
structure Lk (h:H)(lg:Lb)(g:Lg)(d:ei):Prop where
 log:jq h lg g
 kc:bF h g.ld d
 ok:iw g d
 cons:Cons d
def Lg.all (g:Lg)(lg:Lb)(d:ei):List Lb:=g.own lg++d.own g.ld
theorem Lk.mono {g:Lg}{F:List Lb}(L:Lk h lg g d)(m:Mod h h' F)(b:∀l,l∈g.all lg d->l∉F:=by simp):Lk h' lg g d:=
 ⟨L.log.mono m λl a=>b l (List.mem_append_left _ a),L.kc.mono m λl a=>b l (List.mem_append_right _ a),L.ok,L.cons⟩
theorem Lk.live {g:Lg}(L:Lk h lg g d){l:Lb}(a:l∈g.all lg d):h.get l≠none:=by
 rcases List.mem_append.1 a with a | a
 ·simp only [Lg.own,List.mem_cons,List.mem_append] at a
  rcases a with rfl | a | a
  ·rw [L.log.cell];simp
  ·obtain ⟨r,b⟩:=L.log.cm.row a;rw [b];simp
  ·obtain ⟨r,b⟩:=L.log.bZ.row a;rw [b];simp
 ·exact L.kc.live a
theorem Vg:∀(l:List (Int×Int)) (a b:Int),a<=b->(l.Pairwise λx y=>x.1<y.1)->(∀s,s∈l->a<=s.1/\s.1<b)->(l.length:Int)<=b - a
 | [],a,b,SF,_,_=>by simp;omega
 | s::l,a,b,SF,hp,hs=>by
   have d:=hs s (by simp);rw [List.pairwise_cons] at hp;have:=Vg l (s.1+1) b (by omega) hp.2 λt c=>⟨by have:=hp.1 t c;omega,(hs t (by simp [c])).2⟩;simp only [List.length_cons];omega
theorem iw.X6 {g:Lg}(a:iw g d):g.cm.length+1<=g.next.toNat:=by
 have b:=a.one;have:=Vg g.cm 1 g.next b a.abn a.below;omega
structure LS (h h':H)(lg:Lb)(g g':Lg)(d d':ei)(k:Nat):Prop where
 lk:Lk h' lg g' d'
 ld:g'.ld=g.ld
 aJ:d'.aJ.length<=d.aJ.length+k
 bZ:g'.bZ.length<=g.bZ.length+k
 next:g'.next.toNat<=g.next.toNat+k
 own:∀q,q∈g'.all lg d'->q∈g.all lg d\/h.get q=none
 mod:Mod h h' (g.all lg d)
 wf:Wf h'
theorem LS.refl {g:Lg}(L:Lk h lg g d)(b:Wf h)(k:Nat):LS h h lg g g d d k:=⟨L,rfl,by omega,by omega,by omega,λq a=>.inl a,Mod.refl _ _,b⟩
theorem zM {F:List Lb}(m:Mod h h' F){q:Lb}(e:h'.get q=none):h.get q=none\/q∈F:=by
 cases hy:h.get q with
 | none=>exact .inl rfl
 | some o=>
   right
   refine Classical.byContradiction λa=>?_;have:=m.get hy a;rw [e] at this;cases this
theorem LS.trans {f n:H}{g c j:Lg}{i e:ei}{m o k:Nat}(a:LS h f lg g c d i m)(b:LS f n lg c j i e o)(u:m+o<=k):LS h n lg g j d e k:=by
 have x:=a.aJ;have w:=b.aJ;have p:=a.bZ;have y:=b.bZ;have r:=a.next;have v:=b.next;refine ⟨b.lk,b.ld.trans a.ld,by omega,by omega,by omega,λq s=>?_,a.mod.fr b.mod λl t=>(a.own l t).symm,b.wf⟩;rcases b.own q s with h | h
 ·exact a.own q h
 ·exact (zM a.mod h).symm
theorem Vh {g:Lg}(L:jq h lg g){Q:V->H->Prop} (a:Q (.int .i64 g.next) h):CW pf G0 sr [.ptr lg 0] h Q:=by
 refine EZ.enter (by kernel_rfl) ?_;cbv;refine sK L.cell ?_;have C:=L.cell;generalize g.next=b at*;cbv;refine .of C rfl ?_;cbv;exact a
theorem nt {g:Lg}{vb:V}{bs:List Nat}(y:Wf h)(L:Lk h lg g d)(p:d.aJ.length<=999999999)(RH:g.next.toNat<=999999999)(o:g.bZ.length<=999999999)
  (s:Sl h 1 vb bs.length (ae bs)) (Jn:∀l,l∈ag vb->l∉g.all lg d) (f:bs.length<=9000000) (IT:∀x∈bs,x<256) {Q:V->H->Prop}
  (a:∀h' k d' (n e:Int),LS h h' lg g k d d' 1->Q (.tuple [.int .i64 n,.int .i64 e]) h'):CW pf G0 jy [.ptr lg 0,vb] h Q:=by
 have v:=L.ok.X6;have z:=L.ok.one;refine BX y L.log L.kc L.ok p (by omega) o (by omega) s (λl f=>⟨λm=>Jn l f (List.mem_append_left _ m),λm=>Jn l f (List.mem_append_right _ m)⟩) f IT (λh' d' ops e _ D' L' c dev b j w'=>?_) λh' k d' ops D' L' c dev i w u b j w'=>?_
 ·have t:=dev.dev.aJ
  have r:=dev.one;refine a h' g d' 0 e ⟨⟨L',D',c,dev.dev.cons L.kc.nod L.cons⟩,rfl,by omega,by omega,by omega,λq a=>?_,j.mono λl _ _ f=>List.mem_append_right _ f,w'⟩;rcases List.mem_append.1 a with a | a
  ·exact .inl (List.mem_append_left _ a)
  ·exact (b q a).imp_left λx=>List.mem_append_right _ x
 ·have t:=dev.dev.aJ
  have r:=dev.one;refine a h' k d' g.next 0 ⟨⟨L',i▸D',c,dev.dev.cons L.kc.nod L.cons⟩,i,by omega,by rw [u];simp,by rw [w];omega,λq a=>?_,j,w'⟩;unfold Lg.all at a;rw [i] at a;exact b q a
theorem MB {g:Lg}(f:Wf h)(L:Lk h lg g d)(m:d.aJ.length<=1000000000){Q:V->H->Prop}
  (a:∀h' d' (e:Int),LS h h' lg g g d d' 0->Q (.int .i64 e) h'):CW pf G0 lG [.ptr lg 0] h Q:=by
 refine Ia f L.log L.kc L.ok m (λ_=>?_) λt c p a1 a2 j k i n _ o u r=>?_
 ·exact a h d 0 (LS.refl L f 0)
 ·have dev:Pt d [.sync p] c:=.sync a2 j k i n
  refine a t c 0 ⟨⟨L.log.mono u (L.log.jh L.kc),a1,L.ok.same j,dev.cons L.kc.nod L.cons⟩,rfl,by rw [i];exact List.length_filter_le _ _,by omega,by omega,λq a=>?_,u.mono λl _ _ s=>List.mem_append_right _ s,r⟩;rcases List.mem_append.1 a with a | a
  ·exact .inl (List.mem_append_left _ a)
  ·exact (o q a).imp_left λx=>List.mem_append_right _ x
end K
namespace K
open Go Go.Dx Go.RowKit Go.Proofs
set_option maxRecDepth 100000
theorem RZ:∀{l:List FI} {o:FI},o∈l->V.str o.key∈xF l/\V.str o.val∈xF l
 | x::r,o,h=>by
   rcases List.mem_cons.1 h with rfl | h
   ·simp [xF]
   ·have:=RZ h
    simp only [xF,List.mem_cons];exact ⟨.inr (.inr (.inr this.1)),.inr (.inr (.inr this.2))⟩
theorem Ie (v:Int):∀(l:List FI) (m:bH) (c:Nat),(me v l m c).1.length<=m.length+l.length
 | [],m,c=>by simp [me]
 | o::r,m,c=>by
   have:=Ie v r (dt m o.key (.agg [.str o.key,.bool o.gone,.str o.val,.int .i64 v]) c) (eB m o.key c);have a:=Mn m o.key (.agg [.str o.key,.bool o.gone,.str o.val,.int .i64 v]) c;simp only [me,List.length_cons];omega
end K
