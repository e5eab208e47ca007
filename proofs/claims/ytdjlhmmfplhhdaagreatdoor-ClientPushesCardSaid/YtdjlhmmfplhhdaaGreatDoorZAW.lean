/-
  The client's laws. Part ZAW of the proof: blotter/disk: what was pending comes to the lasting files.
-/
import Derived.Test.YtdjlhmmfplhhdaaGreatDoorZAV
namespace K
open Go Go.Dx Go.RowKit
set_option maxRecDepth 100000
def runs (l:List Act)(m:AL):AL:=l.foldl (λm a=>a.run m) m
theorem abi (l:List Act)(a:Act)(m:AL):runs (l++[a]) m=a.run (runs l m):=by simp [runs]
theorem eM {b:Type}{l:List b}{i:Nat}{a:b}(h:l[i]? =some a):l.take (i+1)=l.take i++[a]:=by
 obtain ⟨d,c⟩:=List.getElem?_eq_some_iff.1 h;rw [List.take_add_one,h];rfl
theorem H8 {h:H}{ld:Lb}{d:ei}{fv:V}{p:Act->Bool} (hw:Wf h) (D:bF h ld d) (T:d.aJ.length<=1000000000)
  (wF:∀h' a cs K,Mod h h' (d.own ld)->Wf h'->Bo h' a cs->(∀Eg,p a=true->Mod h' Eg []->Wf Eg->K (.bool true) Eg)->(∀Eg,p a=false->Mod h' Eg []->Wf Eg->K (.bool false) Eg)->aoG pf G0 fv [.agg cs] h' K λ_ _=>False) {Q:V->H->Prop}
  (hq:∀h' d',bF h' ld d'->d'.room=d.room->d'.seen=d.seen->said d'.last=runs (d.aJ.filter p) (said d.last)->d'.aJ=d.aJ.filter (λa=>!p a)->d'.held=d.held->
   (∀l,l∈d'.own ld->l∈d.own ld\/h.get l=none)->Mod h h' (d.own ld)->Wf h'->Q (.tuple []) h'):CW pf G0 qW [.ptr ld 0,fv] h Q:=by
 obtain ⟨room,ls,v,lh,seen,last,N,Z,Zc,pv,s,ac,E⟩:=d;obtain ⟨D1,D2,D3,D4,D5,D6,D7,D8,D9,D10,D11,D12,XC⟩:=D;dsimp only at D1 D2 D3 D4 D5 D6 D7 D8 D9 D10 D11 D12 XC T hq wF;have ak':ld∉v::last.map (·.bw):=D3.off D1 (λ_ _ e=>by cases e) (λ_ e=>by cases e);have ala:∀l,l∈ag pv->l∉v::last.map (·.bw):=λl b=>by
  obtain ⟨r,z⟩:=D4.row b;exact D3.off z (λ_ _ e=>by cases e) (λ_ e=>by cases e)
 have F0:∀l,l∈v::last.map (·.bw)->l∈ei.own ⟨room,ls,v,lh,seen,last,N,Z,Zc,pv,s,ac,E⟩ ld:=λl b=>by
  simp only [ei.own,List.map_append,List.mem_cons,List.mem_append] at b ⊢;rcases b with rfl | b
  ·simp
  ·simp only [b,or_true]
 refine CN.enter (by kernel_rfl) ?_;cbv;refine .of D1 rfl ?_;cbv;refine .of D4.sl λn fg Dr=>?_;cbv;refine .inv [p0,p1,p4,YB,p11,SB] (λm' aB h'=>∃i rv rc fs c,aB=[.ptr ld 0,fv,rv,pv,.int .i64 n,.int .i64 i]/\0<=i/\i.toNat<=s.length/\m'=s.length - i.toNat/\
   aG h' vh 4 rv ((s.take i.toNat).filter (λa=>!p a)).length rc/\Fe h' ((s.take i.toNat).filter (λa=>!p a)) rc/\(∀l,l∈ag rv->h.get l=none\/l∈v::last.map (·.bw))/\
   cN h' v fs c/\said fs=runs ((s.take i.toNat).filter p) (said last)/\(∀f,f∈fs->(∃g,g∈last/\g.bw=f.bw)\/h.get f.bw=none)/\Mod h h' (v::last.map (·.bw))/\Wf h') [_,_,_,_,_,_] rfl _
  ⟨0,.nilSlice 0,[],last,Z,rfl,by omega,by simp,rfl,.nil,.nil,by simp [ag],D3,rfl,λf w=>.inl ⟨f,w,rfl⟩,Mod.refl _ _,hw⟩ ?_
 rintro m' _ h' ⟨i,rv,rc,fs,c,rfl,iB,hi,eF,ho,C,Zh,G,Pa,U,F,dO⟩;have E1:=F.get D1 ak';have E4:=D4.mono F ala;cbv;refine .lt (λbA=>?_) λjl=>?_
 ·obtain ⟨a,W⟩:∃a,s[i.toNat]? =some a:=⟨_,List.getElem?_eq_getElem (by omega)⟩
  obtain ⟨r,z,B⟩:=(D5.mono F).get W;obtain ⟨k0,i0,vb,nm,rfl,nu,LY⟩:=B.form;cbv;refine .of E4.sl iB rfl (by omega) z λl off jA=>?_;cbv;refine .jC jA rfl ?_;cbv;refine .of dO λla h1 kd FT ar aK=>?_;cbv;refine .of aK kd rfl rfl rfl rfl (by show (true&&(true&&(true&&(cf vb&&true))))=true;rw [LY];rfl) rfl λh2 gb av aO=>?_;have m02:Mod h' h2 []:=ar.fr av λl b=>.inl (by rw [List.mem_singleton] at b;subst b;exact FT);have ni:∀h3,Mod h' h3 []->Mod h h3 (v::last.map (·.bw)):=λh3 m=>(F.trans m).mono λl _ _ b=>by simpa using b
  have J:∀l,h'.get l=none->h.get l=none\/l∈v::last.map (·.bw):=λl b=>by
   cases O:h.get l with
   | none=>exact .inl rfl
   | some o=>
     right
     refine Classical.byContradiction λMW=>?_;have:=F.get O MW;rw [b] at this;cases this
  have S:=eM W;have Je:∀j:Int,j=i+1->j.toNat=i.toNat+1:=λj L=>by omega
  cbv;refine .of gb rfl ?_;cbv;refine wF h2 a _ _ ((ni h2 m02).mono λl _ _ b=>F0 l b) aO (B.mono m02) (λh3 M Y w3=>?_) (λh3 M Y w3=>?_)
  ·have VU:Mod h' h3 []:=m02.fr Y (by simp)
   cbv;refine .of follows 4 ?_;cbv;refine .of (VU.get E1 (by simp)) rfl ?_;cbv;refine .of (Y.get gb (by simp)) rfl ?_;cbv;refine LZ w3 (G.mono VU (by simp) (by simp)) (D6 a (List.mem_of_getElem? W)) (B.mono VU) λh4 fs4 c4 F4 Xu hn4 X aW=>?_;refine .nil ?_;cbv;refine .add (by omega) (by omega) λj L=>?_;have ahp:∀l,l∈ag rv->l∉v::fs.map (·.bw):=λl b=>by
    obtain ⟨r,z⟩:=ho.row b;exact G.off z (λ_ _ e=>by cases e) (λ_ e=>by cases e)
   have ju:=(ho.mono VU (by simp)).mono X ahp;have avU:=(C.mono VU).mono X;cbv;refine ⟨rfl,s.length - j.toNat,by omega,j,rv,rc,fs4,c4,rfl,by omega,by omega,rfl,?_,?_,Zh,F4,?_,λf w=>?_,?_,aW⟩
   ·rw [Je j L,S,List.filter_append];simpa [M] using ju
   ·rw [Je j L,S,List.filter_append];simpa [M] using avU
   ·rw [Je j L,S,List.filter_append,Xu,Pa];simp [M,abi]
   ·rcases hn4 f w with ⟨g,k,e⟩ | T
    ·rw [<-e];exact U g k
    ·have B8:h'.get f.bw=none:=by
      cases O:h'.get f.bw with
      | none=>rfl
      | some o=>have:=VU.get O (by simp);rw [T] at this;cases this
     rcases J _ B8 with P | P
     ·exact .inr P
     ·rcases List.mem_cons.1 P with e | P
      ·have:=G.map;rw [<-e,B8] at this;cases this
      ·obtain ⟨g,k,e⟩:=List.mem_map.1 P
       exact .inl ⟨g,k,e⟩
   ·refine (ni h3 VU).fr X λl b=>?_
    rcases List.mem_cons.1 b with rfl | b
    ·exact .inr (List.mem_cons_self ..)
    ·obtain ⟨f,w,rfl⟩:=List.mem_map.1 b
     rcases U f w with ⟨g,k,e⟩ | T
     ·exact .inr (List.mem_cons_of_mem _ (List.mem_map.2 ⟨g,k,e⟩))
     ·exact .inl T
  ·have VU:Mod h' h3 []:=m02.fr Y (by simp)
   cbv;refine .of (Y.get gb (by simp)) rfl ?_;cbv;refine .agg ?_;cbv;refine .of w3 λlb h4 Oq gi X aW=>?_;have nW:Sl h4 4 (.slice lb 0 1 (.exact 1)) 1 [.int .i64 k0,.str nm,.int .i64 i0,vb]:=.row Oq rfl;have hlen:((s.take i.toNat).filter (λa=>!p a)).length<=1000000000:=by
    have:=List.length_filter_le (λa=>!p a) (s.take i.toNat);rw [List.length_take] at this;omega
   have u:Mod h' h4 []:=VU.fr X (by simp);cbv;refine .own aW (ho.mono u (by simp)) nW.elems rfl (by show (true&&(true&&(true&&(cf vb&&true))))=true;rw [LY];rfl) (by show _<=1099511627776;omega) (by decide) λrv5 P np gr5 bf bK=>?_;cbv;refine .add (by omega) (by omega) λj L=>?_;have avV:∀l,l∈ag rv->l∉v::fs.map (·.bw):=λl b=>by
    obtain ⟨r,z⟩:=ho.row b;exact G.off z (λ_ _ e=>by cases e) (λ_ e=>by cases e)
   cbv;refine ⟨rfl,s.length - j.toNat,by omega,j,rv5,rc++[.int .i64 k0,.str nm,.int .i64 i0,vb],fs,c,rfl,by omega,by omega,rfl,?_,?_,λl b=>?_,(G.mono u (by simp) (by simp)).ni bf avV,?_,U,?_,bK⟩
   ·rw [Je j L,S,List.filter_append];simpa [M] using np
   ·rw [Je j L,S,List.filter_append]
    have:=((C.mono u).mono bf).snoc ((B.mono u).mono bf);simpa [M] using this
   ·rcases gr5 l b with k | k
    ·refine J l ?_
     cases O:h'.get l with
     | none=>rfl
     | some o=>have:=u.get O (by simp);rw [k] at this;cases this
    ·exact Zh l k
   ·rw [Je j L,S,List.filter_append,Pa];simp [M]
   ·refine (ni h4 u).fr bf λl b=>Zh l b
 ·have dA:s.take i.toNat=s:=List.take_of_length_le (by omega)
  rw [dA] at ho C Pa;cbv;refine .one dO E1 ho.sl.flat rfl rfl rfl λh6 Dn R cz=>?_;have avW:∀l,l∈ag pv->l∉ls::seen.map (·.bw):=λl b=>by
   obtain ⟨r,z⟩:=D4.row b;exact D2.off z (λ_ _ e=>by cases e) (λ_ e=>by cases e)
  have S':cN h' ls seen N:=D2.beside D3 D10 (λf w g k e=>by
   rw [List.map_append,List.nodup_append] at XC;exact XC.2.2 _ (List.mem_map.2 ⟨f,w,rfl⟩) _ (List.mem_map.2 ⟨g,k,rfl⟩) e) F
  have hlh:lh∉v::last.map (·.bw):=D3.G4 D7 (Ne.symm D12);have H':=F.get D7 hlh;have nld:∀{o:Dx.Obj} {l:Lb},h'.get l=some o->(∀cs,o≠.cells cs sH 0 .yes)->l∉[ld]:=λk cV b=>by
   rw [List.mem_singleton] at b;subst b;rw [E1] at k;exact cV _ (Option.some.inj k).symm
  cbv;refine hq h6 ⟨room,ls,v,lh,seen,fs,N,c,Zc,rv,s.filter (λa=>!p a),rc,E⟩
   ⟨Dn,S'.ni R λl b=>?_,G.ni R λl b=>?_,ho.mono R λl b=>?_,C.mono R,λa W=>D6 a (List.mem_filter.1 W).1,R.get H' (nld H' λ_ e=>by cases e),D8,D9,D10,D11,D12,?_⟩ rfl rfl Pa rfl rfl (λl b=>?_) ((F.trans R).mono λl o _ b=>?_) cz
  ·rw [List.mem_singleton] at b;subst b
   exact S'.off E1 (λ_ _ e=>by cases e) (λ_ e=>by cases e)
  ·rw [List.mem_singleton] at b;subst b
   exact G.off E1 (λ_ _ e=>by cases e) (λ_ e=>by cases e)
  ·obtain ⟨r,z⟩:=ho.row b
   exact nld z λ_ e=>by cases e
  ·rw [List.map_append,List.nodup_append]
   refine ⟨D2.ag,G.ag,λx O y hy e=>?_⟩;obtain ⟨f,w,rfl⟩:=List.mem_map.1 O;obtain ⟨g,k,rfl⟩:=List.mem_map.1 hy;rcases U g k with ⟨q,sU,iC⟩ | fg
   ·rw [List.map_append,List.nodup_append] at XC
    exact XC.2.2 _ (List.mem_map.2 ⟨f,w,rfl⟩) _ (List.mem_map.2 ⟨q,sU,rfl⟩) (e.trans iC.symm)
   ·have:=(D2.file f w).cell
    rw [e,fg] at this;cases this
  ·simp only [ei.own,List.map_append,List.mem_cons,List.mem_append] at b ⊢
   rcases b with rfl | rfl | rfl | rfl | b | b | b
   ·simp
   ·simp
   ·simp
   ·simp
   ·rcases Zh l b with k | k
    ·exact .inr k
    ·left
     rcases List.mem_cons.1 k with rfl | k
     ·simp
     ·simp only [k,or_true]
   ·simp only [b,or_true,true_or]
   ·obtain ⟨f,w,rfl⟩:=List.mem_map.1 b
    rcases U f w with ⟨q,sU,iC⟩ | fg
    ·left
     have:f.bw∈last.map (·.bw):=List.mem_map.2 ⟨q,sU,iC⟩;simp only [this,or_true]
    ·exact .inr fg
  ·rcases List.mem_append.1 b with b | b
   ·exact F0 l b
   ·rw [List.mem_singleton] at b;subst b;simp [ei.own]
end K
namespace K
open Go Go.Dx Go.RowKit
set_option maxRecDepth 100000
variable{d:ei}{h:H}
theorem L9 {m:bH}(a:(cF m).Nodup)(k:List Nat):cO (gY m k) k=none:=by
 induction m with
 | nil=>rfl
 | cons p r ih=>
   obtain ⟨x,w,b⟩:=p;simp only [cF,List.map_cons,List.nodup_cons] at a;simp only [gY];split
   ·rename_i e;subst e
    have:∀{l:bH},x∉l.map (·.1)->cO l x=none:=λ{l}=>by
     induction l with
     | nil=>intro _;rfl
     | cons q l ih=>
       intro h;obtain ⟨y,w',c⟩:=q;simp only [List.map_cons,List.mem_cons,not_or] at h;simp only [cO,if_neg (Ne.symm h.1)];exact ih h.2
    exact this a.1
   ·rename_i e;simp only [cO,if_neg e];exact ih a.2
def rC (m:bH)(c:Nat)(k:List Nat):Option (List Nat)->bH
 | some b=>if b.length=0 then gY m k else dt (gY m k) k (.int .i64 b.length) c
 | none=>gY m k
theorem Pk {ld:Lb}{b:List Nat}(M:Wf h)(D:bF h ld d){Q:V->H->Prop}
  (R:∀h' k,bF h' ld {d with held:=rC d.held d.ch b (bM (said d.last) b),ch:=k}->Mod h h' [d.lh]->Wf h'->Q (.tuple []) h'):CW pf G0 tR [.ptr ld 0,.str b] h Q:=by
 have j:∀h' (q:bH) k,h'.get d.lh=some (.map (cd q) k)->fS q k->(∀e,e∈q->∃x:Int,e.2.1 = .int .i64 x)->Mod h h' [d.lh]->Wf h'->q=rC d.held d.ch b (bM (said d.last) b)->Q (.tuple []) h':=λh' q k U Y K m w e=>by
  subst e;have off:∀l o,h.get l=some o->(∀es c,o≠.map es c)->l∉[d.lh]:=λl o G O a=>by
   rw [List.mem_singleton] at a;subst a;rw [D.held] at G;exact O _ _ (Option.some.inj G).symm
  have P:∀l,l∈[d.lh]->l∉d.ls::d.seen.map (·.bw):=λl a=>by rw [List.mem_singleton] at a;subst a;exact D.seen.G4 D.held (Ne.symm D.ne2)
  have o2:∀l,l∈[d.lh]->l∉d.ll::d.last.map (·.bw):=λl a=>by rw [List.mem_singleton] at a;subst a;exact D.last.G4 D.held (Ne.symm D.ne3)
  have o3:∀l,l∈ag d.pv->l∉[d.lh]:=λl a=>by obtain ⟨r,W⟩:=D.Cn.row a;exact off _ _ W λ_ _ e=>by cases e
  exact R h' k ⟨m.get D.cell (off _ _ D.cell λ_ _ e=>by cases e),D.seen.ni m P,D.last.ni m o2,D.Cn.mono m o3,D.aJ.mono m,D.oks,U,Y,K,D.ne1,D.ne2,D.ne3,D.ag⟩ m w
 have C:=D.cell;have HL:=D.held;have L:=D.last;have ok:=D.rJ;have g:=D.ints;have Du:ld≠d.lh:=by rintro rfl;rw [D.cell] at HL;cases HL
 have N:∀h',Mod h h' [d.lh]->cN h' d.ll d.last d.cl:=λh' m=>L.ni m λl a=>by rw [List.mem_singleton] at a;subst a;exact L.G4 D.held (Ne.symm D.ne3)
 clear D;generalize d.room=room at C;generalize d.ls=ls at C;generalize d.pv=pv at C;generalize d.lh=lh at*;generalize d.ll=ll at*;generalize d.ch=ch at*;generalize d.held=held at*;refine GR.enter (by kernel_rfl) ?_;cbv;refine .of C rfl ?_;cbv;refine .of M HL λu v ar t=>?_;have C1:=ar.get C (by simpa using Du);cbv;refine .of C1 rfl ?_;have s:∀e,e∈gY held b->∃x:Int,e.2.1 = .int .i64 x:=λe i=>g e (Ls i);cbv;refine .file (N u ar) (λf y gw B=>?_) λy=>?_
 ·have I:=uq y
  have F:=B.cell;have E:=B.val;have fK:=B.ok.1;generalize f.bw=lf at*;generalize f.val=fv at*;generalize f.bytes=fb at*;cbv;refine .of F rfl ?_;cbv;refine .of E.sl λn fg Dr=>?_;cbv;refine .gt (λYV=>?_) λS=>?_
  ·cbv;refine .of follows 4 ?_
   cbv;refine .of C1 rfl ?_;cbv;refine .of F rfl ?_;cbv;refine .of E.sl λZ SP aj'=>?_;cbv;refine .of t v λh2 T J X=>?_;cbv;refine .nil ?_;cbv;refine j h2 _ _ T ((ok.del b).set b _) (λe i=>?_) ((ar.trans J).mono λl _ _ a=>by simpa using a) X ?_
   ·rcases lD i with i | ⟨_,i,_⟩
    ·exact s e i
    ·exact ⟨_,i⟩
   ·rw [I]
    show _=if fb.length=0 then _ else _
    rw [if_neg (by omega),show Z=(fb.length:Int) by omega]
  ·cbv
   refine j u _ _ v (ok.del b) s ar t ?_;rw [I];show _=if fb.length=0 then _ else _
   rw [if_pos (by omega)]
 ·cbv
  exact j u _ _ v (ok.del b) s ar t (by rw [fY,y];rfl)
theorem bF.live {ld:Lb}(D:bF h ld d){l:Lb}(a:l∈d.own ld):h.get l≠none:=by
 simp only [ei.own,List.map_append,List.mem_cons,List.mem_append] at a;rcases a with rfl | rfl | rfl | rfl | a | a | a
 ·rw [D.cell];simp
 ·rw [D.seen.map];simp
 ·rw [D.last.map];simp
 ·rw [D.held];simp
 ·obtain ⟨r,c⟩:=D.Cn.row a;rw [c];simp
 ·obtain ⟨f,b,rfl⟩:=List.mem_map.1 a;rw [(D.seen.file f b).cell];simp
 ·obtain ⟨f,b,rfl⟩:=List.mem_map.1 a;rw [(D.last.file f b).cell];simp
def jP (b:List Nat)(a:Act):Bool:=decide (a.nm=b)
theorem Pm {ld:Lb}{b:List Nat}(L:Wf h)(D:bF h ld d)(W:zw b)(F:d.aJ.length<=1000000000){Q:V->H->Prop}
  (bJ:∀h',bM (said d.seen) b=none->Mod h h' []->Wf h'->Q (.int .i64 20) h')
  (O:∀h' d',bM (said d.seen) b≠none->bF h' ld d'->d'.room=d.room->d'.seen=d.seen->said d'.last=runs (d.aJ.filter (jP b)) (said d.last)->d'.aJ=d.aJ.filter (λa=>!jP b a)->(∃c,d'.held=rC d.held c b (bM (said d'.last) b))->
   (∀l,l∈d'.own ld->l∈d.own ld\/h.get l=none)->Mod h h' (d.own ld)->Wf h'->Q (.int .i64 0) h'):CW pf G0 tM [.ptr ld 0,.str b] h Q:=by
 refine GK.enter (by kernel_rfl) ?_;cbv;refine .flat rfl ?_;cbv;refine .of L λz R Qt s j y=>?_;have D1:=D.mono j (by simp);cbv;refine .of Qt rfl ?_;cbv;refine G3 D1.cell W D1.seen (λf u _ fa=>?_) λu=>?_
 ·generalize f.bw=lf
  cbv;refine .iz rfl ?_;have n:z∉d.own ld:=λg=>D.live g s;refine H8 y D1 F (p:=jP b) (λh' a cs K m w c U M=>⟨⟨_,_,_,rfl,?_⟩⟩) λv k a1 a2 T X S J C a8 Y=>?_
  ·obtain ⟨N,G,vb,t,rfl,x,LY⟩:=c.form
   have q:=m.get Qt n;show CW pf G0 qX [.agg [.int .i64 N,.str t,.int .i64 G,vb],.ptr z 0] h' K
   refine CO.enter (by kernel_rfl) ?_;cbv;refine .agg ?_;cbv;refine .of w λla v E FT av B=>?_;cbv;refine .of E rfl ?_;cbv;refine .of (av.get q (by simp)) rfl ?_;cbv;refine .seq (λe=>?_) λe=>?_
   ·cbv;exact U v (by simp [jP,<-x,e]) av B
   ·cbv;exact M v (by simp [jP,<-x,e]) av B
  ·cbv;refine .of (a8.get Qt n) rfl ?_
   cbv;refine Pk Y a1 λh3 c' I Z P=>?_;cbv;refine O h3 _ (by rw [fY,u];simp) I a2 T X S ⟨k.ch,?_⟩ (λl g=>?_) ?_ P
   ·show rC k.held k.ch b _=_
    rw [J]
   ·rcases C l g with i | i
    ·exact .inl i
    ·right
     cases hy:h.get l with
     | none=>rfl
     | some o=>have:=j.get hy (by simp);rw [i] at this;cases this
   ·refine (j.trans a8).fr Z (λl g=>?_) |>.mono λl _ _ g=>by simpa using g
    rw [List.mem_singleton] at g;subst g;rcases C k.lh (by simp [ei.own]) with i | i
    ·right;simpa using i
    ·left
     cases hy:h.get k.lh with
     | none=>rfl
     | some o=>have:=j.get hy (by simp);rw [i] at this;cases this
 ·cbv;refine .yr (by decide) ?_
  cbv;exact bJ R (by rw [fY,u];rfl) j y
end K
namespace K
open Go Go.Dx Go.RowKit
set_option maxRecDepth 100000
variable{v:V}{fs:List Fl}{h:H}
def fF (fs:List Fl)(a:List Nat):List Fl:=fs.filter λf=>!dr f.born a
theorem vN (fs:List Fl)(a:List Nat):gd (fA fs) a=fA (fF fs a):=by
 unfold gd fF fA;rw [List.filter_map];rfl
theorem Zi {k:List Nat}{b:Nat}(h:(k,v,b)∈fA fs):∃f,f∈fs/\k=f.name/\v = .ptr f.bw 0/\b=f.born:=by
 obtain ⟨f,a,e⟩:=List.mem_map.1 h;simp only [flE,Prod.mk.injEq] at e;exact ⟨f,a,e.1.symm,e.2.1.symm,e.2.2.symm⟩
theorem Po (fs:List Fl)(a:List Nat)(b:Nat):fF fs (a++[b])=(fF fs a).filter λf=>!(f.born==b):=by
 unfold fF;rw [List.filter_filter];refine List.filter_congr λx _=>?_;have:dr x.born (a++[b])=(dr x.born a||(x.born==b)):=by
  rw [Bool.eq_iff_iff,Bool.or_eq_true,nj,nj,List.mem_append];simp
 rw [this];cases dr x.born a<;>cases (x.born==b)<;>rfl
theorem Pp (a:(fs.map (·.born)).Nodup){f:Fl}(h:f∈fs):fs.Perm (f::fs.filter λg=>!(g.born==f.born)):=by
 induction fs with
 | nil=>cases h
 | cons e r ih=>
   simp only [List.map_cons,List.nodup_cons] at a;rcases List.mem_cons.1 h with c | h
   ·subst c
    rw [List.filter_cons,if_neg (by simp)];have:(r.filter λg=>!(g.born==f.born))=r:=by
     rw [List.filter_eq_self];intro q d;have:q.born≠f.born:=λb=>a.1 (List.mem_map.2 ⟨q,d,b⟩);simpa using this
    rw [this]
   ·have i:e.born≠f.born:=λb=>a.1 (by rw [b];exact List.mem_map.2 ⟨_,h,rfl⟩)
    rw [List.filter_cons,if_pos (by simpa using i)];exact ((ih a.2 h).cons e).trans (.swap ..)
theorem G8 {a b:AL}(h:a.Perm b)(d:(a.map (·.1)).Nodup)(k:List Nat):bM a k=bM b k:=by
 induction h with
 | nil=>rfl
 | cons x _ ih=>
   obtain ⟨y,v⟩:=x;simp only [List.map_cons,List.nodup_cons] at d;simp only [bM,ih d.2]
 | swap x y l=>
   obtain ⟨x,v⟩:=x;obtain ⟨y,w⟩:=y;simp only [List.map_cons,List.nodup_cons,List.mem_cons,not_or] at d;simp only [bM]
   by_cases h1:y=k
   ·rw [if_pos h1,if_neg (λe=>d.1.1 (by rw [h1,e])),if_pos h1]
   ·rw [if_neg h1,if_neg h1]
 | trans h1 _ ih1 ih2=>exact (ih1 d).trans (ih2 ((h1.map _).nodup_iff.1 d))
theorem vO (fs:List Fl):(said fs).map (·.1)=cF (fA fs):=by
 unfold said cF fA;rw [List.map_map,List.map_map];rfl
theorem cN.add {h':H}{j:Lb}{c:Nat}(F:cN h j fs c){d:List Nat}{i:Lb}{b:List Nat}(m:Mod h h' [j])(g:h'.get j=some (.map (cd (dt (fA fs) d (.ptr i 0) c)) (eB (fA fs) d c)))
  (z:pn fs d=none) (r:h.get i=some (.cells [v] ea 0 .yes)) (B:Ro h 1 v b.length (ae b)) (k:IV b) (w:∀g,g∈fs->g.bw≠i):cN h' j (fs++[⟨d,i,c,v,b⟩]) (eB (fA fs) d c):=by
 have p:cO (fA fs) d=none:=by rw [Aq,z];rfl
 have s:fA (fs++[⟨d,i,c,v,b⟩])=dt (fA fs) d (.ptr i 0) c:=by
  rw [Ar p];simp [fA,flE]
 have u:∀{l:Lb} {v:V},h.get l=some (.cells [v] ea 0 .yes)->l∉[j]:=λn t=>by
  rw [List.mem_singleton] at t;rw [t,F.map] at n;cases n
 refine ⟨by rw [s];exact g,by rw [s];exact F.ok.set d _,λq f=>?_,?_⟩
 ·rcases List.mem_append.1 f with f | f
  ·have o:=F.file q f
   exact ⟨m.get o.cell (u o.cell),o.val.mono m,o.ok⟩
  ·rw [List.mem_singleton] at f
   subst f;exact ⟨m.get r (u r),B.mono m,k⟩
 ·rw [List.map_append]
  refine List.nodup_append.2 ⟨F.ag,by simp,λa y b k e=>?_⟩;simp only [List.map_cons,List.map_nil,List.mem_singleton] at k;obtain ⟨g,n,rfl⟩:=List.mem_map.1 y;exact w g n (e.trans k)
theorem RF {s:Lb}{c:Nat}(hw:Wf h)(F:cN h s fs c){Q:V->H->Prop}
  (p:∀h' lo d j,cN h' lo d j->(said d).Perm (said fs)->h.get lo=none->(∀f,f∈d->h.get f.bw=none)->Mod h h' []->Wf h'->Q (.map lo) h'):CW pf G0 pC [.map s] h Q:=by
 have HM:=F.map;have ok:=F.ok;refine Bb.enter (by kernel_rfl) ?_;cbv;refine .of hw λlo h1 HB MU L aK=>?_;have HM1:=L.get HM (by simp);cbv;refine .rangeMap rfl aK HM1 λm h2 Jp FD av aO=>?_;have S:h.get m=none:=by
  cases hy:h.get m with
  | none=>rfl
  | some o=>have:=L.get hy (by simp);rw [FD] at this;cases this
 have I:=av.get HB (by simp);cbv;refine .inv [p3,p8] (λA aB h'=>∃a last d j,aB=[.map lo,.ptr m 0]/\A=(fF fs a).length/\h'.get m=some (.mapIter (some s) c a last)/\c<=last/\cN h' lo d j/\(said d++said (fF fs a)).Perm (said fs)/\(∀f,f∈d->h.get f.bw=none)/\Mod h h' []/\Wf h') [_,_] rfl _
  ⟨[],c,[],0,rfl,rfl,Jp,by omega,⟨I,.nil _,by simp,by simp⟩,?_,by simp,L.trans av,aO⟩ ?_
 ·have:fF fs []=fs:=List.filter_eq_self.2 λ_ _=>rfl
  rw [this];exact .refl _
 rintro A _ h' ⟨a,last,d,j,rfl,eF,t,rW,F',U,Z,u,dO⟩;have HM':=u.get HM (by simp);cbv;refine .of dO t HM' rW (λe he=>ok.old e he) (λbJ=>?_) λk v b gw h3 B aI aS=>?_
 ·cbv
  refine p h' lo d j F' ?_ MU Z u dO;rw [vN] at bJ;have:fF fs a=[]:=by simpa [fA] using bJ
  simpa [this,said] using U
 ·have K:s≠m:=by rintro rfl;rw [HM'] at t;cases t
  have HM3:=aI.get HM' (by simpa using K);have UX:=gw;rw [vN] at UX;obtain ⟨f,O,rfl,rfl,rfl⟩:=Zi UX;have O':f∈fs:=(List.mem_filter.1 O).1;have fa:=F.file f O';have P:=aI.get (u.get fa.cell (by simp)) (by rw [List.mem_singleton];rintro e;rw [<-e,u.get fa.cell (by simp)] at t;cases t);have G:=(fa.val.mono u).mono aI;have gi:=fa.ok;have L8:(fF fs a).Perm (f::fF fs (a++[f.born])):=by
   rw [Po];refine Pp ?_ O;have hb:(fs.map (·.born)).Nodup:=by
    have:=ok.Eu;unfold fA at this;rw [List.map_map] at this;exact this
   exact hb.sublist ((List.filter_sublist).map _)
  have bA:(fF fs (a++[f.born])).length<A:=by
   rw [eF,L8.length_eq];simp
  have N:=qu gw;have fO:pn d f.name=none:=by
   have W:((said d++said (fF fs a)).map (·.1)).Nodup:=((U.map _).nodup_iff).2 (by rw [vO];exact ok.keys);rw [List.map_append,List.nodup_append] at W;cases hx:pn d f.name with
   | none=>rfl
   | some q=>
     obtain ⟨q1,q2⟩:=rA hx;exact absurd q2 (W.2.2 _ (List.mem_map.2 ⟨_,List.mem_map.2 ⟨q,q1,rfl⟩,rfl⟩) _ (List.mem_map.2 ⟨_,List.mem_map.2 ⟨f,O,rfl⟩,rfl⟩))
  have av0:said [f]=[(f.name,f.bytes)]:=rfl;have F3:=F'.ni aI λl r=>by rw [List.mem_singleton] at r;subst r;exact F'.off t (λ_ _ e=>by cases e) (λ_ e=>by cases e)
  have T:∀h6 n y,cN h6 lo (d++[⟨f.name,n,j,y,f.bytes⟩]) (eB (fA d) f.name j)->h.get n=none->h6.get m=some (.mapIter (some s) c (a++[f.born]) c)->Mod h h6 []->Wf h6->
    ∃Y,Y<A/\∃a last d j,[V.map lo,.ptr m 0]=[.map lo,.ptr m 0]/\Y=(fF fs a).length/\h6.get m=some (.mapIter (some s) c a last)/\c<=last/\cN h6 lo d j/\(said d++said (fF fs a)).Perm (said fs)/\(∀f,f∈d->h.get f.bw=none)/\Mod h h6 []/\Wf h6:=
   λh6 n y g1 g2 g3 g4 g5=>by
    refine ⟨_,bA,a++[f.born],c,_,_,rfl,rfl,g3,by omega,g1,?_,λq p=>?_,g4,g5⟩
    ·refine List.Perm.trans ?_ U
     rw [show said (d++[⟨f.name,n,j,y,f.bytes⟩])=said d++said [f] by simp [said],List.append_assoc];exact List.Perm.append_left _ (show (said (f::fF fs (a++[f.born]))).Perm (said (fF fs a)) from (L8.map λf:Fl=>(f.name,f.bytes)).symm)
    ·rcases List.mem_append.1 p with p | p
     ·exact Z q p
     ·rw [List.mem_singleton] at p;subst p;exact g2
  have VU:Mod h h3 []:=u.fr aI λl r=>.inl (by rw [List.mem_singleton] at r;subst r;exact S);generalize f.bw=lf0 at*;generalize f.val=fv at*;generalize f.bytes=fb at*;generalize f.name=nm at*;generalize f.born=bo at*;cbv;refine .entry B HM3 ok N ?_;cbv;refine .of P rfl ?_;cbv;refine rn nk aS G.sl (aD _) (by have:=gi.1;omega) (by decide) λy h4 r4 w w4=>?_;cbv;refine .flat r4.flat ?_;cbv;refine .agg ?_;cbv;refine .of w4 λn h5 J O' C bK=>?_;have F5:=(F3.mono w (by simp) (by simp)).mono C (by simp) (by simp);have R:Mod h h5 []:=(VU.fr w (by simp)).fr C (by simp);have M:h.get n=none:=by
   cases hy:h.get n with
   | none=>rfl
   | some o=>have:=(VU.fr w (by simp)).get hy (by simp);rw [O'] at this;cases this
  cbv;refine .of bK F5.map λh6 Dn E cz=>?_;cbv;refine ⟨rfl,T h6 n y (F5.add E Dn fO J (r4.mono C) gi λg hg e=>?_) M (E.get (C.get (w.get B (by simp)) (by simp)) ?_) (R.fr E λl r=>.inl ?_) cz⟩
  ·have:=((F3.mono w (by simp) (by simp)).file g hg).cell
   rw [e,O'] at this;cases this
  ·rw [List.mem_singleton];rintro rfl;rw [F3.map] at B;cases B
  ·rw [List.mem_singleton] at r;subst r;exact MU
end K
namespace K
open Go Go.Dx Go.RowKit
set_option maxRecDepth 100000
variable{h:H}{k:List Nat}{d:ei}
theorem _root_.Go.Dx.EdN.qD {l:Lb}{x:X}{a:T V}{K:V->H->Prop} {es:List (V×V×Nat)} {c:Nat} (e:x.VI a=some (.map l)) (f:Wf h) (b:h.get l=some (.map es c)) (d:∀h',h'.get l=some (.map [] c)->Mod h h' [l]->Wf h'->K (.tuple []) h'):EdN (.qD x) a h K:=by
 obtain ⟨a1,a2,g⟩:=H.eD f b rfl (.map [] c);exact ⟨λtm s=>⟨_,_,by simp only [ED.run,qz s e,ib,b];rfl,d _ a1 a2 g⟩⟩
def G9:AL->Int
 | []=>0
 | (_,b)::r=>b.length+G9 r
structure vP (m:bH)(al:AL):Prop where
 get:∀k,cO m k=match bM al k with
  | some b=>if b.length=0 then none else some (.int .i64 b.length)
  | none=>none
 sum:rB m=G9 al
theorem UY (a b:bH):rB (a++b)=rB a+rB b:=by
 induction a with
 | nil=>simp [rB]
 | cons e r ih=>
   obtain ⟨k,v,c⟩:=e;cases v<;>simp only [List.cons_append,rB,ih]<;>omega
theorem UZ (a b:AL):G9 (a++b)=G9 a+G9 b:=by
 induction a with
 | nil=>simp [G9]
 | cons e r ih=>
   obtain ⟨k,v⟩:=e;simp only [List.cons_append,G9,ih];omega
theorem U0 (a b:AL)(k:List Nat):bM (a++b) k=match bM a k with
  | some v=>some v
  | none=>bM b k:=by
 induction a with
 | nil=>rfl
 | cons e r ih=>
   obtain ⟨x,v⟩:=e;simp only [List.cons_append,bM];split
   ·rfl
   ·exact ih
theorem abj {a b:AL}(h:a.Perm b):G9 a=G9 b:=by
 induction h with
 | nil=>rfl
 | cons x _ ih=>obtain ⟨y,v⟩:=x;simp only [G9,ih]
 | swap x y l=>obtain ⟨x,v⟩:=x;obtain ⟨y,w⟩:=y;simp only [G9];omega
 | trans _ _ ih1 ih2=>exact ih1.trans ih2
theorem vP.free {m:bH}{a:AL}(HI:vP m a){b:List Nat}(c:Nat)(f:bM a k=none):vP (rC m c k (some b)) (a++[(k,b)]):=by
 have d:cO m k=none:=by rw [HI.get,f]
 have e:rC m c k (some b)=if b.length=0 then m else m++[(k,.int .i64 b.length,c)]:=by
  show (if b.length=0 then gY m k else dt (gY m k) k (.int .i64 b.length) c)=_
  rw [O5 d,Ar d]
 rw [e];refine ⟨λq=>?_,?_⟩
 ·rw [U0]
  have g:=HI.get q
  by_cases hb:b.length=0
  ·rw [if_pos hb,g]
   cases hx:bM a q with
   | some v=>rfl
   | none=>
     simp only [bM]
     by_cases hkq:k=q
     ·rw [if_pos hkq];simp [hb]
     ·rw [if_neg hkq]
  ·rw [if_neg hb,<-Ar d,eh]
   by_cases hkq:q=k
   ·subst hkq;rw [if_pos rfl,f];simp only [bM,if_pos];rw [if_neg hb]
   ·rw [if_neg hkq,g]
    cases hx:bM a q with
    | some v=>rfl
    | none=>simp only [bM,if_neg (Ne.symm hkq)]
 ·rw [UZ]
  by_cases hb:b.length=0
  ·rw [if_pos hb,HI.sum];simp [G9,hb]
  ·rw [if_neg hb,UY,HI.sum];simp [G9,rB]
theorem Pq {m:AL}(h:k∉m.map (·.1)):bM m k=none:=by
 induction m with
 | nil=>rfl
 | cons q l ih=>
   obtain ⟨y,w⟩:=q;simp only [List.map_cons,List.mem_cons,not_or] at h;simp only [bM,if_neg (Ne.symm h.1)];exact ih h.2
theorem abk {ld:Lb}(hw:Wf h)(D:bF h ld d){Q:V->H->Prop}
  (hq:∀h' d',bF h' ld d'->d'.room=d.room->(said d'.seen).Perm (said d.last)->d'.last=d.last->d'.aJ=d.aJ->vP d'.held (said d.last)->
   (∀l,l∈d'.own ld->l∈d.own ld\/h.get l=none)->Mod h h' (d.own ld)->Wf h'->Q (.tuple []) h'):CW pf G0 tU [.ptr ld 0] h Q:=by
 obtain ⟨room,ls,s,m,seen,last,C,j,Zc,I,Y,ac,held⟩:=d;have D0:=D;obtain ⟨D1,D2,D3,D4,D5,D6,D7,D8,D9,D10,D11,D12,XC⟩:=D;dsimp only at D1 D2 D3 D4 D5 D6 D7 D8 D9 D10 D11 D12 XC hq;refine GX.enter (by kernel_rfl) ?_;cbv;refine .of D1 rfl ?_;cbv;refine .qD rfl hw D7 λh1 kK ar aK=>?_;have off:∀l o,h.get l=some o->(∀es c,o≠.map es c)->l∉[m]:=λl o J cV a=>by
  rw [List.mem_singleton] at a;subst a;rw [D7] at J;exact cV _ _ (Option.some.inj J).symm
 have E:bF h1 ld ⟨room,ls,s,m,seen,last,C,j,Zc,I,Y,ac,[]⟩:=by
  have o1:∀l,l∈[m]->l∉ls::seen.map (·.bw):=λl a=>by rw [List.mem_singleton] at a;subst a;exact D2.G4 D7 (Ne.symm D11)
  have o2:∀l,l∈[m]->l∉s::last.map (·.bw):=λl a=>by rw [List.mem_singleton] at a;subst a;exact D3.G4 D7 (Ne.symm D12)
  have o3:∀l,l∈ag I->l∉[m]:=λl a=>by obtain ⟨r,A⟩:=D4.row a;exact off _ _ A λ_ _ e=>by cases e
  exact ⟨ar.get D1 (off _ _ D1 λ_ _ e=>by cases e),D2.ni ar o1,D3.ni ar o2,D4.mono ar o3,D5.mono ar,D6,kK,.nil _,by simp,D10,D11,D12,XC⟩
 cbv;refine .of E.cell rfl ?_;cbv;refine .rangeMap rfl aK E.last.map λK h2 Jp FD av aO=>?_;have E2:=E.mono av (by simp);cbv;refine .inv [p0,p11] (λP aB h'=>∃n VK U1 q done,aB=[.ptr ld 0,.ptr K 0]/\P=(fF last n).length/\h'.get K=some (.mapIter (some s) j n VK)/\j<=VK/\bF h' ld ⟨room,ls,s,m,seen,last,C,j,q,I,Y,ac,U1⟩/\vP U1 done/\(done++said (fF last n)).Perm (said last)/\Mod h1 h' [m]/\Wf h') [_,_] rfl _
  ⟨[],j,[],Zc,[],rfl,rfl,Jp,by omega,E2,⟨λk=>rfl,rfl⟩,?_,av.mono (by simp),aO⟩ ?_
 ·have:fF last []=last:=List.filter_eq_self.2 λ_ _=>rfl
  rw [this];exact .refl _
 rintro P _ h' ⟨n,VK,U1,q,done,rfl,eF,a,rW,E',M,hp,hm,dO⟩;have HM':=E'.last.map;cbv;refine .of dO a HM' rW (λe he=>D3.ok.old e he) (λbJ=>?_) λk v b gw h3 gQ aI aS=>?_
 ·rw [vN] at bJ
  have A:fF last n=[]:=by simpa [fA] using bJ
  have hp:done.Perm (said last):=by simpa [A,said] using hp
  have Tc:(done.map (·.1)).Nodup:=(hp.map _).nodup_iff.2 (by rw [vO];exact D3.ok.keys);have Z:vP U1 (said last):=⟨λk=>by rw [M.get,G8 hp Tc],M.sum.trans (abj hp)⟩;cbv;refine .of E'.cell rfl ?_;cbv;refine RF dO E'.last λh4 lo F T F4 Xu w G aL aW=>?_;have E4:=E'.mono aL (by simp);cbv;refine .one aW E4.cell rfl rfl rfl rfl λh5 Bn B bK=>?_;cbv;have U2:∀l,h'.get l=none->h.get l=none:=λl i=>by
   cases hy:h.get l with
   | none=>rfl
   | some o=>
     by_cases e:l=m
     ·subst e;rw [E'.held] at i;cases i
     ·have:=hm.get (ar.get hy (by simpa using e)) (by simpa using e);rw [i] at this;cases this
  have W:m∉[ld]:=λa=>by rw [List.mem_singleton] at a;subst a;rw [D1] at D7;cases D7
  have p1:∀l,l∈[ld]->l∉lo::F.map (·.bw):=λl a=>by rw [List.mem_singleton] at a;subst a;exact F4.off E4.cell (λ_ _ e=>by cases e) (λ_ e=>by cases e)
  have p2:∀l,l∈[ld]->l∉s::last.map (·.bw):=λl a=>by rw [List.mem_singleton] at a;subst a;exact E4.last.off E4.cell (λ_ _ e=>by cases e) (λ_ e=>by cases e)
  have p3:∀l,l∈ag I->l∉[ld]:=λl a i=>by
   obtain ⟨r,A⟩:=E4.Cn.row a;rw [List.mem_singleton] at i;subst i;rw [E4.cell] at A;cases A
  refine hq h5 ⟨room,lo,s,m,F,last,T,j,q,I,Y,ac,U1⟩ ⟨Bn,F4.ni B p1,E4.last.ni B p2,E4.Cn.mono B p3,E4.aJ.mono B,D6,B.get E4.held W,E4.rJ,E4.ints,?_,?_,D12,?_⟩ rfl Xu rfl rfl Z (λl a=>?_) (((ar.trans hm).trans (aL.trans B)).mono λl _ _ a=>?_) bK
  ·exact λ(e:lo=s)=>E'.live (l:=s) (by simp [ei.own]) (e▸w)
  ·exact λ(e:lo=m)=>E'.live (l:=m) (by simp [ei.own]) (e▸w)
  ·rw [List.map_append,List.nodup_append]
   refine ⟨F4.ag,D3.ag,λx i y hy e=>?_⟩;obtain ⟨f,u,rfl⟩:=List.mem_map.1 i;obtain ⟨g,J,rfl⟩:=List.mem_map.1 hy;have:=(E'.last.file g J).cell;rw [<-e,G f u] at this;cases this
  ·simp only [ei.own,List.map_append,List.mem_cons,List.mem_append] at a ⊢
   rcases a with rfl | rfl | rfl | rfl | a | a | a
   ·simp
   ·exact .inr (U2 _ w)
   ·simp
   ·simp
   ·simp only [a,or_true,true_or]
   ·obtain ⟨f,u,rfl⟩:=List.mem_map.1 a
    exact .inr (U2 _ (G f u))
   ·simp only [a,or_true,true_or]
  ·simp at a
   rcases a with rfl | rfl<;>simp [ei.own]
 ·have UX:=gw
  rw [vN] at UX;obtain ⟨f,u,rfl,rfl,rfl⟩:=Zi UX;have O':f∈last:=(List.mem_filter.1 u).1;have N:=qu gw;have E3:=E'.mono aI λl ho i=>by
   rw [List.mem_singleton] at i;subst i;exact E.live (l:=l) ho FD
  have L8:(fF last n).Perm (f::fF last (n++[f.born])):=by
   rw [Po];refine Pp ?_ u;have hb:(last.map (·.born)).Nodup:=by
    have:=D3.ok.Eu;unfold fA at this;rw [List.map_map] at this;exact this
   exact hb.sublist ((List.filter_sublist).map _)
  have bA:(fF last (n++[f.born])).length<P:=by
   rw [eF,L8.length_eq];simp
  have fO:bM done f.name=none:=by
   have hn:((done++said (fF last n)).map (·.1)).Nodup:=((hp.map _).nodup_iff).2 (by rw [vO];exact D3.ok.keys);rw [List.map_append,List.nodup_append] at hn;exact Pq λi=>hn.2.2 _ i _ (List.mem_map.2 ⟨_,List.mem_map.2 ⟨f,u,rfl⟩,rfl⟩) rfl
  have hsf:bM (said last) f.name=some f.bytes:=uq (Rq D3.ok.keys O');have U:=M.free q (b:=f.bytes) fO;have R:((done++[(f.name,f.bytes)])++said (fF last (n++[f.born]))).Perm (said last):=by
   refine List.Perm.trans ?_ hp;rw [List.append_assoc];exact List.Perm.append_left _ (show (said (f::fF last (n++[f.born]))).Perm (said (fF last n)) from (L8.map λf:Fl=>(f.name,f.bytes)).symm)
  have L:K≠m:=by rintro rfl;rw [E'.held] at a;cases a
  generalize f.bw=lf0 at*;generalize f.bytes=fb at*;generalize f.name=nm at*;generalize f.born=bo at*;cbv;refine .entry gQ E3.last.map D3.ok N ?_;cbv;refine Pk aS E3 λh4 T O g2 g3=>?_;dsimp only at O g2;rw [hsf] at O;cbv;refine ⟨rfl,_,bA,n++[bo],j,_,T,done++[(nm,fb)],rfl,rfl,g2.get gQ (by simpa using L),by omega,O,U,R,?_,g3⟩;exact (hm.fr aI λl i=>.inl (by rw [List.mem_singleton] at i;subst i;exact FD)).fr g2 λl i=>.inr i
theorem Ma {ld:Lb}(v:Wf h)(D:bF h ld d)(r:d.aJ.length<=1000000000){Q:V->H->Prop}
  (z:∀h' d',bF h' ld d'->d'.room=d.room->(said d'.seen).Perm (said d'.last)->said d'.last=runs d.aJ (said d.last)->d'.aJ=[]->vP d'.held (said d'.last)->
   (∀l,l∈d'.own ld->l∈d.own ld\/h.get l=none)->Mod h h' (d.own ld)->Wf h'->Q (.int .i64 0) h'):CW pf G0 sF [.ptr ld 0] h Q:=by
 refine E8.enter (by kernel_rfl) ?_;cbv;refine G2 D.cell ?_;cbv;refine H8 v D r (p:=λ_=>true) (λh' a cs K m w c E U=>⟨⟨_,_,_,rfl,?_⟩⟩) λn Y a1 a2 X k i S q j J=>?_
 ·obtain ⟨x,s,vb,e,rfl,T,LY⟩:=c.form
  show CW pf G0 pD [.agg [.int .i64 x,.str e,.int .i64 s,vb]] h' K
  refine Bc.enter (by kernel_rfl) ?_;cbv;refine .agg ?_;cbv;refine .of w λW n R FT u G=>?_;cbv;exact E n rfl u G
 ·cbv;refine abk J a1 λh3 y t Z A f P C B N F=>?_
  cbv;have L:d.aJ.filter (λ_=>true)=d.aJ:=List.filter_eq_self.2 λ_ _=>rfl;have I:d.aJ.filter (λ_=>!true)=[]:=List.filter_eq_nil_iff.2 λ_ _=>by simp
  rw [L] at k;rw [I] at i;refine z h3 y t (Z.trans a2) (by rw [f];exact A) (by rw [f];exact k) (P.trans i) (by rw [f];exact C) (λl b=>?_) (j.fr N λl b=>(q l b).symm) F;rcases B l b with g | g
  ·exact q l g
  ·cases hy:h.get l with
   | none=>exact .inr rfl
   | some o=>
     left
     refine Classical.byContradiction λM=>?_;have:=j.get hy M;rw [g] at this;cases this
end K
namespace K
open Go Go.Dx Go.RowKit
set_option maxRecDepth 100000
variable{u:Nat}{n:Int}
def Bp (u:Nat):List Nat:=(Lib.decDigits u).map (·.toNat)
theorem Fj (u:Nat):Bp u=if u<10 then [48+u] else Bp (u / 10)++[48+u % 10]:=by
 unfold Bp;rw [Lib.decDigits];split
 ·rename_i h;simp only [List.map_cons,List.map_nil];rw [UInt8.toNat_ofNat'];congr 1;omega
 ·simp only [List.map_append,List.map_cons,List.map_nil];rw [UInt8.toNat_ofNat'];congr 2;omega
def RG (l:List Nat):Nat:=l.foldl (λa d=>10*a+(d - 48)) 0
theorem abl (l:List Nat)(d:Nat):RG (l++[d])=10*RG l+(d - 48):=by simp [RG]
theorem Pr (u:Nat):RG (Bp u)=u:=by
 induction u using Nat.strongRecOn with
 | ind u ih=>
   rw [Fj];split
   ·simp [RG]
   ·rw [abl,ih (u / 10) (by omega)];omega
theorem XK (u:Nat):∀c,c∈Bp u->48<=c/\c<=57:=by
 induction u using Nat.strongRecOn with
 | ind u ih=>
   rw [Fj];split
   ·intro c a;simp at a;omega
   ·intro c a
    rcases List.mem_append.1 a with a | a
    ·exact ih (u / 10) (by omega) c a
    ·simp at a;omega
theorem zB:∀(k u:Nat),u<10 ^ (k+1)->(Bp u).length<=k+1
 | 0,u,h=>by rw [Fj,if_pos (by omega)];simp
 | k+1,u,h=>by
   rw [Fj];split
   ·simp
   ·rw [List.length_append]
    have:=zB k (u / 10) (by rw [Nat.pow_succ] at h;omega);simp;omega
theorem Mb (k:Nat)(l:List Nat):RG (List.replicate k 48++l)=RG l:=by
 induction k with
 | zero=>rfl
 | succ k ih=>rw [List.replicate_succ,List.cons_append];unfold RG at *;rw [List.foldl_cons];exact ih
def jQ (u:Nat):List Nat:=[115,101,103,46]++(List.replicate (19 - (Bp u).length) 48++Bp u)
theorem Mc {v:Nat}(h:jQ u=jQ v):u=v:=by
 have:=congrArg RG (List.append_cancel_left h);rw [Mb,Mb,Pr,Pr] at this;exact this
theorem As (h:u<10 ^ 19):zw (jQ u):=by
 have b:(Bp u).length<=19:=zB 18 u h;refine ⟨λc a=>?_,by simp [jQ],by simp [jQ];omega⟩;simp only [jQ,List.mem_append] at a;rcases a with a | a | a
 ·simp at a;omega
 ·have:=(List.mem_replicate.1 a).2;omega
 ·have:=XK u c a;omega
theorem Fk (h:0<=n):dec n=Bp n.toNat:=by
 unfold dec Lib.itoa Bp;rw [if_neg (by omega)]
theorem kC {h:H}(h0:0<=n)(g:n<=9223372036854775807){Q:V->H->Prop} (f:∀r,r=jQ n.toNat->Q (.str r) h):CW pf G0 BN [.int .i64 n] h Q:=by
 refine NP.enter (by kernel_rfl) ?_;cbv;refine Zg (by omega) g ?_;have l:(Bp n.toNat).length<=19:=zB 18 _ (by omega);have b:=Fk h0;generalize hs:dec n=s;have u:s.length<=19:=by rw [<-hs,b];exact l
 cbv;refine .of λk t c=>?_;cbv;refine .sub (by omega) (by omega) λm p=>?_;cbv;refine Pf (by omega) (by omega) (by simp) λr i=>?_;have Zh:r=List.replicate (19 - s.length) 48:=by
  rw [i,show m.toNat=19 - s.length by omega];generalize 19 - s.length=q;induction q with
  | zero=>rfl
  | succ q ih=>rw [List.replicate_succ,List.flatten_cons,ih,List.replicate_succ];rfl
 have o:r.length<=19:=by rw [Zh];simp
 cbv;refine .cat (by simp only [List.length_cons,List.length_nil];omega) λv a=>?_;have:v.length<=23:=by rw [a];simp;omega
 cbv;refine .cat (by omega) λj d=>?_;cbv;refine f j ?_;rw [d,a,Zh,<-hs,b];simp [jQ]
end K
namespace K
open Go Go.Dx Go.RowKit
variable{m:AL}
def cX (m:AL):List (List Nat):=m.map (·.1)
theorem Ps (m:AL)(k q:List Nat)(v:List Nat):bM (xw m k v) q=if q=k then some v else bM m q:=by
 induction m with
 | nil=>
   simp only [xw,bM]
   by_cases h:q=k
   ·rw [if_pos h,if_pos h.symm]
   ·rw [if_neg h,if_neg (Ne.symm h)]
 | cons p r ih=>
   obtain ⟨x,w⟩:=p;simp only [xw]
   by_cases h:x=k
   ·subst h
    rw [if_pos rfl];simp only [bM]
    by_cases hq:q=x
    ·rw [if_pos hq,if_pos hq.symm]
    ·rw [if_neg hq,if_neg (Ne.symm hq),if_neg (Ne.symm hq)]
   ·rw [if_neg h]
    simp only [bM,ih]
    by_cases hx:x=q
    ·subst hx;rw [if_pos rfl,if_neg h,if_pos rfl]
    ·rw [if_neg hx,if_neg hx]
theorem abm (a:(cX m).Nodup)(k q:List Nat):bM (IW m k) q=if q=k then none else bM m q:=by
 induction m with
 | nil=>simp only [IW,bM];split<;>rfl
 | cons p r b=>
   obtain ⟨x,w⟩:=p;simp only [cX,List.map_cons,List.nodup_cons] at a;have b:=b a.2;simp only [IW]
   by_cases h:x=k
   ·subst h
    rw [if_pos rfl]
    by_cases hq:q=x
    ·rw [if_pos hq,hq];exact Pq a.1
    ·rw [if_neg hq];simp only [bM,if_neg (Ne.symm hq)]
   ·rw [if_neg h]
    simp only [bM,b]
    by_cases hx:x=q
    ·subst hx;rw [if_pos rfl,if_neg h,if_pos rfl]
    ·rw [if_neg hx,if_neg hx]
theorem H9 (f:(cX m).Nodup)(k v:List Nat):(cX (xw m k v)).Nodup/\∀q,q∈cX (xw m k v)->q∈cX m\/q=k:=by
 induction m with
 | nil=>exact ⟨by simp [xw,cX],λq a=>.inr (by simpa [xw,cX] using a)⟩
 | cons p r ih=>
   obtain ⟨x,w⟩:=p;simp only [cX,List.map_cons,List.nodup_cons] at f;obtain ⟨e,d⟩:=ih f.2;simp only [xw]
   by_cases h:x=k
   ·subst h
    rw [if_pos rfl];exact ⟨by simpa [cX] using f,λq a=>.inl a⟩
   ·rw [if_neg h]
    refine ⟨?_,λq a=>?_⟩
    ·simp only [cX,List.map_cons,List.nodup_cons]
     refine ⟨λb=>?_,e⟩;rcases d x b with b | b
     ·exact f.1 b
     ·exact h b
    ·simp only [cX,List.map_cons,List.mem_cons] at a ⊢
     rcases a with a | a
     ·exact .inl (.inl a)
     ·exact (d q a).imp_left .inr
theorem U3 (a:(cX m).Nodup)(k:List Nat):(cX (IW m k)).Nodup:=by
 have:(IW m k).Sublist m:=by
  induction m with
  | nil=>exact .slnil
  | cons p r ih=>
    obtain ⟨x,w⟩:=p;simp only [cX,List.map_cons,List.nodup_cons] at a;simp only [IW];split
    ·exact List.sublist_cons_self _ _
    ·exact (ih a.2).cons_cons _
 exact a.sublist (this.map _)
def Act.at (a:Act)(k:List Nat)(o:Option (List Nat)):Option (List Nat):=if k=a.nm then (match a with
 | .wrote _ i b=>some (fB (o.getD []) i b)
 | .cut _ i=>o.map (·.take i)
 | .drop _=>none) else o
theorem Act.G' (a:Act)(c:(cX m).Nodup):(cX (a.run m)).Nodup:=by
 cases a with
 | wrote n i b=>exact (H9 c _ _).1
 | cut n i=>
   simp only [Act.run];split
   ·exact (H9 c _ _).1
   ·exact c
 | drop n=>exact U3 c n
theorem Act.run_get (a:Act)(d:(cX m).Nodup)(k:List Nat):bM (a.run m) k=a.at k (bM m k):=by
 cases a with
 | wrote n i b=>
   show bM (xw m n _) k=if k=n then _ else _
   rw [Ps]
   by_cases h:k=n
   ·rw [if_pos h,if_pos h,h]
   ·rw [if_neg h,if_neg h]
 | cut n i=>
   show _=if k=n then _ else _
   simp only [Act.run];split
   ·rename_i b c
    rw [Ps]
    by_cases h:k=n
    ·rw [if_pos h,if_pos h,h,c];rfl
    ·rw [if_neg h,if_neg h]
   ·rename_i c
    by_cases h:k=n
    ·rw [if_pos h,h,c];rfl
    ·rw [if_neg h]
 | drop n=>
   show bM (IW m n) k=if k=n then none else _
   rw [abm d]
def zC (l:List Act)(k:List Nat)(o:Option (List Nat)):Option (List Nat):=l.foldl (λo a=>a.at k o) o
theorem rD:∀(l:List Act) {m:AL},(cX m).Nodup->(cX (runs l m)).Nodup
 | [],_m,h=>h
 | a::l,_m,h=>rD l (a.G' h)
theorem Md:∀(l:List Act) {m:AL} (k:List Nat),(cX m).Nodup->bM (runs l m) k=zC l k (bM m k)
 | [],m,k,h=>rfl
 | a::l,m,k,h=>by
   show bM (runs l (a.run m)) k=_
   rw [Md l k (a.G' h),a.run_get h];rfl
theorem uw {a:Act}{k:List Nat}(h:k≠a.nm)(o:Option (List Nat)):a.at k o=o:=by unfold Act.at;rw [if_neg h]
theorem XL (l:List Act)(k n:List Nat)(o:Option (List Nat)):zC (l.filter λa=>!jP n a) k (zC (l.filter (jP n)) k o)=zC l k o:=by
 induction l generalizing o with
 | nil=>rfl
 | cons a l ih=>
   by_cases h:a.nm=n
   ·have d:jP n a=true:=by simp [jP,h]
    rw [List.filter_cons,if_neg (by simp [d]),List.filter_cons,if_pos d];exact ih _
   ·have d:jP n a=false:=by simp [jP,h]
    rw [List.filter_cons,if_pos (by simp [d]),List.filter_cons,if_neg (by simp [d])];show zC (l.filter _) k (a.at k (zC (l.filter (jP n)) k o))=zC l k (a.at k o)
    by_cases hk:k=a.nm
    ·have f:∀(r:List Act),(∀b,b∈r->b.nm=n)->∀o,zC r k o=o:=λr=>by
      induction r with
      | nil=>intro _ o;rfl
      | cons b r ihr=>
        intro e o;show zC r k (b.at k o)=o
        rw [uw (by rw [e b (List.mem_cons_self ..),hk];exact h)];exact ihr (λc i=>e c (List.mem_cons_of_mem _ i)) o
     have g:∀b,b∈l.filter (jP n)->b.nm=n:=λb e=>by simpa [jP] using (List.mem_filter.1 e).2
     rw [f _ g,<-ih (a.at k o),f _ g]
    ·rw [uw hk,uw hk];exact ih o
def Cons (d:ei):Prop:=∀k,bM (said d.seen) k=zC d.aJ k (bM (said d.last) k)
theorem gD {h:H}{a:Lb}{fs:List Fl}{c:Nat}(F:cN h a fs c):(cX (said fs)).Nodup:=by
 unfold cX;rw [vO];exact F.ok.keys
theorem Cons.flush {h h':H}{ld:Lb}{d d':ei}(D:bF h ld d)(D':bF h' ld d')(C:Cons d)(b:(said d'.seen).Perm (said d'.last))(a:said d'.last=runs d.aJ (said d.last))(h3:d'.aJ=[]):Cons d'/\∀k,bM (said d'.seen) k=bM (said d.seen) k:=by
 have e:∀k,bM (said d'.seen) k=bM (said d'.last) k:=λk=>G8 b (gD D'.seen) k;exact ⟨λk=>by rw [e,h3];rfl,λk=>by rw [e,a,Md _ k (gD D.last),<-C k]⟩
end K
