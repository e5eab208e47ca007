/-
  The sequencer's laws. Part ZAW of the proof: blotter/disk: what was pending comes to the lasting files.
-/
import Derived.Test.YteajeefphbjnmaaGreatDoorZAV
namespace K
open Go Go.Dx Go.RowKit
set_option maxRecDepth 100000
def runs (l:List Act)(m:AL):AL:=l.foldl (λm a=>a.run m) m
theorem aad (l:List Act)(a:Act)(m:AL):runs (l++[a]) m=a.run (runs l m):=by simp [runs]
theorem mf {α:Type}{l:List α}{i:Nat}{a:α}(h:l[i]? =some a):l.take (i+1)=l.take i++[a]:=by
 obtain ⟨h1,h2⟩:=List.getElem?_eq_some_iff.1 h;rw [List.take_add_one,h];rfl
theorem HB {h:H}{ld:Lb}{d:dR}{fv:V}{p:Act->Bool} (hw:Wf h) (D:bJ h ld d) (hn:d.aH.length<=1000000000)
  (wx:∀h' a cs K,Mod h h' (d.own ld)->Wf h'->AF h' a cs->(∀DG,p a=true->Mod h' DG []->Wf DG->K (.bool true) DG)->(∀DG,p a=false->Mod h' DG []->Wf DG->K (.bool false) DG)->anw pf G0 fv [.agg cs] h' K λ_ _=>False) {Q:V->H->Prop}
  (hq:∀h' d',bJ h' ld d'->d'.room=d.room->d'.seen=d.seen->said d'.last=runs (d.aH.filter p) (said d.last)->d'.aH=d.aH.filter (λa=>!p a)->d'.held=d.held->
   (∀l,l∈d'.own ld->l∈d.own ld\/h.get l=none)->Mod h h' (d.own ld)->Wf h'->Q (.tuple []) h'):CW pf G0 qw [.ptr ld 0,fv] h Q:=by
 obtain ⟨room,ls,ll,lh,seen,last,kcs,ZF,X6,pv,aH,ac,held⟩:=d;obtain ⟨D1,D2,D3,D4,D5,D6,D7,D8,D9,Xo,D11,ZG,V'⟩:=D;dsimp only at D1 D2 D3 D4 D5 D6 D7 D8 D9 Xo D11 ZG V' hn hq wx;have ajX:ld∉ll::last.map (·.aZ):=D3.off D1 (λ_ _ e=>by cases e) (λ_ e=>by cases e);have ajY:∀l,l∈af pv->l∉ll::last.map (·.aZ):=λl hl=>by
  obtain ⟨r,hr⟩:=D4.row hl;exact D3.off hr (λ_ _ e=>by cases e) (λ_ e=>by cases e)
 have F0:∀l,l∈ll::last.map (·.aZ)->l∈dR.own ⟨room,ls,ll,lh,seen,last,kcs,ZF,X6,pv,aH,ac,held⟩ ld:=λl hl=>by
  simp only [dR.own,List.map_append,List.mem_cons,List.mem_append] at hl ⊢;rcases hl with rfl | hl
  ·simp
  ·simp only [hl,or_true]
 refine Cr.enter (by kernel_rfl) ?_;cbv;refine .of D1 rfl ?_;cbv;refine .of D4.sl λn eT Fj=>?_;cbv;refine .inv [p0,p1,p4,p10,p11,p12] (λm' aC h'=>∃i rv rc fs c,aC=[.ptr ld 0,fv,rv,pv,.int .i64 n,.int .i64 i]/\0<=i/\i.toNat<=aH.length/\m'=aH.length - i.toNat/\
   aE h' uY 4 rv ((aH.take i.toNat).filter (λa=>!p a)).length rc/\EN h' ((aH.take i.toNat).filter (λa=>!p a)) rc/\(∀l,l∈af rv->h.get l=none\/l∈ll::last.map (·.aZ))/\
   cC h' ll fs c/\said fs=runs ((aH.take i.toNat).filter p) (said last)/\(∀f,f∈fs->(∃g,g∈last/\g.aZ=f.aZ)\/h.get f.aZ=none)/\Mod h h' (ll::last.map (·.aZ))/\Wf h') [_,_,_,_,_,_] rfl _
  ⟨0,.nilSlice 0,[],last,ZF,rfl,by omega,by simp,rfl,.nil,.nil,by simp [af],D3,rfl,λf hf=>.inl ⟨f,hf,rfl⟩,Mod.refl _ _,hw⟩ ?_
 rintro m' _ h' ⟨i,rv,rc,fs,c,rfl,jG,hi,dY,ho,hac,Wj,hF,Oi,oi,hm,cG⟩;have E1:=hm.get D1 ajX;have E4:=D4.mono hm ajY;cbv;refine .lt (λbA=>?_) λjb=>?_
 ·obtain ⟨a,ha⟩:∃a,aH[i.toNat]? =some a:=⟨_,List.getElem?_eq_getElem (by omega)⟩
  obtain ⟨r,hr,hca⟩:=(D5.mono hm).get ha;obtain ⟨k0,i0,vb,nm,rfl,si,KZ⟩:=hca.form;cbv;refine .of E4.sl jG rfl (by omega) hr λl off iR=>?_;cbv;refine .ka iR rfl ?_;cbv;refine .of cG λla h1 fS Bl ar aM=>?_;cbv;refine .of aM fS rfl rfl rfl rfl (by show (true&&(true&&(true&&(bU vb&&true))))=true;rw [KZ];rfl) rfl λh2 jc aq aN=>?_;have m02:Mod h' h2 []:=ar.fr aq λl hl=>.inl (by rw [List.mem_singleton] at hl;subst hl;exact Bl);have mF:∀h3,Mod h' h3 []->Mod h h3 (ll::last.map (·.aZ)):=λh3 m=>(hm.trans m).mono λl _ _ hl=>by simpa using hl
  have owns:∀l,h'.get l=none->h.get l=none\/l∈ll::last.map (·.aZ):=λl hl=>by
   cases hx:h.get l with
   | none=>exact .inl rfl
   | some o=>
     right
     refine Classical.byContradiction λDf=>?_;have:=hm.get hx Df;rw [hl] at this;cases this
  have fh:=mf ha;have Fa:∀j:Int,j=i+1->j.toNat=i.toNat+1:=λj hj=>by omega
  cbv;refine .of jc rfl ?_;cbv;refine wx h2 a _ _ ((mF h2 m02).mono λl _ _ hl=>F0 l hl) aN (hca.mono m02) (λh3 hp m3 w3=>?_) (λh3 hp m3 w3=>?_)
  ·have Ya:Mod h' h3 []:=m02.fr m3 (by simp)
   cbv;refine .of follows 4 ?_;cbv;refine .of (Ya.get E1 (by simp)) rfl ?_;cbv;refine .of (m3.get jc (by simp)) rfl ?_;cbv;refine La w3 (hF.mono Ya (by simp) (by simp)) (D6 a (List.mem_of_getElem? ha)) (hca.mono Ya) λh4 fs4 c4 F4 Oh hn4 aD aQ=>?_;refine .nil ?_;cbv;refine .add (by omega) (by omega) λj hj=>?_;have ago:∀l,l∈af rv->l∉ll::fs.map (·.aZ):=λl hl=>by
    obtain ⟨r,hr⟩:=ho.row hl;exact hF.off hr (λ_ _ e=>by cases e) (λ_ e=>by cases e)
   have jv:=(ho.mono Ya (by simp)).mono aD ago;have aut:=(hac.mono Ya).mono aD;cbv;refine ⟨rfl,aH.length - j.toNat,by omega,j,rv,rc,fs4,c4,rfl,by omega,by omega,rfl,?_,?_,Wj,F4,?_,λf hf=>?_,?_,aQ⟩
   ·rw [Fa j hj,fh,List.filter_append];simpa [hp] using jv
   ·rw [Fa j hj,fh,List.filter_append];simpa [hp] using aut
   ·rw [Fa j hj,fh,List.filter_append,Oh,Oi];simp [hp,aad]
   ·rcases hn4 f hf with ⟨g,hg,e⟩ | hn
    ·rw [<-e];exact oi g hg
    ·have Bj:h'.get f.aZ=none:=by
      cases hx:h'.get f.aZ with
      | none=>rfl
      | some o=>have:=Ya.get hx (by simp);rw [hn] at this;cases this
     rcases owns _ Bj with h5 | h5
     ·exact .inr h5
     ·rcases List.mem_cons.1 h5 with e | h5
      ·have:=hF.map;rw [<-e,Bj] at this;cases this
      ·obtain ⟨g,hg,e⟩:=List.mem_map.1 h5
       exact .inl ⟨g,hg,e⟩
   ·refine (mF h3 Ya).fr aD λl hl=>?_
    rcases List.mem_cons.1 hl with rfl | hl
    ·exact .inr (List.mem_cons_self ..)
    ·obtain ⟨f,hf,rfl⟩:=List.mem_map.1 hl
     rcases oi f hf with ⟨g,hg,e⟩ | hn
     ·exact .inr (List.mem_cons_of_mem _ (List.mem_map.2 ⟨g,hg,e⟩))
     ·exact .inl hn
  ·have Ya:Mod h' h3 []:=m02.fr m3 (by simp)
   cbv;refine .of (m3.get jc (by simp)) rfl ?_;cbv;refine .agg ?_;cbv;refine .of w3 λlb h4 Qt gG aD aQ=>?_;have mD:Sl h4 4 (.slice lb 0 1 (.exact 1)) 1 [.int .i64 k0,.str nm,.int .i64 i0,vb]:=.row Qt rfl;have hlen:((aH.take i.toNat).filter (λa=>!p a)).length<=1000000000:=by
    have:=List.length_filter_le (λa=>!p a) (aH.take i.toNat);rw [List.length_take] at this;omega
   have m04:Mod h' h4 []:=Ya.fr aD (by simp);cbv;refine .own aQ (ho.mono m04 (by simp)) mD.elems rfl (by show (true&&(true&&(true&&(bU vb&&true))))=true;rw [KZ];rfl) (by show _<=1099511627776;omega) (by decide) λrv5 h5 kh gr5 aY bH=>?_;cbv;refine .add (by omega) (by omega) λj hj=>?_;have auu:∀l,l∈af rv->l∉ll::fs.map (·.aZ):=λl hl=>by
    obtain ⟨r,hr⟩:=ho.row hl;exact hF.off hr (λ_ _ e=>by cases e) (λ_ e=>by cases e)
   cbv;refine ⟨rfl,aH.length - j.toNat,by omega,j,rv5,rc++[.int .i64 k0,.str nm,.int .i64 i0,vb],fs,c,rfl,by omega,by omega,rfl,?_,?_,λl hl=>?_,(hF.mono m04 (by simp) (by simp)).mF aY auu,?_,oi,?_,bH⟩
   ·rw [Fa j hj,fh,List.filter_append];simpa [hp] using kh
   ·rw [Fa j hj,fh,List.filter_append]
    have:=((hac.mono m04).mono aY).snoc ((hca.mono m04).mono aY);simpa [hp] using this
   ·rcases gr5 l hl with hg | hg
    ·refine owns l ?_
     cases hx:h'.get l with
     | none=>rfl
     | some o=>have:=m04.get hx (by simp);rw [hg] at this;cases this
    ·exact Wj l hg
   ·rw [Fa j hj,fh,List.filter_append,Oi];simp [hp]
   ·refine (mF h4 m04).fr aY λl hl=>Wj l hl
 ·have cf:aH.take i.toNat=aH:=List.take_of_length_le (by omega)
  rw [cf] at ho hac Oi;cbv;refine .one cG E1 ho.sl.flat rfl rfl rfl λh6 Gu bP cy=>?_;have auv:∀l,l∈af pv->l∉ls::seen.map (·.aZ):=λl hl=>by
   obtain ⟨r,hr⟩:=D4.row hl;exact D2.off hr (λ_ _ e=>by cases e) (λ_ e=>by cases e)
  have S':cC h' ls seen kcs:=D2.beside D3 Xo (λf hf g hg e=>by
   rw [List.map_append,List.nodup_append] at V';exact V'.2.2 _ (List.mem_map.2 ⟨f,hf,rfl⟩) _ (List.mem_map.2 ⟨g,hg,rfl⟩) e) hm
  have hlh:lh∉ll::last.map (·.aZ):=D3.Gt D7 (Ne.symm ZG);have H':=hm.get D7 hlh;have nld:∀{o:Dx.Obj} {l:Lb},h'.get l=some o->(∀cs,o≠.cells cs rZ 0 .yes)->l∉[ld]:=λhg dj hl=>by
   rw [List.mem_singleton] at hl;subst hl;rw [E1] at hg;exact dj _ (Option.some.inj hg).symm
  cbv;refine hq h6 ⟨room,ls,ll,lh,seen,fs,kcs,c,X6,rv,aH.filter (λa=>!p a),rc,held⟩
   ⟨Gu,S'.mF bP λl hl=>?_,hF.mF bP λl hl=>?_,ho.mono bP λl hl=>?_,hac.mono bP,λa ha=>D6 a (List.mem_filter.1 ha).1,bP.get H' (nld H' λ_ e=>by cases e),D8,D9,Xo,D11,ZG,?_⟩ rfl rfl Oi rfl rfl (λl hl=>?_) ((hm.trans bP).mono λl o _ hl=>?_) cy
  ·rw [List.mem_singleton] at hl;subst hl
   exact S'.off E1 (λ_ _ e=>by cases e) (λ_ e=>by cases e)
  ·rw [List.mem_singleton] at hl;subst hl
   exact hF.off E1 (λ_ _ e=>by cases e) (λ_ e=>by cases e)
  ·obtain ⟨r,hr⟩:=ho.row hl
   exact nld hr λ_ e=>by cases e
  ·rw [List.map_append,List.nodup_append]
   refine ⟨D2.af,hF.af,λx hx y hy e=>?_⟩;obtain ⟨f,hf,rfl⟩:=List.mem_map.1 hx;obtain ⟨g,hg,rfl⟩:=List.mem_map.1 hy;rcases oi g hg with ⟨q,sj,gV⟩ | eT
   ·rw [List.map_append,List.nodup_append] at V'
    exact V'.2.2 _ (List.mem_map.2 ⟨f,hf,rfl⟩) _ (List.mem_map.2 ⟨q,sj,rfl⟩) (e.trans gV.symm)
   ·have:=(D2.file f hf).cell
    rw [e,eT] at this;cases this
  ·simp only [dR.own,List.map_append,List.mem_cons,List.mem_append] at hl ⊢
   rcases hl with rfl | rfl | rfl | rfl | hl | hl | hl
   ·simp
   ·simp
   ·simp
   ·simp
   ·rcases Wj l hl with hg | hg
    ·exact .inr hg
    ·left
     rcases List.mem_cons.1 hg with rfl | hg
     ·simp
     ·simp only [hg,or_true]
   ·simp only [hl,or_true,true_or]
   ·obtain ⟨f,hf,rfl⟩:=List.mem_map.1 hl
    rcases oi f hf with ⟨q,sj,gV⟩ | eT
    ·left
     have:f.aZ∈last.map (·.aZ):=List.mem_map.2 ⟨q,sj,gV⟩;simp only [this,or_true]
    ·exact .inr eT
  ·rcases List.mem_append.1 hl with hl | hl
   ·exact F0 l hl
   ·rw [List.mem_singleton] at hl;subst hl;simp [dR.own]
end K
namespace K
open Go Go.Dx Go.RowKit
set_option maxRecDepth 100000
theorem Li {m:bF}(hn:(cB m).Nodup)(k:List Nat):cK (fA m k) k=none:=by
 induction m with
 | nil=>rfl
 | cons p r ih=>
   obtain ⟨x,w,b⟩:=p;simp only [cB,List.map_cons,List.nodup_cons] at hn;simp only [fA];split
   ·rename_i e;subst e
    have:∀{l:bF},x∉l.map (·.1)->cK l x=none:=λ{l}=>by
     induction l with
     | nil=>intro _;rfl
     | cons q l ih=>
       intro h;obtain ⟨y,w',b'⟩:=q;simp only [List.map_cons,List.mem_cons,not_or] at h;simp only [cK,if_neg (Ne.symm h.1)];exact ih h.2
    exact this hn.1
   ·rename_i e;simp only [cK,if_neg e];exact ih hn.2
def jL (m:bF)(c:Nat)(k:List Nat):Option (List Nat)->bF
 | some b=>if b.length=0 then fA m k else dh (fA m k) k (.int .i64 b.length) c
 | none=>fA m k
theorem Ou {h:H}{ld:Lb}{d:dR}{nm:List Nat}(hw:Wf h)(D:bJ h ld d){Q:V->H->Prop}
  (hq:∀h' c',bJ h' ld {d with held:=jL d.held d.ch nm (bL (said d.last) nm),ch:=c'}->Mod h h' [d.lh]->Wf h'->Q (.tuple []) h'):CW pf G0 tn [.ptr ld 0,.str nm] h Q:=by
 have fin:∀h' (m':bF) c',h'.get d.lh=some (.map (cg m') c')->fG m' c'->(∀e,e∈m'->∃x:Int,e.2.1 = .int .i64 x)->Mod h h' [d.lh]->Wf h'->m'=jL d.held d.ch nm (bL (said d.last) nm)->Q (.tuple []) h':=λh' m' c' g1 g2 g3 m w e=>by
  subst e;have off:∀l o,h.get l=some o->(∀es c,o≠.map es c)->l∉[d.lh]:=λl o hg dj hl=>by
   rw [List.mem_singleton] at hl;subst hl;rw [D.held] at hg;exact dj _ _ (Option.some.inj hg).symm
  have o1:∀l,l∈[d.lh]->l∉d.ls::d.seen.map (·.aZ):=λl hl=>by rw [List.mem_singleton] at hl;subst hl;exact D.seen.Gt D.held (Ne.symm D.ne2)
  have o2:∀l,l∈[d.lh]->l∉d.ll::d.last.map (·.aZ):=λl hl=>by rw [List.mem_singleton] at hl;subst hl;exact D.last.Gt D.held (Ne.symm D.ne3)
  have o3:∀l,l∈af d.pv->l∉[d.lh]:=λl hl=>by obtain ⟨r,hr⟩:=D.B7.row hl;exact off _ _ hr λ_ _ e=>by cases e
  exact hq h' c' ⟨m.get D.cell (off _ _ D.cell λ_ _ e=>by cases e),D.seen.mF m o1,D.last.mF m o2,D.B7.mono m o3,D.aH.mono m,D.oks,g1,g2,g3,D.ne1,D.ne2,D.ne3,D.af⟩ m w
 have C:=D.cell;have HL:=D.held;have L:=D.last;have ok:=D.pX;have hints:=D.ints;have AK:ld≠d.lh:=by rintro rfl;rw [D.cell] at HL;cases HL
 have hL:∀h',Mod h h' [d.lh]->cC h' d.ll d.last d.cl:=λh' m=>L.mF m λl hl=>by rw [List.mem_singleton] at hl;subst hl;exact L.Gt D.held (Ne.symm D.ne3)
 clear D;generalize d.room=room at C;generalize d.ls=ls at C;generalize d.pv=pv at C;generalize d.lh=lh at*;generalize d.ll=ll at*;generalize d.ch=ch at*;generalize d.held=held at*;refine Gj.enter (by kernel_rfl) ?_;cbv;refine .of C rfl ?_;cbv;refine .of hw HL λh1 xv ar aM=>?_;have C1:=ar.get C (by simpa using AK);cbv;refine .of C1 rfl ?_;have i1:∀e,e∈fA held nm->∃x:Int,e.2.1 = .int .i64 x:=λe he=>hints e (Kz he);cbv;refine .file (hL h1 ar) (λf hf gi fa=>?_) λhf=>?_
 ·have gG:=tQ hf
  have dw:=fa.cell;have eA:=fa.val;have gC:=fa.ok.1;generalize f.aZ=lf at*;generalize f.val=fv at*;generalize f.bytes=fb at*;cbv;refine .of dw rfl ?_;cbv;refine .of eA.sl λn eT Fj=>?_;cbv;refine .gt (λIq=>?_) λhle=>?_
  ·cbv;refine .of follows 4 ?_
   cbv;refine .of C1 rfl ?_;cbv;refine .of dw rfl ?_;cbv;refine .of eA.sl λn2 IW akl=>?_;cbv;refine .of aM xv λh2 jc aq aN=>?_;cbv;refine .nil ?_;cbv;refine fin h2 _ _ jc ((ok.del nm).set nm _) (λe he=>?_) ((ar.trans aq).mono λl _ _ hl=>by simpa using hl) aN ?_
   ·rcases ki he with he | ⟨_,he,_⟩
    ·exact i1 e he
    ·exact ⟨_,he⟩
   ·rw [gG]
    show _=if fb.length=0 then _ else _
    rw [if_neg (by omega),show n2=(fb.length:Int) by omega]
  ·cbv
   refine fin h1 _ _ xv (ok.del nm) i1 ar aM ?_;rw [gG];show _=if fb.length=0 then _ else _
   rw [if_pos (by omega)]
 ·cbv
  exact fin h1 _ _ xv (ok.del nm) i1 ar aM (by rw [fM,hf];rfl)
theorem bJ.live {h:H}{ld:Lb}{d:dR}(D:bJ h ld d){l:Lb}(hl:l∈d.own ld):h.get l≠none:=by
 simp only [dR.own,List.map_append,List.mem_cons,List.mem_append] at hl;rcases hl with rfl | rfl | rfl | rfl | hl | hl | hl
 ·rw [D.cell];simp
 ·rw [D.seen.map];simp
 ·rw [D.last.map];simp
 ·rw [D.held];simp
 ·obtain ⟨r,hr⟩:=D.B7.row hl;rw [hr];simp
 ·obtain ⟨f,hf,rfl⟩:=List.mem_map.1 hl;rw [(D.seen.file f hf).cell];simp
 ·obtain ⟨f,hf,rfl⟩:=List.mem_map.1 hl;rw [(D.last.file f hf).cell];simp
def gX (nm:List Nat)(a:Act):Bool:=decide (a.nm=nm)
theorem Ov {h:H}{ld:Lb}{d:dR}{nm:List Nat}(hw:Wf h)(D:bJ h ld d)(ok:yG nm)(hn:d.aH.length<=1000000000){Q:V->H->Prop}
  (bq:∀h',bL (said d.seen) nm=none->Mod h h' []->Wf h'->Q (.int .i64 20) h')
  (hq:∀h' d',bL (said d.seen) nm≠none->bJ h' ld d'->d'.room=d.room->d'.seen=d.seen->said d'.last=runs (d.aH.filter (gX nm)) (said d.last)->d'.aH=d.aH.filter (λa=>!gX nm a)->(∃c,d'.held=jL d.held c nm (bL (said d'.last) nm))->
   (∀l,l∈d'.own ld->l∈d.own ld\/h.get l=none)->Mod h h' (d.own ld)->Wf h'->Q (.int .i64 0) h'):CW pf G0 th [.ptr ld 0,.str nm] h Q:=by
 refine Ge.enter (by kernel_rfl) ?_;cbv;refine .flat rfl ?_;cbv;refine .of hw λlc h1 Pz hfc ar aM=>?_;have D1:=D.mono ar (by simp);cbv;refine .of Pz rfl ?_;cbv;refine Gs D1.cell ok D1.seen (λf hf _ fa=>?_) λhf=>?_
 ·generalize f.aZ=lf
  cbv;refine .eC rfl ?_;have aoU:lc∉d.own ld:=λhl=>D.live hl hfc;refine HB aM D1 hn (p:=gX nm) (λh' a cs K m w c kt kf=>⟨⟨_,_,_,rfl,?_⟩⟩) λh2 d2 a1 a2 a3 a4 a5 a6 a7 a8 a9=>?_
  ·obtain ⟨k0,i0,vb,nm0,rfl,si,KZ⟩:=c.form
   have auw:=m.get Pz aoU;show CW pf G0 qx [.agg [.int .i64 k0,.str nm0,.int .i64 i0,vb],.ptr lc 0] h' K
   refine Cs.enter (by kernel_rfl) ?_;cbv;refine .agg ?_;cbv;refine .of w λla h2 fS Bl aq aN=>?_;cbv;refine .of fS rfl ?_;cbv;refine .of (aq.get auw (by simp)) rfl ?_;cbv;refine .seq (λe=>?_) λe=>?_
   ·cbv;exact kt h2 (by simp [gX,<-si,e]) aq aN
   ·cbv;exact kf h2 (by simp [gX,<-si,e]) aq aN
  ·cbv;refine .of (a8.get Pz aoU) rfl ?_
   cbv;refine Ou a9 a1 λh3 c' b1 b2 b3=>?_;cbv;refine hq h3 _ (by rw [fM,hf];simp) b1 a2 a3 a4 a5 ⟨d2.ch,?_⟩ (λl hl=>?_) ?_ b3
   ·show jL d2.held d2.ch nm _=_
    rw [a6]
   ·rcases a7 l hl with hx | hx
    ·exact .inl hx
    ·right
     cases hy:h.get l with
     | none=>rfl
     | some o=>have:=ar.get hy (by simp);rw [hx] at this;cases this
   ·refine (ar.trans a8).fr b2 (λl hl=>?_) |>.mono λl _ _ hl=>by simpa using hl
    rw [List.mem_singleton] at hl;subst hl;rcases a7 d2.lh (by simp [dR.own]) with hx | hx
    ·right;simpa using hx
    ·left
     cases hy:h.get d2.lh with
     | none=>rfl
     | some o=>have:=ar.get hy (by simp);rw [hx] at this;cases this
 ·cbv;refine .uk (by decide) ?_
  cbv;exact bq h1 (by rw [fM,hf];rfl) ar aM
end K
namespace K
open Go Go.Dx Go.RowKit
set_option maxRecDepth 100000
def fj (fs:List Fl)(seen:List Nat):List Fl:=fs.filter λf=>!dp f.born seen
theorem vE (fs:List Fl)(seen:List Nat):fQ (fc fs) seen=fc (fj fs seen):=by
 unfold fQ fj fc;rw [List.filter_map];rfl
theorem Yb {fs:List Fl}{k:List Nat}{v:V}{b:Nat}(h:(k,v,b)∈fc fs):∃f,f∈fs/\k=f.name/\v = .ptr f.aZ 0/\b=f.born:=by
 obtain ⟨f,hf,e⟩:=List.mem_map.1 h;simp only [flE,Prod.mk.injEq] at e;exact ⟨f,hf,e.1.symm,e.2.1.symm,e.2.2.symm⟩
theorem Ow (fs:List Fl)(seen:List Nat)(b:Nat):fj fs (seen++[b])=(fj fs seen).filter λf=>!(f.born==b):=by
 unfold fj;rw [List.filter_filter];refine List.filter_congr λx _=>?_;have:dp x.born (seen++[b])=(dp x.born seen||(x.born==b)):=by
  rw [Bool.eq_iff_iff,Bool.or_eq_true,mG,mG,List.mem_append];simp
 rw [this];cases dp x.born seen<;>cases (x.born==b)<;>rfl
theorem Ox {fs:List Fl}(hn:(fs.map (·.born)).Nodup){f:Fl}(h:f∈fs):fs.Perm (f::fs.filter λg=>!(g.born==f.born)):=by
 induction fs with
 | nil=>cases h
 | cons e r ih=>
   simp only [List.map_cons,List.nodup_cons] at hn;rcases List.mem_cons.1 h with e1 | h
   ·subst e1
    rw [List.filter_cons,if_neg (by simp)];have:(r.filter λg=>!(g.born==f.born))=r:=by
     rw [List.filter_eq_self];intro q hq;have:q.born≠f.born:=λhb=>hn.1 (List.mem_map.2 ⟨q,hq,hb⟩);simpa using this
    rw [this]
   ·have dj:e.born≠f.born:=λhb=>hn.1 (by rw [hb];exact List.mem_map.2 ⟨_,h,rfl⟩)
    rw [List.filter_cons,if_pos (by simpa using dj)];exact ((ih hn.2 h).cons e).trans (.swap ..)
theorem Gy {a b:AL}(h:a.Perm b)(hn:(a.map (·.1)).Nodup)(k:List Nat):bL a k=bL b k:=by
 induction h with
 | nil=>rfl
 | cons x _ ih=>
   obtain ⟨y,v⟩:=x;simp only [List.map_cons,List.nodup_cons] at hn;simp only [bL,ih hn.2]
 | swap x y l=>
   obtain ⟨x,v⟩:=x;obtain ⟨y,w⟩:=y;simp only [List.map_cons,List.nodup_cons,List.mem_cons,not_or] at hn;simp only [bL]
   by_cases h1:y=k
   ·rw [if_pos h1,if_neg (λe=>hn.1.1 (by rw [h1,e])),if_pos h1]
   ·rw [if_neg h1,if_neg h1]
 | trans h1 _ ih1 ih2=>exact (ih1 hn).trans (ih2 ((h1.map _).nodup_iff.1 hn))
theorem vF (fs:List Fl):(said fs).map (·.1)=cB (fc fs):=by
 unfold said cB fc;rw [List.map_map,List.map_map];rfl
theorem cC.add {h h':H}{lm:Lb}{fs:List Fl}{c:Nat}(F:cC h lm fs c){nm:List Nat}{lf:Lb}{v:V}{b:List Nat}(m:Mod h h' [lm])(g:h'.get lm=some (.map (cg (dh (fc fs) nm (.ptr lf 0) c)) (dQ (fc fs) nm c)))
  (bq:oH fs nm=none) (hc:h.get lf=some (.cells [v] dU 0 .yes)) (hv:Ro h 1 v b.length (ae b)) (hb:Ig b) (dt:∀g,g∈fs->g.aZ≠lf):cC h' lm (fs++[⟨nm,lf,c,v,b⟩]) (dQ (fc fs) nm c):=by
 have adi:cK (fc fs) nm=none:=by rw [zB,bq];rfl
 have eE:fc (fs++[⟨nm,lf,c,v,b⟩])=dh (fc fs) nm (.ptr lf 0) c:=by
  rw [pK adi];simp [fc,flE]
 have dj:∀{l:Lb} {v:V},h.get l=some (.cells [v] dU 0 .yes)->l∉[lm]:=λhg hl=>by
  rw [List.mem_singleton] at hl;rw [hl,F.map] at hg;cases hg
 refine ⟨by rw [eE];exact g,by rw [eE];exact F.ok.set nm _,λq hq=>?_,?_⟩
 ·rcases List.mem_append.1 hq with hq | hq
  ·have fq:=F.file q hq
   exact ⟨m.get fq.cell (dj fq.cell),fq.val.mono m,fq.ok⟩
  ·rw [List.mem_singleton] at hq
   subst hq;exact ⟨m.get hc (dj hc),hv.mono m,hb⟩
 ·rw [List.map_append]
  refine List.nodup_append.2 ⟨F.af,by simp,λa ha b hb e=>?_⟩;simp only [List.map_cons,List.map_nil,List.mem_singleton] at hb;obtain ⟨g,hg,rfl⟩:=List.mem_map.1 ha;exact dt g hg (e.trans hb)
theorem QF {h:H}{lm:Lb}{fs:List Fl}{c:Nat}(hw:Wf h)(F:cC h lm fs c){Q:V->H->Prop}
  (hq:∀h' lo po c',cC h' lo po c'->(said po).Perm (said fs)->h.get lo=none->(∀f,f∈po->h.get f.aZ=none)->Mod h h' []->Wf h'->Q (.map lo) h'):CW pf G0 oT [.map lm] h Q:=by
 have HM:=F.map;have ok:=F.ok;refine Ar.enter (by kernel_rfl) ?_;cbv;refine .of hw λlo h1 IB hfo ar aM=>?_;have HM1:=ar.get HM (by simp);cbv;refine .rangeMap rfl aM HM1 λli h2 IN E9 aq aN=>?_;have auy:h.get li=none:=by
  cases hy:h.get li with
  | none=>rfl
  | some o=>have:=ar.get hy (by simp);rw [E9] at this;cases this
 have ajB:=aq.get IB (by simp);cbv;refine .inv [p3,p8] (λm' aC h'=>∃seen last po c',aC=[.map lo,.ptr li 0]/\m'=(fj fs seen).length/\h'.get li=some (.mapIter (some lm) c seen last)/\c<=last/\cC h' lo po c'/\(said po++said (fj fs seen)).Perm (said fs)/\(∀f,f∈po->h.get f.aZ=none)/\Mod h h' []/\Wf h') [_,_] rfl _
  ⟨[],c,[],0,rfl,rfl,IN,by omega,⟨ajB,.nil _,by simp,by simp⟩,?_,by simp,ar.trans aq,aN⟩ ?_
 ·have:fj fs []=fs:=List.filter_eq_self.2 λ_ _=>rfl
  rw [this];exact .refl _
 rintro m' _ h' ⟨seen,last,po,c',rfl,dY,hl,pY,F',hp,oi,hm,cG⟩;have HM':=hm.get HM (by simp);cbv;refine .of cG hl HM' pY (λe he=>ok.old e he) (λbq=>?_) λk v b gi h3 iY aF aR=>?_
 ·cbv
  refine hq h' lo po c' F' ?_ hfo oi hm cG;rw [vE] at bq;have:fj fs seen=[]:=by simpa [fc] using bq
  simpa [this,said] using hp
 ·have O8:lm≠li:=by rintro rfl;rw [HM'] at hl;cases hl
  have HM3:=aF.get HM' (by simpa using O8);have TL:=gi;rw [vE] at TL;obtain ⟨f,hf,rfl,rfl,rfl⟩:=Yb TL;have Fe:f∈fs:=(List.mem_filter.1 hf).1;have fa:=F.file f Fe;have agq:=aF.get (hm.get fa.cell (by simp)) (by rw [List.mem_singleton];rintro e;rw [<-e,hm.get fa.cell (by simp)] at hl;cases hl);have aoW:=(fa.val.mono hm).mono aF;have gG:=fa.ok;have Lh:(fj fs seen).Perm (f::fj fs (seen++[f.born])):=by
   rw [Ow];refine Ox ?_ hf;have hb:(fs.map (·.born)).Nodup:=by
    have:=ok.DV;unfold fc at this;rw [List.map_map] at this;exact this
   exact hb.sublist ((List.filter_sublist).map _)
  have bA:(fj fs (seen++[f.born])).length<m':=by
   rw [dY,Lh.length_eq];simp
  have akm:=pT gi;have fE:oH po f.name=none:=by
   have hn:((said po++said (fj fs seen)).map (·.1)).Nodup:=((hp.map _).nodup_iff).2 (by rw [vF];exact ok.keys);rw [List.map_append,List.nodup_append] at hn;cases hx:oH po f.name with
   | none=>rfl
   | some q=>
     obtain ⟨q1,q2⟩:=qP hx;exact absurd q2 (hn.2.2 _ (List.mem_map.2 ⟨_,List.mem_map.2 ⟨q,q1,rfl⟩,rfl⟩) _ (List.mem_map.2 ⟨_,List.mem_map.2 ⟨f,hf,rfl⟩,rfl⟩))
  have auz:said [f]=[(f.name,f.bytes)]:=rfl;have F3:=F'.mF aF λl pn=>by rw [List.mem_singleton] at pn;subst pn;exact F'.off hl (λ_ _ e=>by cases e) (λ_ e=>by cases e)
  have fin:∀h6 lf v',cC h6 lo (po++[⟨f.name,lf,c',v',f.bytes⟩]) (dQ (fc po) f.name c')->h.get lf=none->h6.get li=some (.mapIter (some lm) c (seen++[f.born]) c)->Mod h h6 []->Wf h6->
    ∃m2,m2<m'/\∃seen last po c',[V.map lo,.ptr li 0]=[.map lo,.ptr li 0]/\m2=(fj fs seen).length/\h6.get li=some (.mapIter (some lm) c seen last)/\c<=last/\cC h6 lo po c'/\(said po++said (fj fs seen)).Perm (said fs)/\(∀f,f∈po->h.get f.aZ=none)/\Mod h h6 []/\Wf h6:=
   λh6 lf v' g1 g2 g3 g4 g5=>by
    refine ⟨_,bA,seen++[f.born],c,_,_,rfl,rfl,g3,by omega,g1,?_,λq hq=>?_,g4,g5⟩
    ·refine List.Perm.trans ?_ hp
     rw [show said (po++[⟨f.name,lf,c',v',f.bytes⟩])=said po++said [f] by simp [said],List.append_assoc];exact List.Perm.append_left _ (show (said (f::fj fs (seen++[f.born]))).Perm (said (fj fs seen)) from (Lh.map λf:Fl=>(f.name,f.bytes)).symm)
    ·rcases List.mem_append.1 hq with hq | hq
     ·exact oi q hq
     ·rw [List.mem_singleton] at hq;subst hq;exact g2
  have Ya:Mod h h3 []:=hm.fr aF λl pn=>.inl (by rw [List.mem_singleton] at pn;subst pn;exact auy);generalize f.aZ=lf0 at*;generalize f.val=fv at*;generalize f.bytes=fb at*;generalize f.name=nm at*;generalize f.born=bo at*;cbv;refine .entry iY HM3 ok akm ?_;cbv;refine .of agq rfl ?_;cbv;refine qM mJ aR aoW.sl (az _) (by have:=gG.1;omega) (by decide) λv' h4 r4 m4 w4=>?_;cbv;refine .flat r4.flat ?_;cbv;refine .agg ?_;cbv;refine .of w4 λlf h5 OZ Fe aY bH=>?_;have F5:=(F3.mono m4 (by simp) (by simp)).mono aY (by simp) (by simp);have m05:Mod h h5 []:=(Ya.fr m4 (by simp)).fr aY (by simp);have auA:h.get lf=none:=by
   cases hy:h.get lf with
   | none=>rfl
   | some o=>have:=(Ya.fr m4 (by simp)).get hy (by simp);rw [Fe] at this;cases this
  cbv;refine .of bH F5.map λh6 Gu bP cy=>?_;cbv;refine ⟨rfl,fin h6 lf v' (F5.add bP Gu fE OZ (r4.mono aY) gG λg hg e=>?_) auA (bP.get (aY.get (m4.get iY (by simp)) (by simp)) ?_) (m05.fr bP λl pn=>.inl ?_) cy⟩
  ·have:=((F3.mono m4 (by simp) (by simp)).file g hg).cell
   rw [e,Fe] at this;cases this
  ·rw [List.mem_singleton];rintro rfl;rw [F3.map] at iY;cases iY
  ·rw [List.mem_singleton] at pn;subst pn;exact hfo
end K
namespace K
open Go Go.Dx Go.RowKit
set_option maxRecDepth 100000
theorem _root_.Go.Dx.EdN.qb {h:H}{l:Lb}{x:X}{tp:T V}{K:V->H->Prop} {es:List (V×V×Nat)} {c:Nat} (hx:x.Vz tp=some (.map l)) (hw:Wf h) (hl:h.get l=some (.map es c)) (hk:∀h',h'.get l=some (.map [] c)->Mod h h' [l]->Wf h'->K (.tuple []) h'):EdN (.qb x) tp h K:=by
 obtain ⟨a1,a2,a3⟩:=H.eM hw hl rfl (.map [] c);exact ⟨λtm s=>⟨_,_,by simp only [ED.run,sr s hx,gM,hl];rfl,hk _ a1 a2 a3⟩⟩
def Gz:AL->Int
 | []=>0
 | (_,b)::r=>b.length+Gz r
structure vG (m:bF)(al:AL):Prop where
 get:∀k,cK m k=match bL al k with
  | some b=>if b.length=0 then none else some (.int .i64 b.length)
  | none=>none
 sum:jF m=Gz al
theorem TM (a b:bF):jF (a++b)=jF a+jF b:=by
 induction a with
 | nil=>simp [jF]
 | cons e r ih=>
   obtain ⟨k,v,c⟩:=e;cases v<;>simp only [List.cons_append,jF,ih]<;>omega
theorem TN (a b:AL):Gz (a++b)=Gz a+Gz b:=by
 induction a with
 | nil=>simp [Gz]
 | cons e r ih=>
   obtain ⟨k,v⟩:=e;simp only [List.cons_append,Gz,ih];omega
theorem TO (a b:AL)(k:List Nat):bL (a++b) k=match bL a k with
  | some v=>some v
  | none=>bL b k:=by
 induction a with
 | nil=>rfl
 | cons e r ih=>
   obtain ⟨x,v⟩:=e;simp only [List.cons_append,bL];split
   ·rfl
   ·exact ih
theorem aae {a b:AL}(h:a.Perm b):Gz a=Gz b:=by
 induction h with
 | nil=>rfl
 | cons x _ ih=>obtain ⟨y,v⟩:=x;simp only [Gz,ih]
 | swap x y l=>obtain ⟨x,v⟩:=x;obtain ⟨y,w⟩:=y;simp only [Gz];omega
 | trans _ _ ih1 ih2=>exact ih1.trans ih2
theorem vG.free {m:bF}{al:AL}(HI:vG m al){k b:List Nat}(c:Nat)(hk:bL al k=none):vG (jL m c k (some b)) (al++[(k,b)]):=by
 have hm:cK m k=none:=by rw [HI.get,hk]
 have e:jL m c k (some b)=if b.length=0 then m else m++[(k,.int .i64 b.length,c)]:=by
  show (if b.length=0 then fA m k else dh (fA m k) k (.int .i64 b.length) c)=_
  rw [yY hm,pK hm]
 rw [e];refine ⟨λq=>?_,?_⟩
 ·rw [TO]
  have hq:=HI.get q
  by_cases hb:b.length=0
  ·rw [if_pos hb,hq]
   cases hx:bL al q with
   | some v=>rfl
   | none=>
     simp only [bL]
     by_cases hkq:k=q
     ·rw [if_pos hkq];simp [hb]
     ·rw [if_neg hkq]
  ·rw [if_neg hb,<-pK hm,dX]
   by_cases hkq:q=k
   ·subst hkq;rw [if_pos rfl,hk];simp only [bL,if_pos];rw [if_neg hb]
   ·rw [if_neg hkq,hq]
    cases hx:bL al q with
    | some v=>rfl
    | none=>simp only [bL,if_neg (Ne.symm hkq)]
 ·rw [TN]
  by_cases hb:b.length=0
  ·rw [if_pos hb,HI.sum];simp [Gz,hb]
  ·rw [if_neg hb,TM,HI.sum];simp [Gz,jF]
theorem Oy {m:AL}{k:List Nat}(h:k∉m.map (·.1)):bL m k=none:=by
 induction m with
 | nil=>rfl
 | cons q l ih=>
   obtain ⟨y,w⟩:=q;simp only [List.map_cons,List.mem_cons,not_or] at h;simp only [bL,if_neg (Ne.symm h.1)];exact ih h.2
theorem aaf {h:H}{ld:Lb}{d:dR}(hw:Wf h)(D:bJ h ld d){Q:V->H->Prop}
  (hq:∀h' d',bJ h' ld d'->d'.room=d.room->(said d'.seen).Perm (said d.last)->d'.last=d.last->d'.aH=d.aH->vG d'.held (said d.last)->
   (∀l,l∈d'.own ld->l∈d.own ld\/h.get l=none)->Mod h h' (d.own ld)->Wf h'->Q (.tuple []) h'):CW pf G0 tr [.ptr ld 0] h Q:=by
 obtain ⟨room,ls,ll,lh,seen,last,kcs,ZF,X6,pv,aH,ac,held⟩:=d;have D0:=D;obtain ⟨D1,D2,D3,D4,D5,D6,D7,D8,D9,Xo,D11,ZG,V'⟩:=D;dsimp only at D1 D2 D3 D4 D5 D6 D7 D8 D9 Xo D11 ZG V' hq;refine Gl.enter (by kernel_rfl) ?_;cbv;refine .of D1 rfl ?_;cbv;refine .qb rfl hw D7 λh1 xv ar aM=>?_;have off:∀l o,h.get l=some o->(∀es c,o≠.map es c)->l∉[lh]:=λl o hg dj hl=>by
  rw [List.mem_singleton] at hl;subst hl;rw [D7] at hg;exact dj _ _ (Option.some.inj hg).symm
 have E:bJ h1 ld ⟨room,ls,ll,lh,seen,last,kcs,ZF,X6,pv,aH,ac,[]⟩:=by
  have o1:∀l,l∈[lh]->l∉ls::seen.map (·.aZ):=λl hl=>by rw [List.mem_singleton] at hl;subst hl;exact D2.Gt D7 (Ne.symm D11)
  have o2:∀l,l∈[lh]->l∉ll::last.map (·.aZ):=λl hl=>by rw [List.mem_singleton] at hl;subst hl;exact D3.Gt D7 (Ne.symm ZG)
  have o3:∀l,l∈af pv->l∉[lh]:=λl hl=>by obtain ⟨r,hr⟩:=D4.row hl;exact off _ _ hr λ_ _ e=>by cases e
  exact ⟨ar.get D1 (off _ _ D1 λ_ _ e=>by cases e),D2.mF ar o1,D3.mF ar o2,D4.mono ar o3,D5.mono ar,D6,xv,.nil _,by simp,Xo,D11,ZG,V'⟩
 cbv;refine .of E.cell rfl ?_;cbv;refine .rangeMap rfl aM E.last.map λli h2 IN E9 aq aN=>?_;have E2:=E.mono aq (by simp);cbv;refine .inv [p0,p11] (λm' aC h'=>∃rq Rj IV ch2 done,aC=[.ptr ld 0,.ptr li 0]/\m'=(fj last rq).length/\h'.get li=some (.mapIter (some ll) ZF rq Rj)/\ZF<=Rj/\bJ h' ld ⟨room,ls,ll,lh,seen,last,kcs,ZF,ch2,pv,aH,ac,IV⟩/\vG IV done/\(done++said (fj last rq)).Perm (said last)/\Mod h1 h' [lh]/\Wf h') [_,_] rfl _
  ⟨[],ZF,[],X6,[],rfl,rfl,IN,by omega,E2,⟨λk=>rfl,rfl⟩,?_,aq.mono (by simp),aN⟩ ?_
 ·have:fj last []=last:=List.filter_eq_self.2 λ_ _=>rfl
  rw [this];exact .refl _
 rintro m' _ h' ⟨rq,Rj,IV,ch2,done,rfl,dY,hl,pY,E',hh,hp,hm,cG⟩;have HM':=E'.last.map;cbv;refine .of cG hl HM' pY (λe he=>D3.ok.old e he) (λbq=>?_) λk v b gi h3 iY aF aR=>?_
 ·rw [vE] at bq
  have hr:fj last rq=[]:=by simpa [fc] using bq
  have hp:done.Perm (said last):=by simpa [hr,said] using hp
  have Rl:(done.map (·.1)).Nodup:=(hp.map _).nodup_iff.2 (by rw [vF];exact D3.ok.keys);have hh':vG IV (said last):=⟨λk=>by rw [hh.get,Gy hp Rl],hh.sum.trans (aae hp)⟩;cbv;refine .of E'.cell rfl ?_;cbv;refine QF cG E'.last λh4 lo fs4 c4 F4 Oh adh hn4 aD aQ=>?_;have E4:=E'.mono aD (by simp);cbv;refine .one aQ E4.cell rfl rfl rfl rfl λh5 Bg aY bH=>?_;cbv;have TP:∀l,h'.get l=none->h.get l=none:=λl hx=>by
   cases hy:h.get l with
   | none=>rfl
   | some o=>
     by_cases e:l=lh
     ·subst e;rw [E'.held] at hx;cases hx
     ·have:=hm.get (ar.get hy (by simpa using e)) (by simpa using e);rw [hx] at this;cases this
  have auB:lh∉[ld]:=λhl=>by rw [List.mem_singleton] at hl;subst hl;rw [D1] at D7;cases D7
  have p1:∀l,l∈[ld]->l∉lo::fs4.map (·.aZ):=λl hl=>by rw [List.mem_singleton] at hl;subst hl;exact F4.off E4.cell (λ_ _ e=>by cases e) (λ_ e=>by cases e)
  have p2:∀l,l∈[ld]->l∉ll::last.map (·.aZ):=λl hl=>by rw [List.mem_singleton] at hl;subst hl;exact E4.last.off E4.cell (λ_ _ e=>by cases e) (λ_ e=>by cases e)
  have p3:∀l,l∈af pv->l∉[ld]:=λl hl hx=>by
   obtain ⟨r,hr⟩:=E4.B7.row hl;rw [List.mem_singleton] at hx;subst hx;rw [E4.cell] at hr;cases hr
  refine hq h5 ⟨room,lo,ll,lh,fs4,last,c4,ZF,ch2,pv,aH,ac,IV⟩ ⟨Bg,F4.mF aY p1,E4.last.mF aY p2,E4.B7.mono aY p3,E4.aH.mono aY,D6,aY.get E4.held auB,E4.pX,E4.ints,?_,?_,ZG,?_⟩ rfl Oh rfl rfl hh' (λl hl=>?_) (((ar.trans hm).trans (aD.trans aY)).mono λl _ _ hl=>?_) bH
  ·exact λ(e:lo=ll)=>E'.live (l:=ll) (by simp [dR.own]) (e▸adh)
  ·exact λ(e:lo=lh)=>E'.live (l:=lh) (by simp [dR.own]) (e▸adh)
  ·rw [List.map_append,List.nodup_append]
   refine ⟨F4.af,D3.af,λx hx y hy e=>?_⟩;obtain ⟨f,hf,rfl⟩:=List.mem_map.1 hx;obtain ⟨g,hg,rfl⟩:=List.mem_map.1 hy;have:=(E'.last.file g hg).cell;rw [<-e,hn4 f hf] at this;cases this
  ·simp only [dR.own,List.map_append,List.mem_cons,List.mem_append] at hl ⊢
   rcases hl with rfl | rfl | rfl | rfl | hl | hl | hl
   ·simp
   ·exact .inr (TP _ adh)
   ·simp
   ·simp
   ·simp only [hl,or_true,true_or]
   ·obtain ⟨f,hf,rfl⟩:=List.mem_map.1 hl
    exact .inr (TP _ (hn4 f hf))
   ·simp only [hl,or_true,true_or]
  ·simp at hl
   rcases hl with rfl | rfl<;>simp [dR.own]
 ·have TL:=gi
  rw [vE] at TL;obtain ⟨f,hf,rfl,rfl,rfl⟩:=Yb TL;have Fe:f∈last:=(List.mem_filter.1 hf).1;have akm:=pT gi;have E3:=E'.mono aF λl ho hx=>by
   rw [List.mem_singleton] at hx;subst hx;exact E.live (l:=l) ho E9
  have Lh:(fj last rq).Perm (f::fj last (rq++[f.born])):=by
   rw [Ow];refine Ox ?_ hf;have hb:(last.map (·.born)).Nodup:=by
    have:=D3.ok.DV;unfold fc at this;rw [List.map_map] at this;exact this
   exact hb.sublist ((List.filter_sublist).map _)
  have bA:(fj last (rq++[f.born])).length<m':=by
   rw [dY,Lh.length_eq];simp
  have fE:bL done f.name=none:=by
   have hn:((done++said (fj last rq)).map (·.1)).Nodup:=((hp.map _).nodup_iff).2 (by rw [vF];exact D3.ok.keys);rw [List.map_append,List.nodup_append] at hn;exact Oy λhx=>hn.2.2 _ hx _ (List.mem_map.2 ⟨_,List.mem_map.2 ⟨f,hf,rfl⟩,rfl⟩) rfl
  have hsf:bL (said last) f.name=some f.bytes:=tQ (Qv D3.ok.keys Fe);have adI:=hh.free ch2 (b:=f.bytes) fE;have hpn:((done++[(f.name,f.bytes)])++said (fj last (rq++[f.born]))).Perm (said last):=by
   refine List.Perm.trans ?_ hp;rw [List.append_assoc];exact List.Perm.append_left _ (show (said (f::fj last (rq++[f.born]))).Perm (said (fj last rq)) from (Lh.map λf:Fl=>(f.name,f.bytes)).symm)
  have auC:li≠lh:=by rintro rfl;rw [E'.held] at hl;cases hl
  generalize f.aZ=lf0 at*;generalize f.bytes=fb at*;generalize f.name=nm at*;generalize f.born=bo at*;cbv;refine .entry iY E3.last.map D3.ok akm ?_;cbv;refine Ou aR E3 λh4 c4 g1 g2 g3=>?_;dsimp only at g1 g2;rw [hsf] at g1;cbv;refine ⟨rfl,_,bA,rq++[bo],ZF,_,c4,done++[(nm,fb)],rfl,rfl,g2.get iY (by simpa using auC),by omega,g1,adI,hpn,?_,g3⟩;exact (hm.fr aF λl hx=>.inl (by rw [List.mem_singleton] at hx;subst hx;exact E9)).fr g2 λl hx=>.inr hx
theorem Lj {h:H}{ld:Lb}{d:dR}(hw:Wf h)(D:bJ h ld d)(hn:d.aH.length<=1000000000){Q:V->H->Prop}
  (hq:∀h' d',bJ h' ld d'->d'.room=d.room->(said d'.seen).Perm (said d'.last)->said d'.last=runs d.aH (said d.last)->d'.aH=[]->vG d'.held (said d'.last)->
   (∀l,l∈d'.own ld->l∈d.own ld\/h.get l=none)->Mod h h' (d.own ld)->Wf h'->Q (.int .i64 0) h'):CW pf G0 rV [.ptr ld 0] h Q:=by
 refine EC.enter (by kernel_rfl) ?_;cbv;refine Gr D.cell ?_;cbv;refine HB hw D hn (p:=λ_=>true) (λh' a cs K m w c kt kf=>⟨⟨_,_,_,rfl,?_⟩⟩) λh2 d2 a1 a2 a3 a4 a5 a6 a7 a8 a9=>?_
 ·obtain ⟨k0,i0,vb,nm0,rfl,si,KZ⟩:=c.form
  show CW pf G0 oU [.agg [.int .i64 k0,.str nm0,.int .i64 i0,vb]] h' K
  refine As.enter (by kernel_rfl) ?_;cbv;refine .agg ?_;cbv;refine .of w λla h2 fS Bl aq aN=>?_;cbv;exact kt h2 rfl aq aN
 ·cbv;refine aaf a9 a1 λh3 d3 b1 b2 b3 b4 b5 b6 b7 b8 b9=>?_
  cbv;have e1:d.aH.filter (λ_=>true)=d.aH:=List.filter_eq_self.2 λ_ _=>rfl;have e2:d.aH.filter (λ_=>!true)=[]:=List.filter_eq_nil_iff.2 λ_ _=>by simp
  rw [e1] at a4;rw [e2] at a5;refine hq h3 d3 b1 (b2.trans a2) (by rw [b4];exact b3) (by rw [b4];exact a4) (b5.trans a5) (by rw [b4];exact b6) (λl hl=>?_) (a8.fr b8 λl hl=>(a7 l hl).symm) b9;rcases b7 l hl with hx | hx
  ·exact a7 l hx
  ·cases hy:h.get l with
   | none=>exact .inr rfl
   | some o=>
     left
     refine Classical.byContradiction λhz=>?_;have:=a8.get hy hz;rw [hx] at this;cases this
end K
namespace K
open Go Go.Dx Go.RowKit
set_option maxRecDepth 100000
def vH (u:Nat):List Nat:=(Lib.decDigits u).map (·.toNat)
theorem ES (u:Nat):vH u=if u<10 then [48+u] else vH (u / 10)++[48+u % 10]:=by
 unfold vH;rw [Lib.decDigits];split
 ·rename_i h;simp only [List.map_cons,List.map_nil];rw [UInt8.toNat_ofNat'];congr 1;omega
 ·simp only [List.map_append,List.map_cons,List.map_nil];rw [UInt8.toNat_ofNat'];congr 2;omega
def QG (l:List Nat):Nat:=l.foldl (λa d=>10*a+(d - 48)) 0
theorem aag (l:List Nat)(d:Nat):QG (l++[d])=10*QG l+(d - 48):=by simp [QG]
theorem Oz (u:Nat):QG (vH u)=u:=by
 induction u using Nat.strongRecOn with
 | ind u ih=>
   rw [ES];split
   ·simp [QG]
   ·rw [aag,ih (u / 10) (by omega)];omega
theorem Wk (u:Nat):∀c,c∈vH u->48<=c/\c<=57:=by
 induction u using Nat.strongRecOn with
 | ind u ih=>
   rw [ES];split
   ·intro c hc;simp at hc;omega
   ·intro c hc
    rcases List.mem_append.1 hc with hc | hc
    ·exact ih (u / 10) (by omega) c hc
    ·simp at hc;omega
theorem tT:∀(k u:Nat),u<10 ^ (k+1)->(vH u).length<=k+1
 | 0,u,h=>by rw [ES,if_pos (by omega)];simp
 | k+1,u,h=>by
   rw [ES];split
   ·simp
   ·rw [List.length_append]
    have:=tT k (u / 10) (by rw [Nat.pow_succ] at h;omega);simp;omega
theorem Ll (k:Nat)(l:List Nat):QG (List.replicate k 48++l)=QG l:=by
 induction k with
 | zero=>rfl
 | succ k ih=>rw [List.replicate_succ,List.cons_append];unfold QG at *;rw [List.foldl_cons];exact ih
def jw (u:Nat):List Nat:=[115,101,103,46]++(List.replicate (19 - (vH u).length) 48++vH u)
theorem Lm {u v:Nat}(h:jw u=jw v):u=v:=by
 have:=congrArg QG (List.append_cancel_left h);rw [Ll,Ll,Oz,Oz] at this;exact this
theorem zC {u:Nat}(h:u<10 ^ 19):yG (jw u):=by
 have hl:(vH u).length<=19:=tT 18 u h;refine ⟨λc hc=>?_,by simp [jw],by simp [jw];omega⟩;simp only [jw,List.mem_append] at hc;rcases hc with hc | hc | hc
 ·simp at hc;omega
 ·have:=(List.mem_replicate.1 hc).2;omega
 ·have:=Wk u c hc;omega
theorem ET {n:Int}(h:0<=n):dec n=vH n.toNat:=by
 unfold dec Lib.itoa vH;rw [if_neg (by omega)]
theorem j0 {h:H}{n:Int}(h0:0<=n)(h1:n<=9223372036854775807){Q:V->H->Prop} (hq:∀r,r=jw n.toNat->Q (.str r) h):CW pf G0 A5 [.int .i64 n] h Q:=by
 refine MX.enter (by kernel_rfl) ?_;cbv;refine QD (by omega) h1 ?_;have hl:(vH n.toNat).length<=19:=tT 18 _ (by omega);have hd:=ET h0;generalize hs:dec n=s;have mD:s.length<=19:=by rw [<-hs,hd];exact hl
 cbv;refine .of λk Ir Xq=>?_;cbv;refine .sub (by omega) (by omega) λm hm=>?_;cbv;refine Ot (by omega) (by omega) (by simp) λr hr=>?_;have Wj:r=List.replicate (19 - s.length) 48:=by
  rw [hr,show m.toNat=19 - s.length by omega];generalize 19 - s.length=q;induction q with
  | zero=>rfl
  | succ q ih=>rw [List.replicate_succ,List.flatten_cons,ih,List.replicate_succ];rfl
 have agr:r.length<=19:=by rw [Wj];simp
 cbv;refine .cat (by simp only [List.length_cons,List.length_nil];omega) λr2 qN=>?_;have:r2.length<=23:=by rw [qN];simp;omega
 cbv;refine .cat (by omega) λr3 ug=>?_;cbv;refine hq r3 ?_;rw [ug,qN,Wj,<-hs,hd];simp [jw]
end K
namespace K
open Go Go.Dx Go.RowKit
def cQ (m:AL):List (List Nat):=m.map (·.1)
theorem OA (m:AL)(k q:List Nat)(v:List Nat):bL (xf m k v) q=if q=k then some v else bL m q:=by
 induction m with
 | nil=>
   simp only [xf,bL]
   by_cases h:q=k
   ·rw [if_pos h,if_pos h.symm]
   ·rw [if_neg h,if_neg (Ne.symm h)]
 | cons p r ih=>
   obtain ⟨x,w⟩:=p;simp only [xf]
   by_cases h:x=k
   ·subst h
    rw [if_pos rfl];simp only [bL]
    by_cases hq:q=x
    ·rw [if_pos hq,if_pos hq.symm]
    ·rw [if_neg hq,if_neg (Ne.symm hq),if_neg (Ne.symm hq)]
   ·rw [if_neg h]
    simp only [bL,ih]
    by_cases hx:x=q
    ·subst hx;rw [if_pos rfl,if_neg h,if_pos rfl]
    ·rw [if_neg hx,if_neg hx]
theorem aah {m:AL}(hn:(cQ m).Nodup)(k q:List Nat):bL (Ih m k) q=if q=k then none else bL m q:=by
 induction m with
 | nil=>simp only [Ih,bL];split<;>rfl
 | cons p r ih=>
   obtain ⟨x,w⟩:=p;simp only [cQ,List.map_cons,List.nodup_cons] at hn;have ih:=ih hn.2;simp only [Ih]
   by_cases h:x=k
   ·subst h
    rw [if_pos rfl]
    by_cases hq:q=x
    ·rw [if_pos hq,hq];exact Oy hn.1
    ·rw [if_neg hq];simp only [bL,if_neg (Ne.symm hq)]
   ·rw [if_neg h]
    simp only [bL,ih]
    by_cases hx:x=q
    ·subst hx;rw [if_pos rfl,if_neg h,if_pos rfl]
    ·rw [if_neg hx,if_neg hx]
theorem HC {m:AL}(hn:(cQ m).Nodup)(k v:List Nat):(cQ (xf m k v)).Nodup/\∀q,q∈cQ (xf m k v)->q∈cQ m\/q=k:=by
 induction m with
 | nil=>exact ⟨by simp [xf,cQ],λq hq=>.inr (by simpa [xf,cQ] using hq)⟩
 | cons p r ih=>
   obtain ⟨x,w⟩:=p;simp only [cQ,List.map_cons,List.nodup_cons] at hn;obtain ⟨h1,h2⟩:=ih hn.2;simp only [xf]
   by_cases h:x=k
   ·subst h
    rw [if_pos rfl];exact ⟨by simpa [cQ] using hn,λq hq=>.inl hq⟩
   ·rw [if_neg h]
    refine ⟨?_,λq hq=>?_⟩
    ·simp only [cQ,List.map_cons,List.nodup_cons]
     refine ⟨λhx=>?_,h1⟩;rcases h2 x hx with hx | hx
     ·exact hn.1 hx
     ·exact h hx
    ·simp only [cQ,List.map_cons,List.mem_cons] at hq ⊢
     rcases hq with hq | hq
     ·exact .inl (.inl hq)
     ·exact (h2 q hq).imp_left .inr
theorem TQ {m:AL}(hn:(cQ m).Nodup)(k:List Nat):(cQ (Ih m k)).Nodup:=by
 have:(Ih m k).Sublist m:=by
  induction m with
  | nil=>exact .slnil
  | cons p r ih=>
    obtain ⟨x,w⟩:=p;simp only [cQ,List.map_cons,List.nodup_cons] at hn;simp only [Ih];split
    ·exact List.sublist_cons_self _ _
    ·exact (ih hn.2).cons_cons _
 exact hn.sublist (this.map _)
def Act.at (a:Act)(k:List Nat)(o:Option (List Nat)):Option (List Nat):=if k=a.nm then (match a with
 | .wrote _ i b=>some (ff (o.getD []) i b)
 | .cut _ i=>o.map (·.take i)
 | .drop _=>none) else o
theorem Act.GA (a:Act){m:AL}(hn:(cQ m).Nodup):(cQ (a.run m)).Nodup:=by
 cases a with
 | wrote n i b=>exact (HC hn _ _).1
 | cut n i=>
   simp only [Act.run];split
   ·exact (HC hn _ _).1
   ·exact hn
 | drop n=>exact TQ hn n
theorem Act.run_get (a:Act){m:AL}(hn:(cQ m).Nodup)(k:List Nat):bL (a.run m) k=a.at k (bL m k):=by
 cases a with
 | wrote n i b=>
   show bL (xf m n _) k=if k=n then _ else _
   rw [OA]
   by_cases h:k=n
   ·rw [if_pos h,if_pos h,h]
   ·rw [if_neg h,if_neg h]
 | cut n i=>
   show _=if k=n then _ else _
   simp only [Act.run];split
   ·rename_i b hb
    rw [OA]
    by_cases h:k=n
    ·rw [if_pos h,if_pos h,h,hb];rfl
    ·rw [if_neg h,if_neg h]
   ·rename_i hb
    by_cases h:k=n
    ·rw [if_pos h,h,hb];rfl
    ·rw [if_neg h]
 | drop n=>
   show bL (Ih m n) k=if k=n then none else _
   rw [aah hn]
def yJ (l:List Act)(k:List Nat)(o:Option (List Nat)):Option (List Nat):=l.foldl (λo a=>a.at k o) o
theorem qQ:∀(l:List Act) {m:AL},(cQ m).Nodup->(cQ (runs l m)).Nodup
 | [],_m,h=>h
 | a::l,_m,h=>qQ l (a.GA h)
theorem Ln:∀(l:List Act) {m:AL} (k:List Nat),(cQ m).Nodup->bL (runs l m) k=yJ l k (bL m k)
 | [],m,k,h=>rfl
 | a::l,m,k,h=>by
   show bL (runs l (a.run m)) k=_
   rw [Ln l k (a.GA h),a.run_get h];rfl
theorem tU {a:Act}{k:List Nat}(h:k≠a.nm)(o:Option (List Nat)):a.at k o=o:=by unfold Act.at;rw [if_neg h]
theorem Wl (l:List Act)(k n:List Nat)(o:Option (List Nat)):yJ (l.filter λa=>!gX n a) k (yJ (l.filter (gX n)) k o)=yJ l k o:=by
 induction l generalizing o with
 | nil=>rfl
 | cons a l ih=>
   by_cases h:a.nm=n
   ·have h1:gX n a=true:=by simp [gX,h]
    rw [List.filter_cons,if_neg (by simp [h1]),List.filter_cons,if_pos h1];exact ih _
   ·have h1:gX n a=false:=by simp [gX,h]
    rw [List.filter_cons,if_pos (by simp [h1]),List.filter_cons,if_neg (by simp [h1])];show yJ (l.filter _) k (a.at k (yJ (l.filter (gX n)) k o))=yJ l k (a.at k o)
    by_cases hk:k=a.nm
    ·have hz:∀(r:List Act),(∀b,b∈r->b.nm=n)->∀o,yJ r k o=o:=λr=>by
      induction r with
      | nil=>intro _ o;rfl
      | cons b r ihr=>
        intro hb o;show yJ r k (b.at k o)=o
        rw [tU (by rw [hb b (List.mem_cons_self ..),hk];exact h)];exact ihr (λc hc=>hb c (List.mem_cons_of_mem _ hc)) o
     have cf:∀b,b∈l.filter (gX n)->b.nm=n:=λb hb=>by simpa [gX] using (List.mem_filter.1 hb).2
     rw [hz _ cf,<-ih (a.at k o),hz _ cf]
    ·rw [tU hk,tU hk];exact ih o
def Cons (d:dR):Prop:=∀k,bL (said d.seen) k=yJ d.aH k (bL (said d.last) k)
theorem gk {h:H}{lm:Lb}{fs:List Fl}{c:Nat}(F:cC h lm fs c):(cQ (said fs)).Nodup:=by
 unfold cQ;rw [vF];exact F.ok.keys
theorem Cons.flush {h h':H}{ld:Lb}{d d':dR}(D:bJ h ld d)(D':bJ h' ld d')(C:Cons d)(h1:(said d'.seen).Perm (said d'.last))(h2:said d'.last=runs d.aH (said d.last))(h3:d'.aH=[]):Cons d'/\∀k,bL (said d'.seen) k=bL (said d.seen) k:=by
 have e:∀k,bL (said d'.seen) k=bL (said d'.last) k:=λk=>Gy h1 (gk D'.seen) k;exact ⟨λk=>by rw [e,h3];rfl,λk=>by rw [e,h2,Ln _ k (gk D.last),<-C k]⟩
end K
