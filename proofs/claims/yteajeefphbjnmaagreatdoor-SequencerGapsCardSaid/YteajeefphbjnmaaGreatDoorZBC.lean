/-
  The sequencer's laws. Part ZBC of the proof: blotter/msg: may, listed, push, exactly.
-/
import Derived.Test.YteajeefphbjnmaaGreatDoorZBB
import Derived.Test.YteajeefphbjnmaaGreatDoorZAZ
namespace K
open Go Go.Dx Go.RowKit Go.Proofs
set_option maxRecDepth 100000
structure uq (x:jB):Prop where
 client:isName x.client
 id:1<=x.id
 m:ak4 x.kind x.aI x.name x.text
theorem uq.Xt {x:jB}(m:uq x):x.client.length<=24/\x.aI.length<=24/\x.name.length<=24:=by
 refine ⟨m.client.2.2,m.m.aI.2.2,?_⟩;have:=m.m.name;unfold sK at this;split at this
 ·rcases this with e | e
  ·rw [e];simp
  ·exact e.2.2
 ·split at this
  ·exact this.2.2
  ·rw [this];simp
structure L9 (x:jB):Prop where
 client:x.client.length<=9223372036854775807
 aI:x.aI.length<=9223372036854775807
 name:x.name.length<=9223372036854775807
 id:i64 x.id
abbrev ad7 (x:jB):V:=.agg [.str x.client,.int .i64 x.id,.int .i64 x.kind,.str x.aI,.str x.name,.str x.text]
theorem Yl {h:H}{x:jB}(hw:Wf h)(hz:L9 x){Q:V->H->Prop} (bq:∀h',¬uq x->Mod h h' []->Wf h'->Q (.bool false) h') (bw:∀h',uq x->Mod h h' []->Wf h'->Q (.bool true) h'):CW pf G0 Od [ad7 x] h Q:=by
 obtain ⟨client,id,kind,aI,name,text⟩:=x;obtain ⟨z1,z2,z3,z4⟩:=hz;dsimp only at z1 z2 z3 z4;refine Zv.enter (by kernel_rfl) ?_;cbv;refine .agg ?_;cbv;refine .of hw λlb h1 cx gG ar aM=>?_;cbv;refine .of cx rfl ?_;cbv;refine cz aM (by omega) (λh2 hn aq aN=>?_) λh2 hn aq aN=>?_
 all_goals
  have aO:Mod h h2 []:=(ar.trans aq).mono λx o _ hx=>by simp at hx
 ·have cR:=aq.get cx
  cbv;refine .of cR rfl ?_;cbv;refine .ge (λe=>?_) λe=>?_
  ·cbv;refine .of cR rfl ?_
   cbv;refine ad5 aN z2 z3 (λr h3 g hr aF aR=>?_) λh3 g aF aR=>?_
   all_goals
    have aJ:Mod h h3 []:=(aO.trans aF).mono λx o _ hx=>by simp at hx
   ·cbv;refine .FP (by omega) ?_
    cbv;exact bq h3 (λm=>g m.m) aJ aR
   ·cbv;refine .PZ (by omega) ?_
    cbv;exact bw h3 ⟨hn,e,g⟩ aJ aR
  ·cbv;exact bq h2 (λm=>by have:=m.id;dsimp only at this;omega) aO aN
 ·cbv;exact bq h2 (λm=>hn m.client) aO aN
theorem LB {h:H}{v:V}{l:List jB}(hw:Wf h)(hs:Sl h 6 v l.length (cW l))(hz:∀x∈l,L9 x) (hl:l.length<=1000000) {Q:V->H->Prop} (bq:∀h',¬(l.length<=8/\∀x∈l,uq x)->Mod h h' []->Wf h'->Q (.bool false) h') (bw:∀h',l.length<=8->(∀x∈l,uq x)->Mod h h' []->Wf h'->Q (.bool true) h'):CW pf G0 DZ [v] h Q:=by
 refine Qi.enter (by kernel_rfl) ?_;cbv;refine .of hs λn eT hn=>?_;cbv;refine .inv [p0,p5,p6,p7] (λm' aC h'=>∃i:Int,aC=[v,v,.int .i64 n,.int .i64 i]/\0<=i/\i.toNat<=l.length/\m'=l.length - i.toNat/\(∀x∈l.take i.toNat,uq x)/\Mod h h' []/\Wf h') [_,_,_,_] rfl _ ⟨0,rfl,by omega,by simp,rfl,by simp,Mod.refl _ _,hw⟩ ?_;rintro m' _ h1 ⟨i,rfl,jG,hi,dY,cf,ar,aM⟩;cbv;refine .lt (λbA=>?_) λjb=>?_
 ·obtain ⟨x,hx⟩:∃x,l[i.toNat]? =some x:=⟨_,List.getElem?_eq_getElem (by omega)⟩
  have Qr:=List.mem_of_getElem? hx;cbv;refine .of (hs.mono ar) jG rfl (by omega) (ea l _ _ hx) λq off he=>?_;cbv;refine .ka he rfl ?_;cbv;refine .of aM λle h2 ur lA aq aN=>?_;have fe:=ai ar (by simp) lA;cbv;refine .of (cs:=[.str x.client,.int .i64 x.id,.int .i64 x.kind,.str x.aI,.str x.name,.str x.text]) aN ur rfl rfl rfl rfl rfl rfl λh3 CS aF aR=>?_;have aJ:Mod h h3 []:=((ar.trans aq).fr aF λl hl=>by simp at hl;subst hl;exact .inl fe).mono λl o _ hl=>by simp at hl
  cbv;refine .of CS rfl ?_;cbv;refine Yl aR (hz x Qr) (λh4 g aD aQ=>?_) λh4 g aD aQ=>?_
  all_goals
   have ay:Mod h h4 []:=(aJ.trans aD).mono λl o _ hl=>by simp at hl
  ·cbv;exact bq h4 (λq=>g (q.2 x Qr)) ay aQ
  ·cbv;refine .add (by omega) (by omega) λj hj=>?_
   cbv;exact ⟨rfl,l.length - j.toNat,by omega,j,rfl,by omega,by omega,rfl,(λy hy=>by
    rw [show j.toNat=i.toNat+1 by omega,List.take_add_one,hx] at hy;rcases List.mem_append.1 hy with q | q
    ·exact cf y q
    ·simp at q;subst q;exact g),ay,aQ⟩
 ·rw [List.take_of_length_le (by omega)] at cf
  cbv;refine .of (hs.mono ar) λk Ir hk=>?_;cbv;refine .le (λe=>?_) λe=>?_
  ·cbv;exact bw h1 (by omega) cf ar aM
  ·cbv;exact bq h1 (λq=>by have:=q.1;omega) ar aM
end K
namespace K
open Go Go.Dx Go.RowKit Go.Proofs
set_option maxRecDepth 100000
structure iS (c:List Nat)(l:List jB):Prop where
 client:isName c
 some:l≠[]
 iZ:l.length<=8
 each:∀x∈l,x.client=c/\uq x
 next:∀(i:Nat) x y,l[i]? = .some x->l[i+1]? = .some y->y.id - 1=x.id
theorem Ym {x:Int}(h:i64 x)(h1:1<=x):bR .i64 (x - 1)=x - 1:=by
 obtain ⟨a,b⟩:=h;exact pR (by omega) (by omega)
theorem ad8 {h:H}{kind a b c d:Int}{client:List Nat}{lv:V}{l:List jB}(hw:Wf h)(hs:Sl h 6 lv l.length (cW l))(hz:∀x∈l,L9 x) (hl:l.length<=1000000) (sL:client.length<=9223372036854775807) {Q:V->H->Prop}
  (bq:∀h',¬iS client l->Mod h h' []->Wf h'->Q (.bool false) h') (bw:∀h',iS client l->Mod h h' []->Wf h'->Q (.bool true) h'):
  CW pf G0 KD [.agg [.int .i64 kind,.str client,.int .i64 a,.int .i64 b,.int .i64 c,.int .i64 d,lv]] h Q:=by
 have OZ:=hs.flat;refine VR.enter (by kernel_rfl) ?_;cbv;refine .agg ?_;cbv;refine .of hw λlb h1 cx gG ar aM=>?_;cbv;refine .of cx rfl ?_;cbv;refine .of (hs.mono ar) λn eT hn=>?_;cbv;refine .inv [p1,p6,p7,p8] (λm' aC h'=>∃i:Int,aC=[.ptr lb 0,lv,.int .i64 n,.int .i64 i]/\0<=i/\i.toNat<=l.length/\m'=l.length - i.toNat/\(∀x∈l.take i.toNat,x.client=client)/\(∀(k:Nat) x y,k+1<i.toNat->l[k]? =some x->l[k+1]? =some y->bR .i64 (y.id - 1)=x.id)/\h'.get lb=some (.cells [.int .i64 kind,.str client,.int .i64 a,.int .i64 b,.int .i64 c,.int .i64 d,lv] 40 0 .yes)/\Mod h h' []/\Wf h') [_,_,_,_] rfl _ ⟨0,rfl,by omega,by simp,rfl,by simp,λk x y hk=>by simp at hk,cx,ar,aM⟩ ?_;rintro m' _ h2 ⟨i,rfl,jG,hi,dY,cf,Mc,cR,aq,aN⟩;cbv;refine .lt (λbA=>?_) λjb=>?_
 ·obtain ⟨x,hx⟩:∃x,l[i.toNat]? =some x:=⟨_,List.getElem?_eq_getElem (by omega)⟩
  have Qr:=List.mem_of_getElem? hx;cbv;refine .of (hs.mono aq) jG rfl (by omega) (ea l _ _ hx) λq off he=>?_;cbv;refine .ka he rfl ?_;cbv;refine .of aN λle h3 CS lA aF aR=>?_;have fe:=ai aq (by simp) lA;have Ff:lb≠le:=λe=>by subst e;rw [cR] at lA;cases lA
  cbv;refine .of (cs:=[.str x.client,.int .i64 x.id,.int .i64 x.kind,.str x.aI,.str x.name,.str x.text]) aR CS rfl rfl rfl rfl rfl rfl λh4 vL aD aQ=>?_;have dB:=aD.get (aF.get cR) (by simpa using Ff);have ay:Mod h h4 []:=((aq.trans aF).fr aD λl hl=>by simp at hl;subst hl;exact .inl fe).mono λl o _ hl=>by simp at hl
  cbv;refine .of follows 8 ?_;cbv;refine .of vL rfl ?_;cbv;refine .of dB rfl ?_;cbv;refine .UB (λec=>?_) λec=>?_
  ·have Yn:∀y∈l.take (i.toNat+1),y.client=client:=λy hy=>by
    rw [List.take_add_one,hx] at hy;rcases List.mem_append.1 hy with q | q
    ·exact cf y q
    ·simp at q;subst q;exact ec
   cbv;refine .gt (λPw=>?_) λhz0=>?_
   ·obtain ⟨z,hzz⟩:∃z,l[i.toNat - 1]? =some z:=⟨_,List.getElem?_eq_getElem (by omega)⟩
    cbv;refine .of vL rfl ?_;cbv;refine .Ks λy hy=>?_;cbv;refine .of dB rfl ?_;cbv;refine .sub (by omega) (by omega) λj hj=>?_;have hzj:l[j.toNat]? =some z:=by rw [<-hzz];congr 1;omega
    cbv;refine .of (hs.mono ay) (by omega) rfl (by omega) (ea l _ _ hzj) λq2 Fk ur=>?_;cbv;refine .gH ur 1 rfl ?_;cbv;refine .ne (λen=>?_) λen=>?_
    ·have ak9:∀(k:Nat) u w,k+1<i.toNat+1->l[k]? =some u->l[k+1]? =some w->bR .i64 (w.id - 1)=u.id:=λk u w hk hu cG=>by
      by_cases e1:k+1<i.toNat
      ·exact Mc k u w e1 hu cG
      ·have e2:k=i.toNat - 1:=by omega
       subst e2;rw [hzz] at hu;rw [show i.toNat - 1+1=i.toNat by omega,hx] at cG;cases hu;cases cG;rw [<-hy];exact en
     cbv;refine .add (by omega) (by omega) λj2 Ji=>?_;have ad9:j2.toNat=i.toNat+1:=by omega
     cbv;exact ⟨rfl,l.length - j2.toNat,by omega,j2,rfl,by omega,by omega,rfl,by rw [ad9];exact Yn,by rw [ad9];exact ak9,dB,ay,aQ⟩
    ·have bad:¬iS client l:=λp=>by
      have h1:=(p.each x Qr).2.id;have h2:=Ym (hz x Qr).id h1;have h3:=p.next (i.toNat - 1) z x hzz (by rw [show i.toNat - 1+1=i.toNat by omega];exact hx);exact en (by rw [hy,h2];exact h3)
     cbv;exact bq h4 bad ay aQ
   ·have ak9:∀(k:Nat) u w,k+1<i.toNat+1->l[k]? =some u->l[k+1]? =some w->bR .i64 (w.id - 1)=u.id:=λk u w hk=>by omega
    cbv;refine .add (by omega) (by omega) λj2 Ji=>?_;have ad9:j2.toNat=i.toNat+1:=by omega
    cbv;exact ⟨rfl,l.length - j2.toNat,by omega,j2,rfl,by omega,by omega,rfl,by rw [ad9];exact Yn,by rw [ad9];exact ak9,dB,ay,aQ⟩
  ·have bad:¬iS client l:=λp=>ec (p.each x Qr).1
   cbv;exact bq h4 bad ay aQ
 ·rw [List.take_of_length_le (by omega)] at cf
  cbv;refine .of cR rfl ?_;cbv;refine cz aN (by omega) (λh3 Na aF aR=>?_) λh3 Na aF aR=>?_
  all_goals
   have aJ:Mod h h3 []:=(aq.trans aF).mono λl o _ hl=>by simp at hl
   have gB:=aF.get cR
  ·cbv;refine .of gB rfl ?_
   cbv;refine .of (hs.mono aJ) λk Ir hk=>?_;cbv;refine .gt (λe=>?_) λe=>?_
   ·cbv;refine .of gB rfl ?_
    cbv;refine LB aR (hs.mono aJ) hz hl (λh4 g aD aQ=>?_) λh4 g1 g2 aD aQ=>?_
    all_goals
     have ay:Mod h h4 []:=(aJ.trans aD).mono λl o _ hl=>by simp at hl
    ·cbv;exact bq h4 (λp=>g ⟨p.iZ,λx hx=>(p.each x hx).2⟩) ay aQ
    ·have good:iS client l:=⟨Na,λe0=>by rw [e0] at hk;simp at hk;omega,g1,λx hx=>⟨cf x hx,g2 x hx⟩,λk u w hu cG=>by
      have hwm:=List.mem_of_getElem? cG;rw [<-Ym (hz w hwm).id (g2 w hwm).id];exact Mc k u w (by have:=(List.getElem?_eq_some_iff.1 cG).1;omega) hu cG⟩
     cbv;exact bw h4 good ay aQ
   ·cbv;exact bq h3 (λp=>by have:=p.some;exact this (by cases l with | nil=>rfl | cons x r=>simp at hk;omega)) aJ aR
  ·cbv;exact bq h3 (λp=>Na p.client) aJ aR
end K
namespace K
open Go Go.Dx Go.RowKit Go.Proofs
set_option maxRecDepth 100000
def qV (n:Int):Prop:=0<=n/\n<=1099511627776
inductive IP (kind:Int)(client:List Nat)(from_ cookie last top:Int)(l:List jB):Prop
 | push (hk:kind=1) (h:iS client l) (h2:from_=0) (h3:cookie=0) (h4:last=0) (h5:top=0)
 | O4 (hk:kind=2) (h:0<=last) (h1:qV top) (h2:client=[]) (h3:from_=0) (h4:cookie=0) (h5:l=[])
 | pull (hk:kind=3) (h:isName client) (h1:qV cookie) (h2:from_=0) (h3:last=0) (h4:top=0) (h5:l=[])
 | patch (hk:kind=4) (h:qV from_) (h1:qV top) (h2:0<=last) (h3:cookie<=top) (h4:cookie - from_=l.length) (h5:l.length<=8) (h6:∀x∈l,uq x) (h7:client=[])
 | afh (hk:kind=5) (h:qV top) (h1:client=[]) (h2:from_=0) (h3:cookie=0) (h4:last=0) (h5:l=[])
noncomputable def ad':DC:=hZ (hZ (hZ (hZ Ht.code)))
def aea (client:List Nat)(a b c d:Int)(n:Nat):Prop:=client=[]/\a=0/\b=0/\c=0/\d=0/\n=0
theorem aaz {h:H}{le:Lb}{ok:Bool}{kind a b c d:Int}{client:List Nat}{lv:V}{n:Nat}{cs:List V}(hw:Wf h)(hs:Sl h 6 lv n cs)(he:h.get le=some (.cells [.int .i64 kind,.str client,.int .i64 a,.int .i64 b,.int .i64 c,.int .i64 d,lv] 40 0 .yes)){Q:V->H->Prop}
  (bq:∀h',¬(ok=true/\aea client a b c d n)->Mod h h' []->Wf h'->Q (.int .i64 130) h') (bw:∀h',ok=true->aea client a b c d n->Mod h h' []->Wf h'->Q (.int .i64 0) h'):
  Fm pf G0 94 ad' {tmps:=fV [p3,p4] [.ptr le 0,.bool ok],defers:=[]} h (pW pf G0 [.tmp p2] Q) λ_ _ _=>False:=by
 refine .of ?_;cases ok
 ·cbv;exact bq h (λq=>by cases q.1) (Mod.refl _ _) hw
 ·cbv;refine .of he rfl ?_
  cbv;refine ad6 hw hs (λh1 e1 e2 e3 e4 e5 e6 ar aM=>?_) λh1 g ar aM=>?_
  ·cbv;exact bw h1 rfl ⟨e1,e2,e3,e4,e5,e6⟩ ar aM
  ·cbv;exact bq h1 (λq=>g q.2) ar aM
theorem y8 {h:H}{kind from_ cookie last top:Int}{client:List Nat}{lv:V}{l:List jB}(hw:Wf h)(hs:Sl h 6 lv l.length (cW l))(hz:∀x∈l,L9 x) (hl:l.length<=1000000) (sL:client.length<=9223372036854775807) (uj:i64 cookie) {Q:V->H->Prop}
  (bq:∀h',¬IP kind client from_ cookie last top l->Mod h h' []->Wf h'->Q (.int .i64 130) h') (bw:∀h',IP kind client from_ cookie last top l->Mod h h' []->Wf h'->Q (.int .i64 0) h'):
  CW pf G0 Hl [.agg [.int .i64 kind,.str client,.int .i64 from_,.int .i64 cookie,.int .i64 last,.int .i64 top,lv]] h Q:=by
 have OZ:=hs.flat;refine Tl.mj (by kernel_rfl) ?_;refine .seq (.of ?_);cbv;refine .agg ?_;cbv;refine .of hw λlb h1 cx gG ar aM=>?_;cbv;refine .seq (.of ?_);cbv;refine .of cx rfl ?_;cbv;refine .of aM λle h2 ur lA aq aN=>?_;have Ff:lb≠le:=λe=>by subst e;rw [cx] at lA;cases lA
 have fe:=ai ar (by simp) lA;cbv;refine .of (cs:=[.int .i64 kind,.str client,.int .i64 from_,.int .i64 cookie,.int .i64 last,.int .i64 top,lv]) aN ur rfl rfl rfl rfl (by show (true&&(true&&(true&&(true&&(true&&(true&&(bU lv&&true)))))))=true;rw [OZ];rfl) rfl λh3 CS aF aR=>?_;have gB:=aF.get (aq.get cx) (by simpa using Ff);have aJ:Mod h h3 []:=((ar.trans aq).fr aF λl hl=>by simp at hl;subst hl;exact .inl fe).mono λl o _ hl=>by simp at hl
 clear ar aq aF;have go:∀(a:A) (ok:Bool) (h4:H) (cl:List Nat) (e1 e2 e3 e4:Int) (lv2:V) (n:Nat) (cs:List V),([p3,p4].map λp=>a.tmps.get p)=[V.ptr le 0,.bool ok].map some->a.defers=[]->Mod h h4 []->Wf h4->Sl h4 6 lv2 n cs->h4.get le=some (.cells [.int .i64 kind,.str cl,.int .i64 e1,.int .i64 e2,.int .i64 e3,.int .i64 e4,lv2] 40 0 .yes)->(ok=true/\aea cl e1 e2 e3 e4 n<->IP kind client from_ cookie last top l)->Fm pf G0 94 ad' a h4 (pW pf G0 [.tmp p2] Q) λ_ _ _=>False:=λa ok h4 cl e1 e2 e3 e4 lv2 n cs hv hd aD aQ Oh vL apE=>by
  obtain ⟨tm,df⟩:=a;cases hd;exact .weak [p3,p4] hv (aaz aQ Oh vL (λh' g dY cG=>bq h' (λq=>g (apE.2 q)) ((aD.trans dY).mono λx o _ hx=>by simp at hx) cG) λh' g1 g2 dY cG=>bw h' (apE.1 ⟨g1,g2⟩) ((aD.trans dY).mono λx o _ hx=>by simp at hx) cG)
 have fl:∀x,x∈[le]->h.get x=none:=λx hx=>by simp at hx;subst hx;exact fe
 have QS:∀h4,Sl h4 6 (.nilSlice 0) 0 []:=λh4=>(aE.nil (h:=h4) (e:=0) (size:=6)).sl;have l0:l.length=0<->l=[]:=by cases l<;>simp
 cbv;refine .seq (.of ?_);cbv;refine .seq (.of ?_);cbv;refine .of gB rfl ?_;cbv;refine .eq (λk1=>?_) λk1=>?_
 ·subst k1
  cbv;refine .one (vs':=[.int .i64 1,.str [],.int .i64 from_,.int .i64 cookie,.int .i64 last,.int .i64 top,lv]) aR CS rfl rfl rfl rfl λh4 vL aD aQ=>?_;have dB:=aD.get gB (by simpa using Ff);have ay:Mod h h4 []:=aJ.fr aD λx hx=>.inl (fl x hx);cbv;refine .one (vs':=[.int .i64 1,.str [],.int .i64 from_,.int .i64 cookie,.int .i64 last,.int .i64 top,.nilSlice 0]) aQ vL rfl rfl rfl rfl λh5 Jj aY bH=>?_;have pU:=aY.get dB (by simpa using Ff);have aL:Mod h h5 []:=ay.fr aY λx hx=>.inl (fl x hx);cbv;refine .of pU rfl ?_;cbv;refine ad8 bH (hs.mono aL) hz hl sL (λh8 g cO ew=>?_) λh8 g cO ew=>?_
  all_goals
   have dL:Mod h h8 []:=(aL.trans cO).mono λl o _ hl=>by simp at hl
   have Mb:=cO.get Jj
  ·skip
   cbv;exact go _ false h8 [] from_ cookie last top (.nilSlice 0) 0 [] rfl rfl dL ew (QS h8) Mb (⟨λq=>(by cases q.1),λq=>by cases q<;>first | exact absurd (by assumption) g | omega⟩)
  ·skip
   cbv;exact go _ true h8 [] from_ cookie last top (.nilSlice 0) 0 [] rfl rfl dL ew (QS h8) Mb (⟨λq=>.push rfl g q.2.2.1 q.2.2.2.1 q.2.2.2.2.1 q.2.2.2.2.2.1,λq=>by cases q<;>first | exact ⟨rfl,rfl,by assumption,by assumption,by assumption,by assumption,rfl⟩ | omega⟩)
 cbv;refine .eq (λk2=>?_) λk2=>?_
 ·subst k2
  cbv;refine .one (vs':=[.int .i64 2,.str client,.int .i64 from_,.int .i64 cookie,.int .i64 0,.int .i64 top,lv]) aR CS rfl rfl rfl rfl λh4 vL aD aQ=>?_;have dB:=aD.get gB (by simpa using Ff);have ay:Mod h h4 []:=aJ.fr aD λx hx=>.inl (fl x hx);cbv;refine .one (vs':=[.int .i64 2,.str client,.int .i64 from_,.int .i64 cookie,.int .i64 0,.int .i64 0,lv]) aQ vL rfl rfl rfl rfl λh5 Jj aY bH=>?_;have pU:=aY.get dB (by simpa using Ff);have aL:Mod h h5 []:=ay.fr aY λx hx=>.inl (fl x hx);cbv;refine .of pU rfl ?_;cbv;refine .ge (λe1=>?_) λe1=>?_
  ·cbv;refine .of pU rfl ?_
   cbv;refine qU (λw1 w2=>?_) λw=>?_
   ·skip
    cbv;exact go _ true h5 client from_ cookie 0 0 (lv) l.length (cW l) rfl rfl aL bH (hs.mono aL) Jj (⟨λq=>.O4 rfl e1 ⟨w1,w2⟩ q.2.1 q.2.2.1 q.2.2.2.1 (l0.1 q.2.2.2.2.2.2),λq=>by cases q<;>first | exact ⟨rfl,by assumption,by assumption,by assumption,rfl,rfl,l0.2 (by assumption)⟩ | omega⟩)
   ·skip
    cbv;exact go _ false h5 client from_ cookie 0 0 (lv) l.length (cW l) rfl rfl aL bH (hs.mono aL) Jj (⟨λq=>(by cases q.1),λq=>by cases q<;>first | omega | (rename_i h1 _ _ _ _;have:=h1.1;have:=h1.2;omega)⟩)
  ·skip
   cbv;exact go _ false h5 client from_ cookie 0 0 (lv) l.length (cW l) rfl rfl aL bH (hs.mono aL) Jj (⟨λq=>(by cases q.1),λq=>by cases q<;>omega⟩)
 cbv;refine .eq (λk3=>?_) λk3=>?_
 ·subst k3
  cbv;refine .one (vs':=[.int .i64 3,.str [],.int .i64 from_,.int .i64 cookie,.int .i64 last,.int .i64 top,lv]) aR CS rfl rfl rfl rfl λh4 vL aD aQ=>?_;have dB:=aD.get gB (by simpa using Ff);have ay:Mod h h4 []:=aJ.fr aD λx hx=>.inl (fl x hx);cbv;refine .one (vs':=[.int .i64 3,.str [],.int .i64 from_,.int .i64 0,.int .i64 last,.int .i64 top,lv]) aQ vL rfl rfl rfl rfl λh5 Jj aY bH=>?_;have pU:=aY.get dB (by simpa using Ff);have aL:Mod h h5 []:=ay.fr aY λx hx=>.inl (fl x hx);cbv;refine .of pU rfl ?_;cbv;refine cz bH (by omega) (λh8 g cO ew=>?_) λh8 g cO ew=>?_
  all_goals
   have dL:Mod h h8 []:=(aL.trans cO).mono λl o _ hl=>by simp at hl
   have Mb:=cO.get Jj;have II:=cO.get pU
  ·cbv;refine .of II rfl ?_
   cbv;refine qU (λw1 w2=>?_) λw=>?_
   ·skip
    cbv;exact go _ true h8 [] from_ 0 last top (lv) l.length (cW l) rfl rfl dL ew (hs.mono dL) Mb (⟨λq=>.pull rfl g ⟨w1,w2⟩ q.2.2.1 q.2.2.2.2.1 q.2.2.2.2.2.1 (l0.1 q.2.2.2.2.2.2),λq=>by cases q<;>first | exact ⟨rfl,rfl,by assumption,rfl,by assumption,by assumption,l0.2 (by assumption)⟩ | omega⟩)
   ·skip
    cbv;exact go _ false h8 [] from_ 0 last top (lv) l.length (cW l) rfl rfl dL ew (hs.mono dL) Mb (⟨λq=>(by cases q.1),λq=>by cases q<;>first | omega | (rename_i h1 _ _ _ _;have:=h1.1;have:=h1.2;omega)⟩)
  ·skip
   cbv;exact go _ false h8 [] from_ 0 last top (lv) l.length (cW l) rfl rfl dL ew (hs.mono dL) Mb (⟨λq=>(by cases q.1),λq=>by cases q<;>first | omega | exact absurd (by assumption) g⟩)
 cbv;refine .eq (λk4=>?_) λk4=>?_
 ·subst k4
  cbv;refine .one (vs':=[.int .i64 4,.str client,.int .i64 0,.int .i64 cookie,.int .i64 last,.int .i64 top,lv]) aR CS rfl rfl rfl rfl λh4 vL aD aQ=>?_;have dB:=aD.get gB (by simpa using Ff);have ay:Mod h h4 []:=aJ.fr aD λx hx=>.inl (fl x hx);cbv;refine .one (vs':=[.int .i64 4,.str client,.int .i64 0,.int .i64 0,.int .i64 last,.int .i64 top,lv]) aQ vL rfl rfl rfl rfl λh5 Jj aY bH=>?_;have pU:=aY.get dB (by simpa using Ff);have aL:Mod h h5 []:=ay.fr aY λx hx=>.inl (fl x hx);cbv;refine .one (vs':=[.int .i64 4,.str client,.int .i64 0,.int .i64 0,.int .i64 0,.int .i64 top,lv]) bH Jj rfl rfl rfl rfl λh6 xq bP cy=>?_;have Rs:=bP.get pU (by simpa using Ff);have bT:Mod h h6 []:=aL.fr bP λx hx=>.inl (fl x hx);cbv;refine .one (vs':=[.int .i64 4,.str client,.int .i64 0,.int .i64 0,.int .i64 0,.int .i64 0,lv]) cy xq rfl rfl rfl rfl λh7 Bp cH eu=>?_;have Ij:=cH.get Rs (by simpa using Ff);have cM:Mod h h7 []:=bT.fr cH λx hx=>.inl (fl x hx);cbv;refine .one (vs':=[.int .i64 4,.str client,.int .i64 0,.int .i64 0,.int .i64 0,.int .i64 0,.nilSlice 0]) eu Bp rfl rfl rfl rfl λh8 Mb cO ew=>?_;have II:=cO.get Ij (by simpa using Ff);have dL:Mod h h8 []:=cM.fr cO λx hx=>.inl (fl x hx);have bad:∀(g:Prop),(qV from_->qV top->0<=last->cookie<=top->cookie - from_=l.length->l.length<=8->(∀x∈l,uq x)->False)->¬IP 4 client from_ cookie last top l:=λ_ f q=>by
   cases q<;>first | omega | exact f (by assumption) (by assumption) (by assumption) (by assumption) (by assumption) (by assumption) (by assumption)
  cbv;refine .of II rfl ?_;cbv;refine qU (λw1 w2=>?_) λw=>?_;rotate_left
  ·skip
   cbv;exact go _ false h8 client 0 0 0 0 (.nilSlice 0) 0 [] rfl rfl dL ew (QS h8) Mb (⟨λq=>(by cases q.1),λq=>(bad True (λa1 a2 a3 a4 a5 a6 a7=>by have:=a1.1;have:=a1.2;omega) q).elim⟩)
  cbv;refine .of II rfl ?_;cbv;refine qU (λw3 w4=>?_) λw=>?_;rotate_left
  ·skip
   cbv;exact go _ false h8 client 0 0 0 0 (.nilSlice 0) 0 [] rfl rfl dL ew (QS h8) Mb (⟨λq=>(by cases q.1),λq=>(bad True (λa1 a2 a3 a4 a5 a6 a7=>by have:=a2.1;have:=a2.2;omega) q).elim⟩)
  cbv;refine .of II rfl ?_;cbv;refine .ge (λe1=>?_) λe1=>?_;rotate_left
  ·skip
   cbv;exact go _ false h8 client 0 0 0 0 (.nilSlice 0) 0 [] rfl rfl dL ew (QS h8) Mb (⟨λq=>(by cases q.1),λq=>(bad True (λa1 a2 a3 a4 a5 a6 a7=>by omega) q).elim⟩)
  cbv;refine .of II rfl ?_;cbv;refine .of II rfl ?_;cbv;refine .le (λe2=>?_) λe2=>?_;rotate_left
  ·skip
   cbv;exact go _ false h8 client 0 0 0 0 (.nilSlice 0) 0 [] rfl rfl dL ew (QS h8) Mb (⟨λq=>(by cases q.1),λq=>(bad True (λa1 a2 a3 a4 a5 a6 a7=>by omega) q).elim⟩)
  cbv;refine .of II rfl ?_;cbv;refine .of II rfl ?_;cbv;refine .Ks λy hy=>?_;cbv;refine .of II rfl ?_;cbv;refine .of (hs.mono dL) λu hu0 hu=>?_;have hwr:y=u->cookie - from_=l.length:=λe=>by
   rw [lD] at hy;have:=uj.1;have:=uj.2;omega
  have av4:cookie - from_=l.length->y=u:=λe=>by
   rw [lD] at hy;omega
  cbv;refine .eq (λe3=>?_) λe3=>?_;rotate_left
  ·skip
   cbv;exact go _ false h8 client 0 0 0 0 (.nilSlice 0) 0 [] rfl rfl dL ew (QS h8) Mb (⟨λq=>(by cases q.1),λq=>(bad True (λa1 a2 a3 a4 a5 a6 a7=>e3 (av4 a5)) q).elim⟩)
  cbv;refine .of II rfl ?_;cbv;refine LB ew (hs.mono dL) hz hl (λUP g Lc Ni=>?_) λUP g1 g2 Lc Ni=>?_
  all_goals
   have HA:Mod h UP []:=(dL.trans Lc).mono λl o _ hl=>by simp at hl
   have adX:=Lc.get Mb
  ·skip
   cbv;exact go _ false UP client 0 0 0 0 (.nilSlice 0) 0 [] rfl rfl HA Ni (QS UP) adX (⟨λq=>(by cases q.1),λq=>(bad True (λa1 a2 a3 a4 a5 a6 a7=>g ⟨a6,a7⟩) q).elim⟩)
  ·skip
   cbv;exact go _ true UP client 0 0 0 0 (.nilSlice 0) 0 [] rfl rfl HA Ni (QS UP) adX (⟨λq=>.patch rfl ⟨w1,w2⟩ ⟨w3,w4⟩ e1 e2 (hwr e3) g1 g2 q.2.1,λq=>by cases q<;>first | exact ⟨rfl,by assumption,rfl,rfl,rfl,rfl,rfl⟩ | omega⟩)
 cbv;refine .eq (λk5=>?_) λk5=>?_
 ·subst k5
  cbv;refine .one (vs':=[.int .i64 5,.str client,.int .i64 from_,.int .i64 cookie,.int .i64 last,.int .i64 0,lv]) aR CS rfl rfl rfl rfl λh4 vL aD aQ=>?_;have dB:=aD.get gB (by simpa using Ff);have ay:Mod h h4 []:=aJ.fr aD λx hx=>.inl (fl x hx);cbv;refine .of dB rfl ?_;cbv;refine qU (λw1 w2=>?_) λw=>?_
  ·skip
   cbv;exact go _ true h4 client from_ cookie last 0 (lv) l.length (cW l) rfl rfl ay aQ (hs.mono ay) vL (⟨λq=>.afh rfl ⟨w1,w2⟩ q.2.1 q.2.2.1 q.2.2.2.1 q.2.2.2.2.1 (l0.1 q.2.2.2.2.2.2),λq=>by cases q<;>first | exact ⟨rfl,by assumption,by assumption,by assumption,by assumption,rfl,l0.2 (by assumption)⟩ | omega⟩)
  ·skip
   cbv;exact go _ false h4 client from_ cookie last 0 (lv) l.length (cW l) rfl rfl ay aQ (hs.mono ay) vL (⟨λq=>(by cases q.1),λq=>by cases q<;>first | omega | (rename_i h1 _ _ _ _ _;have:=h1.1;have:=h1.2;omega)⟩)
 ·skip
  cbv;exact go _ false h3 client from_ cookie last top (lv) l.length (cW l) rfl rfl aJ aR (hs.mono aJ) CS (⟨λq=>(by cases q.1),λq=>by cases q<;>omega⟩)
end K
namespace K
open Go Go.Dx Go.RowKit Go.Proofs
set_option maxRecDepth 100000
theorem LC {h:H}{n:Int}(hw:Wf h){Q:V->H->Prop} (hq:∀h',Mod h h' []->Wf h'->Q (.agg [.int .i64 2,.int .i64 n,.str [],.nilSlice 0,.nilSlice 0]) h'):CW pf G0 Eg [.int .i64 n] h Q:=by
 refine Qo.enter (by kernel_rfl) ?_;cbv;refine .of hw λlb h1 cx gG ar aM=>?_;cbv;refine .flat rfl ?_;cbv;refine .flat rfl ?_;cbv;refine .of (cs:=[.int .i64 2,.int .i64 n,.str [],.nilSlice 0,.nilSlice 0]) aM cx rfl rfl rfl rfl rfl rfl λh2 cR aq aN=>?_;cbv;refine .of cR rfl ?_;cbv;exact hq h2 (ar.fr aq λl hl=>by simp at hl;subst hl;exact .inl gG) aN
theorem EW {h:H}{s:List Nat}(hw:Wf h){Q:V->H->Prop} (hq:∀h',Mod h h' []->Wf h'->Q (.agg [.int .i64 3,.int .i64 0,.str s,.nilSlice 0,.nilSlice 0]) h'):CW pf G0 KG [.str s] h Q:=by
 refine VU.enter (by kernel_rfl) ?_;cbv;refine .of hw λlb h1 cx gG ar aM=>?_;cbv;refine .flat rfl ?_;cbv;refine .flat rfl ?_;cbv;refine .of (cs:=[.int .i64 3,.int .i64 0,.str s,.nilSlice 0,.nilSlice 0]) aM cx rfl rfl rfl rfl rfl rfl λh2 cR aq aN=>?_;cbv;refine .of cR rfl ?_;cbv;exact hq h2 (ar.fr aq λl hl=>by simp at hl;subst hl;exact .inl gG) aN
inductive GI (h:H):List (List Nat×Js)->List V->Prop
 | nil:GI h [] []
 | cons {n:List Nat} {t:Js} {r:List (List Nat×Js)} {a b:List V} (ha:nS h t a) (hb:GI h r b):GI h ((n,t)::r) (.str n::a++b)
theorem GI.mono {h h':H}{F:List Lb}(m:Mod h h' F):∀{l:List (List Nat×Js)} {ds:List V},GI h l ds->GI h' l ds
 | _,_,.nil=>.nil
 | _,_,.cons ha hb=>.cons (ha.mono m) (GI.mono m hb)
theorem GI.get {h:H}:∀{l:List (List Nat×Js)} {ds:List V},GI h l ds->∀{i:Nat} {p:List Nat×Js},l[i]? =some p->∃cs,nS h p.2 cs/\rowFrom ds (i*6) 6=some (.str p.1::cs)
 | _,_,.nil,i,p,e=>by simp at e
 | _,_,.cons (n:=n) (t:=t) ha hb,0,p,e=>by
   simp at e;subst e;obtain ⟨a1,a2,a3,a4,a5,rfl⟩:=ha.five;exact ⟨_,ha,rfl⟩
 | _,_,.cons ha hb,i+1,p,e=>by
   obtain ⟨cs,h1,h2⟩:=GI.get hb (i:=i) (p:=p) (by simpa using e);obtain ⟨a1,a2,a3,a4,a5,rfl⟩:=ha.five;refine ⟨cs,h1,?_⟩;rw [show (i+1)*6=i*6+1+1+1+1+1+1 by omega];exact h2
theorem LD {h:H}{v:V}{ps:List (List Nat×Js)}{rows:List V}(hw:Wf h)(hs:Sl h 6 v ps.length rows)(hp:GI h ps rows)(hl:ps.length<=12)(hb:∀p∈ps,bt p.1) {Q:V->H->Prop} (hq:∀cs h',nS h' (.mk 5 0 [] (ps.map (·.1)) (ps.map (·.2))) cs->Mod h h' []->Wf h'->Q (.agg cs) h'):CW pf G0 Ef [v] h Q:=by
 refine CW.pQ ?_;refine Qn.enter (by kernel_rfl) ?_;cbv;refine .of hw λlr h1 TE dt ar aM=>?_;cbv;refine .flat rfl ?_;cbv;refine .of aM λlb h2 cR gG aq aN=>?_;have hbr:lr≠lb:=λe=>by subst e;rw [TE] at gG;cases gG
 have fb0:=ai ar (by simp) gG;cbv;refine .of (cs:=[.int .i64 5,.int .i64 0,.str [],.nilSlice 0,.nilSlice 0]) aN cR rfl rfl rfl rfl rfl rfl λh3 gB aF aR=>?_;have ug:=aF.get (aq.get TE) (by simpa using hbr);have aJ:Mod h h3 []:=((ar.trans aq).fr aF λl hl=>by simp at hl;subst hl;exact .inl fb0).mono λl o _ hl=>by simp at hl
 cbv;refine .of (hs.mono aJ) λn eT hn=>?_;cbv;refine .inv [p2,p3,p7,p8,p9] (λm' aC h'=>∃(x:Int) (nv iv:V) (ro:List V),aC=[.ptr lr 0,.ptr lb 0,v,.int .i64 n,.int .i64 x]/\0<=x/\x.toNat<=ps.length/\m'=ps.length - x.toNat/\aE h' 9 1 nv ((ps.take x.toNat).map (·.1)).length (strs ((ps.take x.toNat).map (·.1)))/\aE h' bK 5 iv ((ps.take x.toNat).map (·.2)).length ro/\oF h' ((ps.take x.toNat).map (·.2)) ro/\Fr h nv/\Fr h iv/\lb∉af nv/\lb∉af iv/\lr∉af nv/\lr∉af iv/\(∀z,z∈af nv->z∉af iv)/\
   h'.get lr=some (.cells [.int .i64 0,.int .i64 0,.str [],.nilSlice 0,.nilSlice 0] bK 0 .yes)/\h'.get lb=some (.cells [.int .i64 5,.int .i64 0,.str [],nv,iv] bK 0 .yes)/\Mod h h' []/\Wf h') [_,_,_,_,_] rfl _
  ⟨0,.nilSlice 0,.nilSlice 0,[],rfl,by omega,by simp,rfl,.nil,.nil,.nil,Fr.EO _ _,Fr.EO _ _,by simp [af],by simp [af],by simp [af],by simp [af],by simp [af],ug,gB,aJ,aR⟩ ?_
 rintro m' _ h4 ⟨x,nv,iv,ro,rfl,lN,hx,dY,jv,X8,Wc,qW,E9,nbn,nbi,nrn,nri,ZN,xe,dB,ay,aQ⟩;cbv;refine .lt (λbA=>?_) λjb=>?_
 ·obtain ⟨p,hpe⟩:∃p,ps[x.toNat]? =some p:=⟨_,List.getElem?_eq_getElem (by omega)⟩
  obtain ⟨cs,hjp,bG⟩:=(hp.mono ay).get hpe;have gC:=hjp.bd;obtain ⟨a1,a2,a3,a4,a5,rfl⟩:=hjp.five;cbv;refine .of (hs.mono ay) lN rfl (by omega) bG λq off heq=>?_;cbv;refine .ka heq rfl ?_;cbv;refine .of aQ λle h5 Jj lA aY bH=>?_;have fe:=ai ay (by simp) lA;have Ff:lb≠le:=λe=>by subst e;rw [dB] at lA;cases lA
  have hre:lr≠le:=λe=>by subst e;rw [xe] at lA;cases lA
  have dj:le∉af nv:=λpn=>by obtain ⟨c,e⟩:=jv.row pn;rw [lA] at e;cases e
  have hie:le∉af iv:=λpn=>by obtain ⟨c,e⟩:=X8.row pn;rw [lA] at e;cases e
  cbv;refine .of (cs:=[.str p.1,a1,a2,a3,a4,a5]) bH Jj rfl rfl rfl rfl gC rfl λh6 xq bP cy=>?_;have Rs:=bP.get (aY.get dB) (by simpa using Ff);have vP:=bP.get (aY.get xe) (by simpa using hre);have pZ:=(jv.mono aY).mono bP (fk dj);have hi6:=(X8.mono aY).mono bP (fk hie);have bT:Mod h h6 []:=((ay.trans aY).fr bP λl hl=>by simp at hl;subst hl;exact .inl fe).mono λl o _ hl=>by simp at hl
  have hj6:=(Wc.mono aY).mono bP;have awa:=(hjp.mono aY).mono bP;have Cc:(ps.take x.toNat).length<=12:=by rw [List.length_take];omega
  have vS:ps.take (x.toNat+1)=ps.take x.toNat++[p]:=by rw [List.take_add_one,hpe];rfl
  cbv;refine .of Rs rfl ?_;cbv;refine .of xq rfl ?_;cbv;refine .flat rfl ?_;cbv;refine .of cy λl7 h7 xj hf7 cH eu=>?_;cbv;refine .own eu (pZ.mono cH) (m:=1) (new:=[.str p.1]) (by simp only [de,xj];rfl) rfl rfl (by unfold bz;simp;omega) (by decide) λnv8 h8 sd O0 cO ew=>?_;have hi7:=hi6.mono cH;have cM:Mod h h7 []:=(bT.trans cH).mono λl o _ hl=>by simp at hl
  have dL:Mod h h8 []:=cM.fr cO λl hl=>.inl (qW l hl);have Ij:=cH.get Rs;have Nz:=cH.get vP;have Bp:=cH.get xq;have awb:Fr h nv8:=O0.fr cM (by simp) qW;have ail:∀z,z∈af nv8->z∉af iv:=λz hz hzi=>by
   rcases O0 z hz with e | e
   ·obtain ⟨c,e2⟩:=hi7.row hzi;rw [e] at e2;cases e2
   ·exact ZN z e hzi
  have ala:=O0.dG Ij nbn;have awc:=O0.dG Nz nrn;have awd:=cO.get Bp dj;have II:=cO.get Ij nbn;have hr8:=cO.get Nz nrn;have hi8:=hi7.mono cO (λz hz pV=>ZN z pV hz);have aDS:=O0.dG Bp dj;cbv;refine .one (vs':=[.int .i64 5,.int .i64 0,.str [],nv8,iv]) ew II sd.sl.flat rfl rfl rfl λh9 hb9 eU pd=>?_;have hr9:=eU.get hr8 (by simpa using hbr);have he9:=eU.get awd (by simpa using Ne.symm Ff);have Jl:=sd.mono eU (fk ala);have hi9:=hi8.mono eU (fk nbi);have pJ:Mod h h9 []:=dL.fr eU λl hl=>by simp at hl;subst hl;exact .inl fb0
  cbv;refine .of hb9 rfl ?_;cbv;refine .of he9 rfl ?_;cbv;refine .agg ?_;cbv;refine .of pd λl10 vM AH aoR gZ sU=>?_;cbv;refine .own sU (hi9.mono gZ) (m:=1) (new:=[a1,a2,a3,a4,a5]) (by simp only [de,AH];rfl) rfl gC (by unfold bz;simp;omega) (by decide) λaeb UN apG agQ pg De=>?_;have l5:Mod h vM []:=(pJ.trans gZ).mono λl o _ hl=>by simp at hl
  have Ol:Mod h UN []:=l5.fr pg λl hl=>.inl (E9 l hl);have apH:=gZ.get hb9;have agh:=gZ.get hr9;have yI:=Jl.mono gZ;have apI:Fr h aeb:=agQ.fr l5 (by simp) E9;have alb:∀z,z∈af nv8->z∉af aeb:=λz hz hzi=>by
   rcases agQ z hzi with e | e
   ·obtain ⟨c,e2⟩:=yI.row hz;rw [e] at e2;cases e2
   ·exact ail z hz e
  have aim:=agQ.dG apH nbi;have apJ:=agQ.dG agh nri;have awe:=pg.get apH nbi;have Wa:=pg.get agh nri;have Bq:=yI.mono pg (λz hz pV=>ail z hz pV);cbv;refine .one (vs':=[.int .i64 5,.int .i64 0,.str [],nv8,aeb]) De awe apG.sl.flat rfl rfl rfl λIp awf kd O1=>?_;have aj1:=kd.get Wa (by simpa using hbr);have abO:=Bq.mono kd (fk ala);have awg:=apG.mono kd (fk aim);have Om:Mod h Ip []:=Ol.fr kd λl hl=>by simp at hl;subst hl;exact .inl fb0
  have awh:=(((((hj6.mono cH).mono cO).mono eU).mono gZ).mono pg).mono kd;have apK:=(((((awa.mono cH).mono cO).mono eU).mono gZ).mono pg).mono kd;have hjs:=awh.snoc apK;cbv;refine .add (by omega) (by omega) λx2 lH=>?_;have ur:x2.toNat=x.toNat+1:=by omega
  have F1:aE Ip 9 1 nv8 ((ps.take x2.toNat).map (·.1)).length (strs ((ps.take x2.toNat).map (·.1))):=by
   rw [ur,vS,List.map_append,List.length_append,jZ];exact abO
  have F2:aE Ip bK 5 aeb ((ps.take x2.toNat).map (·.2)).length (ro++[a1,a2,a3,a4,a5]):=by
   rw [ur,vS,List.map_append,List.length_append];exact awg
  have F3:oF Ip ((ps.take x2.toNat).map (·.2)) (ro++[a1,a2,a3,a4,a5]):=by
   rw [ur,vS,List.map_append];exact hjs
  cbv;exact ⟨rfl,ps.length - x2.toNat,by omega,x2,nv8,aeb,ro++[a1,a2,a3,a4,a5],rfl,by omega,by omega,rfl,F1,F2,F3,awb,apI,ala,aim,awc,apJ,alb,aj1,awf,Om,O1⟩
 ·rw [List.take_of_length_le (by omega)] at jv X8 Wc
  cbv;refine .of dB rfl ?_;have fr0:h.get lr=none:=dt;cbv;refine .of (cs:=[.int .i64 5,.int .i64 0,.str [],nv,iv]) aQ xe rfl rfl rfl rfl (by show (true&&(true&&(true&&(bU nv&&(bU iv&&true)))))=true;rw [jv.sl.flat,X8.sl.flat];rfl) rfl λh5 Iu aY bH=>?_;have aL:Mod h h5 []:=ay.fr aY λl hl=>by simp at hl;subst hl;exact .inl fr0
  cbv;refine .of Iu rfl ?_;obtain ⟨h6,l6,rn6,m6,w6⟩:=(jv.mono aY (fk nrn)).freeze bH;have hi6:=(X8.mono aY (fk nri)).mono m6 (λz hz pV=>ZN z pV hz);obtain ⟨h7,l7,ri7,m7,w7⟩:=hi6.freeze w6;have bT:Mod h h6 []:=aL.fr m6 λl hl=>.inl (qW l hl);have cM:Mod h h7 []:=bT.fr m7 λl hl=>.inl (E9 l hl);cbv;exact ⟨h7,l6.trans l7,hq _ h7 (.mk ⟨by simp,by simp⟩ (λs lJ=>by
   obtain ⟨p,hpm,rfl⟩:=List.mem_map.1 lJ;exact hb p hpm) (by simp;omega) (by simp;omega) (λ_=>by simp) (rn6.mono m7) ri7 (((Wc.mono aY).mono m6).mono m7)) cM w7⟩
end K
namespace K
open Go Go.Dx Go.RowKit Go.Proofs
set_option maxRecDepth 100000
def aaA (n:Int):Js:=.mk 2 n [] [] []
theorem nS.int (h:H)(n:Int):nS h (aaA n) [.int .i64 2,.int .i64 n,.str [],.nilSlice 0,.nilSlice 0]:=.zero h 2 n ⟨by simp,by simp⟩
theorem nS.text {s:List Nat}(h:H)(hs:bt s):nS h (Wr s) [.int .i64 3,.int .i64 0,.str s,.nilSlice 0,.nilSlice 0]:=.zero h 3 0 hs
def agR (kind:Int)(aI name text:List Nat):Js:=.mk 5 0 [] [[107,105,110,100],[105,115,115,117,101],[110,97,109,101],[116,101,120,116]] [aaA kind,Wr aI,Wr name,Wr text]
theorem QT {h:H}{kind:Int}{aI name text:List Nat}(hw:Wf h)(bi:bt aI)(bn:bt name)(bx:bt text){Q:V->H->Prop} (hq:∀cs h',nS h' (agR kind aI name text) cs->Mod h h' []->Wf h'->Q (.agg cs) h'):CW pf G0 ya [Mu kind aI name text] h Q:=by
 refine KR.enter (by kernel_rfl) ?_;cbv;refine .agg ?_;cbv;refine .of hw λlb h1 cx gG ar aM=>?_;cbv;refine .of aM λlr h2 qN dt aq aN=>?_;have cR:=aq.get cx;have aO:Mod h h2 []:=(ar.trans aq).mono λl o _ hl=>by simp at hl
 have fr0:=ai ar (by simp) dt;cbv;refine .of follows 12 ?_;cbv;refine .of cR rfl ?_;cbv;refine .of cR rfl ?_;cbv;refine .of cR rfl ?_;cbv;refine .of cR rfl ?_;cbv;refine LC aN λh3 aF aR=>?_;have gB:=aF.get cR;cbv;refine .load gB rfl ?_;cbv;refine .load gB rfl ?_;cbv;refine .load gB rfl ?_;cbv;refine .nil ?_;cbv;refine .flat rfl ?_;cbv;refine .agg ?_;cbv;refine EW aR λh4 aD aQ=>?_;have dB:=aD.get gB;cbv;refine .load dB rfl ?_;cbv;refine .load dB rfl ?_;cbv;refine .nil ?_;cbv;refine .flat rfl ?_;cbv;refine .agg ?_;cbv;refine EW aQ λh5 aY bH=>?_;have pU:=aY.get dB;cbv;refine .load pU rfl ?_;cbv;refine .nil ?_;cbv;refine .flat rfl ?_;cbv;refine .agg ?_;cbv;refine EW bH λh6 bP cy=>?_;cbv;refine .nil ?_;cbv;refine .flat rfl ?_;cbv;refine .agg ?_;cbv;refine .agg ?_;cbv;refine .agg ?_;cbv;refine .agg ?_;cbv;refine .agg ?_;cbv;refine .of cy λl7 h7 xj hf7 cH eu=>?_;have sl:Sl h7 6 (.slice l7 0 4 (.exact 4)) 4 [.str [107,105,110,100],.int .i64 2,.int .i64 kind,.str [],.nilSlice 0,.nilSlice 0,.str [105,115,115,117,101],.int .i64 3,.int .i64 0,.str aI,.nilSlice 0,.nilSlice 0,.str [110,97,109,101],.int .i64 3,.int .i64 0,.str name,.nilSlice 0,.nilSlice 0,.str [116,101,120,116],.int .i64 3,.int .i64 0,.str text,.nilSlice 0,.nilSlice 0]:=(aE.exact (e:=235) xj rfl).sl;have ps:GI h7 [([107,105,110,100],aaA kind),([105,115,115,117,101],Wr aI),([110,97,109,101],Wr name),([116,101,120,116],Wr text)] [.str [107,105,110,100],.int .i64 2,.int .i64 kind,.str [],.nilSlice 0,.nilSlice 0,.str [105,115,115,117,101],.int .i64 3,.int .i64 0,.str aI,.nilSlice 0,.nilSlice 0,.str [110,97,109,101],.int .i64 3,.int .i64 0,.str name,.nilSlice 0,.nilSlice 0,.str [116,101,120,116],.int .i64 3,.int .i64 0,.str text,.nilSlice 0,.nilSlice 0]:=
  .cons (nS.int h7 kind) (.cons (nS.text h7 bi) (.cons (nS.text h7 bn) (.cons (nS.text h7 bx) .nil)))
 have cM:Mod h h7 []:=(((((aO.trans aF).trans aD).trans aY).trans bP).trans cH).mono λl o _ hl=>by simp at hl
 have Nz:=cH.get (bP.get (aY.get (aD.get (aF.get qN))));cbv;refine .nil ?_;cbv;refine LD eu sl ps (by simp) (by simp;exact ⟨⟨by decide,by decide⟩,⟨by decide,by decide⟩,⟨by decide,by decide⟩,⟨by decide,by decide⟩⟩) λcs h8 ZO cO ew=>?_;have gC:=ZO.bd;have dL:Mod h h8 []:=(cM.trans cO).mono λl o _ hl=>by simp at hl
 obtain ⟨a1,a2,a3,a4,a5,rfl⟩:=ZO.five;cbv;refine .nil ?_;cbv;refine .of (cs:=[a1,a2,a3,a4,a5]) ew (cO.get Nz) rfl rfl rfl rfl gC rfl λh9 hr9 eU pd=>?_;cbv;refine .nil ?_;cbv;refine .of hr9 rfl ?_;cbv;exact hq _ h9 (ZO.mono eU) (dL.fr eU λl hl=>by simp at hl;subst hl;exact .inl fr0) pd
def agS (x:jB):Js:=.mk 5 0 [] [[99,108,105,101,110,116],[105,100],[109]] [Wr x.client,aaA x.id,agR x.kind x.aI x.name x.text]
theorem WH {h:H}{x:jB}(hw:Wf h)(bc:bt x.client)(bi:bt x.aI)(bn:bt x.name)(bx:bt x.text){Q:V->H->Prop} (hq:∀cs h',nS h' (agS x) cs->Mod h h' []->Wf h'->Q (.agg cs) h'):CW pf G0 Eb [ad7 x] h Q:=by
 obtain ⟨client,id,kind,aI,name,text⟩:=x;dsimp only at bc bi bn bx;refine Qk.enter (by kernel_rfl) ?_;cbv;refine .agg ?_;cbv;refine .of hw λlb h1 cx gG ar aM=>?_;cbv;refine .of aM λlr h2 qN dt aq aN=>?_;have cR:=aq.get cx;have aO:Mod h h2 []:=(ar.trans aq).mono λl o _ hl=>by simp at hl
 have fr0:=ai ar (by simp) dt;cbv;refine .of follows 12 ?_;cbv;refine .of cR rfl ?_;cbv;refine .of cR rfl ?_;cbv;refine .of cR rfl ?_;cbv;refine EW aN λh3 aF aR=>?_;have gB:=aF.get cR;cbv;refine .load gB rfl ?_;cbv;refine .load gB rfl ?_;cbv;refine .nil ?_;cbv;refine .flat rfl ?_;cbv;refine .agg ?_;cbv;refine LC aR λh4 aD aQ=>?_;have dB:=aD.get gB;cbv;refine .load dB rfl ?_;cbv;refine .nil ?_;cbv;refine .flat rfl ?_;cbv;refine .agg ?_;cbv;refine QT aQ bi bn bx λcs h5 ZH aY bH=>?_;obtain ⟨a1,a2,a3,a4,a5,rfl⟩:=ZH.five;have aDX:=ZH.bd;cbv;refine .nil ?_;cbv;refine .flat rfl ?_;cbv;refine .agg ?_;cbv;refine .agg ?_;cbv;refine .agg ?_;cbv;refine .agg ?_;cbv;refine .of bH λl7 h7 xj hf7 cH eu=>?_;have sl:Sl h7 6 (.slice l7 0 3 (.exact 3)) 3 [.str [99,108,105,101,110,116],.int .i64 3,.int .i64 0,.str client,.nilSlice 0,.nilSlice 0,.str [105,100],.int .i64 2,.int .i64 id,.str [],.nilSlice 0,.nilSlice 0,.str [109],a1,a2,a3,a4,a5]:=(aE.exact (e:=235) xj rfl).sl;have ps:GI h7 [([99,108,105,101,110,116],Wr client),([105,100],aaA id),([109],agR kind aI name text)] [.str [99,108,105,101,110,116],.int .i64 3,.int .i64 0,.str client,.nilSlice 0,.nilSlice 0,.str [105,100],.int .i64 2,.int .i64 id,.str [],.nilSlice 0,.nilSlice 0,.str [109],a1,a2,a3,a4,a5]:=
  .cons (nS.text h7 bc) (.cons (nS.int h7 id) (.cons (ZH.mono cH) .nil))
 have cM:Mod h h7 []:=((((aO.trans aF).trans aD).trans aY).trans cH).mono λl o _ hl=>by simp at hl
 have Nz:=cH.get (aY.get (aD.get (aF.get qN)));cbv;refine .nil ?_;cbv;refine LD eu sl ps (by simp) (by simp;exact ⟨⟨by decide,by decide⟩,⟨by decide,by decide⟩,⟨by decide,by decide⟩⟩) λcs h8 ZO cO ew=>?_;have gC:=ZO.bd;have dL:Mod h h8 []:=(cM.trans cO).mono λl o _ hl=>by simp at hl
 obtain ⟨b1,b2,b3,b4,b5,rfl⟩:=ZO.five;cbv;refine .nil ?_;cbv;refine .of (cs:=[b1,b2,b3,b4,b5]) ew (cO.get Nz) rfl rfl rfl rfl gC rfl λh9 hr9 eU pd=>?_;cbv;refine .nil ?_;cbv;refine .of hr9 rfl ?_;cbv;exact hq _ h9 (ZO.mono eU) (dL.fr eU λl hl=>by simp at hl;subst hl;exact .inl fr0) pd
theorem agT {h:H}{x:jB}(hw:Wf h)(hz:L9 x)(ht:x.text.length<=300000){Q:V->H->Prop} (hq:∀s (e:Int) h',s.length<=65536->(e=0->uq x)->(∀b∈s,b<256)->Mod h h' []->Wf h'->Q (.tuple [.str s,.int .i64 e]) h'):CW pf G0 Oe [ad7 x] h Q:=by
 obtain ⟨client,id,kind,aI,name,text⟩:=x;have hz':=hz;obtain ⟨z1,z2,z3,z4⟩:=hz';dsimp only at z1 z2 z3 z4 ht;refine CX.bytes λ_ hb=>?_;have hbt:∀s,V.str s∈[V.str client,.int .i64 id,.int .i64 kind,.str aI,.str name,.str text]->∀b∈s,b<256:=λs hs=>hb _ s (.head _) hs;clear hb;refine Zw.enter (by kernel_rfl) ?_;cbv;refine .agg ?_;cbv;refine .of hw λlb h1 cx gG ar aM=>?_;cbv;refine .of cx rfl ?_;cbv;refine Yl (x:=⟨client,id,kind,aI,name,text⟩) aM hz (λh2 g aq aN=>?_) λh2 g aq aN=>?_
 all_goals
  have aO:Mod h h2 []:=(ar.trans aq).mono λl o _ hl=>by simp at hl
 ·cbv;exact hq [] 130 h2 (by simp) (λe=>by omega) (by simp) aO aN
 ·have cR:=aq.get cx
  have sL:client.length<=24:=g.client.2.2;have Nv:aI.length<=24:=g.m.aI.2.2;have uJ:name.length<=24:=by
   have:=g.m.name;dsimp only at this;unfold sK at this;split at this
   ·rcases this with e | e
    ·rw [e];simp
    ·exact e.2.2
   ·split at this
    ·exact this.2.2
    ·rw [this];simp
  have Cc:text.length<=512:=by
   have:=g.m.text;dsimp only at this;unfold iM at this;split at this
   ·rcases this with e | e<;>rw [e]<;>decide
   ·split at this
    ·exact this.iZ
    ·rw [this];simp
  have hkr:=g.m.known;have hid:=z4;have akD:Lay (agS ⟨client,id,kind,aI,name,text⟩):=by
   refine .obj rfl (by simp) (by simp) λy hy=>?_;simp at hy;rcases hy with rfl | rfl | rfl
   ·exact .text
   ·exact .int hid
   ·refine .obj rfl (by simp) (by simp) λy hy=>?_
    simp at hy;rcases hy with rfl | rfl | rfl | rfl
    ·exact .int ⟨by dsimp only at hkr;omega,by dsimp only at hkr;omega⟩
    ·exact .text
    ·exact .text
    ·exact .text
  have hjs:Wq (agS ⟨client,id,kind,aI,name,text⟩)<=90000000:=by
   simp [agS,agR,Wq,EV,Wr,aaA];omega
  cbv;refine .of cR rfl ?_;cbv;refine WH (x:=⟨client,id,kind,aI,name,text⟩) aN ⟨by dsimp only;omega,hbt _ (by simp)⟩ ⟨by dsimp only;omega,hbt _ (by simp)⟩ ⟨by dsimp only;omega,hbt _ (by simp)⟩ ⟨ht,hbt _ (by simp)⟩ λcs h3 X4 aF aR=>?_;obtain ⟨a1,a2,a3,a4,a5,rfl⟩:=X4.five;have aJ:Mod h h3 []:=(aO.trans aF).mono λl o _ hl=>by simp at hl
  cbv;refine yN aR X4 akD hjs λs e h4 hs hsb aD aQ=>?_;cbv;exact hq s e h4 hs (λ_=>g) hsb ((aJ.trans aD).mono λl o _ hl=>by simp at hl) aQ
end K
namespace K
open Go Go.Dx Go.RowKit
set_option maxRecDepth 100000
structure xl where
 lg:Lb
 li:Lb
 items:bF
 ci:Nat
 version:Int
 synced:Int
def GJ (v:V):Prop:=∃k x t at_,v = .agg [.str k,.bool x,.str t,.int .i64 at_]/\k.length<=128/\t.length<=4096/\0<=at_/\at_<=1099511627776
structure eR (h:H)(ls:Lb)(s:xl)(g:Lg)(d:dR):Prop where
 cell:h.get ls=some (.cells [.int .i32 0,.int .u32 0,.ptr s.lg 0,.map s.li,.int .i64 s.version,.int .i64 s.synced] gA 0 .yes)
 items:h.get s.li=some (.map (cg s.items) s.ci)
 iok:fG s.items s.ci
 rows:∀e,e∈s.items->e.1.length<=128/\GJ e.2.1
 log:iQ h s.lg g
 iE:bJ h g.ld d
 ok:gS g d
 apart:s.li∉d.own g.ld
def xl.own (s:xl)(ls:Lb)(g:Lg)(d:dR):List Lb:=ls::s.li::(g.own s.lg++d.own g.ld)
theorem IQ {h:H}{ls lg:Lb}{a b c e f:V}{t:TypeId}(hc:h.get ls=some (.cells [a,b,.ptr lg 0,c,e,f] t 0 .yes)){Q:V->H->Prop} (hq:Q (.bool true) h):CW pf G0 nE [.ptr ls 0] h Q:=by
 refine yu.enter (by kernel_rfl) ?_;cbv;refine .of hc rfl ?_;cbv;exact hq
theorem iQ.off {h:H}{lg:Lb}{g:Lg}(L:iQ h lg g){l:Lb}{vs:List V}{e:TypeId}{fz:Nat}{own:Own}(hg:h.get l=some (.cells vs e fz own))(he:e≠gj/\e≠fJ/\e≠eZ):l∉g.own lg:=λhl=>by
 simp only [Lg.own,List.mem_cons,List.mem_append] at hl;rcases hl with rfl | hl | hl
 ·rw [L.cell] at hg;cases hg;exact he.1 rfl
 ·obtain ⟨r,hr⟩:=L.cm.row hl;rw [hr] at hg;cases hg;exact he.2.1 rfl
 ·obtain ⟨r,hr⟩:=L.bZ.row hl;rw [hr] at hg;cases hg;exact he.2.2 rfl
theorem iQ.Gt {h:H}{lg:Lb}{g:Lg}(L:iQ h lg g){l:Lb}{es:List (V×V×Nat)}{c:Nat}(hg:h.get l=some (.map es c)):l∉g.own lg:=λhl=>by
 simp only [Lg.own,List.mem_cons,List.mem_append] at hl;rcases hl with rfl | hl | hl
 ·rw [L.cell] at hg;cases hg
 ·obtain ⟨r,hr⟩:=L.cm.row hl;rw [hr] at hg;cases hg
 ·obtain ⟨r,hr⟩:=L.bZ.row hl;rw [hr] at hg;cases hg
inductive nU (g:Lg)(d d':dR):Prop
 | none (h:g.cm=[]) (e:d'=d)
 | some (nm:List Nat) (hs:∃s,g.cm.getLast? =some s/\nm=jw s.1.toNat) (room:d'.room=d.room) (seen:d'.seen=d.seen) (last:said d'.last=runs (d.aH.filter (gX nm)) (said d.last)) (aH:d'.aH=d.aH.filter (λa=>!gX nm a)) (held:∃c,d'.held=jL d.held c nm (bL (said d'.last) nm)) (free:cK (fA d.held nm) nm=none)
theorem nU.dev {g:Lg}{d d':dR}(s:nU g d d'):∃ops,OB d ops d':=by
 cases s with
 | none h e=>subst e;exact ⟨_,.nil _⟩
 | some nm hs room seen last aH held _=>exact ⟨_,.sync room seen last aH held⟩
theorem agU {h:H}{ls:Lb}{s:xl}{g:Lg}{d:dR}(hw:Wf h)(S:eR h ls s g d)(hn:d.aH.length<=1000000000){Q:V->H->Prop}
  (hq:∀h' d',eR h' ls {s with synced:=s.version} g d'->nU g d d'->d'.aH.length<=d.aH.length->(∀l,l∈d'.own g.ld->l∈d.own g.ld\/h.get l=none)->Mod h h' (s.own ls g d)->Wf h'->Q (.int .i64 0) h'):CW pf G0 iA [.ptr ls 0] h Q:=by
 have C:=S.cell;generalize RL:s.lg=lg at C;generalize IN:s.li=li at C;generalize agV:s.version=WI at C;generalize s.synced=syn at C;refine yt.enter (by kernel_rfl) ?_;cbv;refine IQ C ?_;cbv;refine Cz hw C λh1 xv ar aM=>?_;cbv;refine .of xv rfl ?_;have nd:ls∉d.own g.ld:=S.iE.off S.cell (by decide);have ng:ls∉g.own s.lg:=S.log.off S.cell (by decide);have D1:=S.iE.mono ar (λl hl hm=>by rw [List.mem_singleton] at hm;subst hm;exact nd hl);have L1:=S.log.mono ar (λl hl hm=>by rw [List.mem_singleton] at hm;subst hm;exact ng hl);rw [RL] at L1;refine CW.mono (Q:=λv h2=>v = .int .i64 0/\∃d2,bJ h2 g.ld d2/\gS g d2/\nU g d d2/\d2.aH.length<=d.aH.length/\(∀l,l∈d2.own g.ld->l∈d.own g.ld\/h1.get l=none)/\Mod h1 h2 (d.own g.ld)/\Wf h2) ?_ ?_
 ·refine HD aM L1 D1 S.ok hn (λnQ=>?_) λh2 d2 nm a1 a2 a3 a4 a5 a6 NA a7 a8 a9=>?_
  ·exact ⟨rfl,d,D1,S.ok,.none nQ rfl,Nat.le_refl _,λl hl=>.inl hl,Mod.refl _ _,aM⟩
  ·exact ⟨rfl,d2,a1,S.ok.same a3,.some nm NA a2 a3 a4 a5 a6 (Li D1.pX.keys nm),by rw [a5];exact List.length_filter_le _ _,a7,a8,a9⟩
 ·rintro v h2 ⟨rfl,d2,D2,ok2,dev,hle,sY,aq,aN⟩
  have jc:=aq.get xv nd;cbv;refine .mY rfl ?_;cbv;refine .of jc rfl ?_;cbv;refine .one aN jc rfl rfl rfl rfl λh3 iY aF aR=>?_;cbv;refine cq aR iY λh4 vy aD aQ=>?_;cbv;have L2:iQ h2 lg g:=L1.mono aq (L1.iK D1);have n2d:ls∉d2.own g.ld:=D2.off jc (by decide);have n2g:ls∉g.own lg:=L2.off jc (by decide);have o4:∀l,l∈[ls]++[ls]->l=ls:=λl hl=>by simpa using hl
  have m24:=aF.trans aD;have Nn:=(ar.trans aq).trans m24;have apM:∀l,l∈d2.own g.ld->l∈d.own g.ld\/h.get l=none:=λl hl=>(sY l hl).imp_right λhx=>by
   cases hy:h.get l with
   | none=>rfl
   | some o=>
     by_cases e:l=ls
     ·subst e;rw [xv] at hx;cases hx
     ·have:=ar.get hy (by simpa using e);rw [hx] at this;cases this
  have I1:=ar.get S.items (by rw [List.mem_singleton];rintro e;have:=S.items;rw [e,S.cell] at this;cases this);have I2:=aq.get I1 S.apart;have I4:=m24.get I2 λhm=>by have:=o4 _ hm;rw [this,jc] at I2;cases I2
  refine hq h4 d2 ⟨?_,I4,S.iok,S.rows,?_,D2.mono m24 λl hl hm=>n2d (o4 l hm▸hl),ok2,λhm=>?_⟩ dev hle apM (Nn.mono λl _ _ hl=>?_) aQ
  ·show h4.get ls=some (.cells [.int .i32 0,.int .u32 0,.ptr s.lg 0,.map s.li,.int .i64 s.version,.int .i64 s.version] gA 0 .yes)
   rw [RL,IN,agV];exact vy
  ·show iQ h4 s.lg g
   rw [RL];exact L2.mono m24 λl hl hm=>n2g (o4 l hm▸hl)
  ·rcases apM _ hm with hx | hx
   ·exact S.apart hx
   ·rw [S.items] at hx;cases hx
  ·simp only [xl.own,List.mem_cons,List.mem_append,List.not_mem_nil,or_false] at hl ⊢
   rcases hl with (hl | hl) | (hl | hl)
   ·exact .inl hl
   ·exact .inr (.inr (.inr hl))
   ·exact .inl hl
   ·exact .inl hl
end K
