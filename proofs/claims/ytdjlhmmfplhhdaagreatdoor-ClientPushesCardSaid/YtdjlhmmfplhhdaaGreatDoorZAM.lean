/-
  The client's laws. Part ZAM of the proof: What code comes to, as a formula that is worked out from the code: a step stands still where it hangs on what is not written out.
-/
import Derived.Maps.RangeRun
import Derived.Test.YtdjlhmmfplhhdaaGreatDoorZAL
namespace Go.Dx
open Go Go.RowKit
def gx (a:T V)(x:X)(k:V->Prop):Prop:=match x.VI a with
 | some v=>k v
 | none=>False
def gxs (a:T V):List X->(List V->Prop)->Prop
 | [],k=>k []
 | x::xs,k=>gx a x λv=>gxs a xs λvs=>k (v::vs)
def gxo (a:T V)(x:Option X)(k:Option V->Prop):Prop:=match x with
 | none=>k none
 | some x=>gx a x λv=>k (some v)
structure FlN (x:V)(K:List V->Prop):Prop where
 out:K x.cells
structure bE (pf:Unit->Program) (op:BinOp) (ek:EK) (x y:V) (K:V->Prop):Prop where
 out:∃v,binOp (kP (pf ())) op ek x y=some v/\K v
structure UnN (op:UnOp)(x:V)(K:V->Prop):Prop where
 out:∃v,unOp op x=some v/\K v
structure CvN (k:IntKind)(n:Int)(K:V->Prop):Prop where
 out:K (.int k (bU k n))
structure adQ (s:List Nat)(lo hi:Option V)(K:V->Prop):Prop where
 out:∃v,mY s lo hi=some v/\K v
structure Ld (size:Nat)(x:V)(lo hi mx:Option V)(K:V->Prop):Prop where
 out:∃v,dV size x lo hi mx=some v/\K v
structure WW (size:Nat)(x i:V)(K:V->Prop):Prop where
 out:∃v,rX size x i=some v/\K v
structure atE (n size:Nat)(x i:V)(K:V->Prop):Prop where
 out:∃v,uM n size x i=some v/\K v
structure agX (x i:V)(K:V->Prop):Prop where
 out:∃v,uN x i=some v/\K v
structure LsN (x:V)(K:V->Prop):Prop where
 out:∃v,DT x=some v/\K v
structure akD (x:V)(K:V->Prop):Prop where
 out:∃v,uO x=some v/\K v
structure akE (x y:V)(K:V->Prop):Prop where
 out:∃v,YH x y=some v/\K v
structure akF (x y:V)(K:V->Prop):Prop where
 out:∃v,YI x y=some v/\K v
structure PdN (pf:Unit->Program) (q:PD) (tp:T V) (K:V->Prop):Prop where
 out:∀tm,iA tp tm->∃v,q.eval (dq (pf ())) tm=some v/\K v
structure u7 (h:H)(q:Q)(K:V->Prop):Prop where
 out:∃v,q.ask h=some v/\K v
structure VO (h:H)(rd:Rd)(l:Lb)(off:Nat)(K:V->Prop):Prop where
 out:∃v,Q.ask h (.load rd l off)=some v/\K v
structure VP (h:H)(pk:PK)(z:V)(ok:Bool)(m k:V)(K:V->Prop):Prop where
 out:plainKey pk k=true/\∃v,Q.ask h (.lookup pk z ok m k)=some v/\K v
structure BsN (h:H)(x:V)(K:V->Prop):Prop where
 out:∃v,Q.ask h (.bytes x)=some v/\K v
structure StN (h:H)(n:Nat)(l:Lb)(off:Nat)(x:V)(K:H->Prop):Prop where
 out:x.cells.length=n/\∃h',eu h l off x.cells=some h'/\K h'
structure AlN (h:H)(o:Obj)(K:Lb->H->Prop):Prop where
 out:K h.next (h.add o)
structure WX (h:H)(e:TypeId)(size bytes:Nat)(s x:V)(K:V->H->Prop):Prop where
 out:∃r v h',cW h size x=some r/\eR h e size bytes s r.1 r.2=some (v,h')/\K v h'
structure EdN (q:ED)(tp:T V)(h:H)(K:V->H->Prop):Prop where
 out:∀tm,iA tp tm->∃v h',q.run tm h=some (v,h')/\K v h'
structure MuN (h:H)(pk:PK)(m k x:V)(K:H->Prop):Prop where
 out:plainKey pk k=true/\∃v h',(ib h m λr es clock=>ob (Kj pk k x es clock) λo=>some (undef,h.set r o))=some (v,h')/\v=undef/\K h'
structure DlN (h:H)(pk:PK)(m k:V)(K:H->Prop):Prop where
 out:plainKey pk k=true/\∃v h',(ib h m λr es clock=>ob (rY pk k es) λf=>match f with
  | some (i,_)=>some (undef,h.set r (.map (nM es i) clock))
  | none=>some (undef,h))=some (v,h')/\v=undef/\K h'
structure SbN (h:H)(e:TypeId)(x:V)(K:V->H->Prop):Prop where
 out:∃b,x = .str b/\b.length<=9223372036854775807/\K (.slice h.next 0 b.length (.toEnd 1)) (h.add (.cells (ae b) e 0 .marked))
structure MsN (h:H)(e:TypeId)(size bytes:Nat)(z:List V)(n c:V)(K:V->H->Prop):Prop where
 out:∃v h',Cc h e size bytes z n c=some (v,h')/\K v h'
def azV (h:H)(e:TypeId)(size bytes:Nat)(z:List V)(s n:V):Option (V×H):=match n with
 | .int .i64 (.ofNat n)=>bO (Nat.ble n 1048576&&Nat.ble (n*bytes) bg) (eR h e size bytes s n (aH z n))
 | _=>none
structure AzN (h:H)(e:TypeId)(size bytes:Nat)(z:List V)(s n:V)(K:V->H->Prop):Prop where
 out:∃v h',azV h e size bytes z s n=some (v,h')/\K v h'
structure CpN (h:H)(size:Nat)(d s:V)(K:V->H->Prop):Prop where
 out:∃v h',copyV h size d s=some (v,h')/\K v h'
structure atL (pf:Unit->Program) (G:Nat) (r:V) (name:String) (args:List V) (h:H) (K Pn:V->H->Prop):Prop where
 out:∃t v f,r = .iface t v/\YK (pf ()) t name=some f/\CX pf G f (v::args) h K Pn
structure aoG (pf:Unit->Program) (G:Nat) (fv:V) (args:List V) (h:H) (K Pn:V->H->Prop):Prop where
 out:∃f a b,fv = .func f a b/\CX pf G f (a++args++b) h K Pn
structure LoopN (pf:Unit->Program) (G n:Nat) (b:DC) (a:A) (h:H) (Q:Ex->A->H->Prop) (Pn:A->V->H->Prop):Prop where
 out:∀c,dF ⟨pf (),G,n⟩ c=b->SmL pf G n c a h Q Pn
structure HN (pf:Unit->Program) (G n:Nat) (m:List Made) (l:List (DO×Nat×Nat)) (a:A) (h:H) (K:A->H->Prop) (Pn:A->V->H->Prop):Prop where
 out:∀id ops dl,gm ⟨pf (),G,n⟩ ops ops.toList=some dl->jG ⟨pf (),G,n⟩ ops dl = .draw m l->Sm pf G n (.region id ops true) a h (λe a' h'=>e = .normal/\K a' h') Pn
def adR:EK->V->V->Option Bool
 | .ptr,.nilPtr,.nilPtr=>some true
 | .ptr,.nilPtr,.ptr _ _=>some false
 | .ptr,.ptr _ _,.nilPtr=>some false
 | .iface _,.nilIface,.iface _ _=>some false
 | .iface _,.iface _ _,.nilIface=>some false
 | .map,.aP,.aP=>some true
 | .map,.map _,.aP=>some false
 | .bool,.bool a,.bool b=>some (nw a b)
 | _,_,_=>none
def Y2 (a:T V):List (Nat×Nat×X)->List V->(List V->Prop)->Prop
 | [],cells,K=>K cells
 | (off,size,x)::r,cells,K=>gx a x λv=>FlN v λcs=>match Nat.beq cs.length size with
   | true=>match aX cells off cs with
     | some cells=>Y2 a r cells K
     | none=>False
   | false=>False
def QO (a:T V)(size:Nat):List (Nat×X)->List V->(List V->Prop)->Prop
 | [],cells,K=>K cells
 | (i,x)::r,cells,K=>gx a x λv=>FlN v λcs=>match Nat.beq cs.length size with
   | true=>match aX cells (i*size) cs with
     | some cells=>QO a size r cells K
     | none=>False
   | false=>False
def oK (o:Option V)(K:V->Prop):Prop:=match o with
 | some v=>K v
 | none=>False
def wpP (pf:Unit->Program) (d:T V) (q:PD) (K:V->Prop):Prop:=match q with
 | .pick c a b=>gx d c λv=>match v with
   | .bool true=>gx d a K
   | .bool false=>gx d b K
   | _=>False
 | .build z ps=>Y2 d ps z λcs=>K (.agg cs)
 | .nilCheck x=>gx d x λv=>match v with
   | .ptr l o=>K (.ptr l o)
   | v=>oK (uP v) K
 | .bin op ek x y=>gx d x λa=>gx d y λb=>match op,adR ek a b with
   | .eql,some r=>K (.bool r)
   | .neq,some r=>K (.bool (!r))
   | _,_=>bE pf op ek a b K
 | .un op x=>gx d x λa=>match op,a with
   | .not,.bool b=>K (.bool (!b))
   | _,_=>UnN op a K
 | .toInt k x=>gx d x λa=>match a with
   | .int _ n=>CvN k n K
   | _=>False
 | .DN x=>gx d x λa=>match a with
   | .str s=>K (.str s)
   | _=>False
 | .DP t x=>gx d x λa=>K (.iface t a)
 | .Kb f a b=>gxs d a λa=>gxs d b λb=>K (.func f a b)
 | .xP x lo hi=>gx d x λa=>gxo d lo λlo=>gxo d hi λhi=>match a with
   | .str s=>adQ s lo hi K
   | _=>False
 | .slice size x lo hi e=>gx d x λa=>gxo d lo λlo=>gxo d hi λhi=>gxo d e λe=>Ld size a lo hi e K
 | .fieldAddr o x=>gx d x λa=>match a with
   | .ptr l off=>K (.ptr l (off+o))
   | _=>False
 | .field rd o x=>gx d x λa=>match a with
   | .agg cs=>oK (dB rd cs o) K
   | _=>False
 | .indexAddr size x i=>gx d x λa=>gx d i λi=>WW size a i K
 | .kT n size x i=>gx d x λa=>gx d i λi=>atE n size a i K
 | .xR x i=>gx d x λa=>gx d i λi=>agX a i K
 | .DR t z ok x=>gx d x λa=>oK (zX t z ok a) K
 | .extract i x=>gx d x λa=>oK (zY i a) K
 | .Kc x=>gx d x λa=>LsN a K
 | .xS x=>gx d x λa=>akD a K
 | .Kd n=>K (.int .i64 (Int.ofNat n))
 | .xQ n size x none none none=>gx d x λa=>oK (uL n size a none none none) K
 | .acW x y=>gx d x λa=>gx d y λb=>akE a b K
 | .acX x y=>gx d x λa=>gx d y λb=>akF a b K
 | q=>PdN pf q d K
def wpR (b:T V)(h:H)(q:RD)(K:V->Prop):Prop:=match q with
 | .load rd x=>gx b x λa=>match a with
   | .ptr l off=>VO h rd l off K
   | _=>False
 | .lookup pk z ok m k=>gx b m λm=>gx b k λk=>VP h pk z ok m k K
 | .bytesStr x=>gx b x λa=>BsN h a K
 | .mapLen x=>gx b x λa=>u7 h (.mapLen a) K
 | .entry x=>gx b x λa=>match a with
   | .ptr l off=>u7 h (.entry l off) K
   | _=>False
 | .ptrUnsafe x=>gx b x λa=>match a with
   | .ptr l off=>u7 h (.row l off) K
   | _=>False
 | .unsafePtr u n x=>gx b x λa=>match a with
   | .ptr l off=>u7 h (.whole u n l off) K
   | _=>False
 | _=>False
def wpE (b:T V)(h:H)(q:ED)(K:V->H->Prop):Prop:=match q with
 | .store n a x=>gx b a λa=>gx b x λx=>match a with
   | .ptr l off=>StN h n l off x λh'=>K undef h'
   | _=>False
 | .alloc t cs=>AlN h (.cells cs t 0 .yes) λl h'=>K (.ptr l 0) h'
 | .box t x=>gx b x λx=>FlN x λcs=>AlN h (.cells cs t 0 .yes) λl h'=>K (.ptr l 0) h'
 | .buildSlice e size n cs ps=>QO b size ps cs λcs=>AlN h (.cells cs e 0 .yes) λl h'=>K (.slice l 0 n (.exact n)) h'
 | .cL e cs n=>AlN h (.cells cs e 0 .yes) λl h'=>K (.slice l 0 n (.exact n)) h'
 | .makeMap=>AlN h (.map [] 0) λl h'=>K (.map l) h'
 | .dj e x=>gx b x λa=>SbN h e a K
 | .append e size bytes s x=>gx b s λs=>gx b x λx=>WX h e size bytes s x K
 | .nK e size bytes z s n=>gx b s λs=>gx b n λn=>AzN h e size bytes z s n K
 | .makeSlice e size bytes z n c=>gx b n λn=>gx b c λc=>MsN h e size bytes z n c K
 | .copy size d s=>gx b d λd=>gx b s λs=>CpN h size d s K
 | .mapUpdate pk m k x=>gx b m λm=>gx b k λk=>gx b x λx=>MuN h pk m k x λh'=>K undef h'
 | .delete pk m k=>gx b m λm=>gx b k λk=>DlN h pk m k λh'=>K undef h'
 | q=>EdN q b h K
def adS (pf:Unit->Program) (G:Nat) (a:T V) (h:H) (q:CD) (K Pn:V->H->Prop):Prop:=match q with
 | .func f args=>gxs a args λvs=>CX pf G f vs h K Pn
 | .value f args=>gx a f λb=>gxs a args λvs=>aoG pf G b vs h K Pn
 | .invoke r name args=>gx a r λr=>gxs a args λvs=>atL pf G r name vs h K Pn
def wpD (pf:Unit->Program) (G:Nat) (d:DO) (a:A) (h:H) (K:A->H->Prop) (Pn:A->V->H->Prop):Prop:=match d.op with
 | .SD x=>gx a.tmps x λv=>K (a.put d.dst v) h
 | .p q=>wpP pf a.tmps q λv=>K (a.put d.dst v) h
 | .r q=>wpR a.tmps h q λv=>K (a.put d.dst v) h
 | .e q=>wpE a.tmps h q λv h'=>K (a.put d.dst v) h'
 | .c q=>adS pf G a.tmps h q (λv h'=>K (a.put d.dst v) h') (Pn a)
 | .defer (.func f args)=>gxs a.tmps args λvs=>K ({tmps:=a.tmps,defers:=(f,vs)::a.defers:A}.put d.dst undef) h
 | .defer (.value f args)=>gx a.tmps f λb=>gxs a.tmps args λvs=>match b with
   | .func f x y=>K ({tmps:=a.tmps,defers:=(f,x++vs++y)::a.defers:A}.put d.dst undef) h
   | _=>False
 | _=>False
structure NxW (h:H)(x:V)(K:V->H->Prop):Prop where
 out:∃l,x = .ptr l 0/\((∃since seen last,h.get l=some (.mapIter none since seen last)/\K (.tuple [.bool false]) h)\/(∃m since seen last es clock,h.get l=some (.mapIter (some m) since seen last)/\h.get m=some (.map es clock)/\since<=last/\
  (∀k v b,(k,v,b)∈es->b<since)/\(Dx.leftOf seen es=[]->K (.tuple [.bool false]) h)/\(∀k v b,(k,v,b)∈Dx.leftOf seen es->K (.tuple [.bool true,k,v]) (h.set l (.mapIter (some m) since (seen++[b]) clock)))))
def adT (pf:Unit->Program) (G:Nat) (d:DO) (a:A) (h:H) (K:A->H->Prop) (Pn:A->V->H->Prop):Prop:=match d.op with
 | .e (.next x)=>gx a.tmps x λv=>NxW h v λv h'=>K (a.put d.dst v) h'
 | _=>wpD pf G d a h K Pn
def wpOps (pf:Unit->Program) (G:Nat):List DO->A->H->(A->H->Prop)->(A->V->H->Prop)->Prop
 | [],a,h,K,_=>K a h
 | d::r,a,h,K,Pn=>match d.guard with
   | none=>adT pf G d a h (λa h=>wpOps pf G r a h K Pn) Pn
   | some (p,want)=>gx a.tmps (.t p) λv=>match v with
     | .bool b=>match nw b want with
       | true=>adT pf G d a h (λa h=>wpOps pf G r a h K Pn) Pn
       | false=>wpOps pf G r (a.put d.dst undef) h K Pn
     | .tuple _=>wpOps pf G r (a.put d.dst undef) h K Pn
     | _=>False
def aiQ (k:A->H->Prop) (Q:Ex->A->H->Prop):Ex->A->H->Prop
 | .normal,a,h=>k a h
 | .exit i,a,h=>Q (.exit i) a h
 | .ret,a,h=>Q .ret a h
def akH (id:Nat)(Q:Ex->A->H->Prop):Ex->A->H->Prop
 | .normal,a,h=>Q .normal a h
 | .exit i,a,h=>Q (match Nat.beq i id with | true=>.normal | false=>.exit i) a h
 | .ret,a,h=>Q .ret a h
def VQ (pf:Unit->Program) (G n:Nat):DC->A->H->(Ex->A->H->Prop)->(A->V->H->Prop)->Prop
 | .skip,a,h,Q,_=>Q .normal a h
 | .ops l,a,h,Q,Pn=>wpOps pf G l a h (λa h=>Q .normal a h) Pn
 | .draw m l,a,h,Q,Pn=>HN pf G n m l a h (λa h=>Q .normal a h) Pn
 | .seq x y,a,h,Q,Pn=>VQ pf G n x a h (aiQ (λa h=>VQ pf G n y a h Q Pn) Q) Pn
 | .cond c x y,a,h,Q,Pn=>gx a.tmps c λv=>match v with
   | .bool true=>VQ pf G n x a h Q Pn
   | .bool false=>VQ pf G n y a h Q Pn
   | _=>False
 | .block id b,a,h,Q,Pn=>VQ pf G n b a h (akH id Q) Pn
 | .loop b,a,h,Q,Pn=>LoopN pf G n b a h Q Pn
 | .exit id,a,h,Q,_=>Q (.exit id) a h
 | .ret,a,h,Q,_=>Q .ret a h
 | .stuck,_,_,_,_=>False
end Go.Dx
namespace Go.Dx
open Go Go.RowKit
variable{d:D}{o:Op}{h:H}{Qw:Exit->Act->World->Prop}{Kw:Act->World->Prop}{Pn:A->V->H->Prop}{a:A}
def WY:D->Bool
 | .e (.next _)=>true
 | _=>false
theorem aiR {c:Type}{x:Option c}{f:c->Option D}  (h:ob x f=some d) (k:∀v,x=some v->f v=some d->WY d=false):WY d=false:=by
 rw [ad] at h;obtain ⟨v,a,b⟩:=h;exact k v a b
theorem WZ {b:Bool}{x:Option D}(h:bO b x=some d)(k:x=some d->WY d=false):WY d=false:=by
 rw [ai] at h;exact k h.2
theorem agY {C:CE}{s t:TypeId}{x:X}(h:iH C s t x=some d):WY d=false:=by
 unfold iH at h
 repeat' (first | (cases h;rfl) | (refine WZ h λh=>?_) | split at h)
 all_goals cases h
theorem akI {C:CE}{b:Builtin}{ts:List TypeId}{xs:List X}(h:iG C b ts xs=some d):WY d=false:=by
 unfold iG at h
 repeat' (first | (cases h;rfl) | (refine WZ h λh=>?_) | (refine aiR h λ_ _ h=>?_) | split at h)
 all_goals cases h
theorem aoI {C:CE}(a:∀z,o≠.next z false) (h:aq C o=some d):WY d=false:=by
 unfold aq at h
 repeat' (first | (cases h;rfl) | exact agY h | exact akI h | (refine WZ h λh=>?_) | (refine aiR h λ_ _ h=>?_) | split at h)
 all_goals first | (cases h;done) | exact absurd rfl (a _)
section
variable {pf:Unit->Program} {G n:Nat} {tp tm:T V}
theorem bd (s:iA tp tm){x:X}{k:V->Prop} (h:gx tp x k):k (x.ev tm)/\x.VI tp=some (x.ev tm):=by
 unfold gx at h;split at h
 ·rename_i v a;rw [qz s a];exact ⟨h,a⟩
 ·exact h.elim
theorem yq (s:iA tp tm):∀{xs:List X} {k:List V->Prop},gxs tp xs k->k (Wh tm xs)
 | [],_,h=>h
 | x::xs,k,h=>by
   have:=(bd s h).1;exact yq (k:=λvs=>k (x.ev tm::vs)) s this
theorem Le (s:iA tp tm){x:Option X}{k:Option V->Prop} (h:gxo tp x k):k (SE tm x):=by
 cases x with
 | none=>exact h
 | some x=>exact (bd s h).1
theorem Lf {o:Option V}{K:V->Prop} (h:oK o K):∃v,o=some v/\K v:=by
 unfold oK at h;split at h
 ·exact ⟨_,rfl,h⟩
 ·exact h.elim
theorem Uc (s:iA tp tm){K:List V->Prop}:∀{ps:List (Nat×Nat×X)} {a:List V},Y2 tp ps a K->∃cs,oP tm ps a=some cs/\K cs
 | [],a,h=>⟨a,rfl,h⟩
 | (off,size,x)::r,a,h=>by
   unfold Y2 at h;have h:=(bd s h).1.out;split at h
   ·rename_i d
    split at h
    ·rename_i f b
     obtain ⟨cs,c,e⟩:=Uc s h;exact ⟨cs,by simp only [oP,d,bO,b,ob];exact c,e⟩
    ·exact h.elim
   ·exact h.elim
theorem O0 (s:iA tp tm){size:Nat}{K:List V->Prop}:∀{ps:List (Nat×X)} {a:List V},QO tp size ps a K->∃cs,eb tm size ps a=some cs/\K cs
 | [],a,h=>⟨a,rfl,h⟩
 | (i,x)::r,a,h=>by
   unfold QO at h;have h:=(bd s h).1.out;split at h
   ·rename_i d
    split at h
    ·rename_i f b
     obtain ⟨cs,c,e⟩:=O0 s h;exact ⟨cs,by simp only [eb,d,bO,b,ob];exact c,e⟩
    ·exact h.elim
   ·exact h.elim
theorem Ud {c:TypeId->PK} {d:EK} {a b:V} {r:Bool} (h:adR d a b=some r):binOp c .eql d a b=some (.bool r)/\binOp c .neq d a b=some (.bool (!r)):=by
 unfold adR at h;split at h<;>first | (cases h;constructor<;>rfl) | cases h
theorem adU (s:iA tp tm){q:PD}{K:V->Prop} (h:wpP pf tp q K):∃v,q.eval (dq (pf ())) tm=some v/\K v:=by
 cases q with
 | pick c a b=>
   simp only [wpP] at h;have h:=(bd s h).1;simp only [PD.eval];split at h
   ·rename_i e;simp only [e];exact ⟨_,rfl,(bd s h).1⟩
   ·rename_i e;simp only [e];exact ⟨_,rfl,(bd s h).1⟩
   ·exact h.elim
 | build z ps=>
   obtain ⟨cs,g,d⟩:=Uc s h;exact ⟨_,by simp only [PD.eval,g,ob],d⟩
 | nilCheck x=>
   simp only [wpP] at h;have h:=(bd s h).1;simp only [PD.eval];split at h
   ·rename_i e;rw [e];exact ⟨_,rfl,h⟩
   ·exact Lf h
 | bin op ek x y=>
   simp only [wpP] at h;have h:=(bd s (bd s h).1).1;simp only [PD.eval];split at h
   ·rename_i e _;exact ⟨_,(Ud e).1,h⟩
   ·rename_i e _;exact ⟨_,(Ud e).2,h⟩
   ·exact h.out
 | un op x=>
   simp only [wpP] at h;have h:=(bd s h).1;simp only [PD.eval];split at h
   ·rename_i e _;rw [e];exact ⟨_,rfl,h⟩
   ·exact h.out
 | toInt k x=>
   simp only [wpP] at h;have h:=(bd s h).1;simp only [PD.eval];split at h
   ·rename_i e;rw [e];exact ⟨_,rfl,h.out⟩
   ·exact h.elim
 | DN x=>
   simp only [wpP] at h;have h:=(bd s h).1;simp only [PD.eval];split at h
   ·rename_i e;rw [e];exact ⟨_,rfl,h⟩
   ·exact h.elim
 | DP t x=>exact ⟨_,rfl,(bd s h).1⟩
 | Kb f a b=>exact ⟨_,rfl,yq s (yq s h)⟩
 | xP x lo hi=>
   simp only [wpP] at h;have h:=Le s (Le s (bd s h).1);simp only [PD.eval];split at h
   ·rename_i e;rw [e];exact h.out
   ·exact h.elim
 | slice size x lo hi mx=>exact (Le s (Le s (Le s (bd s h).1))).out
 | fieldAddr o x=>
   simp only [wpP] at h;have h:=(bd s h).1;simp only [PD.eval];split at h
   ·rename_i e;rw [e];exact ⟨_,rfl,h⟩
   ·exact h.elim
 | field rd o x=>
   simp only [wpP] at h;have h:=(bd s h).1;simp only [PD.eval];split at h
   ·rename_i e;rw [e];exact Lf h
   ·exact h.elim
 | indexAddr size x i=>exact (bd s (bd s h).1).1.out
 | kT n size x i=>exact (bd s (bd s h).1).1.out
 | xR x i=>exact (bd s (bd s h).1).1.out
 | DR t z ok x=>exact Lf (bd s h).1
 | extract i x=>exact Lf (bd s h).1
 | Kc x=>exact (bd s h).1.out
 | xS x=>exact (bd s h).1.out
 | Kd n=>exact ⟨_,rfl,h⟩
 | acW x y=>exact (bd s (bd s h).1).1.out
 | acX x y=>exact (bd s (bd s h).1).1.out
 | DM x=>exact h.out tm s
 | xQ n size x lo hi mx=>
   cases lo<;>cases hi<;>cases mx<;>first | exact Lf (bd s h).1 | exact h.out tm s
 | DQ rd n size x i=>exact h.out tm s
 | pM w z ok x=>exact h.out tm s
 | cap x=>exact h.out tm s
 | mV x=>exact h.out tm s
 | acY n x=>exact h.out tm s
theorem akJ (s:iA tp tm){q:RD}{K:V->Prop} (a:wpR tp h q K):∃Q v,q.px tm=some Q/\Q.ask h=some v/\K v:=by
 cases q with
 | load rd x=>
   simp only [wpR] at a;have a:=(bd s a).1;simp only [RD.px];split at a
   ·rename_i e
    obtain ⟨v,c,b⟩:=a.out;rw [e];exact ⟨_,v,rfl,c,b⟩
   ·exact a.elim
 | lookup pk z ok m k=>
   obtain ⟨h0,v,c,b⟩:=(bd s (bd s a).1).1.out;exact ⟨_,v,by simp only [RD.px,h0,bO],c,b⟩
 | bytesStr x=>
   obtain ⟨v,c,b⟩:=(bd s a).1.out;exact ⟨_,v,rfl,c,b⟩
 | mapLen x=>
   obtain ⟨v,c,b⟩:=(bd s a).1.out;exact ⟨_,v,rfl,c,b⟩
 | ptrUnsafe x=>
   have a:=(bd s a).1;simp only [RD.px];split at a
   ·rename_i e
    obtain ⟨v,c,b⟩:=a.out;rw [e];exact ⟨_,v,rfl,c,b⟩
   ·exact a.elim
 | unsafePtr u n x=>
   have a:=(bd s a).1;simp only [RD.px];split at a
   ·rename_i e
    obtain ⟨v,c,b⟩:=a.out;rw [e];exact ⟨_,v,rfl,c,b⟩
   ·exact a.elim
 | fresh t cs x=>exact a.elim
 | freshS e cs n x=>exact a.elim
 | entry x=>
   simp only [wpR] at a;have a:=(bd s a).1;simp only [RD.px];split at a
   ·rename_i e
    obtain ⟨v,c,b⟩:=a.out;rw [e];exact ⟨_,v,rfl,c,b⟩
   ·exact a.elim
 | freshB e x s=>exact a.elim
theorem adV (s:iA tp tm){q:ED}{K:V->H->Prop} (f:wpE tp h q K):∃v h',q.run tm h=some (v,h')/\K v h':=by
 cases q with
 | store n a x=>
   simp only [wpE] at f;have f:=(bd s (bd s f).1).1;simp only [ED.run];split at f
   ·rename_i e
    obtain ⟨h0,h',i,j⟩:=f.out;rw [e];exact ⟨_,h',by simp only [h0,Nat.beq_refl,bO,i,ob],j⟩
   ·exact f.elim
 | alloc t cs=>exact ⟨_,_,rfl,f.out⟩
 | box t x=>exact ⟨_,_,rfl,(bd s f).1.out.out⟩
 | buildSlice e size n cs ps=>
   obtain ⟨W0,i,j⟩:=O0 s f;exact ⟨_,_,by simp only [ED.run,i,ob],j.out⟩
 | cL e cs n=>exact ⟨_,_,rfl,f.out⟩
 | makeMap=>exact ⟨_,_,rfl,f.out⟩
 | dj e x=>
   obtain ⟨b,h0,i,j⟩:=(bd s f).1.out;exact ⟨_,_,by simp only [ED.run,h0,bO,Nat.ble_eq_true_of_le i],j⟩
 | append e size bytes a x=>
   obtain ⟨r,v,h',i,j,h3⟩:=(bd s (bd s f).1).1.out;exact ⟨v,h',by simp only [ED.run,i,ob,j],h3⟩
 | nK e size bytes z a n=>
   obtain ⟨v,h',i,j⟩:=(bd s (bd s f).1).1.out;exact ⟨v,h',by simp only [ED.run];exact i,j⟩
 | makeSlice e size bytes z n c=>exact (bd s (bd s f).1).1.out
 | copy size d a=>exact (bd s (bd s f).1).1.out
 | mapUpdate pk m k x=>
   obtain ⟨h0,v,h',i,rfl,j⟩:=(bd s (bd s (bd s f).1).1).1.out;exact ⟨_,h',by simp only [ED.run,h0,bO];exact i,j⟩
 | delete pk m k=>
   obtain ⟨h0,v,h',i,rfl,j⟩:=(bd s (bd s f).1).1.out;exact ⟨_,h',by simp only [ED.run,h0,bO];exact i,j⟩
 | zW x=>exact f.out tm s
 | mW e x n=>exact f.out tm s
 | mapEntry pk z m k=>exact f.out tm s
 | entryStore m a x=>exact f.out tm s
 | DS x=>exact f.out tm s
 | rangeMap x=>exact f.out tm s
 | next x=>exact f.out tm s
 | qD x=>exact f.out tm s
theorem O1 (s:iA tp tm){q:CD}{K Pn:V->H->Prop} (c:adS pf G tp h q K Pn):∃f vs,q.args (dq (pf ())) tm=some (f,vs)/\CX pf G f vs h K Pn:=by
 cases q with
 | func f args=>exact ⟨_,_,rfl,yq s c⟩
 | value f args=>
   obtain ⟨g,a,b,e,d⟩:=(yq s (bd s c).1).out;exact ⟨_,_,by simp only [CD.args,e],d⟩
 | invoke r name args=>
   obtain ⟨t,v,f,e,i,d⟩:=(yq s (bd s c).1).out;exact ⟨_,_,by simp only [CD.args,e,dq,i,ob],d⟩
variable {B:Nat} {w0:World} {ρ:bD} {h:H} {w:World}
theorem akK {ops:Array Oper}{o:Oper}{d:DO}(Q:gX ⟨pf (),G,n⟩ ops o=some d){x:Act}(l:PR ρ n a x)(Z:GB (pf ()) B w0 ρ G)(R:aA B w0 ρ h w){K:A->H->Prop}  (Y:wpD pf G d a h K Pn)
    (D:∀M h',K M h'->∀i A' w',Step ρ i h h'->PR i n M A'->aA B w0 i h' w'->Kw A' w') (V:∀M v h',Pn M v h'->BH B w0 n ρ h M v h' Qw):o.wp (pf ()) x w Kw Qw:=by
 simp only [gX,ad,Option.some.injEq] at Q;obtain ⟨L,z,g,X,rfl⟩:=Q;unfold Oper.wp;obtain ⟨tm,s,m⟩:=l.out;cases kL:aq ⟨pf (),G,n⟩ o.op with
 | none=>simp only [kL,Option.getD_none,wpD] at Y
 | some op=>
   have J:=tE kL;simp only [kL,Option.getD_some] at Y;cases op with
   | SD y=>
     obtain ⟨v,u,j⟩:=J m.tmps Z.rel;have Y:=(bd s Y).1;rw [j o rfl w,Oper.upon_value];exact D _ _ Y ρ _ _ (Step.refl _ _) (l.put (C:=⟨pf (),G,n⟩) z u) R
   | p q=>
     obtain ⟨v,u,Y⟩:=adU s Y;obtain ⟨y,hy,j⟩:=J m.tmps Z.rel v u;rw [j o rfl w,Oper.upon_value];exact D _ _ Y ρ _ _ (Step.refl _ _) (l.put (C:=⟨pf (),G,n⟩) z hy) R
   | r q=>
     obtain ⟨S,v,T,u,Y⟩:=akJ s Y;obtain ⟨y,hy,j⟩:=J m.tmps Z.rel S T v R u;rw [j o rfl,Oper.upon_value];exact D _ _ Y ρ _ _ (Step.refl _ _) (l.put (C:=⟨pf (),G,n⟩) z hy) R
   | e q=>
     have Y:wpE a.tmps h q (λv h'=>K (a.put L v) h'):=Y;obtain ⟨v,Eg,u,Y⟩:=adV s Y;obtain ⟨i,y,w',k,F,I,W⟩:=J.eff m.tmps Z.rel R u;have E:=k.ext R;rcases W o rfl with j | ⟨j,rfl⟩
     ·rw [j,Oper.upon_value]
      exact D _ _ Y i _ _ k ((l.mono E).put (C:=⟨pf (),G,n⟩) z F) I
     ·rw [j,Oper.upon_skip]
      have:=(l.mono E).put (C:=⟨pf (),G,n⟩) z F;exact D _ _ Y i _ _ k this I
   | c q=>
     obtain ⟨f,vs,O,Y⟩:=O1 s Y;obtain ⟨xs,QB,j⟩:=J m.tmps Z.rel O;rw [j o rfl w];refine (Y.out R Z QB).upon (λy w' P=>?_) λy w' P=>?_
     ·obtain ⟨v,h',i,q,k,F,I⟩:=P
      exact D _ _ q i _ _ k ((l.mono (k.ext R)).put (C:=⟨pf (),G,n⟩) z F) I
     ·obtain ⟨v,h',i,q,k,F,I⟩:=P
      exact V _ _ _ q i _ _ _ k (l.mono (k.ext R)) F I
   | defer q=>
     have key:∃f vs,q.args (dq (pf ())) tm=some (f,vs)/\K ({tmps:=a.tmps,defers:=(f,vs)::a.defers:A}.put L undef) h:=by
      cases q with
      | func f args=>exact ⟨_,_,rfl,yq s Y⟩
      | value f args=>
        have Y:=yq s (bd s Y).1;simp only at Y;split at Y
        ·rename_i e;exact ⟨_,_,by simp only [CD.args,e],Y⟩
        ·exact Y.elim
      | invoke r name args=>exact Y.elim
     obtain ⟨f,vs,O,Y⟩:=key;obtain ⟨e,U,j⟩:=J m.tmps Z.rel O;rw [j o rfl w,Oper.upon_defer];have N:PR ρ n {tmps:=a.tmps,defers:=(f,vs)::a.defers} {x with defers:=e::x.defers}:=⟨tm,s,m.tmps,.cons U m.defers⟩;exact D _ _ Y ρ _ _ (Step.refl _ _) (N.put (C:=⟨pf (),G,n⟩) z (.tuple .nil)) R
   | stuck=>exact Y.elim
theorem pO.mem {es:List (V×V×Nat)}{ms:List MapEntry}(r:pO ρ es ms){e:MapEntry}(a:e∈ms):∃k v,(k,v,e.born)∈es/\RV ρ k e.key/\RV ρ v e.val:=by
 induction r with
 | nil=>cases a
 | cons hk hv hn hs ih=>
   rcases List.mem_cons.1 a with rfl | a
   ·exact ⟨_,_,by rw [hn];exact List.mem_cons_self ..,hk,hv⟩
   ·obtain ⟨k,v,b,c⟩:=ih a
    exact ⟨k,v,List.mem_cons_of_mem _ b,c⟩
theorem adW {C:CE}{y:X}(h:aq C o=some (.e (.next y))):∃z,o = .next z false/\ay C z=some y:=by
 by_cases hn:∃z,o = .next z false
 ·obtain ⟨z,rfl⟩:=hn
  simp only [aq,ad,Option.some.injEq] at h;obtain ⟨x,a,h⟩:=h;cases h;exact ⟨z,rfl,a⟩
 ·have:=aoI (λz e=>hn ⟨z,e⟩) h
  cases this
theorem aoJ {C:CE}{y:Operand}{x:X}(J:ay C y=some x){tm:T V}{A:Act}(hT:jx ρ C.n tm A.tmps)(U:gM ρ C.G)(R:aA B w0 ρ h w){K:V->H->Prop} (j:NxW h (x.ev tm) K):
  ∃v h' f z w',K v h'/\Step ρ f h h'/\RV f v z/\aA B w0 f h' w'/\∀p:Oper,p.op = .next y false->(execOp A.eval p).run C.P w = .ok (.value z) w':=by
 have r:=aw hT U J;generalize YP:A.eval y=yv at r;obtain ⟨l,e1,j⟩:=j.out;rw [e1] at r;obtain ⟨b,o,rfl⟩:=dy r;have Q:=(R.base l b o).1;have Ci:∀(p:Oper),p.op = .next y false->execOp A.eval p=(do pure (.value (<-Instr.next (.pointer (some ⟨b.block,0,none⟩)) false p.type))):=λp g=>by
  unfold execOp;rw [g];simp only [YP,Q]
 rcases j with ⟨since,a,last,q,j⟩ | ⟨m,since,a,last,es,d,q,u,nW,n,bJ,bN⟩
 ·obtain ⟨_,Z,E,t⟩:=R.obj l b _ o q
  simp only at t;subst t;refine ⟨_,h,ρ,.tuple ⟨[.bool false]⟩,w,j,Step.refl _ _,.tuple (.cons (.bool false) .nil),R,λp g=>?_⟩;rw [Ci p g];have:(Instr.next (.pointer (some ⟨b.block,0,none⟩)) false p.type).run C.P w = .ok (.tuple ⟨[.bool false]⟩) w:=by
   unfold Instr.next;simp [getObj,Sem.run,E]
  simp [this]
 ·obtain ⟨_,Z,E,c,M,t⟩:=R.obj l b _ o q
  subst t;obtain ⟨ms,OJ,N⟩:=R.obj m c _ M u;have lA:=N.left a;have s:(Go.leftOf ms ⟨a⟩).toList=ms.toList.filter λe=>!a.contains e.born:=by
   unfold Go.leftOf;rw [Array.toList_filter];congr 1;funext e;simp
  have G:∀x∈ms.toList,x.born<since:=λx J=>by
   obtain ⟨k,v,D,_⟩:=N.mem J;exact n _ _ _ D
  have key:=λY=>run_next_at (P:=C.P) w Y b.block c.block since last ⟨a⟩ ms d E OJ G nW;have F:(Go.leftOf ms ⟨a⟩).size=0->K (.tuple [.bool false]) h:=λhs=>bJ (by
   rw [<-s] at lA;have:(Go.leftOf ms ⟨a⟩).toList=[]:=by
    have:(Go.leftOf ms ⟨a⟩).toList.length=0:=by simpa using hs
    exact List.eq_nil_of_length_eq_zero this
   rw [this] at lA;generalize Dx.leftOf a es=L at lA;cases lA;rfl)
  rcases key 0 with ⟨hs,I⟩ | ⟨e,O,S,W,I⟩
  ·refine ⟨_,h,ρ,.tuple #[.bool false],w,F hs,Step.refl _ _,.tuple (.cons (.bool false) .nil),R,λp g=>?_⟩
   rw [Ci p g];have:(Instr.next (.pointer (some ⟨b.block,0,none⟩)) false p.type).run C.P w = .ok (.tuple #[.bool false]) w:=I;simp [this]
  ·rw [s,<-s] at O
   rw [<-s] at lA;obtain ⟨k,v,D,rk,rv⟩:=lA.mem O;have R1:aA B w0 ρ h S:=by rcases W with rfl | rfl;exact R;exact R.drew
   have R2:=R1.setObj (p:=.mapIter (some m) since (a++[e.born]) d) (x:=.mapIter (some c.block) since ((⟨a⟩:Array Nat).push e.born) d) o q rfl λw' dO=>⟨Q,some c.block,by rw [dO];simp,c,M,rfl⟩;refine ⟨_,_,ρ,.tuple #[.bool true,e.key,e.val],_,bN k v e.born D,Step.same rfl,.tuple (.cons (.bool true) (.cons rk (.cons rv .nil))),R2,λp g=>?_⟩;rw [Ci p g];have:(Instr.next (.pointer (some ⟨b.block,0,none⟩)) false p.type).run C.P w = .ok (.tuple #[.bool true,e.key,e.val]) (ChangeMaps.setBlock S b.block (.mapIter (some c.block) since ((⟨a⟩:Array Nat).push e.born) d)):=I;simp [this,ChangeMaps.setBlock]
theorem agZ {ops:Array Oper}{o:Oper}{d:DO}(p:gX ⟨pf (),G,n⟩ ops o=some d){x:Act}(j:PR ρ n a x)(l:GB (pf ()) B w0 ρ G)(R:aA B w0 ρ h w){K:A->H->Prop}  (e:adT pf G d a h K Pn)
    (m:∀f h',K f h'->∀b A' w',Step ρ b h h'->PR b n f A'->aA B w0 b h' w'->Kw A' w') (L:∀f v h',Pn f v h'->BH B w0 n ρ h f v h' Qw):o.wp (pf ()) x w Kw Qw:=by
 unfold adT at e;split at e
 ·rename_i y c
  have TD:=p;simp only [gX,ad,Option.some.injEq] at TD;obtain ⟨F,t,g,N,rfl⟩:=TD;obtain ⟨tm,s,U⟩:=j.out;have e:=(bd s e).1;have c:(aq ⟨pf (),G,n⟩ o.op).getD .stuck = .e (.next y):=c;have i:∃z,o.op = .next z false/\ay ⟨pf (),G,n⟩ z=some y:=by
   cases h0:aq ⟨pf (),G,n⟩ o.op with
   | none=>rw [h0] at c;cases c
   | some q=>
     rw [h0] at c;simp only [Option.getD_some] at c;subst c;exact adW h0
  obtain ⟨z,J,k⟩:=i;obtain ⟨v,h',b,u,w',q,P,D,E,M⟩:=aoJ (C:=⟨pf (),G,n⟩) k U.tmps l.rel R e;unfold Oper.wp;rw [M o J,Oper.upon_value];exact m _ _ q b _ _ P ((j.mono (P.ext R)).put (C:=⟨pf (),G,n⟩) t D) E
 ·exact akK p j l R e m L
theorem Lh {ops:Array Oper}:∀{l:List Oper} {r:List DO},gm ⟨pf (),G,n⟩ ops l=some r->∀{a:A} {h:H} {K:A->H->Prop} {Pn:A->V->H->Prop},wpOps pf G r a h K Pn->SmO pf G n ops l a h K Pn
 | [],r,hc,a,h,K,Pn,f=>by
   simp only [gm,Option.some.injEq] at hc;subst hc;exact ⟨λ{B w0 ρ w x Qw} j m R k _=>k a h f ρ x w (Step.refl _ _) j R⟩
 | o::l,r,hc,a,h,K,Pn,f=>by
   simp only [gm,ad,Option.some.injEq] at hc;obtain ⟨d,M,ds,QC,rfl⟩:=hc;refine ⟨λ{B w0 ρ w x Qw} j m R k z=>?_⟩;have TD:=M;simp only [gX,ad,Option.some.injEq] at TD;obtain ⟨F,Q,g,S,N⟩:=TD;obtain ⟨tm,s,W⟩:=j.out;have L:=yg (C:=⟨pf (),G,n⟩) S W.tmps;have E:d.guard=g:=by rw [<-N]
   have I:d.dst=F:=by rw [<-N]
   simp only [wpList];have yes:dY tm g=true->adT pf G d a h (λa h=>wpOps pf G ds a h K Pn) Pn->(if Region.wanted o (yielded ops x.tmps)=true then o.wp (pf ()) x w (wpList (pf ()) ops Qw l) Qw\/(o.asks (pf ()) x w/\LetsOut Qw) else wpList (pf ()) ops Qw l (x.put o.dst Go.undef) w):=λD t=>by
    rw [if_pos (L.trans D)];refine .inl (agZ M j m R t (λU h' q O A' w' u J R'=>?_) z);exact (Lh QC q).out J (m.mono (u.ext R)) R' (λi Eg y=>(k i Eg y).trans u) λi v Eg y=>(z i v Eg y).trans u
   have no:dY tm g=false->wpOps pf G ds (a.put d.dst undef) h K Pn->(if Region.wanted o (yielded ops x.tmps)=true then o.wp (pf ()) x w (wpList (pf ()) ops Qw l) Qw\/(o.asks (pf ()) x w/\LetsOut Qw) else wpList (pf ()) ops Qw l (x.put o.dst Go.undef) w):=λD t=>by
    rw [if_neg (by rw [L,D];exact Bool.false_ne_true)];rw [I] at t;exact (Lh QC t).out (j.put (C:=⟨pf (),G,n⟩) Q (.tuple .nil)) m R k z
   rw [<-E] at yes no;simp only [wpOps] at f;cases hdg:d.guard with
   | none=>rw [hdg] at f yes;exact yes rfl f
   | some p=>
     obtain ⟨p,want⟩:=p;rw [hdg] at f yes no;have f:=(bd s f).1;split at f
     ·rename_i b e
      have e:bV tm p = .bool b:=e;split at f
      ·rename_i P
       refine yes ?_ f;simp only [dY,e];cases want<;>cases b<;>simp_all [nw]
      ·rename_i P
       refine no ?_ f;simp only [dY,e];cases want<;>cases b<;>simp_all [nw]
     ·rename_i c e
      have e:bV tm p = .tuple c:=e;exact no (by simp only [dY,e]) f
     ·exact f.elim
theorem Li:∀{c:Code} {f:DC},dF ⟨pf (),G,n⟩ c=f->∀{a:A} {h:H} {Q:Ex->A->H->Prop} {Pn:A->V->H->Prop},VQ pf G n f a h Q Pn->Sm pf G n c a h Q Pn:=by
 intro c;induction c with
 | skip=>intro f b a h Q Pn d;subst b;exact .skip d
 | label l=>intro f b a h Q Pn d;subst b;exact .label d
 | exit id=>intro f b a h Q Pn d;subst b;exact .exit d
 | ret=>intro f b a h Q Pn d;subst b;exact .ret d
 | seq c1 c2 ih1 ih2=>
   intro f b a h Q Pn d;subst b;refine .seq ((ih1 rfl d).mono λe g h' q=>?_);cases e with
   | normal=>exact ih2 rfl q
   | exit id=>exact q
   | ret=>exact q
 | cond c c1 c2 ih1 ih2=>
   intro f b a h Q Pn d;simp only [dF] at b;split at b
   ·rename_i y hy
    subst b;unfold VQ gx at d;split at d
    ·rename_i v i
     split at d
     ·exact .cond hy i (ih1 rfl d)
     ·exact .cond hy i (ih2 rfl d)
     ·exact d.elim
    ·exact d.elim
   ·subst b;exact d.elim
 | block id c ih=>
   intro f b a h Q Pn d;subst b;refine .block ((ih rfl d).mono λe g h' q=>?_);cases e with
   | normal=>exact q
   | exit id=>exact q
   | ret=>exact q
 | loop c ih=>
   intro f b a h Q Pn d;subst b;exact .loop (d.out c rfl)
 | region id ops draw=>
   intro f b a h Q Pn d;simp only [dF] at b;split at b
   ·rename_i l j
    cases draw with
    | false=>subst b;exact .ops (Lh j d)
    | true=>
      simp only at b;cases hd:jG ⟨pf (),G,n⟩ ops l with
      | draw m dl=>
        rw [hd] at b;subst b;exact (HN.out d id ops l j hd).mono λe g h' ⟨k,q⟩=>by subst k;exact q
      | stuck=>rw [hd] at b;subst b;exact d.elim
      | _=>unfold jG at hd;simp only at hd;split at hd<;>cases hd
   ·subst b;exact d.elim
 | _=>intro f b a h Q Pn d;subst b;exact d.elim
end
end Go.Dx
namespace Go.Dx
open Go Go.RowKit
variable{Px:A->V->H->Prop}{Pn:V->H->Prop}{h:H}{fn:br}{func:Func}{f:FuncId}
structure LW (pf:Unit->Program) (G:Nat) (f:FuncId) (args:List V) (h:H) (K:H->Prop):Prop where
 out:∀{B:Nat} {w0:World} {ρ:bD} {w:World} {xs:List Value},aA B w0 ρ h w->GB (pf ()) B w0 ρ G->cZ ρ args xs->
  TR (pf ()) f xs w λw'=>∃h' ρ',K h'/\Step ρ ρ' h h'/\aA B w0 ρ' h' w'
def Gl (a:T V)(h:H):List Z'->(List V->Prop)->Prop
 | [],K=>K []
 | .tmp p::r,K=>gx a (.t p) λv=>Gl a h r λvs=>K (v::vs)
 | .cell p rd::r,K=>gx a (.t p) λv=>match v with
   | .ptr l off=>VO h rd l off λv=>Gl a h r λvs=>K (v::vs)
   | _=>False
def Gm (pf:Unit->Program) (G:Nat):List (FuncId×List V)->H->(H->Prop)->Prop
 | [],h,K=>K h
 | (f,args)::ds,h,K=>LW pf G f args h λh'=>Gm pf G ds h' K
def tw (pf:Unit->Program) (G:Nat) (res:List Z') (Q:V->H->Prop):Ex->A->H->Prop
 | .exit _,_,_=>False
 | .normal,a,h=>Gm pf G a.defers h λh'=>Gl a.tmps h' res λvs=>Q (r8 vs) h'
 | .ret,a,h=>Gm pf G a.defers h λh'=>Gl a.tmps h' res λvs=>Q (r8 vs) h'
structure RW (pf:Unit->Program) (G:Nat) (f:FuncId) (args:List V) (v:V) (h:H) (K:H->Prop):Prop where
 out:∀{B:Nat} {w0:World} {ρ:bD} {w:World} {xs:List Value} {x:Value},aA B w0 ρ h w->GB (pf ()) B w0 ρ G->cZ ρ args xs->RV ρ v x->
  (callFunc f ⟨xs⟩).run (pf ()) w = .ok (.enter f ⟨xs⟩) w/\CallsD (pf ()) f ⟨xs⟩ (.panicking [{v:=x,recovered:=false}]) w λe u' w'=>∃r,e = .returned r/\settle u' = .returning/\∃h' ρ',K h'/\Step ρ ρ' h h'/\aA B w0 ρ' h' w'
def ag0 (pf:Unit->Program) (G:Nat) (res:List Z') (Q Pn:V->H->Prop) (a:A) (v:V) (h:H):Prop:=match a.defers with
 | []=>Pn v h
 | (f,args)::ds=>RW pf G f args v h λh'=>Gm pf G ds h' λh'=>Gl a.tmps h' res λvs=>Q (r8 vs) h'
def Eo:List (FuncId×List V)->Prop->Prop
 | [],p=>p
 | _::_,_=>False
def adX (res:List Z')(K:H->Prop):Ex->A->H->Prop
 | .exit _,_,_=>False
 | .normal,a,h=>Eo a.defers (Gl a.tmps h res λ_=>K h)
 | .ret,a,h=>Eo a.defers (Gl a.tmps h res λ_=>K h)
section
variable {pf:Unit->Program} {G:Nat}
theorem Jk {d tm:T V}(s:iA d tm){h:H}:∀{f:List Z'} {K:List V->Prop},Gl d h f K->∃vs,dQ h tm f=some vs/\K vs
 | [],K,a=>⟨[],rfl,a⟩
 | .tmp p::r,K,a=>by
   unfold Gl at a;have a:=(bd s a).1;obtain ⟨vs,b,c⟩:=Jk s a;exact ⟨_,by simp only [dQ,resultD,ob,b];rfl,c⟩
 | .cell p rd::r,K,a=>by
   unfold Gl at a;have a:=(bd s a).1;split at a
   ·rename_i l off e
    obtain ⟨v,h0,a⟩:=a.out;obtain ⟨vs,b,c⟩:=Jk s a;have e:bV tm p = .ptr l off:=e;exact ⟨_,by simp only [dQ,resultD,e,h0,ob,b],c⟩
   ·exact a.elim
theorem O2 {func:Func}{fn:br}{c:Code}(k:adw (pf ()) G func fn c){B:Nat}{w0:World}{tm:T V}{g:Array Value}{K:H->Prop} {Rt:Ending->World->Prop}:
  ∀{ds:List (FuncId×List V)} {es:List Deferred} {ρ:bD} {h:H} {w:World},Gm pf G ds h K->v8 ρ ds es->jx ρ func.ntmps tm g->GB (pf ()) B w0 ρ G->aA B w0 ρ h w->
  (∀h',K h'->∃vs,dQ h' tm fn.results=some vs/\∀d w' x,Step ρ d h h'->RV d (r8 vs) x->aA B w0 d h' w'->Rt (.returned x) w')->Leaves (pf ()) func g Rt es .returning w
 | [],es,ρ,h,w,hr,hd,hT,hG,R,i=>by
   cases hd;obtain ⟨vs,o,i⟩:=i h hr;obtain ⟨x,q,r⟩:=uY (C:=⟨pf (),G,func.ntmps⟩) k.results hT R o;exact ⟨x,r,i ρ w x (Step.refl _ _) q R⟩
 | (f,args)::ds,es,ρ,h,w,hr,hd,hT,hG,R,i=>by
   cases hd with
   | @cons _ e _ rZ h1 h2=>
     obtain ⟨xs,cap,l,y,t⟩:=h1;obtain ⟨n,u⟩:=LW.out hr R hG t;refine ⟨by simp,.func f,⟨cap⟩,f,⟨xs++cap⟩,l,?_,?_⟩
     ·rw [l,y]
      show (callFunc f ((⟨xs⟩:Array Value)++⟨cap⟩)).run (pf ()) w=_
      have:((⟨xs⟩:Array Value)++⟨cap⟩)=⟨xs++cap⟩:=by simp
      rw [this];exact n
     ·refine u.mono λF u' w' ⟨v,MX,z,D,d,A,s,R'⟩=>?_
      subst MX;subst z;have E:=s.ext R;refine O2 k A (h2.mono E) (hT.mono E) (hG.mono E) R' λh' p=>?_;obtain ⟨vs,a,b⟩:=i h' p;exact ⟨vs,a,λNj j x m=>b Nj j x (s.trans m)⟩
theorem CX.adY (L:(pf ()).funcs[f]? =some func)(O:qH (pf ()) G func=some fn){args:List V}(K:Nat.ble args.length fn.ntmps=true){Q:V->H->Prop}  (Y:∀a v h',Px a v h'->ag0 pf G fn.results Q Pn a v h')
  (Z:∀c,dF ⟨pf (),G,fn.ntmps⟩ c=fn.code->Sm pf G fn.ntmps c {tmps:=gk args [] .leaf,defers:=[]} h (tw pf G fn.results Q) Px):CX pf G f args h Q Pn:=by
 obtain ⟨c,k⟩:=nR O;have K:=Nat.le_of_ble_eq_true K;refine ⟨λ{B w0 ρ w xs} R C hx=>.inr ⟨iL k L _ w,?_⟩⟩;have F:=k.ntmps;have S:Sm pf G func.ntmps c {tmps:=gk args [] .leaf,defers:=[]} h (tw pf G fn.results Q) Px:=by
  have:=Z c (by rw [k.code,F])
  rwa [F] at this
 have n:∀{m:A} {A':Act} {h':H} {w':World} {g:bD} {tm:T V},iA m.tmps tm->oW g func.ntmps {tmps:=tm,defers:=m.defers} A'->Step ρ g h h'->aA B w0 g h' w'->∀{ds:List (FuncId×List V)} {es:List Deferred} {i:bD} {h2:H} {u:World},Step g i h' h2->v8 i ds es->aA B w0 i h2 u->
   Gm pf G ds h2 (λh'=>Gl m.tmps h' fn.results λvs=>Q (r8 vs) h')->Leaves (pf ()) func A'.tmps (λe w'=>(∃v,e = .returned v/\∃z h' g,Q z h'/\Step ρ g h h'/\RV g z v/\aA B w0 g h' w')\/∃v,e = .panicked [{v,recovered:=false}]/\∃z h' g,Pn z h'/\Step ρ g h h'/\RV g z v/\aA B w0 g h' w') es .returning u:=
  λ{m A' h' w' g tm} t j s R' {ds es i h2 u} o y R2 q=>O2 k q y (j.tmps.mono (o.ext R')) (C.mono ((s.trans o).ext R)) R2 λEg X=>by
   obtain ⟨vs,a,b⟩:=Jk t X;exact ⟨vs,a,λNj N x M MW R''=>.inl ⟨x,rfl,r8 vs,Eg,Nj,b,(s.trans o).trans M,MW,R''⟩⟩
 refine calls_of_wp_defers (P:=pf ()) (f:=f) (fn:=func) (c:=c) L k.body (S.out ⟨_,.refl _,Ei hx k.small (by omega),.nil⟩ C R (λe m h' q g A' w' s hA R'=>?_) λm v h' q g A' w' x s hA I R'=>?_)
 ·obtain ⟨tm,t,j⟩:=hA.out
  cases e with
  | exit id=>exact q.elim
  | normal=>exact n t j s R' (Step.refl _ _) j.defers R' q
  | ret=>exact n t j s R' (Step.refl _ _) j.defers R' q
 ·obtain ⟨tm,t,j⟩:=hA.out
  have q:=Y _ _ _ q;show Leaves (pf ()) func A'.tmps _ A'.defers (.panicking [{v:=x,recovered:=false}]) w'
  have y:=j.defers;unfold ag0 at q
  revert q y
  generalize m.defers=ds;generalize A'.defers=es;intro q y;cases y with
  | nil=>exact .inr ⟨x,rfl,v,h',g,q,s,I,R'⟩
  | @cons d e ds' rZ h1 h2=>
    obtain ⟨E,azx⟩:=d;obtain ⟨l,cap,J,t2,U⟩:=h1;obtain ⟨g1,g2⟩:=RW.out q R' (C.mono (s.ext R)) U I;refine ⟨by simp,.func E,⟨cap⟩,E,⟨l++cap⟩,J,?_,?_⟩
    ·rw [J,t2]
     show (callFunc E ((⟨l⟩:Array Value)++⟨cap⟩)).run (pf ()) w'=_
     have:((⟨l⟩:Array Value)++⟨cap⟩)=⟨l++cap⟩:=by simp
     rw [this];exact g1
    ·refine g2.mono λe' u' u ⟨r,hr,hu,h2',i,W,o,R2⟩=>?_
     subst hr;show Leaves (pf ()) func A'.tmps _ rZ (settle u') u
     rw [hu];exact n t j s R' o (h2.mono (o.ext R')) R2 W
theorem CX.enter (d:(pf ()).funcs[f]? =some func)(b:qH (pf ()) G func=some fn){args:List V}(e:Nat.ble args.length fn.ntmps=true){Q:V->H->Prop}  (g:∀a v h',Px a v h'->ag0 pf G fn.results Q Pn a v h')
  (c:VQ pf G fn.ntmps fn.code {tmps:=gk args [] .leaf,defers:=[]} h (tw pf G fn.results Q) Px):CX pf G f args h Q Pn:=
 .adY d b e g λ_ b=>Li b c
theorem CW.enter (c:(pf ()).funcs[f]? =some func)(d:qH (pf ()) G func=some fn){args:List V}(b:Nat.ble args.length fn.ntmps=true){Q:V->H->Prop}
  (a:VQ pf G fn.ntmps fn.code {tmps:=gk args [] .leaf,defers:=[]} h (tw pf G fn.results Q) λ_ _ _=>False):CW pf G f args h Q:=
 CX.enter c d b (λ_ _ _ q=>q.elim) a
theorem LW.enter (l:(pf ()).funcs[f]? =some func)(n:qH (pf ()) G func=some fn){args:List V}(i:Nat.ble args.length fn.ntmps=true){K:H->Prop}
  (j:VQ pf G fn.ntmps fn.code {tmps:=gk args [] .leaf,defers:=[]} h (adX fn.results K) λ_ _ _=>False):LW pf G f args h K:=by
 obtain ⟨c,k⟩:=nR n;have i:=Nat.le_of_ble_eq_true i;refine ⟨λ{B w0 ρ w xs} R o A=>⟨iL k l _ w,?_⟩⟩;have p:=k.ntmps;have S:Sm pf G func.ntmps c {tmps:=gk args [] .leaf,defers:=[]} h (adX fn.results K) λ_ _ _=>False:=by
  rw [k.code,p] at j;exact Li rfl j
 have Q:=callsD_of_wp (P:=pf ()) (f:=f) (fn:=func) (c:=c) (args:=⟨xs⟩) (u:=.returning) (w:=w) (R:=λe w'=>∃v,e = .returned v/\∃h' a,K h'/\Step ρ a h h'/\aA B w0 a h' w') l k.body
  (S.out ⟨_,.refl _,Ei A k.small (by omega),.nil⟩ o R (λe N h' q a A' w' s U R'=>by
   obtain ⟨tm,E,m⟩:=U.out;have L:Eo N.defers (Gl N.tmps h' fn.results λ_=>K h')->A'.defers=[]/\∃v,(results func A'.tmps).run (pf ()) w' = .ok v w'/\∃F,Ending.returned v = .returned F/\∃h' a,K h'/\Step ρ a h h'/\aA B w0 a h' w':=λq=>by
    have b:=m.defers;generalize J:N.defers=ds at q b;cases ds with
    | cons d ds=>exact q.elim
    | nil=>
      obtain ⟨vs,y,D⟩:=Jk E q;obtain ⟨v,M,r⟩:=uY (C:=⟨pf (),G,func.ntmps⟩) k.results m.tmps R' y;refine ⟨by generalize A'.defers=es at b;cases b;rfl,v,r,v,rfl,h',a,D,s,R'⟩
   cases e with
   | exit id=>exact q.elim
   | normal=>exact L q
   | ret=>exact L q) λ_ _ _ q=>q.elim)
 exact Q.mono λe u' w' ⟨I,v,t,h',a,x,s,R'⟩=>⟨v,t,I,h',a,x,s,R'⟩
end
end Go.Dx
