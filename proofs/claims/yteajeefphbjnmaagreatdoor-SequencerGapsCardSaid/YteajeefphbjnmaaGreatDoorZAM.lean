/-
  The sequencer's laws. Part ZAM of the proof: What code comes to, as a formula that is worked out from the code: a step stands still where it hangs on what is not written out.
-/
import Derived.Maps.RangeRun
import Derived.Test.YteajeefphbjnmaaGreatDoorZAL
namespace Go.Dx
open Go Go.RowKit
def gx (tp:T V)(x:X)(k:V->Prop):Prop:=match x.Vz tp with
 | some v=>k v
 | none=>False
def gxs (tp:T V):List X->(List V->Prop)->Prop
 | [],k=>k []
 | x::xs,k=>gx tp x λv=>gxs tp xs λvs=>k (v::vs)
def gxo (tp:T V)(x:Option X)(k:Option V->Prop):Prop:=match x with
 | none=>k none
 | some x=>gx tp x λv=>k (some v)
structure FlN (x:V)(K:List V->Prop):Prop where
 out:K x.cells
structure bI (pf:Unit->Program) (op:BinOp) (ek:EK) (x y:V) (K:V->Prop):Prop where
 out:∃v,binOp (oc (pf ())) op ek x y=some v/\K v
structure UnN (op:UnOp)(x:V)(K:V->Prop):Prop where
 out:∃v,unOp op x=some v/\K v
structure Zj (k:IntKind)(n:Int)(K:V->Prop):Prop where
 out:K (.int k (bR k n))
structure acJ (s:List Nat)(lo hi:Option V)(K:V->Prop):Prop where
 out:∃v,mw s lo hi=some v/\K v
structure Km (size:Nat)(x:V)(lo hi mx:Option V)(K:V->Prop):Prop where
 out:∃v,ez size x lo hi mx=some v/\K v
structure VA (size:Nat)(x i:V)(K:V->Prop):Prop where
 out:∃v,rD size x i=some v/\K v
structure asr (n size:Nat)(x i:V)(K:V->Prop):Prop where
 out:∃v,uz n size x i=some v/\K v
structure afQ (x i:V)(K:V->Prop):Prop where
 out:∃v,uA x i=some v/\K v
structure LsN (x:V)(K:V->Prop):Prop where
 out:∃v,Du x=some v/\K v
structure ajl (x:V)(K:V->Prop):Prop where
 out:∃v,uB x=some v/\K v
structure ajm (x y:V)(K:V->Prop):Prop where
 out:∃v,Xy x y=some v/\K v
structure ajn (x y:V)(K:V->Prop):Prop where
 out:∃v,Xz x y=some v/\K v
structure PdN (pf:Unit->Program) (q:PD) (tp:T V) (K:V->Prop):Prop where
 out:∀tm,gU tp tm->∃v,q.eval (dz (pf ())) tm=some v/\K v
structure uS (h:H)(q:Q)(K:V->Prop):Prop where
 out:∃v,q.ask h=some v/\K v
structure Uw (h:H)(rd:Rd)(l:Lb)(off:Nat)(K:V->Prop):Prop where
 out:∃v,Q.ask h (.load rd l off)=some v/\K v
structure RJ (h:H)(pk:PK)(z:V)(ok:Bool)(m k:V)(K:V->Prop):Prop where
 out:plainKey pk k=true/\∃v,Q.ask h (.lookup pk z ok m k)=some v/\K v
structure BsN (h:H)(x:V)(K:V->Prop):Prop where
 out:∃v,Q.ask h (.bytes x)=some v/\K v
structure StN (h:H)(n:Nat)(l:Lb)(off:Nat)(x:V)(K:H->Prop):Prop where
 out:x.cells.length=n/\∃h',eb h l off x.cells=some h'/\K h'
structure AlN (h:H)(o:Obj)(K:Lb->H->Prop):Prop where
 out:K h.next (h.add o)
structure VB (h:H)(e:TypeId)(size bytes:Nat)(s x:V)(K:V->H->Prop):Prop where
 out:∃r v h',de h size x=some r/\eH h e size bytes s r.1 r.2=some (v,h')/\K v h'
structure EdN (q:ED)(tp:T V)(h:H)(K:V->H->Prop):Prop where
 out:∀tm,gU tp tm->∃v h',q.run tm h=some (v,h')/\K v h'
structure MuN (h:H)(pk:PK)(m k x:V)(K:H->Prop):Prop where
 out:plainKey pk k=true/\∃v h',(gM h m λr es clock=>ob (JF pk k x es clock) λo=>some (undef,h.set r o))=some (v,h')/\v=undef/\K h'
structure DlN (h:H)(pk:PK)(m k:V)(K:H->Prop):Prop where
 out:plainKey pk k=true/\∃v h',(gM h m λr es clock=>ob (rE pk k es) λf=>match f with
  | some (i,_)=>some (undef,h.set r (.map (ni es i) clock))
  | none=>some (undef,h))=some (v,h')/\v=undef/\K h'
structure SbN (h:H)(e:TypeId)(x:V)(K:V->H->Prop):Prop where
 out:∃b,x = .str b/\b.length<=9223372036854775807/\K (.slice h.next 0 b.length (.toEnd 1)) (h.add (.cells (ae b) e 0 .marked))
structure MsN (h:H)(e:TypeId)(size bytes:Nat)(z:List V)(n c:V)(K:V->H->Prop):Prop where
 out:∃v h',BU h e size bytes z n c=some (v,h')/\K v h'
def azV (h:H)(e:TypeId)(size bytes:Nat)(z:List V)(s n:V):Option (V×H):=match n with
 | .int .i64 (.ofNat n)=>bN (Nat.ble n 1048576&&Nat.ble (n*bytes) bz) (eH h e size bytes s n (aG z n))
 | _=>none
structure AzN (h:H)(e:TypeId)(size bytes:Nat)(z:List V)(s n:V)(K:V->H->Prop):Prop where
 out:∃v h',azV h e size bytes z s n=some (v,h')/\K v h'
structure CpN (h:H)(size:Nat)(d s:V)(K:V->H->Prop):Prop where
 out:∃v h',copyV h size d s=some (v,h')/\K v h'
structure asy (pf:Unit->Program) (G:Nat) (r:V) (name:String) (args:List V) (h:H) (K Pn:V->H->Prop):Prop where
 out:∃t v f,r = .iface t v/\XB (pf ()) t name=some f/\CX pf G f (v::args) h K Pn
structure anw (pf:Unit->Program) (G:Nat) (fv:V) (args:List V) (h:H) (K Pn:V->H->Prop):Prop where
 out:∃f a b,fv = .func f a b/\CX pf G f (a++args++b) h K Pn
structure LoopN (pf:Unit->Program) (G n:Nat) (b:DC) (a:A) (h:H) (Q:Ex->A->H->Prop) (Pn:A->V->H->Prop):Prop where
 out:∀c,dy ⟨pf (),G,n⟩ c=b->SmL pf G n c a h Q Pn
structure Hf (pf:Unit->Program) (G n:Nat) (m:List Made) (l:List (DO×Nat×Nat)) (a:A) (h:H) (K:A->H->Prop) (Pn:A->V->H->Prop):Prop where
 out:∀id ops dl,fZ ⟨pf (),G,n⟩ ops ops.toList=some dl->jf ⟨pf (),G,n⟩ ops dl = .draw m l->Sm pf G n (.region id ops true) a h (λe a' h'=>e = .normal/\K a' h') Pn
def acK:EK->V->V->Option Bool
 | .ptr,.nilPtr,.nilPtr=>some true
 | .ptr,.nilPtr,.ptr _ _=>some false
 | .ptr,.ptr _ _,.nilPtr=>some false
 | .iface _,.nilIface,.iface _ _=>some false
 | .iface _,.iface _ _,.nilIface=>some false
 | .map,.aP,.aP=>some true
 | .map,.map _,.aP=>some false
 | .bool,.bool a,.bool b=>some (mO a b)
 | _,_,_=>none
def XS (tp:T V):List (Nat×Nat×X)->List V->(List V->Prop)->Prop
 | [],cells,K=>K cells
 | (off,size,x)::r,cells,K=>gx tp x λv=>FlN v λcs=>match Nat.beq cs.length size with
   | true=>match aX cells off cs with
     | some cells=>XS tp r cells K
     | none=>False
   | false=>False
def PY (tp:T V)(size:Nat):List (Nat×X)->List V->(List V->Prop)->Prop
 | [],cells,K=>K cells
 | (i,x)::r,cells,K=>gx tp x λv=>FlN v λcs=>match Nat.beq cs.length size with
   | true=>match aX cells (i*size) cs with
     | some cells=>PY tp size r cells K
     | none=>False
   | false=>False
def oK (o:Option V)(K:V->Prop):Prop:=match o with
 | some v=>K v
 | none=>False
def wpP (pf:Unit->Program) (tp:T V) (q:PD) (K:V->Prop):Prop:=match q with
 | .pick c a b=>gx tp c λv=>match v with
   | .bool true=>gx tp a K
   | .bool false=>gx tp b K
   | _=>False
 | .build z ps=>XS tp ps z λcs=>K (.agg cs)
 | .nilCheck x=>gx tp x λv=>match v with
   | .ptr l o=>K (.ptr l o)
   | v=>oK (uC v) K
 | .bin op ek x y=>gx tp x λa=>gx tp y λb=>match op,acK ek a b with
   | .eql,some r=>K (.bool r)
   | .neq,some r=>K (.bool (!r))
   | _,_=>bI pf op ek a b K
 | .un op x=>gx tp x λa=>match op,a with
   | .not,.bool b=>K (.bool (!b))
   | _,_=>UnN op a K
 | .toInt k x=>gx tp x λa=>match a with
   | .int _ n=>Zj k n K
   | _=>False
 | .Dp x=>gx tp x λa=>match a with
   | .str s=>K (.str s)
   | _=>False
 | .Dq t x=>gx tp x λa=>K (.iface t a)
 | .Jz f a b=>gxs tp a λa=>gxs tp b λb=>K (.func f a b)
 | .xy x lo hi=>gx tp x λa=>gxo tp lo λlo=>gxo tp hi λhi=>match a with
   | .str s=>acJ s lo hi K
   | _=>False
 | .slice size x lo hi mx=>gx tp x λa=>gxo tp lo λlo=>gxo tp hi λhi=>gxo tp mx λmx=>Km size a lo hi mx K
 | .fieldAddr o x=>gx tp x λa=>match a with
   | .ptr l off=>K (.ptr l (off+o))
   | _=>False
 | .field rd o x=>gx tp x λa=>match a with
   | .agg cs=>oK (dI rd cs o) K
   | _=>False
 | .indexAddr size x i=>gx tp x λa=>gx tp i λi=>VA size a i K
 | .kq n size x i=>gx tp x λa=>gx tp i λi=>asr n size a i K
 | .xB x i=>gx tp x λa=>gx tp i λi=>afQ a i K
 | .Ds t z ok x=>gx tp x λa=>oK (za t z ok a) K
 | .extract i x=>gx tp x λa=>oK (zd i a) K
 | .JA x=>gx tp x λa=>LsN a K
 | .xC x=>gx tp x λa=>ajl a K
 | .JB n=>K (.int .i64 (Int.ofNat n))
 | .xA n size x none none none=>gx tp x λa=>oK (uy n size a none none none) K
 | .abS x y=>gx tp x λa=>gx tp y λb=>ajm a b K
 | .abT x y=>gx tp x λa=>gx tp y λb=>ajn a b K
 | q=>PdN pf q tp K
def wpR (tp:T V)(h:H)(q:RD)(K:V->Prop):Prop:=match q with
 | .load rd x=>gx tp x λa=>match a with
   | .ptr l off=>Uw h rd l off K
   | _=>False
 | .lookup pk z ok m k=>gx tp m λm=>gx tp k λk=>RJ h pk z ok m k K
 | .bytesStr x=>gx tp x λa=>BsN h a K
 | .mapLen x=>gx tp x λa=>uS h (.mapLen a) K
 | .entry x=>gx tp x λa=>match a with
   | .ptr l off=>uS h (.entry l off) K
   | _=>False
 | .ptrUnsafe x=>gx tp x λa=>match a with
   | .ptr l off=>uS h (.row l off) K
   | _=>False
 | .unsafePtr u n x=>gx tp x λa=>match a with
   | .ptr l off=>uS h (.whole u n l off) K
   | _=>False
 | _=>False
def wpE (tp:T V)(h:H)(q:ED)(K:V->H->Prop):Prop:=match q with
 | .store n a x=>gx tp a λa=>gx tp x λx=>match a with
   | .ptr l off=>StN h n l off x λh'=>K undef h'
   | _=>False
 | .alloc t cs=>AlN h (.cells cs t 0 .yes) λl h'=>K (.ptr l 0) h'
 | .box t x=>gx tp x λx=>FlN x λcs=>AlN h (.cells cs t 0 .yes) λl h'=>K (.ptr l 0) h'
 | .buildSlice e size n cs ps=>PY tp size ps cs λcs=>AlN h (.cells cs e 0 .yes) λl h'=>K (.slice l 0 n (.exact n)) h'
 | .cI e cs n=>AlN h (.cells cs e 0 .yes) λl h'=>K (.slice l 0 n (.exact n)) h'
 | .makeMap=>AlN h (.map [] 0) λl h'=>K (.map l) h'
 | .cY e x=>gx tp x λa=>SbN h e a K
 | .append e size bytes s x=>gx tp s λs=>gx tp x λx=>VB h e size bytes s x K
 | .nf e size bytes z s n=>gx tp s λs=>gx tp n λn=>AzN h e size bytes z s n K
 | .makeSlice e size bytes z n c=>gx tp n λn=>gx tp c λc=>MsN h e size bytes z n c K
 | .copy size d s=>gx tp d λd=>gx tp s λs=>CpN h size d s K
 | .mapUpdate pk m k x=>gx tp m λm=>gx tp k λk=>gx tp x λx=>MuN h pk m k x λh'=>K undef h'
 | .delete pk m k=>gx tp m λm=>gx tp k λk=>DlN h pk m k λh'=>K undef h'
 | q=>EdN q tp h K
def acL (pf:Unit->Program) (G:Nat) (tp:T V) (h:H) (q:CD) (K Pn:V->H->Prop):Prop:=match q with
 | .func f args=>gxs tp args λvs=>CX pf G f vs h K Pn
 | .value f args=>gx tp f λfv=>gxs tp args λvs=>anw pf G fv vs h K Pn
 | .invoke r name args=>gx tp r λr=>gxs tp args λvs=>asy pf G r name vs h K Pn
def wpD (pf:Unit->Program) (G:Nat) (d:DO) (a:A) (h:H) (K:A->H->Prop) (Pn:A->V->H->Prop):Prop:=match d.op with
 | .Rm x=>gx a.tmps x λv=>K (a.put d.dst v) h
 | .p q=>wpP pf a.tmps q λv=>K (a.put d.dst v) h
 | .r q=>wpR a.tmps h q λv=>K (a.put d.dst v) h
 | .e q=>wpE a.tmps h q λv h'=>K (a.put d.dst v) h'
 | .c q=>acL pf G a.tmps h q (λv h'=>K (a.put d.dst v) h') (Pn a)
 | .defer (.func f args)=>gxs a.tmps args λvs=>K ({tmps:=a.tmps,defers:=(f,vs)::a.defers:A}.put d.dst undef) h
 | .defer (.value f args)=>gx a.tmps f λfv=>gxs a.tmps args λvs=>match fv with
   | .func f x y=>K ({tmps:=a.tmps,defers:=(f,x++vs++y)::a.defers:A}.put d.dst undef) h
   | _=>False
 | _=>False
structure NxW (h:H)(x:V)(K:V->H->Prop):Prop where
 out:∃l,x = .ptr l 0/\((∃since seen last,h.get l=some (.mapIter none since seen last)/\K (.tuple [.bool false]) h)\/(∃m since seen last es clock,h.get l=some (.mapIter (some m) since seen last)/\h.get m=some (.map es clock)/\since<=last/\
  (∀k v b,(k,v,b)∈es->b<since)/\(Dx.leftOf seen es=[]->K (.tuple [.bool false]) h)/\(∀k v b,(k,v,b)∈Dx.leftOf seen es->K (.tuple [.bool true,k,v]) (h.set l (.mapIter (some m) since (seen++[b]) clock)))))
def acM (pf:Unit->Program) (G:Nat) (d:DO) (a:A) (h:H) (K:A->H->Prop) (Pn:A->V->H->Prop):Prop:=match d.op with
 | .e (.next x)=>gx a.tmps x λv=>NxW h v λv h'=>K (a.put d.dst v) h'
 | _=>wpD pf G d a h K Pn
def wpOps (pf:Unit->Program) (G:Nat):List DO->A->H->(A->H->Prop)->(A->V->H->Prop)->Prop
 | [],a,h,K,_=>K a h
 | d::r,a,h,K,Pn=>match d.guard with
   | none=>acM pf G d a h (λa h=>wpOps pf G r a h K Pn) Pn
   | some (p,want)=>gx a.tmps (.t p) λv=>match v with
     | .bool b=>match mO b want with
       | true=>acM pf G d a h (λa h=>wpOps pf G r a h K Pn) Pn
       | false=>wpOps pf G r (a.put d.dst undef) h K Pn
     | .tuple _=>wpOps pf G r (a.put d.dst undef) h K Pn
     | _=>False
def ahL (k:A->H->Prop) (Q:Ex->A->H->Prop):Ex->A->H->Prop
 | .normal,a,h=>k a h
 | .exit i,a,h=>Q (.exit i) a h
 | .ret,a,h=>Q .ret a h
def ajq (id:Nat)(Q:Ex->A->H->Prop):Ex->A->H->Prop
 | .normal,a,h=>Q .normal a h
 | .exit i,a,h=>Q (match Nat.beq i id with | true=>.normal | false=>.exit i) a h
 | .ret,a,h=>Q .ret a h
def Uz (pf:Unit->Program) (G n:Nat):DC->A->H->(Ex->A->H->Prop)->(A->V->H->Prop)->Prop
 | .skip,a,h,Q,_=>Q .normal a h
 | .ops l,a,h,Q,Pn=>wpOps pf G l a h (λa h=>Q .normal a h) Pn
 | .draw m l,a,h,Q,Pn=>Hf pf G n m l a h (λa h=>Q .normal a h) Pn
 | .seq x y,a,h,Q,Pn=>Uz pf G n x a h (ahL (λa h=>Uz pf G n y a h Q Pn) Q) Pn
 | .cond c x y,a,h,Q,Pn=>gx a.tmps c λv=>match v with
   | .bool true=>Uz pf G n x a h Q Pn
   | .bool false=>Uz pf G n y a h Q Pn
   | _=>False
 | .block id b,a,h,Q,Pn=>Uz pf G n b a h (ajq id Q) Pn
 | .loop b,a,h,Q,Pn=>LoopN pf G n b a h Q Pn
 | .exit id,a,h,Q,_=>Q (.exit id) a h
 | .ret,a,h,Q,_=>Q .ret a h
 | .stuck,_,_,_,_=>False
end Go.Dx
namespace Go.Dx
open Go Go.RowKit
def VC:D->Bool
 | .e (.next _)=>true
 | _=>false
theorem ahM {α:Type}{x:Option α}{f:α->Option D} {d:D} (h:ob x f=some d) (k:∀v,x=some v->f v=some d->VC d=false):VC d=false:=by
 rw [ad] at h;obtain ⟨v,a,b⟩:=h;exact k v a b
theorem VD {b:Bool}{x:Option D}{d:D}(h:bN b x=some d)(k:x=some d->VC d=false):VC d=false:=by
 rw [ag] at h;exact k h.2
theorem afS {C:CE}{s t:TypeId}{x:X}{d:D}(h:ib C s t x=some d):VC d=false:=by
 unfold ib at h
 repeat' (first | (cases h;rfl) | (refine VD h λh=>?_) | split at h)
 all_goals cases h
theorem ajr {C:CE}{b:Builtin}{ts:List TypeId}{xs:List X}{d:D}(h:ia C b ts xs=some d):VC d=false:=by
 unfold ia at h
 repeat' (first | (cases h;rfl) | (refine VD h λh=>?_) | (refine ahM h λ_ _ h=>?_) | split at h)
 all_goals cases h
theorem anz {C:CE}{o:Op}{d:D}(hn:∀z,o≠.next z false) (h:aj C o=some d):VC d=false:=by
 unfold aj at h
 repeat' (first | (cases h;rfl) | exact afS h | exact ajr h | (refine VD h λh=>?_) | (refine ahM h λ_ _ h=>?_) | split at h)
 all_goals first | (cases h;done) | exact absurd rfl (hn _)
section
variable {pf:Unit->Program} {G n:Nat} {tp tm:T V}
theorem bf (s:gU tp tm){x:X}{k:V->Prop} (h:gx tp x k):k (x.ev tm)/\x.Vz tp=some (x.ev tm):=by
 unfold gx at h;split at h
 ·rename_i v hv;rw [sr s hv];exact ⟨h,hv⟩
 ·exact h.elim
theorem xV (s:gU tp tm):∀{xs:List X} {k:List V->Prop},gxs tp xs k->k (UX tm xs)
 | [],_,h=>h
 | x::xs,k,h=>by
   have:=(bf s h).1;exact xV (k:=λvs=>k (x.ev tm::vs)) s this
theorem Kn (s:gU tp tm){x:Option X}{k:Option V->Prop} (h:gxo tp x k):k (Rn tm x):=by
 cases x with
 | none=>exact h
 | some x=>exact (bf s h).1
theorem Ko {o:Option V}{K:V->Prop} (h:oK o K):∃v,o=some v/\K v:=by
 unfold oK at h;split at h
 ·exact ⟨_,rfl,h⟩
 ·exact h.elim
theorem SO (s:gU tp tm){K:List V->Prop}:∀{ps:List (Nat×Nat×X)} {cells:List V},XS tp ps cells K->∃cs,nY tm ps cells=some cs/\K cs
 | [],cells,h=>⟨cells,rfl,h⟩
 | (off,size,x)::r,cells,h=>by
   unfold XS at h;have h:=(bf s h).1.out;split at h
   ·rename_i hb
    split at h
    ·rename_i c' hc
     obtain ⟨cs,h1,h2⟩:=SO s h;exact ⟨cs,by simp only [nY,hb,bN,hc,ob];exact h1,h2⟩
    ·exact h.elim
   ·exact h.elim
theorem N' (s:gU tp tm){size:Nat}{K:List V->Prop}:∀{ps:List (Nat×X)} {cells:List V},PY tp size ps cells K->∃cs,dV tm size ps cells=some cs/\K cs
 | [],cells,h=>⟨cells,rfl,h⟩
 | (i,x)::r,cells,h=>by
   unfold PY at h;have h:=(bf s h).1.out;split at h
   ·rename_i hb
    split at h
    ·rename_i c' hc
     obtain ⟨cs,h1,h2⟩:=N' s h;exact ⟨cs,by simp only [dV,hb,bN,hc,ob];exact h1,h2⟩
    ·exact h.elim
   ·exact h.elim
theorem SP {plain:TypeId->PK} {ek:EK} {a b:V} {r:Bool} (h:acK ek a b=some r):binOp plain .eql ek a b=some (.bool r)/\binOp plain .neq ek a b=some (.bool (!r)):=by
 unfold acK at h;split at h<;>first | (cases h;constructor<;>rfl) | cases h
theorem acN (s:gU tp tm){q:PD}{K:V->Prop} (h:wpP pf tp q K):∃v,q.eval (dz (pf ())) tm=some v/\K v:=by
 cases q with
 | pick c a b=>
   simp only [wpP] at h;have h:=(bf s h).1;simp only [PD.eval];split at h
   ·rename_i e;simp only [e];exact ⟨_,rfl,(bf s h).1⟩
   ·rename_i e;simp only [e];exact ⟨_,rfl,(bf s h).1⟩
   ·exact h.elim
 | build z ps=>
   obtain ⟨cs,h1,h2⟩:=SO s h;exact ⟨_,by simp only [PD.eval,h1,ob],h2⟩
 | nilCheck x=>
   simp only [wpP] at h;have h:=(bf s h).1;simp only [PD.eval];split at h
   ·rename_i e;rw [e];exact ⟨_,rfl,h⟩
   ·exact Ko h
 | bin op ek x y=>
   simp only [wpP] at h;have h:=(bf s (bf s h).1).1;simp only [PD.eval];split at h
   ·rename_i e _;exact ⟨_,(SP e).1,h⟩
   ·rename_i e _;exact ⟨_,(SP e).2,h⟩
   ·exact h.out
 | un op x=>
   simp only [wpP] at h;have h:=(bf s h).1;simp only [PD.eval];split at h
   ·rename_i e _;rw [e];exact ⟨_,rfl,h⟩
   ·exact h.out
 | toInt k x=>
   simp only [wpP] at h;have h:=(bf s h).1;simp only [PD.eval];split at h
   ·rename_i e;rw [e];exact ⟨_,rfl,h.out⟩
   ·exact h.elim
 | Dp x=>
   simp only [wpP] at h;have h:=(bf s h).1;simp only [PD.eval];split at h
   ·rename_i e;rw [e];exact ⟨_,rfl,h⟩
   ·exact h.elim
 | Dq t x=>exact ⟨_,rfl,(bf s h).1⟩
 | Jz f a b=>exact ⟨_,rfl,xV s (xV s h)⟩
 | xy x lo hi=>
   simp only [wpP] at h;have h:=Kn s (Kn s (bf s h).1);simp only [PD.eval];split at h
   ·rename_i e;rw [e];exact h.out
   ·exact h.elim
 | slice size x lo hi mx=>exact (Kn s (Kn s (Kn s (bf s h).1))).out
 | fieldAddr o x=>
   simp only [wpP] at h;have h:=(bf s h).1;simp only [PD.eval];split at h
   ·rename_i e;rw [e];exact ⟨_,rfl,h⟩
   ·exact h.elim
 | field rd o x=>
   simp only [wpP] at h;have h:=(bf s h).1;simp only [PD.eval];split at h
   ·rename_i e;rw [e];exact Ko h
   ·exact h.elim
 | indexAddr size x i=>exact (bf s (bf s h).1).1.out
 | kq n size x i=>exact (bf s (bf s h).1).1.out
 | xB x i=>exact (bf s (bf s h).1).1.out
 | Ds t z ok x=>exact Ko (bf s h).1
 | extract i x=>exact Ko (bf s h).1
 | JA x=>exact (bf s h).1.out
 | xC x=>exact (bf s h).1.out
 | JB n=>exact ⟨_,rfl,h⟩
 | abS x y=>exact (bf s (bf s h).1).1.out
 | abT x y=>exact (bf s (bf s h).1).1.out
 | Dn x=>exact h.out tm s
 | xA n size x lo hi mx=>
   cases lo<;>cases hi<;>cases mx<;>first | exact Ko (bf s h).1 | exact h.out tm s
 | Dr rd n size x i=>exact h.out tm s
 | ux w z ok x=>exact h.out tm s
 | cap x=>exact h.out tm s
 | mq x=>exact h.out tm s
 | abU n x=>exact h.out tm s
theorem ajs (s:gU tp tm){h:H}{q:RD}{K:V->Prop} (hk:wpR tp h q K):∃Q v,q.oO tm=some Q/\Q.ask h=some v/\K v:=by
 cases q with
 | load rd x=>
   simp only [wpR] at hk;have hk:=(bf s hk).1;simp only [RD.oO];split at hk
   ·rename_i e
    obtain ⟨v,h1,h2⟩:=hk.out;rw [e];exact ⟨_,v,rfl,h1,h2⟩
   ·exact hk.elim
 | lookup pk z ok m k=>
   obtain ⟨h0,v,h1,h2⟩:=(bf s (bf s hk).1).1.out;exact ⟨_,v,by simp only [RD.oO,h0,bN],h1,h2⟩
 | bytesStr x=>
   obtain ⟨v,h1,h2⟩:=(bf s hk).1.out;exact ⟨_,v,rfl,h1,h2⟩
 | mapLen x=>
   obtain ⟨v,h1,h2⟩:=(bf s hk).1.out;exact ⟨_,v,rfl,h1,h2⟩
 | ptrUnsafe x=>
   have hk:=(bf s hk).1;simp only [RD.oO];split at hk
   ·rename_i e
    obtain ⟨v,h1,h2⟩:=hk.out;rw [e];exact ⟨_,v,rfl,h1,h2⟩
   ·exact hk.elim
 | unsafePtr u n x=>
   have hk:=(bf s hk).1;simp only [RD.oO];split at hk
   ·rename_i e
    obtain ⟨v,h1,h2⟩:=hk.out;rw [e];exact ⟨_,v,rfl,h1,h2⟩
   ·exact hk.elim
 | fresh t cs x=>exact hk.elim
 | freshS e cs n x=>exact hk.elim
 | entry x=>
   simp only [wpR] at hk;have hk:=(bf s hk).1;simp only [RD.oO];split at hk
   ·rename_i e
    obtain ⟨v,h1,h2⟩:=hk.out;rw [e];exact ⟨_,v,rfl,h1,h2⟩
   ·exact hk.elim
 | freshB e x s=>exact hk.elim
theorem acO (s:gU tp tm){h:H}{q:ED}{K:V->H->Prop} (hk:wpE tp h q K):∃v h',q.run tm h=some (v,h')/\K v h':=by
 cases q with
 | store n a x=>
   simp only [wpE] at hk;have hk:=(bf s (bf s hk).1).1;simp only [ED.run];split at hk
   ·rename_i e
    obtain ⟨h0,h',h1,h2⟩:=hk.out;rw [e];exact ⟨_,h',by simp only [h0,Nat.beq_refl,bN,h1,ob],h2⟩
   ·exact hk.elim
 | alloc t cs=>exact ⟨_,_,rfl,hk.out⟩
 | box t x=>exact ⟨_,_,rfl,(bf s hk).1.out.out⟩
 | buildSlice e size n cs ps=>
   obtain ⟨VE,h1,h2⟩:=N' s hk;exact ⟨_,_,by simp only [ED.run,h1,ob],h2.out⟩
 | cI e cs n=>exact ⟨_,_,rfl,hk.out⟩
 | makeMap=>exact ⟨_,_,rfl,hk.out⟩
 | cY e x=>
   obtain ⟨b,h0,h1,h2⟩:=(bf s hk).1.out;exact ⟨_,_,by simp only [ED.run,h0,bN,Nat.ble_eq_true_of_le h1],h2⟩
 | append e size bytes a x=>
   obtain ⟨r,v,h',h1,h2,h3⟩:=(bf s (bf s hk).1).1.out;exact ⟨v,h',by simp only [ED.run,h1,ob,h2],h3⟩
 | nf e size bytes z a n=>
   obtain ⟨v,h',h1,h2⟩:=(bf s (bf s hk).1).1.out;exact ⟨v,h',by simp only [ED.run];exact h1,h2⟩
 | makeSlice e size bytes z n c=>exact (bf s (bf s hk).1).1.out
 | copy size d a=>exact (bf s (bf s hk).1).1.out
 | mapUpdate pk m k x=>
   obtain ⟨h0,v,h',h1,rfl,h2⟩:=(bf s (bf s (bf s hk).1).1).1.out;exact ⟨_,h',by simp only [ED.run,h0,bN];exact h1,h2⟩
 | delete pk m k=>
   obtain ⟨h0,v,h',h1,rfl,h2⟩:=(bf s (bf s hk).1).1.out;exact ⟨_,h',by simp only [ED.run,h0,bN];exact h1,h2⟩
 | y' x=>exact hk.out tm s
 | mr e x n=>exact hk.out tm s
 | mapEntry pk z m k=>exact hk.out tm s
 | entryStore m a x=>exact hk.out tm s
 | Dt x=>exact hk.out tm s
 | rangeMap x=>exact hk.out tm s
 | next x=>exact hk.out tm s
 | qb x=>exact hk.out tm s
theorem Oa (s:gU tp tm){h:H}{q:CD}{K Pn:V->H->Prop} (hk:acL pf G tp h q K Pn):∃f vs,q.args (dz (pf ())) tm=some (f,vs)/\CX pf G f vs h K Pn:=by
 cases q with
 | func f args=>exact ⟨_,_,rfl,xV s hk⟩
 | value f args=>
   obtain ⟨g,a,b,e,hc⟩:=(xV s (bf s hk).1).out;exact ⟨_,_,by simp only [CD.args,e],hc⟩
 | invoke r name args=>
   obtain ⟨t,v,f,e,hm,hc⟩:=(xV s (bf s hk).1).out;exact ⟨_,_,by simp only [CD.args,e,dz,hm,ob],hc⟩
variable {B:Nat} {w0:World} {ρ:bE} {h:H} {w:World}
theorem ajt {ops:Array Oper}{o:Oper}{d:DO}(hd:gK ⟨pf (),G,n⟩ ops o=some d){a:A}{x:Act}(hA:PR ρ n a x)(hG:GB (pf ()) B w0 ρ G)(R:aA B w0 ρ h w){K:A->H->Prop} {Pn:A->V->H->Prop} (hk:wpD pf G d a h K Pn)
  {Kw:Act->World->Prop} {Qw:Exit->Act->World->Prop} (hK:∀a' h',K a' h'->∀ρ' A' w',Step ρ ρ' h h'->PR ρ' n a' A'->aA B w0 ρ' h' w'->Kw A' w') (hX:∀a' v h',Pn a' v h'->AZ B w0 n ρ h a' v h' Qw):o.wp (pf ()) x w Kw Qw:=by
 simp only [gK,ad,Option.some.injEq] at hd;obtain ⟨dst,kG,g,hg,rfl⟩:=hd;unfold Oper.wp;obtain ⟨tm,s,hT⟩:=hA.out;cases lK:aj ⟨pf (),G,n⟩ o.op with
 | none=>simp only [lK,Option.getD_none,wpD] at hk
 | some op=>
   have ok:=s5 lK;simp only [lK,Option.getD_some] at hk;cases op with
   | Rm y=>
     obtain ⟨v,hv,hr⟩:=ok hT.tmps hG.rel;have hk:=(bf s hk).1;rw [hr o rfl w,Oper.upon_value];exact hK _ _ hk ρ _ _ (Step.refl _ _) (hA.put (C:=⟨pf (),G,n⟩) kG hv) R
   | p q=>
     obtain ⟨v,hv,hk⟩:=acN s hk;obtain ⟨y,hy,hr⟩:=ok hT.tmps hG.rel v hv;rw [hr o rfl w,Oper.upon_value];exact hK _ _ hk ρ _ _ (Step.refl _ _) (hA.put (C:=⟨pf (),G,n⟩) kG hy) R
   | r q=>
     obtain ⟨q',v,hq,hv,hk⟩:=ajs s hk;obtain ⟨y,hy,hr⟩:=ok hT.tmps hG.rel q' hq v R hv;rw [hr o rfl,Oper.upon_value];exact hK _ _ hk ρ _ _ (Step.refl _ _) (hA.put (C:=⟨pf (),G,n⟩) kG hy) R
   | e q=>
     have hk:wpE a.tmps h q (λv h'=>K (a.put dst v) h'):=hk;obtain ⟨v,DG,hv,hk⟩:=acO s hk;obtain ⟨ρ',y,w',s1,s2,s3,s4⟩:=ok.eff hT.tmps hG.rel R hv;have E:=s1.ext R;rcases s4 o rfl with hr | ⟨hr,rfl⟩
     ·rw [hr,Oper.upon_value]
      exact hK _ _ hk ρ' _ _ s1 ((hA.mono E).put (C:=⟨pf (),G,n⟩) kG s2) s3
     ·rw [hr,Oper.upon_skip]
      have:=(hA.mono E).put (C:=⟨pf (),G,n⟩) kG s2;exact hK _ _ hk ρ' _ _ s1 this s3
   | c q=>
     obtain ⟨f,vs,hf,hk⟩:=Oa s hk;obtain ⟨xs,PH,hr⟩:=ok hT.tmps hG.rel hf;rw [hr o rfl w];refine (hk.out R hG PH).upon (λy w' hR=>?_) λy w' hR=>?_
     ·obtain ⟨v,h',ρ',q,s1,s2,s3⟩:=hR
      exact hK _ _ q ρ' _ _ s1 ((hA.mono (s1.ext R)).put (C:=⟨pf (),G,n⟩) kG s2) s3
     ·obtain ⟨v,h',ρ',q,s1,s2,s3⟩:=hR
      exact hX _ _ _ q ρ' _ _ _ s1 (hA.mono (s1.ext R)) s2 s3
   | defer q=>
     have key:∃f vs,q.args (dz (pf ())) tm=some (f,vs)/\K ({tmps:=a.tmps,defers:=(f,vs)::a.defers:A}.put dst undef) h:=by
      cases q with
      | func f args=>exact ⟨_,_,rfl,xV s hk⟩
      | value f args=>
        have hk:=xV s (bf s hk).1;simp only at hk;split at hk
        ·rename_i e;exact ⟨_,_,by simp only [CD.args,e],hk⟩
        ·exact hk.elim
      | invoke r name args=>exact hk.elim
     obtain ⟨f,vs,hf,hk⟩:=key;obtain ⟨e,he,hr⟩:=ok hT.tmps hG.rel hf;rw [hr o rfl w,Oper.upon_defer];have hA2:PR ρ n {tmps:=a.tmps,defers:=(f,vs)::a.defers} {x with defers:=e::x.defers}:=⟨tm,s,hT.tmps,.cons he hT.defers⟩;exact hK _ _ hk ρ _ _ (Step.refl _ _) (hA2.put (C:=⟨pf (),G,n⟩) kG (.tuple .nil)) R
   | stuck=>exact hk.elim
theorem pj.mem {es:List (V×V×Nat)}{ms:List MapEntry}(r:pj ρ es ms){e:MapEntry}(he:e∈ms):∃k v,(k,v,e.born)∈es/\RV ρ k e.key/\RV ρ v e.val:=by
 induction r with
 | nil=>cases he
 | cons hk hv hn hs ih=>
   rcases List.mem_cons.1 he with rfl | he
   ·exact ⟨_,_,by rw [hn];exact List.mem_cons_self ..,hk,hv⟩
   ·obtain ⟨k,v,h1,h2⟩:=ih he
    exact ⟨k,v,List.mem_cons_of_mem _ h1,h2⟩
theorem acP {C:CE}{o:Op}{y:X}(h:aj C o=some (.e (.next y))):∃z,o = .next z false/\aw C z=some y:=by
 by_cases hn:∃z,o = .next z false
 ·obtain ⟨z,rfl⟩:=hn
  simp only [aj,ad,Option.some.injEq] at h;obtain ⟨x,hx,h⟩:=h;cases h;exact ⟨z,rfl,hx⟩
 ·have:=anz (λz e=>hn ⟨z,e⟩) h
  cases this
theorem anA {C:CE}{y:Operand}{x:X}(hx:aw C y=some x){tm:T V}{A:Act}(hT:iU ρ C.n tm A.tmps)(hG:gv ρ C.G)(R:aA B w0 ρ h w){K:V->H->Prop} (hk:NxW h (x.ev tm) K):
  ∃v h' ρ' z w',K v h'/\Step ρ ρ' h h'/\RV ρ' v z/\aA B w0 ρ' h' w'/\∀p:Oper,p.op = .next y false->(execOp A.eval p).run C.P w = .ok (.value z) w':=by
 have r:=au hT hG hx;generalize XF:A.eval y=yv at r;obtain ⟨l,e1,hk⟩:=hk.out;rw [e1] at r;obtain ⟨b,hb,rfl⟩:=dP r;have fC:=(R.base l b hb).1;have B0:∀(p:Oper),p.op = .next y false->execOp A.eval p=(do pure (.value (<-Instr.next (.pointer (some ⟨b.block,0,none⟩)) false p.type))):=λp hp=>by
  unfold execOp;rw [hp];simp only [XF,fC]
 rcases hk with ⟨since,seen,last,hg,hk⟩ | ⟨m,since,seen,last,es,clock,hg,Y6,mD,hold,bq,bw⟩
 ·obtain ⟨_,m',h1,h2⟩:=R.obj l b _ hb hg
  simp only at h2;subst h2;refine ⟨_,h,ρ,.tuple ⟨[.bool false]⟩,w,hk,Step.refl _ _,.tuple (.cons (.bool false) .nil),R,λp hp=>?_⟩;rw [B0 p hp];have:(Instr.next (.pointer (some ⟨b.block,0,none⟩)) false p.type).run C.P w = .ok (.tuple ⟨[.bool false]⟩) w:=by
   unfold Instr.next;simp [getObj,Sem.run,h1]
  simp [this]
 ·obtain ⟨_,m',h1,c,hc,h2⟩:=R.obj l b _ hb hg
  subst h2;obtain ⟨ms,NT,lP⟩:=R.obj m c _ hc Y6;have kF:=lP.left seen;have gC:(Go.leftOf ms ⟨seen⟩).toList=ms.toList.filter λe=>!seen.contains e.born:=by
   unfold Go.leftOf;rw [Array.toList_filter];congr 1;funext e;simp
  have anB:∀x∈ms.toList,x.born<since:=λx hx=>by
   obtain ⟨k,v,q1,_⟩:=lP.mem hx;exact hold _ _ _ q1
  have key:=λty=>run_next_at (P:=C.P) w ty b.block c.block since last ⟨seen⟩ ms clock h1 NT anB mD;have asz:(Go.leftOf ms ⟨seen⟩).size=0->K (.tuple [.bool false]) h:=λhs=>bq (by
   rw [<-gC] at kF;have:(Go.leftOf ms ⟨seen⟩).toList=[]:=by
    have:(Go.leftOf ms ⟨seen⟩).toList.length=0:=by simpa using hs
    exact List.eq_nil_of_length_eq_zero this
   rw [this] at kF;generalize Dx.leftOf seen es=L at kF;cases kF;rfl)
  rcases key 0 with ⟨hs,hr⟩ | ⟨e,he,w1,aM,hr⟩
  ·refine ⟨_,h,ρ,.tuple #[.bool false],w,asz hs,Step.refl _ _,.tuple (.cons (.bool false) .nil),R,λp hp=>?_⟩
   rw [B0 p hp];have:(Instr.next (.pointer (some ⟨b.block,0,none⟩)) false p.type).run C.P w = .ok (.tuple #[.bool false]) w:=hr;simp [this]
  ·rw [gC,<-gC] at he
   rw [<-gC] at kF;obtain ⟨k,v,q1,rk,rv⟩:=kF.mem he;have R1:aA B w0 ρ h w1:=by rcases aM with rfl | rfl;exact R;exact R.drew
   have R2:=R1.setObj (p:=.mapIter (some m) since (seen++[e.born]) clock) (x:=.mapIter (some c.block) since ((⟨seen⟩:Array Nat).push e.born) clock) hb hg rfl λw' cG=>⟨fC,some c.block,by rw [cG];simp,c,hc,rfl⟩;refine ⟨_,_,ρ,.tuple #[.bool true,e.key,e.val],_,bw k v e.born q1,Step.same rfl,.tuple (.cons (.bool true) (.cons rk (.cons rv .nil))),R2,λp hp=>?_⟩;rw [B0 p hp];have:(Instr.next (.pointer (some ⟨b.block,0,none⟩)) false p.type).run C.P w = .ok (.tuple #[.bool true,e.key,e.val]) (ChangeMaps.setBlock w1 b.block (.mapIter (some c.block) since ((⟨seen⟩:Array Nat).push e.born) clock)):=hr;simp [this,ChangeMaps.setBlock]
theorem afT {ops:Array Oper}{o:Oper}{d:DO}(hd:gK ⟨pf (),G,n⟩ ops o=some d){a:A}{x:Act}(hA:PR ρ n a x)(hG:GB (pf ()) B w0 ρ G)(R:aA B w0 ρ h w){K:A->H->Prop} {Pn:A->V->H->Prop} (hk:acM pf G d a h K Pn)
  {Kw:Act->World->Prop} {Qw:Exit->Act->World->Prop} (hK:∀a' h',K a' h'->∀ρ' A' w',Step ρ ρ' h h'->PR ρ' n a' A'->aA B w0 ρ' h' w'->Kw A' w') (hX:∀a' v h',Pn a' v h'->AZ B w0 n ρ h a' v h' Qw):o.wp (pf ()) x w Kw Qw:=by
 unfold acM at hk;split at hk
 ·rename_i y lK
  have Sf:=hd;simp only [gK,ad,Option.some.injEq] at Sf;obtain ⟨dst,kG,g,hg,rfl⟩:=Sf;obtain ⟨tm,s,hT⟩:=hA.out;have hk:=(bf s hk).1;have lK:(aj ⟨pf (),G,n⟩ o.op).getD .stuck = .e (.next y):=lK;have asA:∃z,o.op = .next z false/\aw ⟨pf (),G,n⟩ z=some y:=by
   cases h0:aj ⟨pf (),G,n⟩ o.op with
   | none=>rw [h0] at lK;cases lK
   | some q=>
     rw [h0] at lK;simp only [Option.getD_some] at lK;subst lK;exact acP h0
  obtain ⟨z,hz,hcx⟩:=asA;obtain ⟨v,h',ρ',u,w',q,s1,s2,s3,s4⟩:=anA (C:=⟨pf (),G,n⟩) hcx hT.tmps hG.rel R hk;unfold Oper.wp;rw [s4 o hz,Oper.upon_value];exact hK _ _ q ρ' _ _ s1 ((hA.mono (s1.ext R)).put (C:=⟨pf (),G,n⟩) kG s2) s3
 ·exact ajt hd hA hG R hk hK hX
theorem Kp {ops:Array Oper}:∀{l:List Oper} {dl:List DO},fZ ⟨pf (),G,n⟩ ops l=some dl->∀{a:A} {h:H} {K:A->H->Prop} {Pn:A->V->H->Prop},wpOps pf G dl a h K Pn->SmO pf G n ops l a h K Pn
 | [],dl,hc,a,h,K,Pn,hk=>by
   simp only [fZ,Option.some.injEq] at hc;subst hc;exact ⟨λ{B w0 ρ w x Qw} hA hG R k _=>k a h hk ρ x w (Step.refl _ _) hA R⟩
 | o::l,dl,hc,a,h,K,Pn,hk=>by
   simp only [fZ,ad,Option.some.injEq] at hc;obtain ⟨d,hd,ds,PI,rfl⟩:=hc;refine ⟨λ{B w0 ρ w x Qw} hA hG R k kx=>?_⟩;have Sf:=hd;simp only [gK,ad,Option.some.injEq] at Sf;obtain ⟨dst,kG,g,hg,xP⟩:=Sf;obtain ⟨tm,s,hT⟩:=hA.out;have hw:=xO (C:=⟨pf (),G,n⟩) hg hT.tmps;have hgd:d.guard=g:=by rw [<-xP]
   have acq:d.dst=dst:=by rw [<-xP]
   simp only [wpList];have yes:dS tm g=true->acM pf G d a h (λa h=>wpOps pf G ds a h K Pn) Pn->(if Region.wanted o (yielded ops x.tmps)=true then o.wp (pf ()) x w (wpList (pf ()) ops Qw l) Qw\/(o.asks (pf ()) x w/\LetsOut Qw) else wpList (pf ()) ops Qw l (x.put o.dst Go.undef) w):=λh1 h2=>by
    rw [if_pos (hw.trans h1)];refine .inl (afT hd hA hG R h2 (λa' h' q ρ' A' w' s' hA' R'=>?_) kx);exact (Kp PI q).out hA' (hG.mono (s'.ext R)) R' (λa'' DG q'=>(k a'' DG q').trans s') λa'' v DG q'=>(kx a'' v DG q').trans s'
   have no:dS tm g=false->wpOps pf G ds (a.put d.dst undef) h K Pn->(if Region.wanted o (yielded ops x.tmps)=true then o.wp (pf ()) x w (wpList (pf ()) ops Qw l) Qw\/(o.asks (pf ()) x w/\LetsOut Qw) else wpList (pf ()) ops Qw l (x.put o.dst Go.undef) w):=λh1 h2=>by
    rw [if_neg (by rw [hw,h1];exact Bool.false_ne_true)];rw [acq] at h2;exact (Kp PI h2).out (hA.put (C:=⟨pf (),G,n⟩) kG (.tuple .nil)) hG R k kx
   rw [<-hgd] at yes no;simp only [wpOps] at hk;cases hdg:d.guard with
   | none=>rw [hdg] at hk yes;exact yes rfl hk
   | some p=>
     obtain ⟨p,want⟩:=p;rw [hdg] at hk yes no;have hk:=(bf s hk).1;split at hk
     ·rename_i b e
      have e:bS tm p = .bool b:=e;split at hk
      ·rename_i hb
       refine yes ?_ hk;simp only [dS,e];cases want<;>cases b<;>simp_all [mO]
      ·rename_i hb
       refine no ?_ hk;simp only [dS,e];cases want<;>cases b<;>simp_all [mO]
     ·rename_i c e
      have e:bS tm p = .tuple c:=e;exact no (by simp only [dS,e]) hk
     ·exact hk.elim
theorem Kq:∀{c:Code} {dc:DC},dy ⟨pf (),G,n⟩ c=dc->∀{a:A} {h:H} {Q:Ex->A->H->Prop} {Pn:A->V->H->Prop},Uz pf G n dc a h Q Pn->Sm pf G n c a h Q Pn:=by
 intro c;induction c with
 | skip=>intro dc hc a h Q Pn hk;subst hc;exact .skip hk
 | label l=>intro dc hc a h Q Pn hk;subst hc;exact .label hk
 | exit id=>intro dc hc a h Q Pn hk;subst hc;exact .exit hk
 | ret=>intro dc hc a h Q Pn hk;subst hc;exact .ret hk
 | seq c1 c2 ih1 ih2=>
   intro dc hc a h Q Pn hk;subst hc;refine .seq ((ih1 rfl hk).mono λe a' h' q=>?_);cases e with
   | normal=>exact ih2 rfl q
   | exit id=>exact q
   | ret=>exact q
 | cond c c1 c2 ih1 ih2=>
   intro dc hc a h Q Pn hk;simp only [dy] at hc;split at hc
   ·rename_i y hy
    subst hc;unfold Uz gx at hk;split at hk
    ·rename_i v hv
     split at hk
     ·exact .cond hy hv (ih1 rfl hk)
     ·exact .cond hy hv (ih2 rfl hk)
     ·exact hk.elim
    ·exact hk.elim
   ·subst hc;exact hk.elim
 | block id c ih=>
   intro dc hc a h Q Pn hk;subst hc;refine .block ((ih rfl hk).mono λe a' h' q=>?_);cases e with
   | normal=>exact q
   | exit id=>exact q
   | ret=>exact q
 | loop c ih=>
   intro dc hc a h Q Pn hk;subst hc;exact .loop (hk.out c rfl)
 | region id ops draw=>
   intro dc hc a h Q Pn hk;simp only [dy] at hc;split at hc
   ·rename_i l hl
    cases draw with
    | false=>subst hc;exact .ops (Kp hl hk)
    | true=>
      simp only at hc;cases hd:jf ⟨pf (),G,n⟩ ops l with
      | draw m dl=>
        rw [hd] at hc;subst hc;exact (Hf.out hk id ops l hl hd).mono λe a' h' ⟨e',q⟩=>by subst e';exact q
      | stuck=>rw [hd] at hc;subst hc;exact hk.elim
      | _=>unfold jf at hd;simp only at hd;split at hd<;>cases hd
   ·subst hc;exact hk.elim
 | _=>intro dc hc a h Q Pn hk;subst hc;exact hk.elim
end
end Go.Dx
namespace Go.Dx
open Go Go.RowKit
structure LW (pf:Unit->Program) (G:Nat) (f:FuncId) (args:List V) (h:H) (K:H->Prop):Prop where
 out:∀{B:Nat} {w0:World} {ρ:bE} {w:World} {xs:List Value},aA B w0 ρ h w->GB (pf ()) B w0 ρ G->cU ρ args xs->
  Sx (pf ()) f xs w λw'=>∃h' ρ',K h'/\Step ρ ρ' h h'/\aA B w0 ρ' h' w'
def FL (tp:T V)(h:H):List YU->(List V->Prop)->Prop
 | [],K=>K []
 | .tmp p::r,K=>gx tp (.t p) λv=>FL tp h r λvs=>K (v::vs)
 | .cell p rd::r,K=>gx tp (.t p) λv=>match v with
   | .ptr l off=>Uw h rd l off λv=>FL tp h r λvs=>K (v::vs)
   | _=>False
def FM (pf:Unit->Program) (G:Nat):List (FuncId×List V)->H->(H->Prop)->Prop
 | [],h,K=>K h
 | (f,args)::ds,h,K=>LW pf G f args h λh'=>FM pf G ds h' K
def pW (pf:Unit->Program) (G:Nat) (res:List YU) (Q:V->H->Prop):Ex->A->H->Prop
 | .exit _,_,_=>False
 | .normal,a,h=>FM pf G a.defers h λh'=>FL a.tmps h' res λvs=>Q (rF vs) h'
 | .ret,a,h=>FM pf G a.defers h λh'=>FL a.tmps h' res λvs=>Q (rF vs) h'
structure RW (pf:Unit->Program) (G:Nat) (f:FuncId) (args:List V) (v:V) (h:H) (K:H->Prop):Prop where
 out:∀{B:Nat} {w0:World} {ρ:bE} {w:World} {xs:List Value} {x:Value},aA B w0 ρ h w->GB (pf ()) B w0 ρ G->cU ρ args xs->RV ρ v x->
  (callFunc f ⟨xs⟩).run (pf ()) w = .ok (.enter f ⟨xs⟩) w/\CallsD (pf ()) f ⟨xs⟩ (.panicking [{v:=x,recovered:=false}]) w λe u' w'=>∃r,e = .returned r/\settle u' = .returning/\∃h' ρ',K h'/\Step ρ ρ' h h'/\aA B w0 ρ' h' w'
def afU (pf:Unit->Program) (G:Nat) (res:List YU) (Q Pn:V->H->Prop) (a:A) (v:V) (h:H):Prop:=match a.defers with
 | []=>Pn v h
 | (f,args)::ds=>RW pf G f args v h λh'=>FM pf G ds h' λh'=>FL a.tmps h' res λvs=>Q (rF vs) h'
def DS:List (FuncId×List V)->Prop->Prop
 | [],p=>p
 | _::_,_=>False
def acQ (res:List YU)(K:H->Prop):Ex->A->H->Prop
 | .exit _,_,_=>False
 | .normal,a,h=>DS a.defers (FL a.tmps h res λ_=>K h)
 | .ret,a,h=>DS a.defers (FL a.tmps h res λ_=>K h)
section
variable {pf:Unit->Program} {G:Nat}
theorem IH {tp tm:T V}(s:gU tp tm){h:H}:∀{rs:List YU} {K:List V->Prop},FL tp h rs K->∃vs,dK h tm rs=some vs/\K vs
 | [],K,hk=>⟨[],rfl,hk⟩
 | .tmp p::r,K,hk=>by
   unfold FL at hk;have hk:=(bf s hk).1;obtain ⟨vs,h1,h2⟩:=IH s hk;exact ⟨_,by simp only [dK,resultD,ob,h1];rfl,h2⟩
 | .cell p rd::r,K,hk=>by
   unfold FL at hk;have hk:=(bf s hk).1;split at hk
   ·rename_i l off e
    obtain ⟨v,h0,hk⟩:=hk.out;obtain ⟨vs,h1,h2⟩:=IH s hk;have e:bS tm p = .ptr l off:=e;exact ⟨_,by simp only [dK,resultD,e,h0,ob,h1],h2⟩
   ·exact hk.elim
theorem Ob {func:Func}{fn:bC}{c:Code}(k:acs (pf ()) G func fn c){B:Nat}{w0:World}{tm:T V}{tmps:Array Value}{K:H->Prop} {Rt:Ending->World->Prop}:
  ∀{ds:List (FuncId×List V)} {es:List Deferred} {ρ:bE} {h:H} {w:World},FM pf G ds h K->vV ρ ds es->iU ρ func.ntmps tm tmps->GB (pf ()) B w0 ρ G->aA B w0 ρ h w->
  (∀h',K h'->∃vs,dK h' tm fn.results=some vs/\∀ρ' w' x,Step ρ ρ' h h'->RV ρ' (rF vs) x->aA B w0 ρ' h' w'->Rt (.returned x) w')->Leaves (pf ()) func tmps Rt es .returning w
 | [],es,ρ,h,w,hr,hd,hT,hG,R,hq=>by
   cases hd;obtain ⟨vs,hv,hq⟩:=hq h hr;obtain ⟨x,x1,x2⟩:=uN (C:=⟨pf (),G,func.ntmps⟩) k.results hT R hv;exact ⟨x,x2,hq ρ w x (Step.refl _ _) x1 R⟩
 | (f,args)::ds,es,ρ,h,w,hr,hd,hT,hG,R,hq=>by
   cases hd with
   | @cons _ e _ se h1 h2=>
     obtain ⟨xs,cap,t1,t2,t3⟩:=h1;obtain ⟨g1,g2⟩:=LW.out hr R hG t3;refine ⟨by simp,.func f,⟨cap⟩,f,⟨xs++cap⟩,t1,?_,?_⟩
     ·rw [t1,t2]
      show (callFunc f ((⟨xs⟩:Array Value)++⟨cap⟩)).run (pf ()) w=_
      have:((⟨xs⟩:Array Value)++⟨cap⟩)=⟨xs++cap⟩:=by simp
      rw [this];exact g1
     ·refine g2.mono λe' u' w' ⟨v,Me,hu,h1',ρ',hK,s,R'⟩=>?_
      subst Me;subst hu;have E:=s.ext R;refine Ob k hK (h2.mono E) (hT.mono E) (hG.mono E) R' λh' hh=>?_;obtain ⟨vs,a,b⟩:=hq h' hh;exact ⟨vs,a,λMr w'' x s'=>b Mr w'' x (s.trans s')⟩
theorem CX.acR {f:FuncId}{func:Func}{fn:bC}(hf:(pf ()).funcs[f]? =some func)(hc:qg (pf ()) G func=some fn){args:List V}(hl:Nat.ble args.length fn.ntmps=true){h:H}{Q Pn:V->H->Prop} {Px:A->V->H->Prop} (hP:∀a v h',Px a v h'->afU pf G fn.results Q Pn a v h')
  (hk:∀c,dy ⟨pf (),G,fn.ntmps⟩ c=fn.code->Sm pf G fn.ntmps c {tmps:=fY args [] .leaf,defers:=[]} h (pW pf G fn.results Q) Px):CX pf G f args h Q Pn:=by
 obtain ⟨c,k⟩:=nt hc;have hl:=Nat.le_of_ble_eq_true hl;refine ⟨λ{B w0 ρ w xs} R hG hx=>.inr ⟨ie k hf _ w,?_⟩⟩;have hn:=k.ntmps;have S:Sm pf G func.ntmps c {tmps:=fY args [] .leaf,defers:=[]} h (pW pf G fn.results Q) Px:=by
  have:=hk c (by rw [k.code,hn])
  rwa [hn] at this
 have fin:∀{a':A} {A':Act} {h':H} {w':World} {ρ':bE} {tm:T V},gU a'.tmps tm->oj ρ' func.ntmps {tmps:=tm,defers:=a'.defers} A'->Step ρ ρ' h h'->aA B w0 ρ' h' w'->∀{ds:List (FuncId×List V)} {es:List Deferred} {ρ2:bE} {h2:H} {w2:World},Step ρ' ρ2 h' h2->vV ρ2 ds es->aA B w0 ρ2 h2 w2->
   FM pf G ds h2 (λh'=>FL a'.tmps h' fn.results λvs=>Q (rF vs) h')->Leaves (pf ()) func A'.tmps (λe w'=>(∃v,e = .returned v/\∃v' h' ρ',Q v' h'/\Step ρ ρ' h h'/\RV ρ' v' v/\aA B w0 ρ' h' w')\/∃v,e = .panicked [{v,recovered:=false}]/\∃v' h' ρ',Pn v' h'/\Step ρ ρ' h h'/\RV ρ' v' v/\aA B w0 ρ' h' w') es .returning w2:=
  λ{a' A' h' w' ρ' tm} st hT s R' {ds es ρ2 h2 w2} s2 hd R2 q=>Ob k q hd (hT.tmps.mono (s2.ext R')) (hG.mono ((s.trans s2).ext R)) R2 λDG hh=>by
   obtain ⟨vs,a,b⟩:=IH st hh;exact ⟨vs,a,λMr w'' x s' Df R''=>.inl ⟨x,rfl,rF vs,DG,Mr,b,(s.trans s2).trans s',Df,R''⟩⟩
 refine calls_of_wp_defers (P:=pf ()) (f:=f) (fn:=func) (c:=c) hf k.body (S.out ⟨_,.refl _,DJ hx k.small (by omega),.nil⟩ hG R (λe a' h' q ρ' A' w' s hA R'=>?_) λa' v h' q ρ' A' w' x s hA hv R'=>?_)
 ·obtain ⟨tm,st,hT⟩:=hA.out
  cases e with
  | exit id=>exact q.elim
  | normal=>exact fin st hT s R' (Step.refl _ _) hT.defers R' q
  | ret=>exact fin st hT s R' (Step.refl _ _) hT.defers R' q
 ·obtain ⟨tm,st,hT⟩:=hA.out
  have q:=hP _ _ _ q;show Leaves (pf ()) func A'.tmps _ A'.defers (.panicking [{v:=x,recovered:=false}]) w'
  have hd:=hT.defers;unfold afU at q
  revert q hd
  generalize a'.defers=ds;generalize A'.defers=es;intro q hd;cases hd with
  | nil=>exact .inr ⟨x,rfl,v,h',ρ',q,s,hv,R'⟩
  | @cons d e ds' se h1 h2=>
    obtain ⟨f',axX⟩:=d;obtain ⟨xs',cap,t1,t2,t3⟩:=h1;obtain ⟨g1,g2⟩:=RW.out q R' (hG.mono (s.ext R)) t3 hv;refine ⟨by simp,.func f',⟨cap⟩,f',⟨xs'++cap⟩,t1,?_,?_⟩
    ·rw [t1,t2]
     show (callFunc f' ((⟨xs'⟩:Array Value)++⟨cap⟩)).run (pf ()) w'=_
     have:((⟨xs'⟩:Array Value)++⟨cap⟩)=⟨xs'++cap⟩:=by simp
     rw [this];exact g1
    ·refine g2.mono λe' u' w2 ⟨r,hr,hu,h2',ρ2,hK,s2,R2⟩=>?_
     subst hr;show Leaves (pf ()) func A'.tmps _ se (settle u') w2
     rw [hu];exact fin st hT s R' s2 (h2.mono (s2.ext R')) R2 hK
theorem CX.enter {f:FuncId}{func:Func}{fn:bC}(hf:(pf ()).funcs[f]? =some func)(hc:qg (pf ()) G func=some fn){args:List V}(hl:Nat.ble args.length fn.ntmps=true){h:H}{Q Pn:V->H->Prop} {Px:A->V->H->Prop} (hP:∀a v h',Px a v h'->afU pf G fn.results Q Pn a v h')
  (hk:Uz pf G fn.ntmps fn.code {tmps:=fY args [] .leaf,defers:=[]} h (pW pf G fn.results Q) Px):CX pf G f args h Q Pn:=
 .acR hf hc hl hP λ_ hc=>Kq hc hk
theorem CW.enter {f:FuncId}{func:Func}{fn:bC}(hf:(pf ()).funcs[f]? =some func)(hc:qg (pf ()) G func=some fn){args:List V}(hl:Nat.ble args.length fn.ntmps=true){h:H}{Q:V->H->Prop}
  (hk:Uz pf G fn.ntmps fn.code {tmps:=fY args [] .leaf,defers:=[]} h (pW pf G fn.results Q) λ_ _ _=>False):CW pf G f args h Q:=
 CX.enter hf hc hl (λ_ _ _ q=>q.elim) hk
theorem LW.enter {f:FuncId}{func:Func}{fn:bC}(hf:(pf ()).funcs[f]? =some func)(hc:qg (pf ()) G func=some fn){args:List V}(hl:Nat.ble args.length fn.ntmps=true){h:H}{K:H->Prop}
  (hk:Uz pf G fn.ntmps fn.code {tmps:=fY args [] .leaf,defers:=[]} h (acQ fn.results K) λ_ _ _=>False):LW pf G f args h K:=by
 obtain ⟨c,k⟩:=nt hc;have hl:=Nat.le_of_ble_eq_true hl;refine ⟨λ{B w0 ρ w xs} R hG hx=>⟨ie k hf _ w,?_⟩⟩;have hn:=k.ntmps;have S:Sm pf G func.ntmps c {tmps:=fY args [] .leaf,defers:=[]} h (acQ fn.results K) λ_ _ _=>False:=by
  rw [k.code,hn] at hk;exact Kq rfl hk
 have Q:=callsD_of_wp (P:=pf ()) (f:=f) (fn:=func) (c:=c) (args:=⟨xs⟩) (u:=.returning) (w:=w) (R:=λe w'=>∃v,e = .returned v/\∃h' ρ',K h'/\Step ρ ρ' h h'/\aA B w0 ρ' h' w') hf k.body
  (S.out ⟨_,.refl _,DJ hx k.small (by omega),.nil⟩ hG R (λe a' h' q ρ' A' w' s hA R'=>by
   obtain ⟨tm,st,hT⟩:=hA.out;have L:DS a'.defers (FL a'.tmps h' fn.results λ_=>K h')->A'.defers=[]/\∃v,(results func A'.tmps).run (pf ()) w' = .ok v w'/\∃v',Ending.returned v = .returned v'/\∃h' ρ',K h'/\Step ρ ρ' h h'/\aA B w0 ρ' h' w':=λq=>by
    have hd:=hT.defers;generalize he:a'.defers=ds at q hd;cases ds with
    | cons d ds=>exact q.elim
    | nil=>
      obtain ⟨vs,h1,h2⟩:=IH st q;obtain ⟨v,v1,v2⟩:=uN (C:=⟨pf (),G,func.ntmps⟩) k.results hT.tmps R' h1;refine ⟨by generalize A'.defers=es at hd;cases hd;rfl,v,v2,v,rfl,h',ρ',h2,s,R'⟩
   cases e with
   | exit id=>exact q.elim
   | normal=>exact L q
   | ret=>exact L q) λ_ _ _ q=>q.elim)
 exact Q.mono λe u' w' ⟨hu,v,hv,h',ρ',hK,s,R'⟩=>⟨v,hv,hu,h',ρ',hK,s,R'⟩
end
end Go.Dx
