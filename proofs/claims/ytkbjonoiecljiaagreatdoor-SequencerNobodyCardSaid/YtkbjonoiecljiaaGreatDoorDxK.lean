/-
  The deterministic machine once more, in words that the kernel works off fast (recursors, tables of constants): each equals the plain one.
-/
import Derived.Test.YtkbjonoiecljiaaGreatDoorDxExt
namespace Go.Dx
open Go
namespace K

noncomputable section

def obK {α β : Type} (x : Option α) (f : α → Option β) : Option β := Option.rec (motive := fun _ => Option β) none f x
def chkK {β : Type} (b : Bool) (k : Option β) : Option β := Bool.rec (motive := fun _ => Option β) none k b

def getRow {α : Type} (_l : T α) (v : Option α) (_r : T α) (ihl ihr : Lb → Option α) (p : Lb) : Option α :=
  List.rec (motive := fun _ => Option α) v (fun b p' _ => Bool.rec (motive := fun _ => Option α) (ihl p') (ihr p') b) p
def getK {α : Type} (t : T α) : Lb → Option α := T.rec (motive := fun _ => Lb → Option α) (fun _ => none) getRow t

def setLeafK {α : Type} (p : Lb) (x : Option α) : T α :=
  List.rec (motive := fun _ => T α) (.node .leaf x .leaf) (fun b _ ih => Bool.rec (motive := fun _ => T α) (.node ih none .leaf) (.node .leaf none ih) b) p
def setRow {α : Type} (l : T α) (v : Option α) (r : T α) (ihl ihr : Lb → Option α → T α) (p : Lb) (x : Option α) : T α :=
  List.rec (motive := fun _ => T α) (.node l x r) (fun b p' _ => Bool.rec (motive := fun _ => T α) (.node (ihl p' x) v r) (.node l v (ihr p' x)) b) p
def setK {α : Type} (t : T α) : Lb → Option α → T α := T.rec (motive := fun _ => Lb → Option α → T α) setLeafK setRow t

theorem getK_eq {α : Type} (t : T α) : ∀ p, getK t p = t.get p := by
  induction t with
  | leaf => intro p; rfl
  | node l v r ihl ihr =>
    intro p
    cases p with
    | nil => rfl
    | cons b p => cases b
                  · exact ihl p
                  · exact ihr p

theorem setLeafK_eq {α : Type} (x : Option α) : ∀ p, setLeafK p x = T.set (.leaf : T α) p x := by
  intro p
  induction p with
  | nil => rfl
  | cons b p ih => cases b <;> (simp only [T.set, ← ih]; rfl)

theorem setK_eq {α : Type} (t : T α) : ∀ p x, setK t p x = t.set p x := by
  induction t with
  | leaf => intro p x; exact setLeafK_eq x p
  | node l v r ihl ihr =>
    intro p x
    cases p with
    | nil => rfl
    | cons b p => cases b
                  · simp only [T.set, ← ihl]; rfl
                  · simp only [T.set, ← ihr]; rfl

def getTK (tm : T V) (p : Lb) : V := Option.rec (motive := fun _ => V) undef (fun v => v) (getK tm p)
def evK (x : X) (tm : T V) : V := X.rec (motive := fun _ => T V → V) (fun p tm => getTK tm p) (fun v _ => v) x tm
def evsK (l : List X) (tm : T V) : List V := List.rec (motive := fun _ => T V → List V) (fun _ => []) (fun x _ ih tm => evK x tm :: ih tm) l tm

theorem getTK_eq (tm : T V) (p : Lb) : getTK tm p = getT tm p := by
  unfold getTK getT; rw [getK_eq]; cases tm.get p <;> rfl
theorem evK_eq (x : X) (tm : T V) : evK x tm = x.ev tm := by
  cases x with
  | t p => exact getTK_eq tm p
  | c v => rfl
theorem evsK_eq (l : List X) (tm : T V) : evsK l tm = evs tm l := by
  induction l with
  | nil => rfl
  | cons x l ih => simp only [evs, ← ih, ← evK_eq]; rfl

def evoK (x : Option X) (tm : T V) : Option V := Option.rec (motive := fun _ => T V → Option V) (fun _ => none) (fun x tm => some (evK x tm)) x tm
theorem evoK_eq (x : Option X) (tm : T V) : evoK x tm = evo tm x := by
  cases x with
  | none => rfl
  | some x => simp only [evo, ← evK_eq]; rfl

/-! ### what hangs on operands alone -/

def isTrue (v : V) : Option Bool := match v with
  | .bool b => some b
  | _ => none

def pPick (c a b : X) (_ : Env) (tm : T V) : Option V := obK (isTrue (evK c tm)) fun x => Bool.rec (motive := fun _ => Option V) (some (evK b tm)) (some (evK a tm)) x
def pBuild (z : List V) (ps : List (Nat × Nat × X)) (_ : Env) (tm : T V) : Option V := obK (fillIn tm ps z) fun cs => some (.agg cs)
def pNil (x : X) (_ : Env) (tm : T V) : Option V := nilCheckOp (evK x tm)
def pBin (op : BinOp) (ek : EK) (x y : X) (E : Env) (tm : T V) : Option V := binOp E.plain op ek (evK x tm) (evK y tm)
def pUn (op : UnOp) (x : X) (_ : Env) (tm : T V) : Option V := unOp op (evK x tm)
def pToInt (k : IntKind) (x : X) (_ : Env) (tm : T V) : Option V := match evK x tm with
  | .int _ n => some (.int k (wrapD k n))
  | _ => none
def pRune (x : X) (_ : Env) (tm : T V) : Option V := match evK x tm with
  | .int _ n => some (.str ((Utf8.encode n).data.toList.map (·.toNat)))
  | _ => none
def pStrSame (x : X) (_ : Env) (tm : T V) : Option V := strSameOp (evK x tm)
def pIface (t : TypeId) (x : X) (_ : Env) (tm : T V) : Option V := some (.iface t (evK x tm))
def pFunc (f : FuncId) (a b : List X) (_ : Env) (tm : T V) : Option V := some (.func f (evsK a tm) (evsK b tm))
def pSliceStr (x : X) (lo hi : Option X) (_ : Env) (tm : T V) : Option V := match evK x tm with
  | .str s => sliceStrOp s (evoK lo tm) (evoK hi tm)
  | _ => none
def pSlice (size : Nat) (x : X) (lo hi mx : Option X) (_ : Env) (tm : T V) : Option V := sliceOp size (evK x tm) (evoK lo tm) (evoK hi tm) (evoK mx tm)
def pSliceArr (n size : Nat) (x : X) (lo hi mx : Option X) (_ : Env) (tm : T V) : Option V := sliceArrOp n size (evK x tm) (evoK lo tm) (evoK hi tm) (evoK mx tm)
def pFieldAddr (o : Nat) (x : X) (_ : Env) (tm : T V) : Option V := match evK x tm with
  | .ptr a off => some (.ptr a (off + o))
  | _ => none
def pField (rd : Rd) (o : Nat) (x : X) (_ : Env) (tm : T V) : Option V := match evK x tm with
  | .agg cs => rdPart rd cs o
  | _ => none
def pIndexAddr (size : Nat) (x i : X) (_ : Env) (tm : T V) : Option V := indexAddrOp size (evK x tm) (evK i tm)
def pIndexArr (n size : Nat) (x i : X) (_ : Env) (tm : T V) : Option V := indexArrOp n size (evK x tm) (evK i tm)
def pIndexStr (x i : X) (_ : Env) (tm : T V) : Option V := indexStrOp (evK x tm) (evK i tm)
def pIndexAgg (rd : Rd) (n size : Nat) (x i : X) (_ : Env) (tm : T V) : Option V := indexAggOp rd n size (evK x tm) (evK i tm)
def pAssertI (w : Array (String × TypeId)) (z : V) (ok : Bool) (x : X) (E : Env) (tm : T V) : Option V := assertIOp (E.has w) z ok (evK x tm)
def pAssertT (t : TypeId) (z : V) (ok : Bool) (x : X) (_ : Env) (tm : T V) : Option V := assertTOp t z ok (evK x tm)
def pExtract (i : Nat) (x : X) (_ : Env) (tm : T V) : Option V := extractOp i (evK x tm)
def pLenStr (x : X) (_ : Env) (tm : T V) : Option V := lenStrOp (evK x tm)
def pLenSlice (x : X) (_ : Env) (tm : T V) : Option V := lenSliceOp (evK x tm)
def pLenArr (n : Nat) (_ : Env) (_ : T V) : Option V := some (.int .i64 (Int.ofNat n))
def pCap (x : X) (_ : Env) (tm : T V) : Option V := capOp (evK x tm)
def pMax (x y : X) (_ : Env) (tm : T V) : Option V := maxOp (evK x tm) (evK y tm)
def pMin (x y : X) (_ : Env) (tm : T V) : Option V := minOp (evK x tm) (evK y tm)
def pData (x : X) (_ : Env) (tm : T V) : Option V := sliceDataOp (evK x tm)

def PDK (d : PD) (E : Env) (tm : T V) : Option V :=
  PD.rec (motive := fun _ => Env → T V → Option V) pPick pBuild pNil pBin pUn pToInt pRune pStrSame pIface pFunc pSliceStr pSlice pSliceArr pFieldAddr pField pIndexAddr pIndexArr pIndexStr pIndexAgg pAssertI pAssertT pExtract pLenStr pLenSlice pLenArr pCap pMax pMin pData d E tm

theorem PDK_eq (d : PD) (E : Env) (tm : T V) : PDK d E tm = d.eval E tm := by
  cases d <;> (simp only [PD.eval, ← evK_eq, ← evsK_eq, ← evoK_eq]; try rfl)
  case pick c a b =>
    show pPick c a b E tm = _
    unfold pPick isTrue
    cases evK c tm <;> try rfl
    rename_i x; cases x <;> rfl
  case build z ps => show pBuild z ps E tm = _; unfold pBuild; cases fillIn tm ps z <;> rfl

/-! ### what reads memory -/

def ptrOf (v : V) : Option (Lb × Nat) := match v with
  | .ptr l o => some (l, o)
  | _ => none

def rLoad (rd : Rd) (x : X) (tm : T V) : Option Q := obK (ptrOf (evK x tm)) fun p => some (.load rd p.1 p.2)
def rLookup (pk : PK) (z : V) (ok : Bool) (m k : X) (tm : T V) : Option Q := chkK (plainKey pk (evK k tm)) (some (.lookup pk z ok (evK m tm) (evK k tm)))
def rBytes (x : X) (tm : T V) : Option Q := some (.bytes (evK x tm))
def rPtr (x : X) (tm : T V) : Option Q := obK (ptrOf (evK x tm)) fun p => some (.row p.1 p.2)
def rUnsafe (u : TypeId) (n : Nat) (x : X) (tm : T V) : Option Q := obK (ptrOf (evK x tm)) fun p => some (.whole u n p.1 p.2)
def rMapLen (x : X) (tm : T V) : Option Q := some (.mapLen (evK x tm))
def rFresh (t : TypeId) (cs : List V) (x : X) (tm : T V) : Option Q := obK (ptrOf (evK x tm)) fun p => some (.fresh t cs p.1 p.2)

def RDK (d : RD) (tm : T V) : Option Q := RD.rec (motive := fun _ => T V → Option Q) rLoad rLookup rBytes rPtr rUnsafe rMapLen rFresh d tm

theorem RDK_eq (d : RD) (tm : T V) : RDK d tm = d.req tm := by
  cases d <;> simp only [RD.req, ← evK_eq]
  case load rd x => show rLoad rd x tm = _; unfold rLoad ptrOf reqPtr; cases evK x tm <;> rfl
  case lookup pk z ok m k => show rLookup pk z ok m k tm = _; unfold rLookup; cases plainKey pk (evK k tm) <;> rfl
  case bytesStr x => rfl
  case ptrUnsafe x => show rPtr x tm = _; unfold rPtr ptrOf reqPtr; cases evK x tm <;> rfl
  case unsafePtr u n x => show rUnsafe u n x tm = _; unfold rUnsafe ptrOf reqPtr; cases evK x tm <;> rfl
  case mapLen x => rfl
  case fresh t cs x => show rFresh t cs x tm = _; unfold rFresh ptrOf reqPtr; cases evK x tm <;> rfl

/-! ### running -/

def boolEq (want b : Bool) : Bool := Bool.rec (motive := fun _ => Bool) (!b) b want
def wantsG (g : Lb × Bool) (tm : T V) : Bool := Option.rec (motive := fun _ => Bool) false (boolEq g.2) (isTrue (getTK tm g.1))
def wantsK (g : Option (Lb × Bool)) (tm : T V) : Bool := Option.rec (motive := fun _ => T V → Bool) (fun _ => true) wantsG g tm

def putD (d : Lb) (v : V) (tm : T V) : T V := setK tm d (some v)
def putK (d : Option Lb) (v : V) (tm : T V) : T V := Option.rec (motive := fun _ => V → T V → T V) (fun _ tm => tm) putD d v tm

abbrev St := T V → List (FuncId × List V) → H → Option (A × H)

/-- One operation, then what follows ('k'). -/
def sMov (x : X) (dst : Option Lb) (_ : Env) (_ : Orc) (tm : T V) (ds : List (FuncId × List V)) (h : H) (k : T V → List (FuncId × List V) → H → Option (A × H)) : Option (A × H) := k (putK dst (evK x tm) tm) ds h
def sP (q : PD) (dst : Option Lb) (E : Env) (_ : Orc) (tm : T V) (ds : List (FuncId × List V)) (h : H) (k : T V → List (FuncId × List V) → H → Option (A × H)) : Option (A × H) := obK (PDK q E tm) fun v => k (putK dst v tm) ds h
def sR (q : RD) (dst : Option Lb) (_ : Env) (_ : Orc) (tm : T V) (ds : List (FuncId × List V)) (h : H) (k : T V → List (FuncId × List V) → H → Option (A × H)) : Option (A × H) := obK (RDK q tm) fun q => obK (q.ask h) fun v => k (putK dst v tm) ds h
def sE (q : ED) (dst : Option Lb) (_ : Env) (_ : Orc) (tm : T V) (ds : List (FuncId × List V)) (h : H) (k : T V → List (FuncId × List V) → H → Option (A × H)) : Option (A × H) := obK (q.run tm h) fun r => k (putK dst r.1 tm) ds r.2
def sC (q : CD) (dst : Option Lb) (E : Env) (call : Orc) (tm : T V) (ds : List (FuncId × List V)) (h : H) (k : T V → List (FuncId × List V) → H → Option (A × H)) : Option (A × H) := obK (q.args E tm) fun f => obK (call f.1 f.2 h) fun r => k (putK dst r.1 tm) ds r.2
def sDefer (q : CD) (dst : Option Lb) (E : Env) (_ : Orc) (tm : T V) (ds : List (FuncId × List V)) (h : H) (k : T V → List (FuncId × List V) → H → Option (A × H)) : Option (A × H) := obK (q.args E tm) fun f => k (putK dst undef tm) (f :: ds) h
def sStuck (_ : Option Lb) (_ : Env) (_ : Orc) (_ : T V) (_ : List (FuncId × List V)) (_ : H) (_ : T V → List (FuncId × List V) → H → Option (A × H)) : Option (A × H) := none

def stepK (d : D) (dst : Option Lb) (E : Env) (call : Orc) (tm : T V) (ds : List (FuncId × List V)) (h : H) (k : T V → List (FuncId × List V) → H → Option (A × H)) : Option (A × H) :=
  D.rec (motive := fun _ => Option Lb → Env → Orc → T V → List (FuncId × List V) → H → (T V → List (FuncId × List V) → H → Option (A × H)) → Option (A × H)) sMov sP sR sE sC sDefer sStuck d dst E call tm ds h k

def opsNil (_ : Env) (_ : Orc) (tm : T V) (ds : List (FuncId × List V)) (h : H) : Option (A × H) := some ({ tmps := tm, defers := ds }, h)
def opsCons (d : DO) (_ : List DO) (ih : Env → Orc → T V → List (FuncId × List V) → H → Option (A × H)) (E : Env) (call : Orc) (tm : T V) (ds : List (FuncId × List V)) (h : H) : Option (A × H) :=
  Bool.rec (motive := fun _ => Option (A × H)) (ih E call (putK d.dst undef tm) ds h) (stepK d.op d.dst E call tm ds h (ih E call)) (wantsK d.guard tm)
def runOpsK (l : List DO) : Env → Orc → T V → List (FuncId × List V) → H → Option (A × H) :=
  List.rec (motive := fun _ => Env → Orc → T V → List (FuncId × List V) → H → Option (A × H)) opsNil opsCons l

theorem wantsK_eq (g : Option (Lb × Bool)) (tm : T V) : wantsK g tm = wants tm g := by
  cases g with
  | none => rfl
  | some g =>
    obtain ⟨p, w⟩ := g
    show wantsG (p, w) tm = _
    unfold wantsG isTrue wants
    simp only [getTK_eq]
    cases getT tm p <;> cases w <;> rfl

theorem putK_eq (a : A) (d : Option Lb) (v : V) : { tmps := putK d v a.tmps, defers := a.defers } = a.put d v := by
  cases d with
  | none => rfl
  | some d => simp only [A.put, ← setK_eq]; rfl

theorem ob_eq {α β : Type} (x : Option α) (f : α → Option β) : obK x f = ob x f := by cases x <;> rfl

theorem runOpsK_eq (E : Env) (call : Orc) : ∀ (l : List DO) (a : A) (h : H), runOpsK l E call a.tmps a.defers h = runOps E call l a h := by
  intro l
  induction l with
  | nil => intro a h; rfl
  | cons d l ih =>
    intro a h
    show opsCons d l (runOpsK l) E call a.tmps a.defers h = _
    unfold opsCons
    simp only [runOps, ← wantsK_eq]
    cases wantsK d.guard a.tmps with
    | false => exact (ih (a.put d.dst undef) h ▸ by rw [← putK_eq])
    | true =>
      show stepK d.op d.dst E call a.tmps a.defers h (runOpsK l E call) = _
      have key : ∀ v h', runOpsK l E call (putK d.dst v a.tmps) a.defers h' = runOps E call l (a.put d.dst v) h' := fun v h' => by
        rw [← ih (a.put d.dst v) h', ← putK_eq]
      obtain ⟨dst, op, g⟩ := d
      cases op with
      | mov x => simp only [stepD, ob, ← evK_eq]; exact key _ _
      | p q =>
        show sP q dst E call a.tmps a.defers h _ = _
        unfold sP; simp only [stepD, PDK_eq, ob_eq]; cases q.eval E a.tmps <;> simp only [ob]; exact key _ _
      | r q =>
        show sR q dst E call a.tmps a.defers h _ = _
        unfold sR; simp only [stepD, RDK_eq, ob_eq]; cases q.req a.tmps <;> simp only [ob]
        rename_i q'; cases q'.ask h <;> simp only []; exact key _ _
      | e q =>
        show sE q dst E call a.tmps a.defers h _ = _
        unfold sE; simp only [stepD, ob_eq]; cases q.run a.tmps h <;> simp only [ob]; exact key _ _
      | c q =>
        show sC q dst E call a.tmps a.defers h _ = _
        unfold sC; simp only [stepD, ob_eq]; cases q.args E a.tmps <;> simp only [ob]
        rename_i f; cases call f.1 f.2 h <;> simp only []; exact key _ _
      | defer q =>
        show sDefer q dst E call a.tmps a.defers h _ = _
        unfold sDefer; simp only [stepD, ob_eq]; cases q.args E a.tmps <;> simp only [ob]
        rename_i f
        rw [← ih ({ tmps := a.tmps, defers := f :: a.defers : A }.put dst undef) h, ← putK_eq]
      | stuck => rfl

/-! ### code -/

abbrev Ec := DC → A → H → Option (Ex × A × H)

def xSkip (_ : Env) (_ : Orc) (_ : Ec) (a : A) (h : H) : Option (Ex × A × H) := some (.normal, a, h)
def xOps (l : List DO) (E : Env) (call : Orc) (_ : Ec) (a : A) (h : H) : Option (Ex × A × H) := obK (runOpsK l E call a.tmps a.defers h) fun r => some (.normal, r.1, r.2)
def xDraw (m : List (Lb × TypeId × List V)) (l : List (DO × Nat × Nat)) (E : Env) (call : Orc) (_ : Ec) (a : A) (h : H) : Option (Ex × A × H) :=
  obK (runDraw E call l { tmps := (makeAll m a.tmps h).1, defers := a.defers } (makeAll m a.tmps h).2 0 [] []) fun r => some (.normal, r.1, r.2)
def xThen (next : A → H → Option (Ex × A × H)) (r : Ex × A × H) : Option (Ex × A × H) :=
  Ex.rec (motive := fun _ => A → H → Option (Ex × A × H)) next (fun i a h => some (.exit i, a, h)) (fun a h => some (.ret, a, h)) r.1 r.2.1 r.2.2
def xSeq (x y : DC) (_ _ : Env → Orc → Ec → A → H → Option (Ex × A × H)) (_ : Env) (_ : Orc) (exec : Ec) (a : A) (h : H) : Option (Ex × A × H) := obK (exec x a h) (xThen (exec y))
def xCond (c : X) (x y : DC) (_ _ : Env → Orc → Ec → A → H → Option (Ex × A × H)) (_ : Env) (_ : Orc) (exec : Ec) (a : A) (h : H) : Option (Ex × A × H) :=
  obK (isTrue (evK c a.tmps)) fun b => Bool.rec (motive := fun _ => Option (Ex × A × H)) (exec y a h) (exec x a h) b
def xBlockEnd (id : Nat) (r : Ex × A × H) : Option (Ex × A × H) :=
  Ex.rec (motive := fun _ => A → H → Option (Ex × A × H)) (fun a h => some (.normal, a, h)) (fun i a h => some (Bool.rec (motive := fun _ => Ex) (.exit i) .normal (Nat.beq i id), a, h)) (fun a h => some (.ret, a, h)) r.1 r.2.1 r.2.2
def xBlock (id : Nat) (b : DC) (_ : Env → Orc → Ec → A → H → Option (Ex × A × H)) (_ : Env) (_ : Orc) (exec : Ec) (a : A) (h : H) : Option (Ex × A × H) := obK (exec b a h) (xBlockEnd id)
def xLoop (b : DC) (_ : Env → Orc → Ec → A → H → Option (Ex × A × H)) (_ : Env) (_ : Orc) (exec : Ec) (a : A) (h : H) : Option (Ex × A × H) := obK (exec b a h) (xThen (exec (.loop b)))
def xExit (id : Nat) (_ : Env) (_ : Orc) (_ : Ec) (a : A) (h : H) : Option (Ex × A × H) := some (.exit id, a, h)
def xRet (_ : Env) (_ : Orc) (_ : Ec) (a : A) (h : H) : Option (Ex × A × H) := some (.ret, a, h)
def xStuck (_ : Env) (_ : Orc) (_ : Ec) (_ : A) (_ : H) : Option (Ex × A × H) := none

def execK (E : Env) (call : Orc) (exec : Ec) (c : DC) (a : A) (h : H) : Option (Ex × A × H) :=
  DC.rec (motive := fun _ => Env → Orc → Ec → A → H → Option (Ex × A × H)) xSkip xOps xDraw xSeq xCond xBlock xLoop xExit xRet xStuck c E call exec a h

theorem execK_eq (E : Env) (call : Orc) (exec : Ec) (c : DC) (a : A) (h : H) : execK E call exec c a h = execStep E call exec c a h := by
  cases c with
  | skip => rfl
  | ops l => show xOps l E call exec a h = _; unfold xOps; rw [runOpsK_eq, ob_eq]; rfl
  | draw m l => show xDraw m l E call exec a h = _; unfold xDraw; rw [ob_eq]; rfl
  | seq x y =>
    show obK (exec x a h) (xThen (exec y)) = _
    rw [ob_eq]; simp only [execStep]; cases exec x a h with
    | none => rfl
    | some r => obtain ⟨e, a', h'⟩ := r; cases e <;> rfl
  | cond c x y =>
    show obK (isTrue (evK c a.tmps)) _ = _
    simp only [execStep, ← evK_eq]
    cases evK c a.tmps <;> try rfl
    rename_i b; cases b <;> rfl
  | block id b =>
    show obK (exec b a h) (xBlockEnd id) = _
    rw [ob_eq]; simp only [execStep]; cases exec b a h with
    | none => rfl
    | some r =>
      obtain ⟨e, a', h'⟩ := r; cases e with
      | exit i => simp only [ob, xBlockEnd]; cases Nat.beq i id <;> rfl
      | _ => rfl
  | loop b =>
    show obK (exec b a h) (xThen (exec (.loop b))) = _
    rw [ob_eq]; simp only [execStep]; cases exec b a h with
    | none => rfl
    | some r => obtain ⟨e, a', h'⟩ := r; cases e <;> rfl
  | exit id => rfl
  | ret => rfl
  | stuck => rfl

def orcGot (r : V × H) : Option (V × H) := some r
def fnAtK (fns : T DFn) (f : FuncId) : Option DFn := chkK (Nat.blt f 65536) (getK fns (pathOf f))
def endK (late : FuncId → List V → H → Option H) (fn : DFn) (r : Ex × A × H) : Option (V × H) :=
  Ex.rec (motive := fun _ => Option (V × H)) (obK (leaveD late r.2.1.defers r.2.2) fun h' => obK (resultsD h' r.2.1.tmps fn.results) fun vs => some (packD vs, h')) (fun _ => none)
    (obK (leaveD late r.2.1.defers r.2.2) fun h' => obK (resultsD h' r.2.1.tmps fn.results) fun vs => some (packD vs, h')) r.1
def callK (fns : T DFn) (orc : Orc) (dorc : FuncId → List V → H → Option H) (exec : Ec) (f : FuncId) (args : List V) (h : H) : Option (V × H) :=
  Option.rec (motive := fun _ => Option (V × H)) (obK (fnAtK fns f) fun fn => obK (enterD exec fn args h) (endK (lateD fns dorc exec) fn)) orcGot (orc f args h)

theorem fnAtK_eq (fns : T DFn) (f : FuncId) : fnAtK fns f = fnAt fns f := by
  unfold fnAtK fnAt chkK chk; rw [getK_eq]; cases Nat.blt f 65536 <;> rfl

theorem callK_eq (fns : T DFn) (orc : Orc) (dorc : FuncId → List V → H → Option H) (exec : Ec) (f : FuncId) (args : List V) (h : H) :
    callK fns orc dorc exec f args h = callD fns orc dorc exec f args h := by
  unfold callK callD
  cases orc f args h with
  | some r => rfl
  | none =>
    simp only [ob_eq, fnAtK_eq]
    congr 1; funext fn
    congr 1; funext r
    obtain ⟨e, a, h'⟩ := r
    cases e <;> simp only [endK, ob_eq]

def turnK (E : Env) (fns : T DFn) (orc : Orc) (dorc : FuncId → List V → H → Option H) (n : Nat) : Turn :=
  Nat.rec (motive := fun _ => Turn) turn0 (fun _ t => { exec := fun c a h => execK E t.call t.exec c a h, call := fun f args h => callK fns orc dorc t.exec f args h }) n

theorem turnK_eq (E : Env) (fns : T DFn) (orc : Orc) (dorc : FuncId → List V → H → Option H) : ∀ n, turnK E fns orc dorc n = turn E fns orc dorc n := by
  intro n
  induction n with
  | zero => rfl
  | succ n ih =>
    show ({ exec := fun c a h => execK E (turnK E fns orc dorc n).call (turnK E fns orc dorc n).exec c a h, call := fun f args h => callK fns orc dorc (turnK E fns orc dorc n).exec f args h } : Turn) = _
    simp only [execK_eq, callK_eq, ih]; rfl

end
end K
end Go.Dx
