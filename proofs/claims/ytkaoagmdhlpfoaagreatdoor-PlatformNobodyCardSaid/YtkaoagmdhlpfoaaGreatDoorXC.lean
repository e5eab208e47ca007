/-
  The deterministic machine over labels against the model: an operation that hangs on its operands alone.
  The deterministic machine over labels against the model: operations that read memory.
-/
import Derived.Test.YtkaoagmdhlpfoaaGreatDoorXB
namespace Go.Dx
open Go Go.RowKit

/-- The operation yields a value that stands for v, in every world, and leaves the world alone. -/
def Yields (P : Program) (ρ : Rho) (a : Act) (o : Op) (v : V) : Prop := ∃ x, RV ρ v x ∧ ∀ (q : Oper), q.op = o → ∀ w, (execOp a.eval q).run P w = .ok (.value x) w

theorem Yields.of {P : Program} {ρ : Rho} {a : Act} {o : Op} {v : V} {s : Sem Value} (h : Gives P ρ v s) (e : ∀ (q : Oper), q.op = o → execOp a.eval q = (do pure (.value (← s)))) : Yields P ρ a o v := by
  obtain ⟨x, hx, hr⟩ := h
  exact ⟨x, hx, fun q hq w => by rw [e q hq]; simp [hr]⟩

/-- What the machine's pure operations say of the model's. -/
def POk (C : CE) (o : Op) (d : PD) : Prop := ∀ {ρ : Rho} {tm : T V} {a : Act}, TRel ρ C.n tm a.tmps → GRel ρ C.G → ∀ v, d.eval (envOf C.P) tm = some v → Yields C.P ρ a o v
def MOk (C : CE) (o : Op) (x : X) : Prop := ∀ {ρ : Rho} {tm : T V} {a : Act}, TRel ρ C.n tm a.tmps → GRel ρ C.G → Yields C.P ρ a o (x.ev tm)

section
variable {C : CE}

theorem move_ok {y : Operand} {x : X} (h : compX C y = some x) : MOk C (.move y) x :=
  fun hT hG => ⟨_, compX_ok hT hG h, fun q hq w => by unfold execOp; rw [hq]; rfl⟩
theorem assign_ok {y : Operand} {x : X} (h : compX C y = some x) : MOk C (.assign y) x :=
  fun hT hG => ⟨_, compX_ok hT hG h, fun q hq w => by unfold execOp; rw [hq]; rfl⟩

theorem pick_ok {c a b : Operand} {x y z : X} (hc : compX C c = some x) (ha : compX C a = some y) (hb : compX C b = some z) : POk C (.pick c a b) (.pick x y z) := by
  intro ρ tm A hT hG v h
  have r := compX_ok hT hG hc
  simp only [PD.eval] at h
  split at h
  · rename_i e
    rw [e] at r
    cases h
    generalize hz : A.eval c = u at r
    cases r
    exact ⟨_, compX_ok hT hG ha, fun q hq w => by unfold execOp; rw [hq]; simp [hz, asBool]⟩
  · rename_i e
    rw [e] at r
    cases h
    generalize hz : A.eval c = u at r
    cases r
    exact ⟨_, compX_ok hT hG hb, fun q hq w => by unfold execOp; rw [hq]; simp [hz, asBool]⟩
  · cases h

theorem nilCheck_ok {y : Operand} {x : X} (h : compX C y = some x) : POk C (.nilCheck y) (.nilCheck x) := by
  intro ρ tm A hT hG v hv
  have r := compX_ok hT hG h
  simp only [PD.eval] at hv
  unfold nilCheckOp at hv
  generalize hz : A.eval y = u at r
  split at hv
  · rename_i e
    rw [e] at r
    cases hv
    cases r
    rename_i b hb
    exact ⟨_, .ptr _ hb, fun q hq w => by unfold execOp; rw [hq]; simp [hz]⟩
  · rename_i e
    rw [e] at r
    cases hv
    cases r
    rename_i hb hc
    exact ⟨_, .func _ hb hc, fun q hq w => by unfold execOp; rw [hq]; simp [hz]⟩
  · cases hv

theorem bin_ok {op : BinOp} {t u : TypeId} {y z : Operand} {x1 x2 : X} (h1 : compX C y = some x1) (h2 : compX C z = some x2) : POk C (.binOp op t y z u) (.bin op (eqKind C.P t y z) x1 x2) := by
  intro ρ tm A hT hG v hv
  have g := binOp_ok (P := C.P) (compX_ok hT hG h1) (compX_ok hT hG h2) hv
  exact Yields.of g fun q hq => by unfold execOp; rw [hq]

theorem un_ok {op : UnOp} {t : TypeId} {y : Operand} {x : X} (h : compX C y = some x) : POk C (.unOp op t y) (.un op x) := by
  intro ρ tm A hT hG v hv
  have r := compX_ok hT hG h
  simp only [PD.eval] at hv
  generalize hz : A.eval y = u at r
  have e : ∀ (q : Oper), q.op = .unOp op t y → execOp A.eval q = (do pure (.value (← Op.unary op u))) := fun q hq => by unfold execOp; rw [hq]; simp only [hz]
  unfold unOp at hv
  split at hv
  · rename_i k n e'
    rw [e'] at r; cases r
    have g : Gives C.P ρ v (Go.binOp .sub 0 (.int k 0) (.int k n)) := intArith_ok hv (by simp) (by simp) 0
    exact Yields.of (s := Op.intArith .sub k 0 n) (by simpa [Go.binOp] using g) (fun q hq => by rw [e q hq]; rfl)
  · rename_i k n e'
    rw [e'] at r; cases r
    have em : allOnes k = (if k.signed then -1 else k.max) := by cases k <;> rfl
    rw [em] at hv
    have g : Gives C.P ρ v (Go.binOp .xor 0 (.int k (if k.signed then -1 else k.max)) (.int k n)) := intArith_ok hv (by simp) (by simp) 0
    exact Yields.of (s := Op.intBits .xor k (if k.signed then -1 else k.max) n) (by simpa [Go.binOp] using g) (fun q hq => by rw [e q hq]; rfl)
  · rename_i b e'
    rw [e'] at r; cases r; cases hv
    exact Yields.of (s := pure (.bool !b)) (.pure (.bool _)) (fun q hq => by rw [e q hq]; rfl)
  · cases hv

theorem mkIface_ok {t : TypeId} {d : TypeDesc} {y : Operand} {x : X} (hu : C.P.underlying t = some d) (hd : ∀ ms, d ≠ .interface ms) (h : compX C y = some x) : POk C (.makeInterface t y) (.mkIface t x) := by
  intro ρ tm A hT hG v hv
  cases hv
  refine Yields.of (s := Instr.makeInterface t (A.eval y)) ⟨_, .iface t (compX_ok hT hG h), fun w => ?_⟩ fun q hq => by unfold execOp; rw [hq]
  unfold Instr.makeInterface
  rw [Sem.run_bind, run_underlying hu, Result.andThen_ok]
  cases d <;> first | rfl | (exact absurd rfl (hd _))

theorem mkFunc_ok {f : FuncId} {as bs : Array Operand} {xs ys : List X} (h1 : compXs C as.toList = some xs) (h2 : compXs C bs.toList = some ys) : POk C (.makeFunc (.func f) as bs) (.mkFunc f xs ys) := by
  intro ρ tm A hT hG v hv
  cases hv
  have r1 := compXs_ok hT hG h1
  have r2 := compXs_ok hT hG h2
  refine Yields.of (s := Instr.makeFunc (.func f) (as.map A.eval) (bs.map A.eval)) ⟨_, .func f r1 r2, fun w => ?_⟩ fun q hq => by unfold execOp; rw [hq]
  unfold Instr.makeFunc
  have e1 : as.map A.eval = ⟨as.toList.map A.eval⟩ := by apply Array.ext'; simp
  have e2 : bs.map A.eval = ⟨bs.toList.map A.eval⟩ := by apply Array.ext'; simp
  rw [e1, e2]; rfl

theorem addr_add (b o n : Nat) : (⟨b, o, none⟩ : Addr).add n = ⟨b, o + n, none⟩ := Addr.add_mid b o n

theorem fieldAddr_ok {t : TypeId} {fs : Array Field} {f : Nat} {fd : Field} {y : Operand} {x : X} (hu : C.P.underlying t = some (.struct fs)) (hf : fs[f]? = some fd) {n : Nat} (hn : sizeT C.P fd.type = some n) (hp : Nat.blt 0 n = true) (h : compX C y = some x) : POk C (.fieldAddr t y f) (.fieldAddr fd.offset x) := by
  intro ρ tm A hT hG v hv
  have r := compX_ok hT hG h
  simp only [PD.eval] at hv
  generalize hz : A.eval y = u at r
  split at hv
  · rename_i l o e
    rw [e] at r; cases hv; cases r
    rename_i b hb
    have r2 := RV.ptr (ρ := ρ) (o + fd.offset) hb
    refine Yields.of (s := Instr.fieldAt t (.pointer (some ⟨b.block, b.base + o, none⟩)) f) ⟨_, r2, fun w => ?_⟩ fun q hq => by unfold execOp; rw [hq]; simp only [hz]
    have hn0 : n ≠ 0 := by have : 0 < n := by simpa using hp
                           omega
    simp [Instr.fieldAt, run_underlying hu, hf, Instr.sureAddr, fieldPlace, addr_add, Nat.add_assoc, run_sizeT hn, hn0]
  · cases hv

theorem gives_bind {P : Program} {α : Type} {ρ : Rho} {v : V} {s : Sem α} {y : α} {f : α → Sem Value} (hs : ∀ w, s.run P w = .ok y w) (h : Gives P ρ v (f y)) : Gives P ρ v (s >>= f) := by
  obtain ⟨x, hx, hr⟩ := h
  exact ⟨x, hx, fun w => by rw [Sem.run_bind, hs w, Result.andThen_ok]; exact hr w⟩

theorem toInt_ok {s t : TypeId} {d : TypeDesc} {k : IntKind} {y : Operand} {x : X} (hs : C.P.underlying s = some d) (ht : C.P.underlying t = some (.int k)) (h : compX C y = some x) : POk C (.convert s t y) (.toInt k x) := by
  intro ρ tm A hT hG v hv
  have r := compX_ok hT hG h
  simp only [PD.eval] at hv
  generalize hz : A.eval y = u at r
  split at hv
  · rename_i j n e
    rw [e] at r; cases r; cases hv
    rw [wrapD_eq]
    refine Yields.of (s := convert s t (.int j n)) ⟨_, .int k _, fun w => ?_⟩ fun q hq => by unfold execOp; rw [hq]; simp only [hz]
    unfold convert
    simp only [Sem.run_bind, run_underlying hs, run_underlying ht, Result.andThen_ok]
    cases d <;> rfl
  · cases hv

theorem runeStr_ok {s t : TypeId} {k : IntKind} {y : Operand} {x : X} (hs : C.P.underlying s = some (.int k)) (ht : C.P.underlying t = some .string) (h : compX C y = some x) : POk C (.convert s t y) (.runeStr x) := by
  intro ρ tm A hT hG v hv
  have r := compX_ok hT hG h
  simp only [PD.eval] at hv
  generalize hz : A.eval y = u at r
  split at hv
  · rename_i j n e
    rw [e] at r; cases r; cases hv
    refine Yields.of (s := convert s t (.int j n)) ⟨_, .str (Utf8.encode n), fun w => ?_⟩ fun q hq => by unfold execOp; rw [hq]; simp only [hz]
    unfold convert
    simp only [Sem.run_bind, run_underlying hs, run_underlying ht, Result.andThen_ok]
    rfl
  · cases hv

theorem strStr_ok {s t : TypeId} {y : Operand} {x : X} (hs : C.P.underlying s = some .string) (ht : C.P.underlying t = some .string) (h : compX C y = some x)
    {ρ : Rho} {tm : T V} {A : Act} (hT : TRel ρ C.n tm A.tmps) (hG : GRel ρ C.G) {l : List Nat} (e : x.ev tm = .str l) : Yields C.P ρ A (.convert s t y) (.str l) := by
  have r := compX_ok hT hG h
  generalize hz : A.eval y = u at r
  rw [e] at r
  cases r with | str b =>
  refine Yields.of (s := convert s t (.string b)) ⟨_, .str b, fun w => ?_⟩ fun q hq => by unfold execOp; rw [hq]; simp only [hz]
  unfold convert
  simp only [Sem.run_bind, run_underlying hs, run_underlying ht, Result.andThen_ok]
  rfl

theorem strSame_ok {s t : TypeId} {y : Operand} {x : X} (hs : C.P.underlying s = some .string) (ht : C.P.underlying t = some .string) (h : compX C y = some x) : POk C (.convert s t y) (.strSame x) := by
  intro ρ tm A hT hG v hv
  simp only [PD.eval] at hv
  unfold strSameOp at hv
  split at hv
  · rename_i l e
    cases hv
    exact strStr_ok hs ht h hT hG e
  · cases hv

theorem bound_ok {ρ : Rho} {v : V} {x : Value} (hr : RV ρ v x) {y i : Nat} (h : bound v y = some i) (code : BoundsCode) {P : Program} (w : World) : (Instr.sliceBound x y code).run P w = .ok i w ∧ i ≤ y := by
  unfold bound at h
  split at h
  · rename_i e0 k n
    cases hr
    simp only [chk_some, Option.some.injEq] at h
    obtain ⟨h1, rfl⟩ := h
    have h2 : n ≤ y := Nat.le_of_ble_eq_true h1
    refine ⟨?_, h2⟩
    simp only [Instr.sliceBound, asIntOf, Sem.run_bind, Sem.run_pure, Result.andThen_ok]
    rw [if_pos ⟨by simp, by simpa using h2⟩]
    simp
  · cases h

theorem bounds_ok {P : Program} {ρ : Rho} {isS : Bool} {len cap : Nat} {lo hi mx : Option V} {lo' hi' mx' : Option Value} (r1 : ROpt ρ lo lo') (r2 : ROpt ρ hi hi') (r3 : ROpt ρ mx mx') {m h l : Nat}
    (e1 : boundO mx cap cap = some m) (e2 : boundO hi m len = some h) (e3 : boundO lo h 0 = some l) (hd : mx = none ∨ hi ≠ none) (w : World) :
    (Instr.sliceBounds isS len cap lo' hi' mx').run P w = .ok (l, h, m) w := by
  unfold Instr.sliceBounds
  cases r3 with
  | none =>
    simp only [boundO, Option.some.injEq] at e1
    subst e1
    simp only [Sem.run_bind, Sem.run_pure, Result.andThen_ok]
    cases r2 with
    | none =>
      simp only [boundO, Option.some.injEq] at e2
      subst e2
      simp only [Sem.run_bind, Sem.run_pure, Result.andThen_ok]
      cases r1 with
      | none => simp only [boundO, Option.some.injEq] at e3; subst e3; rfl
      | some r1 => simp only [boundO] at e3; simp only [Sem.run_bind, (bound_ok r1 e3 _ w).1, Result.andThen_ok]; rfl
    | some r2 =>
      simp only [boundO] at e2
      simp only [Sem.run_bind, (bound_ok r2 e2 _ w).1, Result.andThen_ok]
      cases r1 with
      | none => simp only [boundO, Option.some.injEq] at e3; subst e3; rfl
      | some r1 => simp only [boundO] at e3; simp only [Sem.run_bind, (bound_ok r1 e3 _ w).1, Result.andThen_ok]; rfl
  | some r3 =>
    simp only [boundO] at e1
    simp only [Sem.run_bind, (bound_ok r3 e1 _ w).1, Result.andThen_ok]
    cases r2 with
    | none => rcases hd with hd | hd <;> simp at hd
    | some r2 =>
      simp only [boundO] at e2
      simp only [Sem.run_bind, (bound_ok r2 e2 _ w).1, Result.andThen_ok]
      cases r1 with
      | none => simp only [boundO, Option.some.injEq] at e3; subst e3; rfl
      | some r1 => simp only [boundO] at e3; simp only [Sem.run_bind, (bound_ok r1 e3 _ w).1, Result.andThen_ok]; rfl

theorem natsOf_extract (s : ByteArray) (l h : Nat) : natsOf (s.extract l h) = ((natsOf s).take h).drop l := by
  unfold natsOf
  rw [Go.Lib.extract_data, List.drop_take]
  simp [List.map_drop, List.map_take]

theorem sliceStr_ok {t : TypeId} {y : Operand} {lo hi : Option Operand} {x : X} {l h : Option X} (hu : C.P.underlying t = some .string) (hx : compX C y = some x) (hl : compXo C lo = some l) (hh : compXo C hi = some h) :
    POk C (.slice t y lo hi none) (.sliceStr x l h) := by
  intro ρ tm A hT hG v hv
  have r := compX_ok hT hG hx
  have r1 := compXo_ok hT hG hl
  have r2 := compXo_ok hT hG hh
  simp only [PD.eval] at hv
  generalize hz : A.eval y = u at r
  split at hv
  · rename_i s e
    rw [e] at r
    cases r with | str b =>
    simp only [sliceStrOp, ob_some, Option.some.injEq, natsOf_length] at hv
    obtain ⟨i, e2, j, e3, rfl⟩ := hv
    refine Yields.of (s := Instr.sliceAt t (.string b) (lo.map A.eval) (hi.map A.eval) none) ⟨.string (b.extract j i), by rw [← natsOf_extract]; exact .str _, fun w => ?_⟩ fun q hq => by unfold execOp; rw [hq]; simp only [hz, Option.map_none]
    have := bounds_ok (P := C.P) (isS := false) (len := b.size) (cap := b.size) r1 r2 (.none) rfl e2 e3 (.inl rfl) w
    unfold Instr.sliceAt
    simp only [Sem.run_bind, run_underlying hu, Result.andThen_ok]
    unfold Instr.slice
    simp only [Sem.run_bind, run_underlying hu, Result.andThen_ok]
    simp [this]
  · cases hv

theorem sliceEnd_ok {ρ : Rho} {l : Lb} {b : Blk} (hb : ρ l = some b) (off size i h m : Nat) :
    RV ρ (sliceEnd l off size i h m) (.slice (if m = i then some ⟨b.block, b.base + off, none⟩ else (some ⟨b.block, b.base + off, none⟩ : Option Addr).map (·.add (i * size))) (h - i) (m - i)) := by
  unfold sliceEnd
  by_cases e : m = i
  · subst e
    rw [Nat.beq_refl, if_pos rfl]
    exact .slice _ _ _ hb
  · have : Nat.beq m i = false := by rw [← Bool.not_eq_true, Nat.beq_eq]; exact e
    rw [this, if_neg e]
    simp only [Option.map_some, addr_add, Nat.add_assoc]
    exact .slice _ _ _ hb

theorem bound_mono {v : V} {n m i : Nat} (h : bound v n = some i) (hn : n ≤ m) : bound v m = some i ∧ i ≤ n := by
  unfold bound at h ⊢
  split at h
  · simp only [chk_some, Option.some.injEq] at h ⊢
    obtain ⟨h1, rfl⟩ := h
    have := Nat.le_of_ble_eq_true h1
    exact ⟨⟨Nat.ble_eq_true_of_le (Nat.le_trans this hn), rfl⟩, this⟩
  · cases h

theorem boundO_le {o : Option V} {n d i : Nat} (h : boundO o n d = some i) (hd : d ≤ n) : i ≤ n := by
  cases o with
  | none => simp only [boundO, Option.some.injEq] at h; omega
  | some v => exact (bound_mono h (Nat.le_refl _)).2

theorem sliceOp_ok {P : Program} {t e : TypeId} {size : Nat} {ρ : Rho} {v r : V} {x : Value} {lo hi mx : Option V} {lo' hi' mx' : Option Value} (hu : P.underlying t = some (.slice e)) (hs : sizeT P e = some size)
    (hr : RV ρ v x) (r1 : ROpt ρ lo lo') (r2 : ROpt ρ hi hi') (r3 : ROpt ρ mx mx') (hd : mx = none ∨ hi ≠ none) (h : sliceOp size v lo hi mx = some r) : Gives P ρ r (Instr.sliceAt t x lo' hi' mx') := by
  have unf : ∀ w a len cap, (Instr.sliceAt t (.slice a len cap) lo' hi' mx').run P w = ((Instr.sliceBounds true len cap lo' hi' mx').run P w).andThen fun p w => .ok (.slice (if p.2.2 = p.1 then a else a.map (·.add (p.1 * size))) (p.2.1 - p.1) (p.2.2 - p.1)) w := fun w a len cap => by
    unfold Instr.sliceAt
    simp only [Sem.run_bind, run_underlying hu, Result.andThen_ok]
    unfold Instr.slice
    simp only [Sem.run_bind, run_underlying hu, Result.andThen_ok, run_sizeT hs]
    cases (Instr.sliceBounds true len cap lo' hi' mx').run P w with
    | ok p w => rfl
    | halt p w => rfl
  unfold sliceOp at h
  cases hr <;> simp only [reduceCtorEq] at h
  case nilSlice c =>
    simp only [ob_some, chk_some, Option.some.injEq] at h
    obtain ⟨m, e1, i, e2, j, e3, hb, rfl⟩ := h
    have hi0 : i = 0 := Nat.eq_of_beq_eq_true hb
    subst hi0
    have hj : j = 0 := Nat.le_zero.1 (boundO_le e3 (Nat.le_refl _))
    subst hj
    refine ⟨_, .nilSlice (m - 0), fun w => ?_⟩
    rw [unf, bounds_ok r1 r2 r3 e1 e2 e3 hd w]
    simp
  case slice l b off len c hb =>
    simp only [ob_some, Option.some.injEq] at h
    obtain ⟨m, e1, i, e2, j, e3, rfl⟩ := h
    refine ⟨_, sliceEnd_ok hb off size j i m, fun w => ?_⟩
    rw [unf, bounds_ok r1 r2 r3 e1 e2 e3 hd w]
    rfl
  case sliceEnd l b off len es c hb hlen hc =>
    simp only [chk_some] at h
    obtain ⟨hes, h⟩ := h
    have : es = size := Nat.eq_of_beq_eq_true hes
    subst this
    cases mx with
    | some q =>
      simp only [ob_some, Option.some.injEq] at h
      obtain ⟨m, e1, i, e2, j, e3, rfl⟩ := h
      have hhi : ∃ q', hi = some q' := by
        rcases hd with hd | hd
        · cases hd
        · cases hi with
          | none => exact absurd rfl hd
          | some q' => exact ⟨q', rfl⟩
      obtain ⟨q', rfl⟩ := hhi
      refine ⟨_, sliceEnd_ok hb off es j i m, fun w => ?_⟩
      rw [unf, bounds_ok (len := len) r1 r2 r3 (m := m) (bound_mono e1 hlen).1 (show boundO (some q') m len = some i from e2) e3 hd w]
      rfl
    | none =>
      simp only [ob_some] at h
      obtain ⟨i, e2, j, e3, h⟩ := h
      have hi' : i ≤ len := boundO_le e2 (Nat.le_refl _)
      have hj' : j ≤ i := boundO_le e3 (Nat.zero_le _)
      have e2' : boundO hi c len = some i := by
        cases hi with
        | none => simpa [boundO] using e2
        | some q => exact (bound_mono e2 hlen).1
      cases hj : Nat.blt j len || Nat.beq j 0 with
      | true =>
        rw [hj] at h
        simp only [Option.some.injEq] at h
        subst h
        have hne : (j < len ∨ j = 0) := by
          rw [Bool.or_eq_true] at hj
          rcases hj with hj | hj
          · exact .inl (by simpa using hj)
          · exact .inr (Nat.eq_of_beq_eq_true hj)
        have rr := RV.sliceEnd (ρ := ρ) (off + j * es) (i - j) es (c - j) hb (by omega) (by
          have : (c - j) * es + j * es = c * es := by rw [← Nat.add_mul]; congr 1; omega
          omega)
        refine ⟨_, rr, fun w => ?_⟩
        rw [unf, bounds_ok r1 r2 r3 (m := c) rfl e2' e3 hd w]
        simp only [Result.andThen_ok]
        by_cases hcj : c = j
        · have hj0 : j = 0 := by omega
          subst hj0
          rw [if_pos hcj]
          simp
        · rw [if_neg hcj]
          simp only [Option.map_some, addr_add, Nat.add_assoc]
      | false =>
        rw [hj] at h
        simp only [Option.some.injEq] at h
        subst h
        have hnl : ¬ j < len := fun q => by
          rw [Bool.or_eq_false_iff] at hj
          have := hj.1
          rw [← Bool.not_eq_true] at this
          exact this (by simpa using q)
        have hij : i - j = 0 := by omega
        have rr : ∀ a : Addr, RV ρ .empty (.slice (some a) (i - j) (c - j)) := fun a => by rw [hij]; exact .empty a _
        by_cases hcj : c = j
        · refine ⟨_, rr ⟨b.block, b.base + off, none⟩, fun w => ?_⟩
          rw [unf, bounds_ok r1 r2 r3 (m := c) rfl e2' e3 hd w]
          simp only [Result.andThen_ok]
          rw [if_pos hcj]
        · refine ⟨_, rr ((⟨b.block, b.base + off, none⟩ : Addr).add (j * es)), fun w => ?_⟩
          rw [unf, bounds_ok r1 r2 r3 (m := c) rfl e2' e3 hd w]
          simp only [Result.andThen_ok]
          rw [if_neg hcj]
          simp only [Option.map_some]

theorem roptNone {tm : T V} {mx hi : Option X} (h : mx.isNone || hi.isSome) : evo tm mx = none ∨ evo tm hi ≠ none := by
  cases mx with
  | none => exact .inl rfl
  | some x =>
    cases hi with
    | none => simp at h
    | some y => exact .inr (by simp [evo])

theorem slice_ok {t e : TypeId} {size : Nat} {y : Operand} {lo hi mx : Option Operand} {x : X} {l h m : Option X} (hu : C.P.underlying t = some (.slice e)) (hs : sizeT C.P e = some size) (hx : compX C y = some x) (hl : compXo C lo = some l) (hh : compXo C hi = some h) (hm : compXo C mx = some m)
    (hd : (m.isNone || h.isSome) = true) : POk C (.slice t y lo hi mx) (.slice size x l h m) := by
  intro ρ tm A hT hG v hv
  simp only [PD.eval] at hv
  have g := sliceOp_ok hu hs (compX_ok hT hG hx) (compXo_ok hT hG hl) (compXo_ok hT hG hh) (compXo_ok hT hG hm) (roptNone hd) hv
  exact Yields.of g fun q hq => by unfold execOp; rw [hq]

theorem sliceArr_ok {t e : TypeId} {n size : Nat} {y : Operand} {lo hi mx : Option Operand} {x : X} {l h m : Option X} (hu : C.P.underlying t = some (.array n e)) (hs : sizeT C.P e = some size) (hx : compX C y = some x) (hl : compXo C lo = some l) (hh : compXo C hi = some h) (hm : compXo C mx = some m)
    (hd : (m.isNone || h.isSome) = true) : POk C (.slice t y lo hi mx) (.sliceArr n size x l h m) := by
  intro ρ tm A hT hG v hv
  simp only [PD.eval] at hv
  have r := compX_ok hT hG hx
  have r1 := compXo_ok hT hG hl
  have r2 := compXo_ok hT hG hh
  have r3 := compXo_ok hT hG hm
  have hd' := roptNone (tm := tm) hd
  generalize hz : A.eval y = u at r
  unfold sliceArrOp at hv
  split at hv
  · rename_i a off e'
    rw [e'] at r
    cases r
    rename_i b hb
    simp only [ob_some, Option.some.injEq] at hv
    obtain ⟨m', e1, i, e2, j, e3, rfl⟩ := hv
    refine Yields.of (s := Instr.sliceAt t (.pointer (some ⟨b.block, b.base + off, none⟩)) (lo.map A.eval) (hi.map A.eval) (mx.map A.eval)) ⟨_, sliceEnd_ok hb off size j i m', fun w => ?_⟩ fun q hq => by unfold execOp; rw [hq]; simp only [hz]
    unfold Instr.sliceAt
    simp only [Sem.run_bind, run_underlying hu, Result.andThen_ok, Instr.sureAddr, Sem.run_pure, bounds_ok r1 r2 r3 e1 e2 e3 hd' w, run_sizeT hs]
    by_cases e0 : m' = j
    · rw [if_pos e0, if_pos e0]
    · rw [if_neg e0, if_neg e0]; rfl
  · cases hv

theorem idxNat_ok {ρ : Rho} {v : V} {x : Value} (hr : RV ρ v x) {n i : Nat} (h : idxNat v n = some i) : (∃ k, x = .int k (i : Int)) ∧ i < n := by
  unfold idxNat at h
  split at h
  · rename_i e0 k m
    cases hr
    simp only [chk_some, Option.some.injEq] at h
    obtain ⟨h1, rfl⟩ := h
    exact ⟨⟨_, rfl⟩, by simpa using h1⟩
  · cases h

theorem field_ok {t : TypeId} {fs : Array Field} {f : Nat} {fd : Field} {rd : Rd} {y : Operand} {x : X} (hu : C.P.underlying t = some (.struct fs)) (hf : fs[f]? = some fd) (hrd : rdT C.P fd.type = some rd) (h : compX C y = some x) :
    POk C (.field t y f) (.field rd fd.offset x) := by
  intro ρ tm A hT hG v hv
  have r := compX_ok hT hG h
  simp only [PD.eval] at hv
  generalize hz : A.eval y = u at r
  split at hv
  · rename_i cs e
    rw [e] at r
    cases r with | agg hcs =>
    rename_i xs
    obtain ⟨z, hz1, hz2⟩ := part_ok hrd hcs hv
    refine Yields.of (s := Instr.field t (.agg ⟨xs⟩) f) ⟨z, hz1, fun w => ?_⟩ fun q hq => by unfold execOp; rw [hq]; simp only [hz]
    simp [Instr.field, run_underlying hu, hf, asAgg, hz2]
  · cases hv

theorem indexAddr_ok {t e : TypeId} {size : Nat} {y z : Operand} {x i : X} (hu : C.P.underlying t = some (.slice e)) (hs : sizeT C.P e = some size) (hx : compX C y = some x) (hi : compX C z = some i) :
    POk C (.indexAddr t y z) (.indexAddr size x i) := by
  intro ρ tm A hT hG v hv
  have r := compX_ok hT hG hx
  have ri := compX_ok hT hG hi
  simp only [PD.eval] at hv
  generalize hz : A.eval y = u at r
  generalize hz2 : A.eval z = u2 at ri
  unfold indexAddrOp at hv
  split at hv
  · rename_i l off len cap e'
    rw [e'] at r
    simp only [ob_some, Option.some.injEq] at hv
    obtain ⟨j, hj, rfl⟩ := hv
    obtain ⟨⟨k, rfl⟩, hlt⟩ := idxNat_ok ri hj
    obtain ⟨b, hb, c, rfl⟩ : ∃ b, ρ l = some b ∧ ∃ c, u = .slice (some ⟨b.block, b.base + off, none⟩) len c := by
      cases r
      · rename_i b c hb; exact ⟨b, hb, _, rfl⟩
      · rename_i b size c hb hl hc; exact ⟨b, hb, _, rfl⟩
    refine Yields.of (s := Instr.indexAt t (.slice (some ⟨b.block, b.base + off, none⟩) len c) (.int k j)) ⟨_, .ptr (off + j * size) hb, fun w => ?_⟩ fun q hq => by unfold execOp; rw [hq]; simp only [hz, hz2]
    have hc1 : (0 : Int) ≤ (j : Int) ∧ (j : Int) < (len : Int) := ⟨by omega, by omega⟩
    simp [Instr.indexAt, asIntOf, run_underlying hu, hlt, run_sizeT hs, addr_add, Nat.add_assoc]
  · cases hv

theorem indexArr_ok {t e : TypeId} {n size : Nat} {y z : Operand} {x i : X} (hu : C.P.underlying t = some (.array n e)) (hs : sizeT C.P e = some size) (hx : compX C y = some x) (hi : compX C z = some i) :
    POk C (.indexAddr t y z) (.indexAddrArr n size x i) := by
  intro ρ tm A hT hG v hv
  have r := compX_ok hT hG hx
  have ri := compX_ok hT hG hi
  simp only [PD.eval] at hv
  generalize hz : A.eval y = u at r
  generalize hz2 : A.eval z = u2 at ri
  unfold indexArrOp at hv
  split at hv
  · rename_i l off e'
    rw [e'] at r
    simp only [ob_some, Option.some.injEq] at hv
    obtain ⟨j, hj, rfl⟩ := hv
    obtain ⟨⟨k, rfl⟩, hlt⟩ := idxNat_ok ri hj
    cases r
    rename_i b hb
    refine Yields.of (s := Instr.indexAt t (.pointer (some ⟨b.block, b.base + off, none⟩)) (.int k j)) ⟨_, .ptr (off + j * size) hb, fun w => ?_⟩ fun q hq => by unfold execOp; rw [hq]; simp only [hz, hz2]
    simp [Instr.indexAt, asIntOf, run_underlying hu, hlt, run_sizeT hs, addr_add, Nat.add_assoc, Instr.sureAddr]
  · cases hv

theorem natsOf_get {s : ByteArray} {i b : Nat} (h : (natsOf s)[i]? = some b) : ∃ c : UInt8, s[i]? = some c ∧ c.toNat = b := by
  unfold natsOf at h
  simp only [List.getElem?_map, Option.map_eq_some_iff] at h
  obtain ⟨c, h1, h2⟩ := h
  refine ⟨c, ?_, h2⟩
  have hlt : i < s.size := by
    have := (List.getElem?_eq_some_iff.1 h1).1
    simpa using this
  rw [ByteArray.getElem?_lt' s i hlt]
  have := (List.getElem?_eq_some_iff.1 h1).2
  congr 1

theorem indexStr_ok {t : TypeId} {y z : Operand} {x i : X} (hu : C.P.underlying t = some .string) (hx : compX C y = some x) (hi : compX C z = some i) : POk C (.index t y z) (.indexStr x i) := by
  intro ρ tm A hT hG v hv
  have r := compX_ok hT hG hx
  have ri := compX_ok hT hG hi
  simp only [PD.eval] at hv
  generalize hz : A.eval y = u at r
  generalize hz2 : A.eval z = u2 at ri
  unfold indexStrOp at hv
  split at hv
  · rename_i s k j e1 e2
    rw [e1] at r
    rw [e2] at ri
    cases r with | str t' =>
    cases ri
    simp only [ob_some, Option.some.injEq] at hv
    obtain ⟨b, hb, rfl⟩ := hv
    obtain ⟨c, hc, rfl⟩ := natsOf_get hb
    refine Yields.of (s := Instr.index t (.string t') (.int k (Int.ofNat j))) ⟨_, .int .u8 (Int.ofNat c.toNat), fun w => ?_⟩ fun q hq => by unfold execOp; rw [hq]; simp only [hz, hz2]
    simp [Instr.index, asIntOf, run_underlying hu, hc]
  · cases hv

theorem indexAgg_ok {t e : TypeId} {n size : Nat} {rd : Rd} {y z : Operand} {x i : X} (hu : C.P.underlying t = some (.array n e)) (hs : sizeT C.P e = some size) (hrd : rdT C.P e = some rd) (hx : compX C y = some x) (hi : compX C z = some i) :
    POk C (.index t y z) (.indexAgg rd n size x i) := by
  intro ρ tm A hT hG v hv
  have r := compX_ok hT hG hx
  have ri := compX_ok hT hG hi
  simp only [PD.eval] at hv
  generalize hz : A.eval y = u at r
  generalize hz2 : A.eval z = u2 at ri
  unfold indexAggOp at hv
  split at hv
  · rename_i cs e'
    rw [e'] at r
    cases r with | agg hcs =>
    rename_i xs
    simp only [ob_some] at hv
    obtain ⟨j, hj, hv⟩ := hv
    obtain ⟨⟨k, rfl⟩, hlt⟩ := idxNat_ok ri hj
    obtain ⟨q, hq1, hq2⟩ := part_ok hrd hcs hv
    refine Yields.of (s := Instr.index t (.agg ⟨xs⟩) (.int k j)) ⟨q, hq1, fun w => ?_⟩ fun q hq => by unfold execOp; rw [hq]; simp only [hz, hz2]
    simp [Instr.index, asIntOf, run_underlying hu, hlt, run_sizeT hs, hq2]
  · cases hv

theorem okV_ok {ρ : Rho} {v : V} {x : Value} (h : RV ρ v x) (ok b : Bool) : RV ρ (okV ok v b) (if ok then .tuple #[x, .bool b] else x) := by
  cases ok with
  | true => exact .tuple (.cons h (.cons (.bool b) .nil))
  | false => exact h

theorem assertT_ok {t xt : TypeId} {d : TypeDesc} {z : V} {ok : Bool} {y : Operand} {x : X} (hu : C.P.underlying t = some d) (hd : ∀ ms, d ≠ .interface ms) (hz : zeroT C.P t = some z) (h : compX C y = some x) :
    POk C (.typeAssert y xt t ok) (.assertT t z ok x) := by
  intro ρ tm A hT hG v hv
  have r := compX_ok hT hG h
  obtain ⟨zx, hz1, hz2⟩ := run_zeroT (ρ := ρ) hz
  simp only [PD.eval] at hv
  generalize he : A.eval y = u at r
  unfold assertTOp at hv
  split at hv
  · rename_i e
    rw [e] at r; cases r
    simp only [chk_some, Option.some.injEq] at hv
    obtain ⟨rfl, rfl⟩ := hv
    refine Yields.of (s := Instr.typeAssert .nilIface xt t true) ⟨_, okV_ok hz1 true false, fun w => ?_⟩ fun q hq => by unfold execOp; rw [hq]; simp only [he]
    unfold Instr.typeAssert
    simp only [Sem.run_bind, run_underlying hu, Result.andThen_ok]
    cases d <;> first | (exact absurd rfl (hd _)) | simp [hz2]
  · rename_i a v' e
    rw [e] at r; cases r
    rename_i x' hx'
    split at hv
    · rename_i hb
      have : a = t := Nat.eq_of_beq_eq_true hb
      subst this
      cases hv
      refine Yields.of (s := Instr.typeAssert (.iface a x') xt a ok) ⟨_, okV_ok hx' ok true, fun w => ?_⟩ fun q hq => by unfold execOp; rw [hq]; simp only [he]
      unfold Instr.typeAssert
      simp only [Sem.run_bind, run_underlying hu, Result.andThen_ok]
      cases d <;> first | (exact absurd rfl (hd _)) | simp
    · rename_i hb
      have hne : a ≠ t := by intro e'; subst e'; rw [Nat.beq_refl] at hb; cases hb
      simp only [chk_some, Option.some.injEq] at hv
      obtain ⟨rfl, rfl⟩ := hv
      refine Yields.of (s := Instr.typeAssert (.iface a x') xt t true) ⟨_, okV_ok hz1 true false, fun w => ?_⟩ fun q hq => by unfold execOp; rw [hq]; simp only [he]
      unfold Instr.typeAssert
      simp only [Sem.run_bind, run_underlying hu, Result.andThen_ok]
      cases d <;> first | (exact absurd rfl (hd _)) | simp [hz2, hne]
  · cases hv

theorem least_none {l : List String} : Instr.least l = none ↔ l = [] := by cases l <;> simp [Instr.least]

theorem missing_none {want : Array (String × TypeId)} {got : Array Method} : (Instr.missingMethod want got = none) ↔ (want.toList.all fun w => got.toList.any fun m => m.sig == w.2 && m.name == w.1) = true := by
  have e : (want.toList.filter fun (name, sig) => !got.any fun m => m.name == name && m.sig == sig) = [] ↔ (want.toList.all fun w => got.toList.any fun m => m.sig == w.2 && m.name == w.1) = true := by
    rw [List.filter_eq_nil_iff, List.all_eq_true]
    refine forall_congr' fun w => forall_congr' fun _ => ?_
    obtain ⟨name, sig⟩ := w
    have : (got.toList.any fun m => m.name == name && m.sig == sig) = (got.toList.any fun m => m.sig == sig && m.name == name) := by
      congr 1; funext m; rw [Bool.and_comm]
    show ¬ (!got.any fun m => m.name == name && m.sig == sig) = true ↔ (got.toList.any fun m => m.sig == sig && m.name == name) = true
    rw [← this, Array.any_toList]
    cases (got.any fun m => m.name == name && m.sig == sig) <;> simp
  rw [← e]
  unfold Instr.missingMethod
  generalize (want.toList.filter fun (name, sig) => !got.any fun m => m.name == name && m.sig == sig) = l
  cases l with
  | nil => simp [Instr.least]
  | cons p l =>
    simp only [List.map_cons, reduceCtorEq, iff_false]
    intro hn
    rw [List.partition_eq_filter_filter] at hn
    have orn : ∀ (a b : Option String), (a <|> b) = none → a = none ∧ b = none := fun a b h => by cases a <;> simp_all
    obtain ⟨h1, h2⟩ := orn _ _ hn
    rw [least_none] at h1 h2
    simp only [List.map_eq_nil_iff] at h2
    rw [List.filter_eq_nil_iff] at h1 h2
    have g1 := h1 p.1 (by simp)
    have g2 := h2 p.1 (by simp)
    simp at g1 g2
    exact g2 g1

theorem assertI_ok {t xt : TypeId} {want : Array (String × TypeId)} {z : V} {ok : Bool} {y : Operand} {x : X} (hu : C.P.underlying t = some (.interface want)) (hz : zeroT C.P t = some z) (h : compX C y = some x) :
    POk C (.typeAssert y xt t ok) (.assertI want z ok x) := by
  intro ρ tm A hT hG v hv
  have r := compX_ok hT hG h
  obtain ⟨zx, hz1, hz2⟩ := run_zeroT (ρ := ρ) hz
  simp only [PD.eval] at hv
  generalize he : A.eval y = u at r
  unfold assertIOp at hv
  split at hv
  · rename_i e
    rw [e] at r; cases r
    simp only [chk_some, Option.some.injEq] at hv
    obtain ⟨rfl, rfl⟩ := hv
    refine Yields.of (s := Instr.typeAssert .nilIface xt t true) ⟨_, okV_ok hz1 true false, fun w => ?_⟩ fun q hq => by unfold execOp; rw [hq]; simp only [he]
    unfold Instr.typeAssert
    simp only [Sem.run_bind, run_underlying hu, Result.andThen_ok]
    simp [hz2]
  · rename_i a v' e
    rw [e] at r; cases r
    rename_i x' hx'
    simp only [ob_some] at hv
    obtain ⟨b, hb, hv⟩ := hv
    simp only [envOf, hasT, ob_some, Option.some.injEq] at hb
    obtain ⟨i, hi, hb⟩ := hb
    have ht : ∀ w, (typeInfo a).run C.P w = .ok i w := fun w => by simp [typeInfo, hi]
    cases b with
    | true =>
      simp only [Option.some.injEq] at hv
      subst hv
      refine Yields.of (s := Instr.typeAssert (.iface a x') xt t ok) ⟨_, okV_ok (.iface a hx') ok true, fun w => ?_⟩ fun q hq => by unfold execOp; rw [hq]; simp only [he]
      unfold Instr.typeAssert
      simp only [Sem.run_bind, run_underlying hu, Result.andThen_ok, ht, missing_none.2 hb]
      simp
    | false =>
      simp only [chk_some, Option.some.injEq] at hv
      obtain ⟨rfl, rfl⟩ := hv
      have hm : ∃ s, Instr.missingMethod want i.methods = some s := by
        cases hm : Instr.missingMethod want i.methods with
        | none => rw [missing_none.1 hm] at hb; cases hb
        | some s => exact ⟨s, rfl⟩
      obtain ⟨s, hm⟩ := hm
      refine Yields.of (s := Instr.typeAssert (.iface a x') xt t true) ⟨_, okV_ok hz1 true false, fun w => ?_⟩ fun q hq => by unfold execOp; rw [hq]; simp only [he]
      unfold Instr.typeAssert
      simp only [Sem.run_bind, run_underlying hu, Result.andThen_ok, ht, hm]
      simp [hz2]
  · cases hv

theorem extract_ok {i : Nat} {y : Operand} {x : X} (h : compX C y = some x) : POk C (.extract y i) (.extract i x) := by
  intro ρ tm A hT hG v hv
  have r := compX_ok hT hG h
  simp only [PD.eval] at hv
  generalize hz : A.eval y = u at r
  unfold extractOp at hv
  split at hv
  · rename_i vs e
    rw [e] at r
    cases r with | tuple hcs =>
    rename_i xs
    obtain ⟨z, h1, h2⟩ := hcs.get hv
    refine Yields.of (s := Instr.extract (.tuple ⟨xs⟩) i) ⟨z, h2, fun w => ?_⟩ fun q hq => by unfold execOp; rw [hq]; simp only [hz]
    simp [Instr.extract, h1]
  · cases hv

/-! ### builtins -/

theorem builtin_run {b : Builtin} {args : Array Operand} {ts : Array TypeId} {A : Act} (q : Oper) (hq : q.op = .call { callee := .builtin b, args := args, argTypes := ts }) :
    execOp A.eval q = Go.builtin b ts q.type (args.map fun | .const _ => true | _ => false) (args.map A.eval) := by
  unfold execOp
  rw [hq]
  rfl

theorem RVs.one {ρ : Rho} {v : V} {xs : List Value} (h : RVs ρ [v] xs) : ∃ x, xs = [x] ∧ RV ρ v x := by
  cases h with
  | cons h hs => cases hs; exact ⟨_, rfl, h⟩

theorem RVs.two {ρ : Rho} {v u : V} {xs : List Value} (h : RVs ρ [v, u] xs) : ∃ x y, xs = [x, y] ∧ RV ρ v x ∧ RV ρ u y := by
  cases h with
  | cons h hs => obtain ⟨y, rfl, hy⟩ := hs.one; exact ⟨_, _, rfl, h, hy⟩

theorem args1 {A : Act} {args : Array Operand} {x : X} (h : compXs C args.toList = some [x]) {ρ : Rho} {tm : T V} (hT : TRel ρ C.n tm A.tmps) (hG : GRel ρ C.G) : ∃ y, args.map A.eval = #[y] ∧ RV ρ (x.ev tm) y := by
  obtain ⟨y, hl, r⟩ := (compXs_ok hT hG h).one
  exact ⟨y, by apply Array.ext'; simpa using hl, r⟩

theorem args2 {A : Act} {args : Array Operand} {x x2 : X} (h : compXs C args.toList = some [x, x2]) {ρ : Rho} {tm : T V} (hT : TRel ρ C.n tm A.tmps) (hG : GRel ρ C.G) :
    ∃ y y2, args.map A.eval = #[y, y2] ∧ RV ρ (x.ev tm) y ∧ RV ρ (x2.ev tm) y2 := by
  obtain ⟨y, y2, hl, r1, r2⟩ := (compXs_ok hT hG h).two
  exact ⟨y, y2, by apply Array.ext'; simpa using hl, r1, r2⟩

theorem tsHead {ts : Array TypeId} {t : TypeId} {r : List TypeId} (h : ts.toList = t :: r) : ts[0]? = some t := by
  rw [← Array.getElem?_toList, h]; rfl

/-- A builtin that is a value. -/
theorem Yields.builtin {b : Builtin} {args : Array Operand} {ts : Array TypeId} {A : Act} {ρ : Rho} {v : V} {z : Value} {ys : Array Value} (hy : args.map A.eval = ys) (hz : RV ρ v z)
    (h : ∀ ty cs w, (Go.builtin b ts ty cs ys).run C.P w = .ok (.value z) w) : Yields C.P ρ A (.call { callee := .builtin b, args := args, argTypes := ts }) v :=
  ⟨z, hz, fun q hq w => by rw [builtin_run q hq, hy]; exact h _ _ w⟩

theorem lenStr_ok {args : Array Operand} {ts : Array TypeId} {t : TypeId} {rest : List TypeId} {x : X} (ht : ts.toList = t :: rest) (hu : C.P.underlying t = some .string) (h : compXs C args.toList = some [x]) :
    POk C (.call { callee := .builtin .len, args := args, argTypes := ts }) (.lenStr x) := by
  intro ρ tm A hT hG v hv
  obtain ⟨y, hy, r⟩ := args1 h hT hG
  simp only [PD.eval] at hv
  unfold lenStrOp at hv
  split at hv
  · rename_i e
    rw [e] at r
    cases r with | str s =>
    cases hv
    rw [natsOf_length]
    refine Yields.builtin hy (.int .i64 (Int.ofNat s.size)) fun ty cs w => ?_
    simp [Go.builtin, Builtin.len_, tsHead ht, run_underlying hu, goInt]
  · cases hv

theorem lenSlice_ok {args : Array Operand} {ts : Array TypeId} {t e : TypeId} {rest : List TypeId} {x : X} (ht : ts.toList = t :: rest) (hu : C.P.underlying t = some (.slice e)) (h : compXs C args.toList = some [x]) :
    POk C (.call { callee := .builtin .len, args := args, argTypes := ts }) (.lenSlice x) := by
  intro ρ tm A hT hG v hv
  obtain ⟨y, hy, r⟩ := args1 h hT hG
  simp only [PD.eval] at hv
  have key : ∀ a n c, y = .slice a n c → v = .int .i64 (Int.ofNat n) → Yields C.P ρ A (.call { callee := .builtin .len, args := args, argTypes := ts }) v := fun a n c e1 e2 => by
    subst e1; subst e2
    refine Yields.builtin hy (.int .i64 (Int.ofNat n)) fun ty cs w => ?_
    simp [Go.builtin, Builtin.len_, tsHead ht, run_underlying hu, goInt]
  unfold lenSliceOp at hv
  split at hv
  · rename_i l o n c e'
    rw [e'] at r
    cases hv
    cases r
    · exact key _ _ _ rfl rfl
    · exact key _ _ _ rfl rfl
  · rename_i c e'
    rw [e'] at r
    cases hv
    cases r
    exact key _ _ _ rfl rfl
  · rename_i e'
    rw [e'] at r
    cases hv
    cases r
    exact key _ _ _ rfl rfl
  · cases hv

theorem lenArr_ok {args : Array Operand} {ts : Array TypeId} {t e : TypeId} {n : Nat} {rest : List TypeId} {x : X} (ht : ts.toList = t :: rest) (hu : C.P.underlying t = some (.array n e)) (h : compXs C args.toList = some [x]) :
    POk C (.call { callee := .builtin .len, args := args, argTypes := ts }) (.lenArr n) := by
  intro ρ tm A hT hG v hv
  obtain ⟨y, hy, r⟩ := args1 h hT hG
  cases hv
  refine Yields.builtin hy (.int .i64 (Int.ofNat n)) fun ty cs w => ?_
  simp [Go.builtin, Builtin.len_, tsHead ht, run_underlying hu, goInt]

theorem cap_ok {args : Array Operand} {ts : Array TypeId} {t e : TypeId} {rest : List TypeId} {x : X} (ht : ts.toList = t :: rest) (hu : C.P.underlying t = some (.slice e)) (h : compXs C args.toList = some [x]) :
    POk C (.call { callee := .builtin .cap, args := args, argTypes := ts }) (.cap x) := by
  intro ρ tm A hT hG v hv
  obtain ⟨y, hy, r⟩ := args1 h hT hG
  simp only [PD.eval] at hv
  have key : ∀ a n c, y = .slice a n c → v = .int .i64 (Int.ofNat c) → Yields C.P ρ A (.call { callee := .builtin .cap, args := args, argTypes := ts }) v := fun a n c e1 e2 => by
    subst e1; subst e2
    refine Yields.builtin hy (.int .i64 (Int.ofNat c)) fun ty cs w => ?_
    simp [Go.builtin, Builtin.cap_, tsHead ht, run_underlying hu, goInt]
  unfold capOp at hv
  split at hv
  · rename_i l o n c e'
    rw [e'] at r
    cases hv
    cases r
    exact key _ _ _ rfl rfl
  · rename_i c e'
    rw [e'] at r
    cases hv
    cases r
    exact key _ _ _ rfl rfl
  · cases hv

theorem maxI_ok {args : Array Operand} {ts : Array TypeId} {x x2 : X} (h : compXs C args.toList = some [x, x2]) : POk C (.call { callee := .builtin .max, args := args, argTypes := ts }) (.maxI x x2) := by
  intro ρ tm A hT hG v hv
  obtain ⟨y, y2, hy, r1, r2⟩ := args2 h hT hG
  simp only [PD.eval] at hv
  unfold maxOp at hv
  split at hv
  · rename_i k a k2 b e1 e2
    rw [e1] at r1
    rw [e2] at r2
    cases r1; cases r2; cases hv
    refine Yields.builtin hy (.int k _) fun ty cs w => ?_
    have : pickI (intLt a b) b a = (if b > a then b else a) := by
      rw [intLt_eq]; by_cases hab : a < b <;> simp [hab, pickI]
    rw [this]
    simp [Go.builtin, Builtin.max_, Builtin.max2]
  · cases hv

theorem minI_ok {args : Array Operand} {ts : Array TypeId} {x x2 : X} (h : compXs C args.toList = some [x, x2]) : POk C (.call { callee := .builtin .min, args := args, argTypes := ts }) (.minI x x2) := by
  intro ρ tm A hT hG v hv
  obtain ⟨y, y2, hy, r1, r2⟩ := args2 h hT hG
  simp only [PD.eval] at hv
  unfold minOp at hv
  split at hv
  · rename_i k a k2 b e1 e2
    rw [e1] at r1
    rw [e2] at r2
    cases r1; cases r2; cases hv
    refine Yields.builtin hy (.int k _) fun ty cs w => ?_
    have : pickI (intLt b a) b a = (if b < a then b else a) := by
      rw [intLt_eq]; by_cases hab : b < a <;> simp [hab, pickI]
    rw [this]
    simp [Go.builtin, Builtin.min_, Builtin.min2]
  · cases hv

theorem sliceData_ok {args : Array Operand} {ts : Array TypeId} {x : X} (h : compXs C args.toList = some [x]) : POk C (.call { callee := .builtin .unsafeSliceData, args := args, argTypes := ts }) (.sliceData x) := by
  intro ρ tm A hT hG v hv
  obtain ⟨y, hy, r⟩ := args1 h hT hG
  simp only [PD.eval] at hv
  unfold sliceDataOp at hv
  split at hv
  · rename_i c e
    rw [e] at r; cases r; cases hv
    exact Yields.builtin hy .nilPtr fun ty cs w => rfl
  · rename_i l o n c e
    rw [e] at r; cases r; cases hv
    rename_i b hb
    exact Yields.builtin hy (.ptr o hb) fun ty cs w => rfl
  · rename_i l o n sz e
    rw [e] at r
    cases hv
    generalize hl : V.slice l o (n + 1) (.toEnd sz) = d at r
    cases r <;> cases hl
    rename_i b c hb hlen hc
    obtain ⟨c', rfl⟩ : ∃ c', c = c' + 1 := ⟨c - 1, by omega⟩
    exact Yields.builtin hy (.ptr o hb) fun ty cs w => rfl
  · cases hv

/-! ### build -/

theorem RVs.of_get {ρ : Rho} : ∀ {vs : List V} {xs : List Value}, vs.length = xs.length → (∀ (i : Nat) (v : V), vs[i]? = some v → ∃ x, xs[i]? = some x ∧ RV ρ v x) → RVs ρ vs xs
  | [], [], _, _ => .nil
  | [], _ :: _, h, _ => by simp at h
  | _ :: _, [], h, _ => by simp at h
  | v :: vs, x :: xs, hl, h => by
    obtain ⟨x', h1, h2⟩ := h 0 v rfl
    simp at h1
    subst h1
    exact .cons h2 (RVs.of_get (by simpa using hl) fun i u hu => by simpa using h (i + 1) u (by simpa using hu))

/-- Cells put one by one. -/
theorem foldl_put (off : Nat) : ∀ (l : List Value) (k : Nat) (arr : Array Value), off + k + l.length ≤ arr.size →
    ((l.zipIdx k).foldl (fun (acc : Array Value) p => acc.setIfInBounds (off + p.2) p.1) arr).size = arr.size ∧
    ∀ j, ((l.zipIdx k).foldl (fun (acc : Array Value) p => acc.setIfInBounds (off + p.2) p.1) arr)[j]? = if off + k ≤ j ∧ j < off + k + l.length then l[j - (off + k)]? else arr[j]?
  | [], k, arr, _ => ⟨rfl, fun j => by simp; omega⟩
  | x :: l, k, arr, h => by
    simp at h
    obtain ⟨h1, h2⟩ := foldl_put off l (k + 1) (arr.setIfInBounds (off + k) x) (by simp; omega)
    simp only [List.zipIdx_cons, List.foldl_cons]
    refine ⟨by rw [h1]; simp, fun j => ?_⟩
    rw [h2 j]
    by_cases hj : off + k = j
    · subst hj
      rw [if_neg (by omega), if_pos (by simp)]
      have hlt : off + k < arr.size := by omega
      simp [hlt]
    · by_cases hin : off + (k + 1) ≤ j ∧ j < off + (k + 1) + l.length
      · rw [if_pos hin, if_pos (by simp; omega)]
        rw [show j - (off + k) = (j - (off + (k + 1))) + 1 from by omega]
        simp
      · rw [if_neg hin, if_neg (by simp; omega), Array.getElem?_setIfInBounds_ne (by omega)]

theorem put_ok {ρ : Rho} {vs cs r : List V} {arr ys : Array Value} (hv : RVs ρ vs arr.toList) (hc : RVs ρ cs ys.toList) {off : Nat} (h : putFrom vs off cs = some r) :
    off + ys.size ≤ arr.size ∧ RVs ρ r (ys.zipIdx.foldl (fun (acc : Array Value) p => acc.setIfInBounds (off + p.2) p.1) arr).toList := by
  have l1 := hv.length
  have l2 := hc.length
  have l3 := putFrom_length h
  have l4 := putFrom_le h
  simp at l1 l2
  have hle : off + ys.size ≤ arr.size := by omega
  refine ⟨hle, ?_⟩
  rw [← Array.foldl_toList, Array.toList_zipIdx]
  obtain ⟨h1, h2⟩ := foldl_put off ys.toList 0 arr (by simpa using hle)
  refine RVs.of_get (by simp [h1]; omega) fun i v hi => ?_
  rw [putFrom_get h] at hi
  rw [Array.getElem?_toList, h2 i]
  by_cases hin : off ≤ i ∧ i < off + cs.length
  · rw [if_pos hin] at hi
    rw [if_pos (by simp; omega)]
    obtain ⟨x, hx1, hx2⟩ := hc.get hi
    exact ⟨x, by simpa using hx1, hx2⟩
  · rw [if_neg hin] at hi
    rw [if_neg (by simp; omega)]
    obtain ⟨x, hx1, hx2⟩ := hv.get hi
    exact ⟨x, by simpa using hx1, hx2⟩

/-- The parts of an aggregate, laid one behind the other. -/
theorem fill_ok {place : Nat → Option (Nat × Nat)} {A : Act} {ρ : Rho} {tm : T V} (hT : TRel ρ C.n tm A.tmps) (hG : GRel ρ C.G) : ∀ {ps : List (Nat × Operand)} {l : List (Nat × Nat × X)}, compParts C place ps = some l →
    ∀ {vs r : List V} {arr : Array Value}, RVs ρ vs arr.toList → fillIn tm l vs = some r → ∃ arr' : Array Value, Instr.fill place arr (ps.map fun p => (p.1, A.eval p.2)) = some arr' ∧ RVs ρ r arr'.toList
  | [], l, h, vs, r, arr, hv, hf => by
    simp [compParts] at h; subst h
    simp [fillIn] at hf; subst hf
    exact ⟨arr, rfl, hv⟩
  | (i, x) :: ps, l, h, vs, r, arr, hv, hf => by
    simp only [compParts, ob_some, Option.some.injEq] at h
    obtain ⟨p, h1, d, h2, ds, h3, rfl⟩ := h
    obtain ⟨off, size⟩ := p
    simp only [fillIn, chk_some, ob_some] at hf
    obtain ⟨hsz, cells, hp, hf⟩ := hf
    have rc := (compX_ok hT hG h2).cells
    obtain ⟨hle, rp⟩ := put_ok hv rc hp
    obtain ⟨arr', ha, hr⟩ := fill_ok hT hG h3 rp hf
    refine ⟨arr', ?_, hr⟩
    have hs : (d.ev tm).cells.length = size := Nat.eq_of_beq_eq_true hsz
    have hs2 : (A.eval x).cells.size = size := by have := rc.length; simp at this; omega
    simp only [List.map_cons, Instr.fill, h1]
    rw [if_neg (by simp [hs2]; omega)]
    exact ha

theorem places_ok {P : Program} : ∀ {fs : List Field} {pl : List (Nat × Nat)}, placesT P fs = some pl → ∀ w, (fs.mapM fun f => do pure (f.offset, ← sizeOf f.type) : Sem (List (Nat × Nat))).run P w = .ok pl w
  | [], pl, h, w => by simp [placesT] at h; subst h; rfl
  | f :: fs, pl, h, w => by
    simp only [placesT, ob_some, Option.some.injEq] at h
    obtain ⟨n, h1, r, h2, rfl⟩ := h
    have ih := places_ok h2 w
    rw [List.mapM_cons]
    simp only [Sem.run_bind, run_sizeT h1, Result.andThen_ok, Sem.run_pure, ih]

theorem mapM_array {P : Program} {α β : Type} (f : α → Sem β) (xs : Array α) (w : World) {l : List β} (h : (xs.toList.mapM f).run P w = .ok l w) : (xs.mapM f).run P w = .ok ⟨l⟩ w := by
  rw [Array.mapM_eq_mapM_toList]
  simp [Sem.run_map, h]

theorem buildStruct_ok {t : TypeId} {fs : Array Field} {ps : Array (Nat × Operand)} {z : V} {pl : List (Nat × Nat)} {l : List (Nat × Nat × X)} (hu : C.P.underlying t = some (.struct fs)) (hz : zeroT C.P t = some z) (hp : placesT C.P fs.toList = some pl)
    (hc : compParts C (fun i => pl[i]?) ps.toList = some l) : POk C (.build t ps) (.build z.cells l) := by
  intro ρ tm A hT hG v hv
  simp only [PD.eval, ob_some, Option.some.injEq] at hv
  obtain ⟨cs, hf, rfl⟩ := hv
  obtain ⟨zx, hz1, hz2⟩ := run_zeroT (ρ := ρ) hz
  obtain ⟨arr, ha, hr⟩ := fill_ok hT hG hc hz1.cells hf
  refine Yields.of (s := Instr.build t (ps.map fun p => (p.1, A.eval p.2))) ⟨_, .agg hr, fun w => ?_⟩ fun q hq => by unfold execOp; rw [hq]
  unfold Instr.build
  simp only [Sem.run_bind, hz2, run_underlying hu, Result.andThen_ok, mapM_array _ fs w (places_ok hp w)]
  have e : (fun (x : Nat) => (⟨pl⟩ : Array (Nat × Nat))[x]?) = fun i => pl[i]? := by funext i; simp
  rw [e]
  simp only [Array.toList_map, ha]
  rfl

theorem buildArr_ok {t e : TypeId} {n size : Nat} {ps : Array (Nat × Operand)} {z : V} {l : List (Nat × Nat × X)} (hu : C.P.underlying t = some (.array n e)) (hz : zeroT C.P t = some z) (hs : sizeT C.P e = some size)
    (hc : compParts C (fun i => some (i * size, size)) ps.toList = some l) : POk C (.build t ps) (.build z.cells l) := by
  intro ρ tm A hT hG v hv
  simp only [PD.eval, ob_some, Option.some.injEq] at hv
  obtain ⟨cs, hf, rfl⟩ := hv
  obtain ⟨zx, hz1, hz2⟩ := run_zeroT (ρ := ρ) hz
  obtain ⟨arr, ha, hr⟩ := fill_ok hT hG hc hz1.cells hf
  refine Yields.of (s := Instr.build t (ps.map fun p => (p.1, A.eval p.2))) ⟨_, .agg hr, fun w => ?_⟩ fun q hq => by unfold execOp; rw [hq]
  unfold Instr.build
  simp only [Sem.run_bind, hz2, run_underlying hu, Result.andThen_ok, run_sizeT hs]
  simp only [Array.toList_map, ha]
  rfl

end
end Go.Dx
namespace Go.Dx
open Go Go.RowKit

section
variable {P : Program} {B : Nat} {w0 : World} {ρ : Rho} {h : H} {w : World}

/-- A row's cells, read. -/
theorem CRel.range {b : Blk} {vs : List V} {e : TypeId} {fz : Nat} {own : Own} (c : CRel ρ b vs e fz own w) : ∀ {n off : Nat} {r : List V}, rowFrom vs off n = some r →
    ∃ xs : List Value, RVs ρ r xs ∧ xs.length = n ∧ w.rangeAt b.block (b.base + off) xs := by
  intro n
  induction n with
  | zero => intro off r hr; simp [rowFrom, takeN] at hr; subst hr; exact ⟨[], .nil, rfl, fun j v hv => by simp at hv⟩
  | succ n ih =>
    intro off r hr
    obtain ⟨h1, h2, h3⟩ := rowFrom_get hr
    have hlt : off < vs.length := by omega
    have hd : dropN off vs = vs[off] :: dropN (off + 1) vs := by
      rw [dropN_drop, dropN_drop]; exact List.drop_eq_getElem_cons hlt
    unfold rowFrom at hr
    rw [hd] at hr
    simp only [takeN, ob_some, Option.some.injEq] at hr
    obtain ⟨q, hq, rfl⟩ := hr
    obtain ⟨xs, r1, r2, r3⟩ := ih (off := off + 1) hq
    obtain ⟨x, hx1, hx2⟩ := c.cell off vs[off] (List.getElem?_eq_getElem hlt)
    refine ⟨x :: xs, .cons hx2 r1, by simp [r2], fun j v hv => ?_⟩
    cases j with
    | zero =>
      simp at hv; subst hv
      unfold cellAd at hx1
      simpa using hx1
    | succ j =>
      simp at hv
      have := r3 j v hv
      rw [show b.base + off + (j + 1) = b.base + (off + 1) + j from by omega]
      exact this

theorem load_ok {t : TypeId} {rd : Rd} (ht : rdT P t = some rd) {b : Blk} {vs : List V} {e : TypeId} {fz : Nat} {own : Own} (c : CRel ρ b vs e fz own w) {off : Nat} {v : V} (hv : rdPart rd vs off = some v) :
    ∃ x, RV ρ v x ∧ (loadVar t ⟨b.block, b.base + off, none⟩).run P w = .ok x w := by
  rcases rdT_ok ht with ⟨rfl, ha⟩ | ⟨n, rfl, hs, ha⟩
  · simp only [rdPart] at hv
    rw [dropN_drop, List.head?_drop] at hv
    obtain ⟨x, h1, h2⟩ := c.cell off v hv
    unfold cellAd at h1
    exact ⟨x, h2, by simp [loadVar, ha, h1]⟩
  · simp only [rdPart, ob_some, Option.some.injEq] at hv
    obtain ⟨r, h1, rfl⟩ := hv
    obtain ⟨xs, r1, r2, r3⟩ := c.range h1
    refine ⟨_, .agg r1, ?_⟩
    have hl : (loadCells ⟨b.block, b.base + off, none⟩ xs.length).run P w = .ok xs.toArray w :=
      run_loadCells_list (P := P) w _ xs (fun j v hv => by rw [addr_add]; exact r3 j v hv)
    rw [r2] at hl
    simp [loadVar, ha, run_sizeT hs, hl]

/-- Which kind of type a key is of. -/
def PKOk (d : TypeDesc) (pk : PK) : Prop := (pk = .str ∧ d = .string) ∨ (pk = .int ∧ ∃ k, d = .int k)

theorem keyT_ok {t : TypeId} {k : V} (h : plainKey (keyT P t) k = true) : ∃ d, P.underlying t = some d ∧ PKOk d (keyT P t) := by
  unfold keyT at h ⊢
  cases hu : P.underlying t with
  | none => simp [hu] at h; cases k <;> simp [plainKey] at h
  | some d =>
    simp only [hu] at h ⊢
    cases d <;> first | (exact ⟨_, rfl, .inl ⟨rfl, rfl⟩⟩) | (exact ⟨_, rfl, .inr ⟨rfl, _, rfl⟩⟩) | (cases k <;> simp [plainKey] at h)

theorem checkKey_ok {t : TypeId} {d : TypeDesc} {pk : PK} (hu : P.underlying t = some d) (hd : PKOk d pk) (empty : Bool) (x : Value) (n : Nat) : (Instr.checkKey empty (n + 1) t x).run P w = .ok () w := by
  unfold Instr.checkKey
  simp only [Sem.run_bind, run_underlying hu, Result.andThen_ok]
  rcases hd with ⟨_, rfl⟩ | ⟨_, k, rfl⟩ <;> rfl

theorem sameNow_ok {d : TypeDesc} {pk : PK} (hd : PKOk d pk) {k u : V} {x y : Value} {b : Bool} (hk : RV ρ k x) (hu : RV ρ u y) (h : cellEq pk k u = some b) : Instr.sameNow d x y = some b := by
  rcases cellEq_ok hk hu h with ⟨e, c, d', rfl, rfl, rfl⟩ | ⟨e, k', c, d', rfl, rfl, rfl⟩ | ⟨e, s, t', rfl, rfl, rfl⟩
  · subst e; rcases hd with ⟨e, _⟩ | ⟨e, _⟩ <;> cases e
  · subst e
    rcases hd with ⟨e, _⟩ | ⟨_, j, rfl⟩
    · cases e
    · simp [Instr.sameNow]
  · subst e
    rcases hd with ⟨_, rfl⟩ | ⟨e, _⟩
    · rfl
    · cases e

theorem findNow_ok {d : TypeDesc} {pk : PK} (hd : PKOk d pk) {k : V} {x : Value} (hk : RV ρ k x) : ∀ {es : List (V × V × Nat)} {ms : List MapEntry}, REs ρ es ms → ∀ {r : Option (Nat × V)}, findK pk k es = some r → ∀ i,
    (r = none → Instr.findNow d x ms i = some none) ∧ (∀ j v, r = some (j, v) → ∃ e, ms[j]? = some e ∧ RV ρ v e.val ∧ Instr.findNow d x ms i = some (some (i + j, e.val))) := by
  intro es ms hes
  induction hes with
  | nil =>
    intro r hr i
    simp [findK] at hr
    subst hr
    exact ⟨fun _ => rfl, fun j v h => by cases h⟩
  | @cons k' v' n m es ms hk' hv' hn hs ih =>
    intro r hr i
    simp only [findK, ob_some] at hr
    obtain ⟨b, hb, hr⟩ := hr
    have hs' := sameNow_ok hd hk hk' hb
    cases b with
    | true =>
      simp only [Option.some.injEq] at hr
      subst hr
      refine ⟨fun h => (by cases h), fun j v h => ?_⟩
      cases h
      exact ⟨m, rfl, hv', by simp [Instr.findNow, hs']⟩
    | false =>
      simp only [ob_some, Option.some.injEq] at hr
      obtain ⟨q, hq, hr⟩ := hr
      obtain ⟨h1, h2⟩ := ih hq (i + 1)
      cases q with
      | none =>
        subst hr
        exact ⟨fun _ => (by simp [Instr.findNow, hs', h1 rfl]), fun j v h => (by cases h)⟩
      | some p =>
        obtain ⟨j, v⟩ := p
        simp only at hr
        subst hr
        refine ⟨fun h => (by simp at h), fun j' v' h => ?_⟩
        simp at h
        obtain ⟨rfl, rfl⟩ := h
        obtain ⟨e, e1, e2, e3⟩ := h2 j v rfl
        exact ⟨e, (by simpa using e1), e2, (by simp [Instr.findNow, hs', e3]; omega)⟩

theorem findKey_run {t : TypeId} {d : TypeDesc} (hu : P.underlying t = some d) {x : Value} {ms : List MapEntry} {r : Option (Nat × Value)} (h : Instr.findNow d x ms 0 = some r) : (Instr.findKey t x ms).run P w = .ok r w := by
  unfold Instr.findKey
  simp [run_underlying hu, h]

theorem HRel.mapAt (R : HRel B w0 ρ h w) {l : Lb} {b : Blk} {es : List (V × V × Nat)} {clock : Nat} (hl : ρ l = some b) (hg : h.get l = some (.map es clock)) :
    ∃ ms : Array MapEntry, (getObj b.block).run P w = .ok (.map ms clock) w ∧ REs ρ es ms.toList := by
  obtain ⟨ms, h1, h2⟩ := R.obj l b _ hl hg
  exact ⟨ms, by simp [getObj, Sem.run, h1], h2⟩

/-- What the machine's reads say of the model's. -/
def RdOk (C : CE) (o : Op) (d : RD) : Prop := ∀ {ρ : Rho} {tm : T V} {a : Act}, TRel ρ C.n tm a.tmps → GRel ρ C.G → ∀ q, d.req tm = some q →
  ∀ {B : Nat} {w0 : World} {h : H} {w : World} (v : V), HRel B w0 ρ h w → q.ask h = some v → ∃ x, RV ρ v x ∧ ∀ (p : Oper), p.op = o → (execOp a.eval p).run C.P w = .ok (.value x) w

theorem value_run {s : Sem Value} {x : Value} (h : s.run P w = .ok x w) : (do let y ← s; pure (Next.value y) : Sem Next).run P w = .ok (.value x) w := by simp [h]

theorem reqPtr_some {f : Lb → Nat → Q} {v : V} {q : Q} (h : reqPtr f v = some q) : ∃ l off, v = .ptr l off ∧ q = f l off := by
  unfold reqPtr at h
  split at h
  · cases h; exact ⟨_, _, rfl, rfl⟩
  · cases h

theorem ptr_inv {l : Lb} {off : Nat} {x : Value} (h : RV ρ (.ptr l off) x) : ∃ b, ρ l = some b ∧ x = .pointer (some ⟨b.block, b.base + off, none⟩) := by
  cases h with | ptr _ h => exact ⟨_, h, rfl⟩

theorem rd_load {C : CE} {t : TypeId} {rd : Rd} {y : Operand} {x : X} (ht : rdT C.P t = some rd) (hx : compX C y = some x) : RdOk C (.load t y) (.load rd x) := by
  intro ρ tm A hT hG q hq B w0 h w v R hv
  obtain ⟨l, off, e, rfl⟩ := reqPtr_some hq
  have r := compX_ok hT hG hx
  rw [e] at r
  obtain ⟨b, hb, hy⟩ := ptr_inv r
  simp only [Q.ask] at hv
  split at hv
  · rename_i vs el fz own hg
    obtain ⟨z, h1, h2⟩ := load_ok ht (R.obj l b _ hb hg) hv
    refine ⟨z, h1, fun p hp => ?_⟩
    unfold execOp
    rw [hp]
    simp only [hy, Instr.loadAt, Instr.sureAddr]
    exact value_run (by simpa using h2)
  · cases hv

theorem rd_lookup {C : CE} {t kt et : TypeId} {z : V} {ok : Bool} {m k : Operand} {x i : X} (hu : C.P.underlying t = some (.map kt et)) (hz : zeroT C.P et = some z) (hx : compX C m = some x) (hi : compX C k = some i) :
    RdOk C (.lookup t m k ok) (.lookup (keyT C.P kt) z ok x i) := by
  intro ρ tm A hT hG q hq B w0 h w v R hv
  have r := compX_ok hT hG hx
  have ri := compX_ok hT hG hi
  obtain ⟨zx, hz1, hz2⟩ := run_zeroT (ρ := ρ) hz
  simp only [RD.req, chk_some, Option.some.injEq] at hq
  obtain ⟨hk, rfl⟩ := hq
  obtain ⟨d, hd1, hd2⟩ := keyT_ok hk
  simp only [Q.ask] at hv
  generalize hm : A.eval m = mx at r
  generalize hkx : A.eval k = kx at ri
  have unf : ∀ (p : Oper), p.op = .lookup t m k ok → execOp A.eval p = (do pure (.value (← Instr.lookup t mx kx ok))) := fun p hp => by unfold execOp; rw [hp]; simp only [hm, hkx]
  split at hv
  · rename_i e
    rw [e] at r; cases r
    have hv' : v = okV ok z false := by cases ok <;> (cases hv; rfl)
    subst hv'
    refine ⟨_, okV_ok hz1 ok false, fun p hp => ?_⟩
    rw [unf p hp]
    refine value_run ?_
    have hf : (Instr.findKey kt kx []).run C.P w = .ok none w := findKey_run hd1 rfl
    unfold Instr.lookup
    simp only [Sem.run_bind, run_underlying hu, Result.andThen_ok, Sem.run_pure, checkKey_ok hd1 hd2, hf, hz2]
  · rename_i l e
    rw [e] at r; cases r
    rename_i b hb
    split at hv
    · rename_i es clock hg
      obtain ⟨ms, hms, hes⟩ := R.mapAt (P := C.P) hb hg
      simp only [ob_some, Option.some.injEq] at hv
      obtain ⟨f, hf, hv⟩ := hv
      obtain ⟨f1, f2⟩ := findNow_ok hd2 ri hes hf 0
      cases f with
      | none =>
        simp only at hv
        subst hv
        refine ⟨_, okV_ok hz1 ok false, fun p hp => ?_⟩
        rw [unf p hp]
        refine value_run ?_
        unfold Instr.lookup
        simp only [Sem.run_bind, run_underlying hu, Result.andThen_ok, Sem.run_pure, hms, checkKey_ok hd1 hd2, findKey_run hd1 (f1 rfl), hz2]
      | some p0 =>
        obtain ⟨j, u⟩ := p0
        simp only at hv
        subst hv
        obtain ⟨en, _, e2, e3⟩ := f2 j u rfl
        refine ⟨_, okV_ok e2 ok true, fun p hp => ?_⟩
        rw [unf p hp]
        refine value_run ?_
        unfold Instr.lookup
        simp only [Sem.run_bind, run_underlying hu, Result.andThen_ok, Sem.run_pure, hms, checkKey_ok hd1 hd2, findKey_run hd1 e3]
    · cases hv
  · cases hv

/-- A row's bytes. -/
theorem bytesIn_ok : ∀ {cs : List V} {l : List Nat}, bytesIn cs = some l → ∀ {xs : List Value}, RVs ρ cs xs → ∃ u : List UInt8, l = u.map (·.toNat) ∧ xs = u.map fun b => Value.int .u8 (b.toNat : Int)
  | [], l, h, xs, r => by simp [bytesIn] at h; subst h; cases r; exact ⟨[], rfl, rfl⟩
  | c :: cs, l, h, xs, r => by
    unfold bytesIn at h
    split at h
    · rename_i heq; cases heq
    · rename_i n r' heq
      cases heq
      simp only [chk_some, ob_some, Option.some.injEq] at h
      obtain ⟨hn, q, hq, rfl⟩ := h
      cases r with
      | cons r1 r2 =>
        cases r1
        obtain ⟨u, rfl, rfl⟩ := bytesIn_ok hq r2
        have hn' : n < 256 := by simpa using hn
        have e : (UInt8.ofNat n).toNat = n := by simp [Nat.mod_eq_of_lt hn']
        exact ⟨UInt8.ofNat n :: u, by simp [e], by simp [e]⟩
    · cases h

theorem natsOf_mk (u : List UInt8) : natsOf ⟨u.toArray⟩ = u.map (·.toNat) := by simp [natsOf]

theorem slice_inv {l : Lb} {off n : Nat} {c : Cap} {x : Value} (h : RV ρ (.slice l off n c) x) : ∃ b m, ρ l = some b ∧ x = .slice (some ⟨b.block, b.base + off, none⟩) n m := by
  cases h
  · exact ⟨_, _, by assumption, rfl⟩
  · exact ⟨_, _, by assumption, rfl⟩

theorem rd_bytes {C : CE} {s t e : TypeId} {y : Operand} {x : X} (hs : C.P.underlying s = some (.slice e)) (he : C.P.underlying e = some (.int .u8)) (ht : C.P.underlying t = some .string) (hx : compX C y = some x) :
    RdOk C (.convert s t y) (.bytesStr x) := by
  intro ρ tm A hT hG q hq B w0 h w v R hv
  have r := compX_ok hT hG hx
  cases hq
  generalize hy : A.eval y = yx at r
  have unf : ∀ (p : Oper), p.op = .convert s t y → execOp A.eval p = (do pure (.value (← convert s t yx))) := fun p hp => by unfold execOp; rw [hp]; simp only [hy]
  simp only [Q.ask] at hv
  split at hv
  · rename_i c e'
    rw [e'] at r; cases r; cases hv
    refine ⟨_, .str ByteArray.empty, fun p hp => ?_⟩
    rw [unf p hp]
    refine value_run ?_
    rw [run_convert_bytes_string w s t e _ _ _ hs he ht]
    rfl
  · rename_i l off n c e'
    rw [e'] at r
    obtain ⟨b, m, hb, rfl⟩ := slice_inv r
    split at hv
    · rename_i vs el fz own hg
      simp only [ob_some, Option.some.injEq] at hv
      obtain ⟨cs, h1, l', h2, rfl⟩ := hv
      have c := R.obj l b _ hb hg
      obtain ⟨xs, r1, r2, r3⟩ := CRel.range c h1
      obtain ⟨u, rfl, rfl⟩ := bytesIn_ok h2 r1
      refine ⟨.string ⟨u.toArray⟩, by rw [← natsOf_mk]; exact .str _, fun p hp => ?_⟩
      rw [unf p hp]
      refine value_run ?_
      have hl : u.length = n := by simpa using r2
      have := run_convert_bytes_back (P := C.P) w s t e ⟨b.block, b.base + off, none⟩ m u hs he ht (fun j hj => by
        rw [addr_add]
        exact r3 j _ (by simp [List.getElem?_eq_getElem hj]))
      rw [hl] at this
      exact this
    · cases hv
  · rename_i e'
    rw [e'] at r; cases r; cases hv
    rename_i a c
    refine ⟨.string ⟨([] : List UInt8).toArray⟩, (RV.str (ρ := ρ) ⟨([] : List UInt8).toArray⟩ : RV ρ (.str []) _), fun p hp => ?_⟩
    rw [unf p hp]
    refine value_run ?_
    exact run_convert_bytes_back (P := C.P) w s t e a c [] hs he ht (fun j hj => absurd hj (by simp))
  · cases hv

theorem rd_mapLen {C : CE} {args : Array Operand} {ts : Array TypeId} {t kt et : TypeId} {rest : List TypeId} {x : X} (ht : ts.toList = t :: rest) (hu : C.P.underlying t = some (.map kt et)) (hx : compXs C args.toList = some [x]) :
    RdOk C (.call { callee := .builtin .len, args := args, argTypes := ts }) (.mapLen x) := by
  intro ρ tm A hT hG q hq B w0 h w v R hv
  obtain ⟨y, hy, r⟩ := args1 hx hT hG
  cases hq
  simp only [Q.ask] at hv
  split at hv
  · rename_i e
    rw [e] at r; cases r; cases hv
    refine ⟨_, .int .i64 _, fun p hp => ?_⟩
    rw [builtin_run p hp, hy]
    simp [Go.builtin, Builtin.len_, tsHead ht, run_underlying hu, goInt]
  · rename_i m e
    rw [e] at r; cases r
    rename_i b hb
    split at hv
    · rename_i es clock hg
      cases hv
      obtain ⟨ms, hms, hes⟩ := R.mapAt (P := C.P) hb hg
      refine ⟨_, .int .i64 _, fun p hp => ?_⟩
      rw [builtin_run p hp, hy]
      have : es.length = ms.size := by simpa using hes.length
      simp [Go.builtin, Builtin.len_, tsHead ht, run_underlying hu, goInt, hms, this]
    · cases hv
  · cases hv

theorem lastN_back : ∀ {l : List Nat} {b : Nat}, lastN l = some b → (⟨l⟩ : Array Nat).back? = some b
  | [], b, h => by cases h
  | [x], b, h => by cases h; rfl
  | x :: y :: r, b, h => by
    have := lastN_back (l := y :: r) (b := b) h
    simp only [Array.back?] at this ⊢
    simpa using this

theorem bornK_find {b : Nat} {k v : V} : ∀ {es : List (V × V × Nat)} {ms : List MapEntry}, REs ρ es ms → bornK b es = some (k, v) → ∃ en, ms.find? (·.born == b) = some en ∧ RV ρ k en.key ∧ RV ρ v en.val
  | [], ms, hes, h => by cases h
  | (k', v', c) :: es, ms, hes, h => by
    cases hes with
    | cons h1 h2 h3 h4 =>
      rename_i en ms
      simp only [bornK] at h
      split at h
      · rename_i hc
        have hc := Nat.eq_of_beq_eq_true hc
        cases h
        exact ⟨en, by rw [List.find?_cons_of_pos (by simp [h3, hc])], h1, h2⟩
      · rename_i hc
        obtain ⟨en', e1, e2, e3⟩ := bornK_find h4 h
        have hne : en.born ≠ b := fun e => by
          rw [h3] at e
          rw [e, Nat.beq_refl] at hc; cases hc
        exact ⟨en', by rw [List.find?_cons_of_neg (by simpa using hne)]; exact e1, e2, e3⟩

theorem rd_entry {C : CE} {y : Operand} {x : X} (hx : compX C y = some x) : RdOk C (.entry y) (.entry x) := by
  intro ρ tm A hT hG q hq B w0 h w v R hv
  obtain ⟨l, off, e', rfl⟩ := reqPtr_some hq
  have r := compX_ok hT hG hx
  rw [e'] at r
  obtain ⟨b, hb, hy⟩ := ptr_inv r
  simp only [Q.ask] at hv
  split at hv
  · rename_i m since seen last hg
    split at hv
    · rename_i es clock hgm
      simp only [chk_some, Bool.and_eq_true, ob_some, Option.some.injEq] at hv
      obtain ⟨⟨h0, hck⟩, n, hn, ⟨k, u⟩, hk, rfl⟩ := hv
      have h0 := Nat.eq_of_beq_eq_true h0
      have hck := Nat.eq_of_beq_eq_true hck
      subst h0; subst hck
      obtain ⟨hb0, m', h1, c, hc, h2⟩ := R.obj l b _ hb hg
      subst h2
      obtain ⟨ms, hms, hes⟩ := R.mapAt (P := C.P) hc hgm
      obtain ⟨en, f1, f2, f3⟩ := bornK_find hes hk
      refine ⟨.tuple ⟨[en.key, en.val]⟩, .tuple (.cons f2 (.cons f3 .nil)), fun p hp => ?_⟩
      unfold execOp
      rw [hp]
      simp only [hy, hb0]
      refine value_run ?_
      have hit : (getObj b.block).run C.P w = .ok (.mapIter (some c.block) since ⟨seen⟩ clock) w := by simp [getObj, Sem.run, h1]
      unfold Instr.entry
      have hbk := lastN_back hn
      have hfi : ms.find? (·.born == n) = some en := by rw [← Array.find?_toList]; exact f1
      simp [hit, hms, hbk, hfi]
    · cases hv
  · cases hv

/-! ### unsafe pointers -/

theorem viewAt_none {r : Nat} {s : TypeId × Nat} (h : w.shape? r = some s) : (viewAt r).run P w = .ok none w := by
  simp [viewAt, h]

theorem rd_ptrUnsafe {C : CE} {s t e : TypeId} {n : Nat} {y : Operand} {x : X} (hs : C.P.underlying s = some (.pointer e)) (ht : C.P.underlying t = some .unsafePointer) (hn : sizeT C.P e = some (n + 1)) (hx : compX C y = some x) :
    RdOk C (.convert s t y) (.ptrUnsafe x) := by
  intro ρ tm A hT hG q hq B w0 h w v R hv
  obtain ⟨l, off, e', rfl⟩ := reqPtr_some hq
  have r := compX_ok hT hG hx
  rw [e'] at r
  obtain ⟨b, hb, hy⟩ := ptr_inv r
  simp only [Q.ask] at hv
  split at hv
  · rename_i vs el fz own hg
    simp only [chk_some, Option.some.injEq] at hv
    obtain ⟨hlt, rfl⟩ := hv
    have c : CRel ρ b vs el fz own w := R.obj l b _ hb hg
    have hlt' : off < vs.length := by simpa using hlt
    have hfit := c.fits
    refine ⟨_, .ptr off hb, fun p hp => ?_⟩
    unfold execOp
    rw [hp]
    simp only [hy]
    refine value_run ?_
    unfold convert
    simp only [Sem.run_bind, run_underlying hs, run_underlying ht, Result.andThen_ok]
    unfold Conv.unsafePointer
    simp only [Sem.run_bind, run_underlying hs, run_underlying ht, Result.andThen_ok, Conv.seenAt, viewAt_none c.shape, Sem.run_pure, cellsIn, run_shape, c.shape, run_sizeT hn]
    have : ¬ (b.base + off ≥ b.total) := by omega
    simp [this]
  · cases hv

theorem cellsOf_size {t : TypeId} {n : Nat} (h : sizeT P t = some n) : P.cellsOf t = n := by
  obtain ⟨i, h1, rfl⟩ := sizeT_ok h
  simp [Program.cellsOf, h1]

/-- Variables of a row's own type lie in it. -/
theorem liesAt_row {e : TypeId} {s : Nat} (hc : P.cellsOf e = s) (hs : 0 < s) (count n : Nat) (hn : n ≤ count) : liesAt P P.depth e count 0 e n = true := by
  have hd : P.depth = (2 * (P.types.size + Made.depth) + 1) + 1 := rfl
  rw [hd]
  simp only [liesAt, Bool.or_eq_true]
  left
  rw [hd]
  have : s ≠ 0 := by omega
  simp [rowAt, hc, hn, sameLayout, this]

theorem rd_unsafePtr {C : CE} {s t u : TypeId} {n : Nat} {y : Operand} {x : X} (hs : C.P.underlying s = some .unsafePointer) (ht : C.P.underlying t = some (.pointer u)) (hn : sizeT C.P u = some (n + 1)) (hx : compX C y = some x) :
    RdOk C (.convert s t y) (.unsafePtr u (n + 1) x) := by
  intro ρ tm A hT hG q hq B w0 h w v R hv
  obtain ⟨l, off, e', rfl⟩ := reqPtr_some hq
  have r := compX_ok hT hG hx
  rw [e'] at r
  obtain ⟨b, hb, hy⟩ := ptr_inv r
  simp only [Q.ask] at hv
  split at hv
  · rename_i vs el fz own hg
    simp only [chk_some, Option.some.injEq, Bool.and_eq_true] at hv
    obtain ⟨⟨⟨h1, h2⟩, h3⟩, rfl⟩ := hv
    have h1' : el = u := Nat.eq_of_beq_eq_true h1
    have h2' : vs.length = n + 1 := Nat.eq_of_beq_eq_true h2
    have h3' : off = 0 := Nat.eq_of_beq_eq_true h3
    subst h1'; subst h3'
    have c : CRel ρ b vs el fz own w := R.obj l b _ hb hg
    have hfit := c.fits
    have hb0 := (R.base l b hb).1
    refine ⟨_, .ptr 0 hb, fun p hp => ?_⟩
    unfold execOp
    rw [hp]
    simp only [hy]
    refine value_run ?_
    have hcell := cellsOf_size hn
    have hl := liesAt_row hcell (by omega) (b.total / C.P.cellsOf el) 1 (by rw [hcell]; exact (Nat.le_div_iff_mul_le (by omega)).2 (by omega))
    unfold convert
    simp only [Sem.run_bind, run_underlying hs, run_underlying ht, Result.andThen_ok]
    unfold Conv.unsafePointer
    simp only [Sem.run_bind, run_underlying hs, run_underlying ht, Result.andThen_ok, Conv.seenAt, viewAt_none c.shape, Sem.run_pure, run_sizeT hn, variablesAt, run_program, run_shape, c.shape, hb0]
    simp [hl]
  · cases hv

end
end Go.Dx
