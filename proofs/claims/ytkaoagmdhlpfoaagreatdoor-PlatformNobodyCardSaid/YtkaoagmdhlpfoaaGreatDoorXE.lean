/-
  The deterministic machine over labels against the model: every operation that is compiled; calls.
  The deterministic machine over labels against the model: whatever is compiled is right.
  The deterministic machine over labels against the model: a frame's state; one operation.
  The deterministic machine over labels against the model: code, calls.
  The deterministic machine over labels against the model: calls; every turn of the wheel.
  The deterministic machine over labels: an operation hangs on its operands' temporaries alone.
  The deterministic machine over labels: a region whose order is open, as it was run: what each operation yielded, and the heaps between the effects.
-/
import Derived.Test.YtkaoagmdhlpfoaaGreatDoorXD
import Derived.Defers
namespace Go.Dx
open Go Go.RowKit

section
variable {P : Program} {B : Nat} {w0 : World} {ρ ρ' : Rho} {h h' : H} {w : World}

/-- A call: which function, and with which arguments. -/
def CallOk (C : CE) (o : Op) (q : CD) : Prop := ∀ {ρ : Rho} {tm : T V} {A : Act}, TRel ρ C.n tm A.tmps → GRel ρ C.G → ∀ {f : FuncId} {vs : List V}, q.args (envOf C.P) tm = some (f, vs) →
  ∃ xs : List Value, RVs ρ vs xs ∧ ∀ p : Oper, p.op = o → ∀ w, (execOp A.eval p).run C.P w = (callFunc f ⟨xs⟩).run C.P w

/-- A deferred call. -/
def DRel (ρ : Rho) (d : FuncId × List V) (e : Deferred) : Prop := ∃ xs cap : List Value, e.target = .fn (.func d.1) ⟨cap⟩ ∧ e.args = ⟨xs⟩ ∧ RVs ρ d.2 (xs ++ cap)

def DeferOk (C : CE) (o : Op) (q : CD) : Prop := ∀ {ρ : Rho} {tm : T V} {A : Act}, TRel ρ C.n tm A.tmps → GRel ρ C.G → ∀ {f : FuncId} {vs : List V}, q.args (envOf C.P) tm = some (f, vs) →
  ∃ e : Deferred, DRel ρ (f, vs) e ∧ ∀ p : Oper, p.op = o → ∀ w, (execOp A.eval p).run C.P w = .ok (.defer e) w

/-- An effect; a new variable is made by that operation alone. -/
structure EOk (C : CE) (o : Op) (q : ED) : Prop where
  eff : EffOk C o q
  alloc : ∀ t cs, q = .alloc t cs → ∃ z, o = .alloc t ∧ zeroT C.P t = some z ∧ cs = z.cells
  row : ∀ e cs n, q = .allocRow e cs n → ∃ (t : TypeId) (ps : Array (Nat × Operand)) (size : Nat) (z : V) (l : List (Nat × X)) (_ : Unit), o = .buildSlice t n ps ∧ C.P.underlying t = some (.slice e) ∧ sizeT C.P e = some size ∧ zeroT C.P e = some z ∧ n * size ≤ 65536 ∧ z.cells.length = size ∧ 0 < size ∧
    compPairs C ps.toList = some l ∧ constParts size l (repeatCells z.cells n) = some cs
  bytes : ∀ e x, q = .strBytes e x → ∃ (s t : TypeId) (y : Operand), o = .convert s t y ∧ C.P.underlying s = some .string ∧ C.P.underlying t = some (.slice e) ∧ C.P.underlying e = some (.int .u8) ∧ compX C y = some x

theorem EOk.of {C : CE} {o : Op} {q : ED} (h : EffOk C o q) (hn : ∀ t cs, q ≠ .alloc t cs) (hr : ∀ e cs n, q ≠ .allocRow e cs n) (hb : ∀ e x, q ≠ .strBytes e x) : EOk C o q :=
  ⟨h, fun t cs e => absurd e (hn t cs), fun a b c e => absurd e (hr a b c), fun a b e => absurd e (hb a b)⟩
theorem EOk.row' {C : CE} {o : Op} {e : TypeId} {cs : List V} {n : Nat} (h : EffOk C o (.allocRow e cs n)) (hr : ∃ (t : TypeId) (ps : Array (Nat × Operand)) (size : Nat) (z : V) (l : List (Nat × X)) (_ : Unit), o = .buildSlice t n ps ∧ C.P.underlying t = some (.slice e) ∧ sizeT C.P e = some size ∧ zeroT C.P e = some z ∧ n * size ≤ 65536 ∧ z.cells.length = size ∧ 0 < size ∧
    compPairs C ps.toList = some l ∧ constParts size l (repeatCells z.cells n) = some cs) : EOk C o (.allocRow e cs n) :=
  ⟨h, nofun, fun _ _ _ q => by cases q; exact hr, nofun⟩

def OpOk (C : CE) (o : Op) : D → Prop
  | .mov x => MOk C o x
  | .p q => POk C o q
  | .r q => RdOk C o q
  | .e q => EOk C o q
  | .c q => CallOk C o q
  | .defer q => DeferOk C o q
  | .stuck => True

theorem args_map {args : Array Operand} {A : Act} : args.map A.eval = ⟨args.toList.map A.eval⟩ := by apply Array.ext'; simp

theorem func_inv {f : FuncId} {a b : List V} {x : Value} (r : RV ρ (.func f a b) x) : ∃ a' b', x = .func (.func f) ⟨a'⟩ ⟨b'⟩ ∧ RVs ρ a a' ∧ RVs ρ b b' := by
  cases r with | func _ ha hb => exact ⟨_, _, rfl, ha, hb⟩

theorem iface_inv {t : TypeId} {v : V} {x : Value} (r : RV ρ (.iface t v) x) : ∃ y, x = .iface t y ∧ RV ρ v y := by
  cases r with | iface _ h => exact ⟨_, rfl, h⟩

theorem meth_ok {t : TypeId} {name : String} {f : FuncId} (hm : methT P t name = some f) (x : Value) (n : Nat) : (method (n + 1) t x name).run P w = .ok (f, x) w := by
  simp only [methT, ob_some, chk_some] at hm
  obtain ⟨i, hi, m, hf, hp, hm⟩ := hm
  have hf' : i.methods.find? (fun m => m.name == name) = some m := by
    rw [← Array.find?_toList]; exact hf
  have hpl : m.path.toList = [] := by simpa using hp
  unfold method
  simp only [Sem.run_bind, typeInfo, run_program, Result.andThen_ok, hi, Sem.run_pure, hf', hpl, follow]
  split at hm
  · rename_i g u hg hu
    cases hm
    simp [hg, receiverAt, run_underlying hu, Place.get]
  · cases hm
  · rename_i g u hnp hg hu
    cases hm
    simp only [hg, receiverAt, Sem.run_bind, run_underlying hu, Result.andThen_ok]
    cases u <;> first | (simp [Place.get]; done) | (exfalso; exact hnp _ rfl)
  · cases hm

theorem comp_call {C : CE} {c : Call} {q : CD} (h : compCall C c = some q) : CallOk C (.call c) q := by
  intro ρ tm A hT hG f vs hq
  simp only [compCall, ob_some] at h
  obtain ⟨as, has, h⟩ := h
  have ras := compXs_ok hT hG has
  have unf : ∀ (p : Oper), p.op = .call c → execOp A.eval p = (do let d ← resolve A.eval c p.type; invoke d.target d.args) := fun p hp => by unfold execOp; rw [hp]
  cases hc : c.callee with
  | value fx =>
    have key : ∀ {x : X}, compX C fx = some x → q = .value x as → ∃ xs : List Value, RVs ρ vs xs ∧ ∀ p : Oper, p.op = .call c → ∀ w, (execOp A.eval p).run C.P w = (callFunc f ⟨xs⟩).run C.P w := fun {x} hx hqe => by
      subst hqe
      have r := compX_ok hT hG hx
      simp only [CD.args] at hq
      split at hq
      · rename_i g a b e
        cases hq
        rw [e] at r
        obtain ⟨a', b', hy, ra, rb⟩ := func_inv r
        refine ⟨a' ++ c.args.toList.map A.eval ++ b', (ra.append ras).append rb, fun p hp w => ?_⟩
        rw [unf p hp]
        simp [resolve, hc, hy, Deferred.ofValue, invoke, args_map]
      · cases hq
    cases fx with
    | func g =>
      simp only [hc, Option.some.injEq] at h
      subst h
      simp only [CD.args, Option.some.injEq, Prod.mk.injEq] at hq
      obtain ⟨rfl, rfl⟩ := hq
      refine ⟨c.args.toList.map A.eval, ras, fun p hp w => ?_⟩
      rw [unf p hp]
      simp [resolve, hc, Act.eval, Deferred.ofValue, invoke, args_map]
    | tmp t => simp only [hc, ob_some, Option.some.injEq] at h; obtain ⟨x, hx, h⟩ := h; exact key hx h.symm
    | const v => simp only [hc, ob_some, Option.some.injEq] at h; obtain ⟨x, hx, h⟩ := h; exact key hx h.symm
    | global g => simp only [hc, ob_some, Option.some.injEq] at h; obtain ⟨x, hx, h⟩ := h; exact key hx h.symm
  | invoke r name =>
    simp only [hc, ob_some, Option.some.injEq] at h
    obtain ⟨x, hx, rfl⟩ := h
    have rr := compX_ok hT hG hx
    simp only [CD.args] at hq
    split at hq
    · rename_i t v e
      rw [e] at rr
      obtain ⟨y, hy, ry⟩ := iface_inv rr
      simp only [ob_some, Option.some.injEq, Prod.mk.injEq] at hq
      obtain ⟨g, hg, rfl, rfl⟩ := hq
      refine ⟨y :: c.args.toList.map A.eval, .cons ry ras, fun p hp w => ?_⟩
      rw [unf p hp]
      have hd : C.P.types.size + Made.depth = (C.P.types.size + (Made.depth - 1)) + 1 := rfl
      have hm := meth_ok (P := C.P) (w := w) hg y (C.P.types.size + (Made.depth - 1))
      rw [← hd] at hm
      have ht : List.take c.args.size (List.map A.eval c.args.toList) = List.map A.eval c.args.toList := List.take_of_length_le (by simp)
      simp [resolve, hc, hy, invoke, callMethod, hm, args_map, ht]
    · cases hq
  | builtin b => simp only [hc] at h; cases h

theorem comp_defer {C : CE} {c : Call} {q : CD} {fx : Operand} (hc : c.callee = .value fx) (h : compCall C c = some q) : DeferOk C (.defer c) q := by
  intro ρ tm A hT hG f vs hq
  simp only [compCall, ob_some] at h
  obtain ⟨as, has, h⟩ := h
  have ras := compXs_ok hT hG has
  have unf : ∀ (p : Oper), p.op = .defer c → execOp A.eval p = (do pure (.defer (← resolve A.eval c p.type))) := fun p hp => by unfold execOp; rw [hp]
  have key : ∀ {x : X}, compX C fx = some x → q = .value x as → ∃ e : Deferred, DRel ρ (f, vs) e ∧ ∀ p : Oper, p.op = .defer c → ∀ w, (execOp A.eval p).run C.P w = .ok (.defer e) w := fun {x} hx hqe => by
    subst hqe
    have r := compX_ok hT hG hx
    simp only [CD.args] at hq
    split at hq
    · rename_i g a b e
      cases hq
      rw [e] at r
      obtain ⟨a', b', hy, ra, rb⟩ := func_inv r
      refine ⟨{ target := .fn (.func f) ⟨b'⟩, args := ⟨a' ++ c.args.toList.map A.eval⟩ }, ⟨_, _, rfl, rfl, (ra.append ras).append rb⟩, fun p hp w => ?_⟩
      rw [unf p hp]
      simp [resolve, hc, hy, Deferred.ofValue, args_map]
    · cases hq
  cases fx with
  | func g =>
    simp only [hc, Option.some.injEq] at h
    subst h
    simp only [CD.args, Option.some.injEq, Prod.mk.injEq] at hq
    obtain ⟨rfl, rfl⟩ := hq
    refine ⟨{ target := .fn (.func g) #[], args := ⟨c.args.toList.map A.eval⟩ }, ⟨_, [], rfl, rfl, by simpa using ras⟩, fun p hp w => ?_⟩
    rw [unf p hp]
    simp [resolve, hc, Act.eval, Deferred.ofValue, args_map]
  | tmp t => simp only [hc, ob_some, Option.some.injEq] at h; obtain ⟨x, hx, h⟩ := h; exact key hx h.symm
  | const v => simp only [hc, ob_some, Option.some.injEq] at h; obtain ⟨x, hx, h⟩ := h; exact key hx h.symm
  | global g => simp only [hc, ob_some, Option.some.injEq] at h; obtain ⟨x, hx, h⟩ := h; exact key hx h.symm

end
end Go.Dx
namespace Go.Dx
open Go Go.RowKit

section
variable {C : CE}

theorem compConvert_ok {s t : TypeId} {y : Operand} {x : X} {d : D} (hx : compX C y = some x) (h : compConvert C s t x = some d) : OpOk C (.convert s t y) d := by
  unfold compConvert at h
  split at h
  · rename_i k1 k hs ht
    cases h; exact toInt_ok hs ht hx
  · rename_i k hs ht
    cases h; exact runeStr_ok hs ht hx
  · rename_i hs ht
    cases h; exact strSame_ok hs ht hx
  · rename_i e hs ht
    split at h
    · rename_i he hn
      cases h; exact EOk.mk (eff_strBytes hs ht he hx) nofun nofun fun e' x' q => by cases q; exact ⟨_, _, _, rfl, hs, ht, he, hx⟩
    · cases h
  · rename_i e0 e hs ht
    split at h
    · rename_i he
      simp only [chk_some, Option.some.injEq] at h
      obtain ⟨hst, rfl⟩ := h
      have hst := Nat.eq_of_beq_eq_true hst
      subst hst
      exact EOk.of (eff_sameBytes hs ht he hx) nofun nofun nofun
    · cases h
  · rename_i e hs ht
    split at h
    · rename_i he hn
      cases h; exact rd_bytes hs he ht hx
    · cases h
  · rename_i e hs ht
    split at h
    · rename_i n hn
      cases h; exact rd_ptrUnsafe hs ht hn hx
    · cases h
  · rename_i u hs ht
    split at h
    · rename_i n hn
      cases h; exact rd_unsafePtr hs ht hn hx
    · cases h
  · cases h

theorem blt_pos {n : Nat} (h : Nat.blt 0 n = true) : 0 < n := by simpa using h

theorem compBuiltin_ok {b : Builtin} {args : Array Operand} {ts : Array TypeId} {xs : List X} {d : D} (hx : compXs C args.toList = some xs) (h : compBuiltin C b ts.toList xs = some d) :
    OpOk C (.call { callee := .builtin b, args := args, argTypes := ts }) d := by
  generalize hts : ts.toList = tl at h
  unfold compBuiltin at h
  split at h
  · rename_i x t rest
    split at h
    · rename_i hu; cases h; exact lenStr_ok hts hu hx
    · rename_i e hu; cases h; exact lenSlice_ok hts hu hx
    · rename_i n e hu; cases h; exact lenArr_ok hts hu hx
    · rename_i k e hu; cases h; exact rd_mapLen hts hu hx
    · cases h
  · rename_i x t rest
    split at h
    · rename_i e hu; cases h; exact cap_ok hts hu hx
    · cases h
  · cases h; exact maxI_ok hx
  · cases h; exact minI_ok hx
  · cases h; exact sliceData_ok hx
  · rename_i x n t u
    split at h
    · rename_i e hu
      split at h
      · rename_i he hn; cases h; exact EOk.of (eff_unsafeStr hts hu hn hx) nofun nofun nofun
      · cases h
    · cases h
  · rename_i s x t u
    split at h
    · rename_i e ud ht hu
      simp only [ob_some, chk_some, Bool.and_eq_true] at h
      obtain ⟨size, hs, bytes, hb, z, hz, ⟨⟨h0, hb0⟩, hzs⟩, h⟩ := h
      have h0 := blt_pos h0
      have hb0 := blt_pos hb0
      have hzs := Nat.eq_of_beq_eq_true hzs
      split at h
      · rename_i k; cases h; exact EOk.of (eff_appendZeros hts ht hu hs hb hz h0 hb0 hzs hx) nofun nofun nofun
      · rename_i e'; cases h; exact EOk.of (eff_append hts ht (.inl ⟨_, hu⟩) hs hb hz h0 hb0 hzs hx) nofun nofun nofun
      · cases h; exact EOk.of (eff_append hts ht (.inr hu) hs hb hz h0 hb0 hzs hx) nofun nofun nofun
      · cases h
    · cases h
  · rename_i dd s t rest
    split at h
    · rename_i e hu
      simp only [ob_some, Option.some.injEq] at h
      obtain ⟨size, hs, rfl⟩ := h
      exact EOk.of (eff_copy hts hu hs hx) nofun nofun nofun
    · cases h
  · rename_i x t rest
    split at h
    · rename_i k e hu; cases h; exact EOk.of (eff_clearMap hts hu hx) nofun nofun nofun
    · cases h
  · rename_i m k t rest
    split at h
    · rename_i kt e hu; cases h; exact EOk.of (eff_delete hts hu hx) nofun nofun nofun
    · cases h
  · cases h

theorem compOp_ok {o : Op} {d : D} (h : compOp? C o = some d) : OpOk C o d := by
  cases o with
  | move y => simp only [compOp?, ob_some, Option.some.injEq] at h; obtain ⟨x, hx, rfl⟩ := h; exact move_ok hx
  | assign y => simp only [compOp?, ob_some, Option.some.injEq] at h; obtain ⟨x, hx, rfl⟩ := h; exact assign_ok hx
  | pick c a b => simp only [compOp?, ob_some, Option.some.injEq] at h; obtain ⟨x, hx, y, hy, z, hz, rfl⟩ := h; exact pick_ok hx hy hz
  | build t ps =>
    simp only [compOp?, ob_some] at h
    obtain ⟨z, hz, h⟩ := h
    split at h
    · rename_i fs hu
      simp only [ob_some, Option.some.injEq] at h
      obtain ⟨pl, hp, l, hl, rfl⟩ := h
      exact buildStruct_ok hu hz hp hl
    · rename_i n e hu
      simp only [ob_some, Option.some.injEq] at h
      obtain ⟨n, hn, l, hl, rfl⟩ := h
      exact buildArr_ok hu hz hn hl
    · cases h
  | nilCheck y => simp only [compOp?, ob_some, Option.some.injEq] at h; obtain ⟨x, hx, rfl⟩ := h; exact nilCheck_ok hx
  | binOp op t y z u => simp only [compOp?, ob_some, Option.some.injEq] at h; obtain ⟨x, hx, x2, hx2, rfl⟩ := h; exact bin_ok hx hx2
  | unOp op t y => simp only [compOp?, ob_some, Option.some.injEq] at h; obtain ⟨x, hx, rfl⟩ := h; exact un_ok hx
  | convert s t y => simp only [compOp?, ob_some] at h; obtain ⟨x, hx, h⟩ := h; exact compConvert_ok hx h
  | makeInterface t y =>
    simp only [compOp?] at h
    split at h
    · cases h
    · rename_i dd hn hu
      simp only [ob_some, Option.some.injEq] at h
      obtain ⟨x, hx, rfl⟩ := h
      exact mkIface_ok hu (fun ms e => hn ms e) hx
    · cases h
  | makeFunc f a b =>
    cases f with
    | func f => simp only [compOp?, ob_some, Option.some.injEq] at h; obtain ⟨x, hx, x2, hx2, rfl⟩ := h; exact mkFunc_ok hx hx2
    | _ => simp [compOp?] at h
  | slice t y lo hi mx =>
    simp only [compOp?, ob_some] at h
    obtain ⟨x, hx, l, hl, hh, hhi, m, hm, h⟩ := h
    split at h
    · rename_i hu
      split at h
      · cases h
        cases mx with
        | none => exact sliceStr_ok hu hx hl hhi
        | some q => simp only [compXo, ob_some] at hm; obtain ⟨_, _, hm⟩ := hm; cases hm
      · cases h
    · rename_i e hu
      simp only [ob_some, chk_some, Option.some.injEq] at h
      obtain ⟨n, hn, hd, rfl⟩ := h
      exact slice_ok hu hn hx hl hhi hm hd
    · rename_i n e hu
      simp only [ob_some, chk_some, Option.some.injEq] at h
      obtain ⟨size, hn, hd, rfl⟩ := h
      exact sliceArr_ok hu hn hx hl hhi hm hd
    · cases h
  | fieldAddr t y f =>
    simp only [compOp?] at h
    split at h
    · rename_i fs hu
      simp only [ob_some, chk_some, Option.some.injEq] at h
      obtain ⟨fd, hf, n, hn, h0, x, hx, rfl⟩ := h
      exact fieldAddr_ok hu hf hn h0 hx
    · cases h
  | field t y f =>
    simp only [compOp?] at h
    split at h
    · rename_i fs hu
      simp only [ob_some, Option.some.injEq] at h
      obtain ⟨fd, hf, rd, hrd, x, hx, rfl⟩ := h
      exact field_ok hu hf hrd hx
    · cases h
  | indexAddr t y i =>
    simp only [compOp?, ob_some] at h
    obtain ⟨x, hx, j, hj, h⟩ := h
    split at h
    · rename_i e hu
      simp only [ob_some, Option.some.injEq] at h
      obtain ⟨n, hn, rfl⟩ := h
      exact indexAddr_ok hu hn hx hj
    · rename_i n e hu
      simp only [ob_some, Option.some.injEq] at h
      obtain ⟨size, hn, rfl⟩ := h
      exact indexArr_ok hu hn hx hj
    · cases h
  | index t y i =>
    simp only [compOp?, ob_some] at h
    obtain ⟨x, hx, j, hj, h⟩ := h
    split at h
    · rename_i hu; cases h; exact indexStr_ok hu hx hj
    · rename_i n e hu
      simp only [ob_some, Option.some.injEq] at h
      obtain ⟨size, hn, rd, hrd, rfl⟩ := h
      exact indexAgg_ok hu hn hrd hx hj
    · cases h
  | typeAssert y xt t ok =>
    simp only [compOp?, ob_some] at h
    obtain ⟨x, hx, z, hz, h⟩ := h
    split at h
    · rename_i want hu; cases h; exact assertI_ok hu hz hx
    · rename_i dd hn hu; cases h; exact assertT_ok hu (fun ms e => hn ms e) hz hx
    · cases h
  | entry y => simp only [compOp?, ob_some, Option.some.injEq] at h; obtain ⟨x, hx, rfl⟩ := h; exact rd_entry hx
  | extract y i => simp only [compOp?, ob_some, Option.some.injEq] at h; obtain ⟨x, hx, rfl⟩ := h; exact extract_ok hx
  | load t y => simp only [compOp?, ob_some, Option.some.injEq] at h; obtain ⟨rd, hrd, x, hx, rfl⟩ := h; exact rd_load hrd hx
  | lookup t m k ok =>
    simp only [compOp?, ob_some] at h
    obtain ⟨x, hx, j, hj, h⟩ := h
    split at h
    · rename_i kt et hu
      simp only [ob_some, Option.some.injEq] at h
      obtain ⟨z, hz, rfl⟩ := h
      exact rd_lookup hu hz hx hj
    · cases h
  | alloc t => simp only [compOp?, ob_some, Option.some.injEq] at h; obtain ⟨z, hz, rfl⟩ := h; exact EOk.mk (eff_alloc hz) (fun t' cs e => by cases e; exact ⟨z, rfl, hz, rfl⟩) nofun nofun
  | box t y => simp only [compOp?, ob_some, Option.some.injEq] at h; obtain ⟨x, hx, rfl⟩ := h; exact EOk.of (eff_box hx) nofun nofun nofun
  | buildSlice t n ps =>
    simp only [compOp?] at h
    split at h
    · rename_i e hu
      simp only [ob_some, chk_some, Option.some.injEq, Bool.and_eq_true] at h
      obtain ⟨size, hs, z, hz, ⟨⟨hn, hzs⟩, h0⟩, l, hl, rfl⟩ := h
      have B : EffOk C (.buildSlice t n ps) _ := @eff_buildSlice C t e size n z ps l hu hs hz (Nat.le_of_ble_eq_true hn) (Nat.eq_of_beq_eq_true hzs) (blt_pos h0) hl
      split
      · rename_i cs hc
        refine EOk.row' (eff_allocRow B hc) ⟨_, _, _, _, _, (), rfl, hu, hs, hz, Nat.le_of_ble_eq_true hn, Nat.eq_of_beq_eq_true hzs, blt_pos h0, hl, hc⟩
      · exact EOk.of B nofun nofun nofun
    · cases h
  | store t a y => simp only [compOp?, ob_some, Option.some.injEq] at h; obtain ⟨n, hn, x, hx, x2, hx2, rfl⟩ := h; exact EOk.of (eff_store hn hx hx2) nofun nofun nofun
  | makeMap t r =>
    cases r with
    | none => simp only [compOp?, Option.some.injEq] at h; subst h; exact EOk.of (eff_makeMap) nofun nofun nofun
    | some r => simp [compOp?] at h
  | makeSlice t n c =>
    simp only [compOp?] at h
    split at h
    · rename_i e hu
      simp only [ob_some, Option.some.injEq] at h
      obtain ⟨size, hs, bytes, hb, z, hz, x, hx, x2, hx2, rfl⟩ := h
      exact EOk.of (eff_makeSlice hu hs hb hz hx hx2) nofun nofun nofun
    · cases h
  | mapUpdate t m k x =>
    simp only [compOp?] at h
    split at h
    · rename_i kt et hu
      simp only [ob_some, Option.some.injEq] at h
      obtain ⟨m', hm, k', hk, x', hx, rfl⟩ := h
      exact EOk.of (eff_mapUpdate hu hm hk hx) nofun nofun nofun
    · cases h
  | insert t m k x =>
    simp only [compOp?] at h
    split at h
    · rename_i kt et hu
      simp only [ob_some, Option.some.injEq] at h
      obtain ⟨m', hm, k', hk, x', hx, rfl⟩ := h
      exact EOk.of (eff_insert hu hm hk hx) nofun nofun nofun
    · cases h
  | mapEntry t m k =>
    simp only [compOp?] at h
    split at h
    · rename_i kt et hu
      simp only [ob_some, Option.some.injEq] at h
      obtain ⟨z, hz, m', hm, k', hk, rfl⟩ := h
      exact EOk.of (eff_mapEntry hu hz hm hk) nofun nofun nofun
    · cases h
  | entryStore t m s x => simp only [compOp?, ob_some, Option.some.injEq] at h; obtain ⟨m', hm, s', hs, x', hx, rfl⟩ := h; exact EOk.of (eff_entryStore hm hs hx) nofun nofun nofun
  | range t y =>
    simp only [compOp?, ob_some] at h
    obtain ⟨x, hx, h⟩ := h
    split at h
    · rename_i hu; cases h; exact EOk.of (eff_rangeStr hu hx) nofun nofun nofun
    · rename_i k e hu; cases h; exact EOk.of (eff_rangeMap hu hx) nofun nofun nofun
    · cases h
  | next y s =>
    cases s with
    | false => simp only [compOp?, ob_some, Option.some.injEq] at h; obtain ⟨x, hx, rfl⟩ := h; exact EOk.of (eff_next hx) nofun nofun nofun
    | true => simp [compOp?] at h
  | call c =>
    simp only [compOp?] at h
    split at h
    · rename_i b hc
      simp only [ob_some] at h
      obtain ⟨xs, hxs, h⟩ := h
      have := compBuiltin_ok (args := c.args) (ts := c.argTypes) hxs h
      obtain ⟨callee, args, ts⟩ := c
      simp only at hc
      subst hc
      exact this
    · simp only [ob_some, Option.some.injEq] at h
      obtain ⟨q, hq, rfl⟩ := h
      exact comp_call hq
  | defer c =>
    simp only [compOp?] at h
    split at h
    · rename_i fx hc
      simp only [ob_some, Option.some.injEq] at h
      obtain ⟨q, hq, rfl⟩ := h
      exact comp_defer hc hq
    · cases h
  | _ => simp [compOp?] at h

end
end Go.Dx
namespace Go.Dx
open Go Go.RowKit

section
variable {P : Program} {B : Nat} {w0 : World} {ρ ρ' : Rho} {h h' : H} {w : World}

theorem DRel.mono (e : Ext' ρ ρ') {d : FuncId × List V} {x : Deferred} (r : DRel ρ d x) : DRel ρ' d x :=
  let ⟨xs, cap, h1, h2, h3⟩ := r; ⟨xs, cap, h1, h2, h3.mono e⟩

inductive DRels (ρ : Rho) : List (FuncId × List V) → List Deferred → Prop
  | nil : DRels ρ [] []
  | cons {d : FuncId × List V} {x : Deferred} {ds : List (FuncId × List V)} {xs : List Deferred} (h : DRel ρ d x) (hs : DRels ρ ds xs) : DRels ρ (d :: ds) (x :: xs)

theorem DRels.mono (e : Ext' ρ ρ') {ds : List (FuncId × List V)} {xs : List Deferred} (r : DRels ρ ds xs) : DRels ρ' ds xs := by
  induction r with
  | nil => exact .nil
  | cons h _ ih => exact .cons (h.mono e) ih

structure ARel (ρ : Rho) (n : Nat) (a : A) (x : Act) : Prop where
  tmps : TRel ρ n a.tmps x.tmps
  defers : DRels ρ a.defers x.defers

theorem ARel.mono (e : Ext' ρ ρ') {n : Nat} {a : A} {x : Act} (r : ARel ρ n a x) : ARel ρ' n a x := ⟨r.tmps.mono e, r.defers.mono e⟩

theorem getT_set_self (tm : T V) (p : Lb) (v : V) : getT (tm.set p (some v)) p = v := by unfold getT; rw [T.get_set_self]
theorem getT_set_ne (tm : T V) {p q : Lb} (v : V) (h : p ≠ q) : getT (tm.set p (some v)) q = getT tm q := by unfold getT; rw [T.get_set_ne _ _ _ _ h]

theorem TRel.put {n : Nat} {tm : T V} {tmps : Array Value} (r : TRel ρ n tm tmps) {d : Nat} (hd : d < n) {v : V} {x : Value} (hv : RV ρ v x) : TRel ρ n (tm.set (pathOf d) (some v)) (tmps.setIfInBounds d x) := by
  have hs := r.small
  refine ⟨by simp [r.size], hs, fun t ht => ?_⟩
  by_cases e : d = t
  · subst e
    rw [getT_set_self]
    have : (tmps.setIfInBounds d x).getD d Go.undef = x := by simp [r.size, hd]
    rw [this]; exact hv
  · rw [getT_set_ne _ _ (fun e' => e (pathOf_inj (by omega) (by omega) e'))]
    have : (tmps.setIfInBounds d x).getD t Go.undef = tmps.getD t Go.undef := by simp [Array.getElem?_setIfInBounds_ne e]
    rw [this]; exact r.get t ht

theorem compDst_ok {C : CE} {d : Option Tmp} {d' : Option Lb} (h : compDst C d = some d') : (d = none ∧ d' = none) ∨ ∃ t, d = some t ∧ d' = some (pathOf t) ∧ t < C.n := by
  cases d with
  | none => simp only [compDst, Option.some.injEq] at h; exact .inl ⟨rfl, h.symm⟩
  | some t =>
    simp only [compDst, chk_some, Option.some.injEq] at h
    exact .inr ⟨t, rfl, h.2.symm, by simpa using h.1⟩

theorem ARel.put {C : CE} {a : A} {x : Act} (r : ARel ρ C.n a x) {d : Option Tmp} {d' : Option Lb} (hd : compDst C d = some d') {v : V} {y : Value} (hv : RV ρ v y) : ARel ρ C.n (a.put d' v) (x.put d y) := by
  rcases compDst_ok hd with ⟨rfl, rfl⟩ | ⟨t, rfl, rfl, ht⟩
  · exact r
  · exact ⟨r.tmps.put ht hv, r.defers⟩

theorem bool_iff {v : V} {x : Value} (r : RV ρ v x) (b : Bool) : v = .bool b ↔ x = .bool b := by
  constructor
  · intro e; subst e; cases r; rfl
  · intro e
    generalize x = y at r e
    cases r with
    | bool b' => cases e; rfl
    | sym _ _ hv => rw [e] at hv; simp [symOk] at hv
    | any h => rw [e] at h; simp [symOk] at h
    | _ => cases e

theorem wants_ok {C : CE} {ops : Array Oper} {o : Oper} {g : Option (Lb × Bool)} (hg : compGuard C ops o.guard = some g) {tm : T V} {tmps : Array Value} (r : TRel ρ C.n tm tmps) : Region.wanted o (yielded ops tmps) = wants tm g := by
  unfold Region.wanted
  cases ho : o.guard with
  | none => rw [ho] at hg; simp only [compGuard, Option.some.injEq] at hg; subst hg; rfl
  | some p =>
    obtain ⟨j, want⟩ := p
    rw [ho] at hg
    simp only [compGuard, ob_some, chk_some, Option.some.injEq] at hg
    obtain ⟨q, hq, d, hd, hlt, rfl⟩ := hg
    have hlt : d < C.n := by simpa using hlt
    have hq' : ops[j]? = some q := by simpa using hq
    have hx := r.get d hlt
    have hsz : d < tmps.size := by rw [r.size]; exact hlt
    simp only [yielded, hq', Option.bind_some, hd, wants]
    have e1 : tmps[d]? = some (tmps.getD d Go.undef) := by simp [hsz]
    rw [e1]
    generalize tmps.getD d Go.undef = y at hx
    generalize getT tm (pathOf d) = v at hx
    cases hx with
    | bool b => cases want <;> cases b <;> simp
    | sym _ _ hv => rename_i bb _ _ _; revert hv; generalize bb.val = z; intro hv; cases z <;> first | (simp [symOk] at hv; done) | (cases want <;> simp)
    | any hv => revert hv; generalize y = z; intro hv; cases z <;> first | (simp [symOk] at hv; done) | (cases want <;> simp)
    | _ => cases want <;> simp

/-- What a call does: it yields at once, or enters a function that returns. -/
def Good (P : Program) (f : FuncId) (xs : List Value) (w : World) (R : Value → World → Prop) : Prop :=
  (∃ v w', (callFunc f ⟨xs⟩).run P w = .ok (.value v) w' ∧ R v w') ∨
  ((callFunc f ⟨xs⟩).run P w = .ok (.enter f ⟨xs⟩) w ∧ Calls P f ⟨xs⟩ w fun e w' => ∃ v, e = .returned v ∧ R v w')

def OrcOk (P : Program) (G : Nat) (orc : Orc) : Prop := ∀ {f : FuncId} {args : List V} {h : H} {v : V} {h' : H}, orc f args h = some (v, h') → ∀ {B : Nat} {w0 : World} {ρ : Rho} {w : World} {xs : List Value}, HRel B w0 ρ h w → GRel ρ G → RVs ρ args xs →
  Good P f xs w fun x w' => ∃ ρ', Step ρ ρ' h h' ∧ RV ρ' v x ∧ HRel B w0 ρ' h' w'

theorem Good.upon {f : FuncId} {xs : List Value} {R : Value → World → Prop} (g : Good P f xs w R) {o : Oper} {A : Act} {K : Act → World → Prop} {Q : Exit → Act → World → Prop} (hk : ∀ v w', R v w' → K (A.put o.dst v) w') :
    o.upon P A K Q ((callFunc f ⟨xs⟩).run P w) := by
  rcases g with ⟨v, w', hr, hR⟩ | ⟨hr, hc⟩
  · rw [hr]; exact hk v w' hR
  · rw [hr]
    show Calls P f _ w _
    refine hc.mono fun e w' he => ?_
    obtain ⟨v, rfl, hR⟩ := he
    exact hk v w' hR

/-- One operation. -/
theorem oper_ok {C : CE} {call : Orc} (hcall : OrcOk C.P C.G call) {ops : Array Oper} {o : Oper} {d : DO} (hd : compDO C ops o = some d) {a a' : A} {A : Act} (hA : ARel ρ C.n a A) (hG : GRel ρ C.G) (R : HRel B w0 ρ h w)
    (hrun : stepD (envOf C.P) call d a h = some (a', h')) {K : Act → World → Prop} {Q : Exit → Act → World → Prop} (hK : ∀ ρ' A' w', Step ρ ρ' h h' → ARel ρ' C.n a' A' → HRel B w0 ρ' h' w' → K A' w') : o.wp C.P A w K Q := by
  simp only [compDO, ob_some, Option.some.injEq] at hd
  obtain ⟨dst, hdst, g, hg, rfl⟩ := hd
  unfold Oper.wp
  unfold stepD at hrun
  simp only at hrun
  cases hop : compOp? C o.op with
  | none => simp only [hop, Option.getD_none] at hrun; cases hrun
  | some op =>
    have ok := compOp_ok hop
    simp only [hop, Option.getD_some] at hrun
    cases op with
    | mov x =>
      simp only [Option.some.injEq, Prod.mk.injEq] at hrun
      obtain ⟨rfl, rfl⟩ := hrun
      obtain ⟨y, hy, hr⟩ := ok hA.tmps hG
      rw [hr o rfl w, Oper.upon_value]
      exact hK ρ _ _ (Step.refl _ _) (hA.put hdst hy) R
    | p q =>
      simp only [ob_some, Option.some.injEq, Prod.mk.injEq] at hrun
      obtain ⟨v, hv, rfl, rfl⟩ := hrun
      obtain ⟨y, hy, hr⟩ := ok hA.tmps hG v hv
      rw [hr o rfl w, Oper.upon_value]
      exact hK ρ _ _ (Step.refl _ _) (hA.put hdst hy) R
    | r q =>
      simp only [ob_some, Option.some.injEq, Prod.mk.injEq] at hrun
      obtain ⟨q', hq, v, hv, rfl, rfl⟩ := hrun
      obtain ⟨y, hy, hr⟩ := ok hA.tmps hG q' hq v R hv
      rw [hr o rfl, Oper.upon_value]
      exact hK ρ _ _ (Step.refl _ _) (hA.put hdst hy) R
    | e q =>
      simp only [ob_some, Option.some.injEq, Prod.mk.injEq] at hrun
      obtain ⟨⟨v, h''⟩, hv, rfl, rfl⟩ := hrun
      obtain ⟨ρ', y, w', s1, s2, s3, s4⟩ := ok.eff hA.tmps hG R hv
      have E := s1.ext R
      rcases s4 o rfl with hr | ⟨hr, rfl⟩
      · rw [hr, Oper.upon_value]
        exact hK ρ' _ _ s1 ((hA.mono E).put hdst s2) s3
      · rw [hr, Oper.upon_skip]
        exact hK ρ' _ _ s1 ((hA.mono E).put hdst s2) s3
    | c q =>
      simp only [ob_some, Option.some.injEq, Prod.mk.injEq] at hrun
      obtain ⟨⟨f, vs⟩, hf, ⟨v, h''⟩, hv, rfl, rfl⟩ := hrun
      obtain ⟨xs, hxs, hr⟩ := ok hA.tmps hG hf
      rw [hr o rfl w]
      refine (hcall hv R hG hxs).upon fun y w' hR => ?_
      obtain ⟨ρ', s1, s2, s3⟩ := hR
      exact hK ρ' _ _ s1 ((hA.mono (s1.ext R)).put hdst s2) s3
    | defer q =>
      simp only [ob_some, Option.some.injEq, Prod.mk.injEq] at hrun
      obtain ⟨⟨f, vs⟩, hf, rfl, rfl⟩ := hrun
      obtain ⟨e, he, hr⟩ := ok hA.tmps hG hf
      rw [hr o rfl w, Oper.upon_defer]
      have hA2 : ARel ρ C.n { tmps := a.tmps, defers := (f, vs) :: a.defers } { A with defers := e :: A.defers } := ⟨hA.tmps, .cons he hA.defers⟩
      exact hK ρ _ _ (Step.refl _ _) (hA2.put hdst (.tuple .nil)) R
    | stuck => cases hrun

/-- Operations in their order. -/
theorem runOps_ok {C : CE} {call : Orc} (hcall : OrcOk C.P C.G call) {ops : Array Oper} : ∀ {l : List Oper} {dl : List DO}, compDOs C ops l = some dl → ∀ {a a' : A} {A : Act} {ρ : Rho} {h h' : H} {w : World}, ARel ρ C.n a A → GRel ρ C.G → HRel B w0 ρ h w →
    runOps (envOf C.P) call dl a h = some (a', h') → ∀ {Q : Exit → Act → World → Prop}, (∀ ρ' A' w', Step ρ ρ' h h' → ARel ρ' C.n a' A' → HRel B w0 ρ' h' w' → Q .normal A' w') → wpList C.P ops Q l A w
  | [], dl, hc, a, a', A, ρ, h, h', w, hA, hG, R, hrun, Q, hQ => by
    simp only [compDOs, Option.some.injEq] at hc
    subst hc
    simp only [runOps, Option.some.injEq, Prod.mk.injEq] at hrun
    obtain ⟨rfl, rfl⟩ := hrun
    exact hQ ρ A w (Step.refl _ _) hA R
  | o :: l, dl, hc, a, a', A, ρ, h, h', w, hA, hG, R, hrun, Q, hQ => by
    simp only [compDOs, ob_some, Option.some.injEq] at hc
    obtain ⟨d, hd, ds, hds, rfl⟩ := hc
    have hd' := hd
    simp only [compDO, ob_some, Option.some.injEq] at hd'
    obtain ⟨dst, hdst, g, hg, hdd⟩ := hd'
    have hw := wants_ok hg hA.tmps
    simp only [runOps] at hrun
    simp only [wpList]
    have hgd : d.guard = g := by rw [← hdd]
    have hdst' : d.dst = dst := by rw [← hdd]
    split at hrun
    · rename_i hwt
      rw [hgd] at hwt
      rw [if_pos (hw.trans hwt)]
      simp only [ob_some] at hrun
      obtain ⟨⟨a1, h1⟩, hs, hrun⟩ := hrun
      refine .inl (oper_ok hcall hd hA hG R hs fun ρ1 A1 w1 s1 hA1 R1 => ?_)
      exact runOps_ok hcall hds hA1 (hG.mono (s1.ext R)) R1 hrun fun ρ2 A2 w2 s2 => hQ ρ2 A2 w2 (s1.trans s2)
    · rename_i hwt
      rw [hgd] at hwt
      rw [if_neg (by rw [hw, hwt]; exact Bool.false_ne_true)]
      rw [hdst'] at hrun
      exact runOps_ok hcall hds (hA.put hdst (.tuple .nil)) hG R hrun hQ

end
end Go.Dx
namespace Go.Dx
open Go Go.RowKit

/-! ### loops -/

def LoopWp (P : Program) (c : Code) (Q : Exit → Act → World → Prop) (a : Act) (w : World) : Prop := ∀ (b : Frame) (k : List Item) (cs : List Frame),
  ∃ e a' w', Q e a' w' ∧ Arrives P (lone (b.at a (.code c :: .inLoop c :: k)) cs w) b k cs e a' w'

theorem LoopWp.wp {P : Program} {c : Code} {Q : Exit → Act → World → Prop} {a : Act} {w : World} (h : LoopWp P c Q a w) : (Code.loop c).wp P Q a w := fun b k cs =>
  let ⟨e, a', w', q, r⟩ := h b k cs; ⟨e, a', w', q, .of_steps (.one step_loop) r⟩

theorem LoopWp.of {P : Program} {c : Code} {Q : Exit → Act → World → Prop} {a : Act} {w : World} (h : c.wp P (Exit.then (LoopWp P c Q) Q) a w) : LoopWp P c Q a w := by
  intro b k cs
  obtain ⟨e, a₁, w₁, hq, harr⟩ := h b (.inLoop c :: k) cs
  cases e with
  | normal =>
    obtain ⟨e₂, a₂, w₂, hq₂, harr₂⟩ := hq b k cs
    exact ⟨e₂, a₂, w₂, hq₂, .of_steps (Steps.trans harr (.one step_inLoop)) harr₂⟩
  | exit id => exact ⟨_, a₁, w₁, hq, .pass (x := .inLoop c) rfl (fun _ _ => .inl (by simp)) harr⟩
  | goto l => exact ⟨_, a₁, w₁, hq, .pass (x := .inLoop c) rfl (fun _ _ => .inl (by simp)) harr⟩
  | ret => exact ⟨_, a₁, w₁, hq, .pass (x := .inLoop c) rfl (fun _ _ => .inl (by simp)) harr⟩
  | panic ch => exact ⟨_, a₁, w₁, hq, .pass (x := .inLoop c) rfl (fun _ _ => .inl (by simp)) harr⟩
  | outgrown => exact ⟨_, a₁, w₁, hq, .pass (x := .inLoop c) rfl (fun _ _ => .inl (by simp)) harr⟩

def toExit : Ex → Exit
  | .normal => .normal
  | .exit id => .exit id
  | .ret => .ret

/-- What a machine's state comes to. -/
def Post (B : Nat) (w0 : World) (n : Nat) (ρ : Rho) (h : H) (e : Ex) (a' : A) (h' : H) (Q : Exit → Act → World → Prop) : Prop := ∀ ρ' A' w', Step ρ ρ' h h' → ARel ρ' n a' A' → HRel B w0 ρ' h' w' → Q (toExit e) A' w'

abbrev Exec := DC → A → H → Option (Ex × A × H)

structure ExecOk (P : Program) (G : Nat) (exec : Exec) : Prop where
  code : ∀ {n : Nat} {c : Code} {a : A} {h : H} {e : Ex} {a' : A} {h' : H}, exec (compC ⟨P, G, n⟩ c) a h = some (e, a', h') → ∀ {B : Nat} {w0 : World} {ρ : Rho} {w : World} {x : Act} {Q : Exit → Act → World → Prop}, ARel ρ n a x → GRel ρ G → HRel B w0 ρ h w →
    Post B w0 n ρ h e a' h' Q → c.wp P Q x w
  loop : ∀ {n : Nat} {c : Code} {a : A} {h : H} {e : Ex} {a' : A} {h' : H}, exec (.loop (compC ⟨P, G, n⟩ c)) a h = some (e, a', h') → ∀ {B : Nat} {w0 : World} {ρ : Rho} {w : World} {x : Act} {Q : Exit → Act → World → Prop}, ARel ρ n a x → GRel ρ G → HRel B w0 ρ h w →
    Post B w0 n ρ h e a' h' Q → LoopWp P c Q x w

/-- What is to be shown of a region whose order is open. -/
def DrawOk (P : Program) (G : Nat) (call : Orc) : Prop := ∀ {n id : Nat} {ops : Array Oper} {l : List DO} {m : List Made} {dl : List (DO × Nat × Nat)}, compDOs ⟨P, G, n⟩ ops ops.toList = some l → compDraw ⟨P, G, n⟩ ops l = .draw m dl →
  ∀ {a a' : A} {x : Act} {ρ : Rho} {h h' : H} {w : World} {B : Nat} {w0 : World}, ARel ρ n a x → GRel ρ G → HRel B w0 ρ h w → ∀ {m' : List Made}, guessed (envOf P) dl m a.tmps h = some m' →
  runDraw (envOf P) call dl { tmps := (makeAll m' a.tmps h).1, defers := a.defers } (makeAll m' a.tmps h).2 0 [] [] = some (a', h') → ∀ {Q : Exit → Act → World → Prop}, Post B w0 n ρ h .normal a' h' Q → (Code.region id ops true).wp P Q x w

section
variable {P : Program} {G : Nat} {exec : Exec} {call : Orc}

theorem Post.trans {B : Nat} {w0 : World} {n : Nat} {ρ ρ1 : Rho} {h h1 h' : H} {e : Ex} {a' : A} {Q : Exit → Act → World → Prop} (p : Post B w0 n ρ h e a' h' Q) (s : Step ρ ρ1 h h1) : Post B w0 n ρ1 h1 e a' h' Q :=
  fun ρ' A' w' s' => p ρ' A' w' (s.trans s')

/-- The operand of a condition. -/
theorem cond_ok {C : CE} {c : Operand} {x : X} (hx : compX C c = some x) {ρ : Rho} {a : A} {A' : Act} (hA : ARel ρ C.n a A') (hG : GRel ρ C.G) {b : Bool} (e : x.ev a.tmps = .bool b) : A'.eval c = .bool b := by
  have r := compX_ok hA.tmps hG hx
  rw [e] at r
  generalize A'.eval c = y at r
  cases r; rfl

theorem loop_step (hE : ExecOk P G exec) {n : Nat} {c : Code} {a : A} {h : H} {e : Ex} {a' : A} {h' : H}
    (hr : (ob (exec (compC ⟨P, G, n⟩ c) a h) fun r => match r.1 with
    | .normal => exec (.loop (compC ⟨P, G, n⟩ c)) r.2.1 r.2.2
    | e => some (e, r.2.1, r.2.2)) = some (e, a', h')) {B : Nat} {w0 : World} {ρ : Rho} {w : World} {x : Act} {Q : Exit → Act → World → Prop} (hA : ARel ρ n a x) (hG : GRel ρ G) (R : HRel B w0 ρ h w) (hQ : Post B w0 n ρ h e a' h' Q) : LoopWp P c Q x w := by
  rw [ob_some] at hr
  obtain ⟨⟨e1, a1, h1⟩, h2, h3⟩ := hr
  refine LoopWp.of (hE.code h2 hA hG R fun ρ1 A1 w1 s1 hA1 R1 => ?_)
  cases e1 with
  | normal => exact hE.loop h3 hA1 (hG.mono (s1.ext R)) R1 (hQ.trans s1)
  | exit id => simp only [Option.some.injEq, Prod.mk.injEq] at h3; obtain ⟨rfl, rfl, rfl⟩ := h3; exact hQ ρ1 A1 w1 s1 hA1 R1
  | ret => simp only [Option.some.injEq, Prod.mk.injEq] at h3; obtain ⟨rfl, rfl, rfl⟩ := h3; exact hQ ρ1 A1 w1 s1 hA1 R1

theorem execStep_ok (hE : ExecOk P G exec) (hcall : OrcOk P G call) (hdraw : DrawOk P G call) : ExecOk P G (execStep (envOf P) call exec) := by
  refine ⟨fun {n c a h e a' h'} hr {B w0 ρ w x Q} hA hG R hQ => ?_, fun {n c a h e a' h'} hr {B w0 ρ w x Q} hA hG R hQ => loop_step hE hr hA hG R hQ⟩
  cases c with
  | skip =>
    simp only [compC, execStep, Option.some.injEq, Prod.mk.injEq] at hr
    obtain ⟨rfl, rfl, rfl⟩ := hr
    exact wp_skip (hQ ρ x w (Step.refl _ _) hA R)
  | label l =>
    simp only [compC, execStep, Option.some.injEq, Prod.mk.injEq] at hr
    obtain ⟨rfl, rfl, rfl⟩ := hr
    exact wp_label (hQ ρ x w (Step.refl _ _) hA R)
  | region id ops draw =>
    simp only [compC] at hr
    split at hr
    · rename_i l hl
      cases draw with
      | false =>
        simp only [execStep, ob_some, Option.some.injEq, Prod.mk.injEq] at hr
        obtain ⟨⟨a1, h1⟩, h2, rfl, rfl, rfl⟩ := hr
        exact wp_region_list (runOps_ok hcall hl hA hG R h2 hQ)
      | true =>
        simp only at hr
        cases hd : compDraw ⟨P, G, n⟩ ops l with
        | draw m dl =>
          rw [hd] at hr
          simp only [execStep, ob_some, Option.some.injEq, Prod.mk.injEq] at hr
          obtain ⟨m', hm', ⟨a1, h1⟩, h2, rfl, rfl, rfl⟩ := hr
          exact hdraw hl hd hA hG R hm' h2 hQ
        | stuck => rw [hd] at hr; simp [execStep] at hr
        | _ => unfold compDraw at hd; simp only at hd; split at hd <;> cases hd
    · simp [execStep] at hr
  | seq c1 c2 =>
    simp only [compC, execStep, ob_some] at hr
    obtain ⟨⟨e1, a1, h1⟩, h2, h3⟩ := hr
    refine wp_seq (hE.code h2 hA hG R fun ρ1 A1 w1 s1 hA1 R1 => ?_)
    cases e1 with
    | normal => exact hE.code h3 hA1 (hG.mono (s1.ext R)) R1 (hQ.trans s1)
    | exit id => simp only [Option.some.injEq, Prod.mk.injEq] at h3; obtain ⟨rfl, rfl, rfl⟩ := h3; exact hQ ρ1 A1 w1 s1 hA1 R1
    | ret => simp only [Option.some.injEq, Prod.mk.injEq] at h3; obtain ⟨rfl, rfl, rfl⟩ := h3; exact hQ ρ1 A1 w1 s1 hA1 R1
  | cond c c1 c2 =>
    simp only [compC] at hr
    split at hr
    · rename_i y hy
      simp only [execStep] at hr
      split at hr
      · rename_i hb
        exact wp_cond_true (cond_ok (C := ⟨P, G, n⟩) hy hA hG hb) (hE.code hr hA hG R hQ)
      · rename_i hb
        exact wp_cond_false (cond_ok (C := ⟨P, G, n⟩) hy hA hG hb) (hE.code hr hA hG R hQ)
      · cases hr
    · simp [execStep] at hr
  | block id c =>
    simp only [compC, execStep, ob_some] at hr
    obtain ⟨⟨e1, a1, h1⟩, h2, h3⟩ := hr
    refine wp_block (hE.code h2 hA hG R fun ρ1 A1 w1 s1 hA1 R1 => ?_)
    cases e1 with
    | normal => simp only [Option.some.injEq, Prod.mk.injEq] at h3; obtain ⟨rfl, rfl, rfl⟩ := h3; exact hQ ρ1 A1 w1 s1 hA1 R1
    | exit i =>
      simp only [Option.some.injEq, Prod.mk.injEq] at h3
      obtain ⟨he, rfl, rfl⟩ := h3
      show if i = id then Q .normal A1 w1 else Q (.exit i) A1 w1
      cases hb : Nat.beq i id with
      | true =>
        simp only [hb] at he
        subst he
        rw [if_pos (Nat.eq_of_beq_eq_true hb)]
        exact hQ ρ1 A1 w1 s1 hA1 R1
      | false =>
        simp only [hb] at he
        subst he
        rw [if_neg (fun e => by rw [e, Nat.beq_refl] at hb; cases hb)]
        exact hQ ρ1 A1 w1 s1 hA1 R1
    | ret => simp only [Option.some.injEq, Prod.mk.injEq] at h3; obtain ⟨rfl, rfl, rfl⟩ := h3; exact hQ ρ1 A1 w1 s1 hA1 R1
  | loop c =>
    simp only [compC, execStep] at hr
    exact (loop_step hE hr hA hG R hQ).wp
  | exit id =>
    simp only [compC, execStep, Option.some.injEq, Prod.mk.injEq] at hr
    obtain ⟨rfl, rfl, rfl⟩ := hr
    exact wp_exit (hQ ρ x w (Step.refl _ _) hA R)
  | ret =>
    simp only [compC, execStep, Option.some.injEq, Prod.mk.injEq] at hr
    obtain ⟨rfl, rfl, rfl⟩ := hr
    exact wp_ret (hQ ρ x w (Step.refl _ _) hA R)
  | _ => simp [compC, execStep] at hr

/-! ### calls -/

theorem inc_pathGo : ∀ (f n : Nat), n + 1 < 2 ^ f → pathGo f (n + 1) = inc (pathGo f n)
  | 0, n, h => by simp at h
  | f + 1, n, h => by
    have z : ∀ g, pathGo g 0 = [] := fun g => by cases g <;> rfl
    by_cases h0 : n = 0
    · subst h0
      show (if (0 + 1 == 0) = true then [] else ((0 + 1) % 2 == 1) :: pathGo f ((0 + 1) / 2)) = inc []
      simp [z, inc]
    · have e1 : (n == 0) = false := by simpa using h0
      have e2 : (n + 1 == 0) = false := by simp
      have hn : pathGo (f + 1) n = (n % 2 == 1) :: pathGo f (n / 2) := by simp [pathGo, e1]
      have hn' : pathGo (f + 1) (n + 1) = ((n + 1) % 2 == 1) :: pathGo f ((n + 1) / 2) := by simp [pathGo]
      rw [hn, hn']
      rw [Nat.pow_succ] at h
      rcases Nat.mod_two_eq_zero_or_one n with h2 | h2
      · have a1 : (n + 1) % 2 = 1 := by omega
        have a2 : (n + 1) / 2 = n / 2 := by omega
        simp [h2, a1, a2, inc]
      · have a1 : (n + 1) % 2 = 0 := by omega
        have a2 : (n + 1) / 2 = n / 2 + 1 := by omega
        have ih := inc_pathGo f (n / 2) (by omega)
        simp [h2, a1, a2, inc, ih]

theorem inc_pathOf {n : Nat} (h : n + 1 < 2 ^ 64) : inc (pathOf n) = pathOf (n + 1) := (inc_pathGo 64 n h).symm

theorem argsIn_get : ∀ (vs : List V) (k : Nat) (t : T V) (j : Nat), k + vs.length < 131072 → j < 131072 → getT (argsIn vs (pathOf k) t) (pathOf j) = if k ≤ j then (match vs[j - k]? with | some v => v | none => getT t (pathOf j)) else getT t (pathOf j)
  | [], k, t, j, hk, hj => by simp [argsIn]
  | v :: vs, k, t, j, hk, hj => by
    simp only [List.length_cons] at hk
    rw [argsIn, inc_pathOf (by omega), argsIn_get vs (k + 1) _ j (by omega) hj]
    by_cases h1 : k + 1 ≤ j
    · rw [if_pos h1, if_pos (by omega)]
      have e : j - k = (j - (k + 1)) + 1 := by omega
      rw [e, List.getElem?_cons_succ]
      rw [getT_set_ne _ _ (fun e' => by have := pathOf_inj (by omega) (by omega) e'; omega)]
    · rw [if_neg h1]
      by_cases h2 : k = j
      · subst h2
        rw [getT_set_self, if_pos (Nat.le_refl _)]; simp
      · rw [getT_set_ne _ _ (fun e' => h2 (pathOf_inj (by omega) (by omega) e')), if_neg (by omega)]

theorem args_rel {ρ : Rho} {args : List V} {xs : List Value} (r : RVs ρ args xs) {n : Nat} (hn : n ≤ 65536) (hl : args.length ≤ n) : TRel ρ n (argsIn args [] .leaf) (xs.toArray ++ Array.replicate (n - xs.toArray.size) Go.undef) := by
  have hlen := r.length
  refine ⟨by simp; omega, hn, fun t ht => ?_⟩
  have e0 : ([] : Lb) = pathOf 0 := rfl
  have := argsIn_get args 0 .leaf t (by omega) (by omega)
  rw [← e0] at this
  rw [this, if_pos (Nat.zero_le _), Nat.sub_zero]
  have hleaf : getT (T.leaf : T V) (pathOf t) = undef := by unfold getT; rw [T.get_leaf]
  cases h : args[t]? with
  | some v =>
    obtain ⟨y, hy, ry⟩ := r.get h
    have hlt := (List.getElem?_eq_some_iff.1 hy).1
    have e : (xs.toArray ++ Array.replicate (n - xs.toArray.size) Go.undef).getD t Go.undef = y := by
      rw [Array.getD_eq_getD_getElem?, Array.getElem?_append_left (by simpa using hlt)]
      simp [hy]
    rw [e]; exact ry
  | none =>
    have hge : args.length ≤ t := List.getElem?_eq_none_iff.1 h
    have e : (xs.toArray ++ Array.replicate (n - xs.toArray.size) Go.undef).getD t Go.undef = Go.undef := by
      rw [Array.getD_eq_getD_getElem?, Array.getElem?_append_right (by simp; omega)]
      simp [Array.getElem?_replicate]
      split <;> rfl
    rw [e]
    simp only [hleaf]
    exact .tuple .nil

def resSem (tmps : Array Value) : ResultVar → Sem Value
  | .tmp t => pure (tmps.getD t Go.undef)
  | .cell a t => do loadVar t (← asAddr (tmps.getD a Go.undef))

theorem result_ok {C : CE} {r : ResultVar} {d : Res} (hd : compRes C r = some d) {ρ : Rho} {tm : T V} {tmps : Array Value} (hT : TRel ρ C.n tm tmps) {B : Nat} {w0 : World} {h : H} {w : World} (R : HRel B w0 ρ h w) {v : V} (hv : resultD h tm d = some v) :
    ∃ x, RV ρ v x ∧ (resSem tmps r).run C.P w = .ok x w := by
  cases r with
  | tmp t =>
    simp only [compRes, chk_some, Option.some.injEq] at hd
    obtain ⟨h1, rfl⟩ := hd
    simp only [resultD, Option.some.injEq] at hv
    subst hv
    exact ⟨_, hT.get t (by simpa using h1), rfl⟩
  | cell a t =>
    simp only [compRes, chk_some, ob_some, Option.some.injEq] at hd
    obtain ⟨h1, rd, hrd, rfl⟩ := hd
    simp only [resultD] at hv
    split at hv
    · rename_i l off e
      have ra := hT.get a (by simpa using h1)
      rw [e] at ra
      obtain ⟨b, hb, hy⟩ := ptr_inv ra
      simp only [Q.ask] at hv
      split at hv
      · rename_i vs el fz own hg
        obtain ⟨z, z1, z2⟩ := load_ok hrd (R.obj l b _ hb hg) hv
        refine ⟨z, z1, ?_⟩
        unfold resSem
        simp only [hy, asAddr]
        simpa using z2
      · cases hv
    · cases hv

theorem results_ok {C : CE} {ρ : Rho} {tm : T V} {tmps : Array Value} (hT : TRel ρ C.n tm tmps) {B : Nat} {w0 : World} {h : H} {w : World} (R : HRel B w0 ρ h w) : ∀ {rs : List ResultVar} {ds : List Res}, compRess C rs = some ds → ∀ {vs : List V}, resultsD h tm ds = some vs →
    ∃ xs : List Value, RVs ρ vs xs ∧ (rs.mapM (resSem tmps)).run C.P w = .ok xs w
  | [], ds, hd, vs, hv => by
    simp only [compRess, Option.some.injEq] at hd
    subst hd
    simp only [resultsD, Option.some.injEq] at hv
    subst hv
    exact ⟨[], .nil, rfl⟩
  | r :: rs, ds, hd, vs, hv => by
    simp only [compRess, ob_some, Option.some.injEq] at hd
    obtain ⟨d, h1, ds', h2, rfl⟩ := hd
    simp only [resultsD, ob_some, Option.some.injEq] at hv
    obtain ⟨v, h3, vs', h4, rfl⟩ := hv
    obtain ⟨x, x1, x2⟩ := result_ok h1 hT R h3
    obtain ⟨xs, y1, y2⟩ := results_ok hT R h2 h4
    refine ⟨x :: xs, .cons x1 y1, ?_⟩
    rw [List.mapM_cons]
    simp only [Sem.run_bind, x2, Result.andThen_ok, y2, Sem.run_pure]

theorem pack_ok {ρ : Rho} {vs : List V} {xs : List Value} (r : RVs ρ vs xs) : RV ρ (packD vs) (if h : (⟨xs⟩ : Array Value).size = 1 then (⟨xs⟩ : Array Value)[0] else .tuple ⟨xs⟩) := by
  cases r with
  | nil => exact .tuple .nil
  | cons h hs =>
    cases hs with
    | nil => exact h
    | cons h2 hs2 => exact .tuple (.cons h (.cons h2 hs2))

theorem fn_results {C : CE} {fn : Func} {ds : List Res} (hd : compRess C fn.results.toList = some ds) {ρ : Rho} {tm : T V} {tmps : Array Value} (hT : TRel ρ C.n tm tmps) {B : Nat} {w0 : World} {h : H} {w : World} (R : HRel B w0 ρ h w) {vs : List V} (hv : resultsD h tm ds = some vs) :
    ∃ x, RV ρ (packD vs) x ∧ (results fn tmps).run C.P w = .ok x w := by
  obtain ⟨xs, x1, x2⟩ := results_ok hT R hd hv
  refine ⟨_, pack_ok x1, ?_⟩
  have e : results fn tmps = (do let vs ← fn.results.mapM (resSem tmps); pure (if h : vs.size = 1 then vs[0] else .tuple vs)) := rfl
  rw [e, Sem.run_bind, mapM_array _ _ _ x2]
  rfl

end
end Go.Dx
namespace Go.Dx
open Go Go.RowKit

/-- What a deferred call does. -/
def LateGood (P : Program) (f : FuncId) (xs : List Value) (w : World) (R : World → Prop) : Prop :=
  (callFunc f ⟨xs⟩).run P w = .ok (.enter f ⟨xs⟩) w ∧ CallsD P f ⟨xs⟩ .returning w fun e u' w' => ∃ v, e = .returned v ∧ u' = .returning ∧ R w'

def LateOk (P : Program) (G : Nat) (late : FuncId → List V → H → Option H) : Prop := ∀ {f : FuncId} {args : List V} {h h' : H}, late f args h = some h' → ∀ {B : Nat} {w0 : World} {ρ : Rho} {w : World} {xs : List Value}, HRel B w0 ρ h w → GRel ρ G → RVs ρ args xs →
  LateGood P f xs w fun w' => ∃ ρ', Step ρ ρ' h h' ∧ HRel B w0 ρ' h' w'

def FnsOk (P : Program) (G : Nat) (fns : T DFn) : Prop := ∀ f fn, fnAt fns f = some fn → ∃ func, P.funcs[f]? = some func ∧ compFn P G func = some fn

section
variable {P : Program} {G : Nat} {exec : Exec} {call : Orc} {orc : Orc} {late dorc : FuncId → List V → H → Option H} {fns : T DFn}

structure Comp (P : Program) (G : Nat) (func : Func) (fn : DFn) (c : Code) : Prop where
  body : func.body = some c
  small : func.ntmps ≤ 65536
  name : (func.name == "runtime.NumGoroutine") = false
  ntmps : fn.ntmps = func.ntmps
  code : fn.code = compC ⟨P, G, func.ntmps⟩ c
  results : compRess ⟨P, G, func.ntmps⟩ func.results.toList = some fn.results

theorem compFn_some {func : Func} {fn : DFn} (h : compFn P G func = some fn) : ∃ c, Comp P G func fn c := by
  unfold compFn at h
  simp only [chk_some, ob_some, Option.some.injEq, Bool.and_eq_true, Bool.not_eq_true'] at h
  obtain ⟨⟨⟨h1, h2⟩, h3⟩, c, h4, rs, h5, rfl⟩ := h
  exact ⟨c, h4, Nat.le_of_ble_eq_true h1, h3, rfl, rfl, h5⟩

theorem callFunc_enter {func : Func} {fn : DFn} {c : Code} (k : Comp P G func fn c) {f : FuncId} (hf : P.funcs[f]? = some func) (xs : Array Value) (w : World) : (callFunc f xs).run P w = .ok (.enter f xs) w := by
  have hn : ¬ func.name = "runtime.NumGoroutine" := fun e => by have := k.name; rw [e] at this; simp at this
  unfold callFunc
  simp [hf, hn, k.body]

theorem enter_wp (hE : ExecOk P G exec) {func : Func} {fn : DFn} {c : Code} (k : Comp P G func fn c) {args : List V} {h : H} {e : Ex} {a' : A} {h' : H} (hr : enterD exec fn args h = some (e, a', h')) {B : Nat} {w0 : World} {ρ : Rho} {w : World} {xs : List Value}
    (R : HRel B w0 ρ h w) (hG : GRel ρ G) (hx : RVs ρ args xs) {Q : Exit → Act → World → Prop} (hQ : Post B w0 func.ntmps ρ h e a' h' Q) : c.wp P Q { tmps := (⟨xs⟩ : Array Value) ++ Array.replicate (func.ntmps - (⟨xs⟩ : Array Value).size) Go.undef, defers := [] } w := by
  unfold enterD at hr
  rw [chk_some] at hr
  obtain ⟨h1, h2⟩ := hr
  have h1 := Nat.le_of_ble_eq_true h1
  rw [k.ntmps] at h1
  rw [k.code] at h2
  exact hE.code h2 ⟨args_rel hx k.small h1, .nil⟩ hG R hQ

theorem late_ok (hE : ExecOk P G exec) (hd : LateOk P G dorc) (hfns : FnsOk P G fns) : LateOk P G (lateD fns dorc exec) := by
  intro f args h h' hr B w0 ρ w xs R hG hx
  unfold lateD at hr
  split at hr
  · rename_i h'' hdo
    cases hr
    exact hd hdo R hG hx
  · simp only [ob_some] at hr
    obtain ⟨fn, hfn, ⟨e, a', h1⟩, hen, hr⟩ := hr
    obtain ⟨func, hf, hc⟩ := hfns f fn hfn
    obtain ⟨c, k⟩ := compFn_some hc
    refine ⟨callFunc_enter k hf _ w, ?_⟩
    have fin : a'.defers = [] ∧ (∃ vs, resultsD h1 a'.tmps fn.results = some vs) ∧ h1 = h' ∧ (e = .normal ∨ e = .ret) := by
      split at hr
      · cases hr
      · rename_i hdef hne
        simp only [ob_some, Option.some.injEq] at hr
        obtain ⟨vs, hvs, rfl⟩ := hr
        refine ⟨hdef, ⟨vs, hvs⟩, rfl, ?_⟩
        cases e with
        | normal => exact .inl rfl
        | ret => exact .inr rfl
        | exit id => exact absurd rfl (hne id)
      · cases hr
    obtain ⟨f1, ⟨vs, f2⟩, rfl, f4⟩ := fin
    have Q := callsD_of_wp (P := P) (f := f) (fn := func) (c := c) (args := ⟨xs⟩) (u := .returning) (w := w) (R := fun e w' => ∃ v, e = .returned v ∧ ∃ ρ', Step ρ ρ' h h1 ∧ HRel B w0 ρ' h1 w') hf k.body
      (enter_wp hE k hen R hG hx fun ρ' A' w' s hA R' => by
        have hds : A'.defers = [] := by
          have := hA.defers
          rw [f1] at this
          generalize A'.defers = es at this
          cases this; rfl
        obtain ⟨v, v1, v2⟩ := fn_results (C := ⟨P, G, func.ntmps⟩) k.results hA.tmps R' f2
        rcases f4 with rfl | rfl <;> exact ⟨hds, v, v2, v, rfl, ρ', s, R'⟩)
    exact Q.mono fun e u' w' ⟨hu, v, hv, ρ', s, R'⟩ => ⟨v, hv, hu, ρ', s, R'⟩

theorem leave_ok (hl : LateOk P G late) {func : Func} {fn : DFn} {c : Code} (k : Comp P G func fn c) {B : Nat} {w0 : World} {tm : T V} {tmps : Array Value} {vs : List V} {h' : H} {Rt : Ending → World → Prop} :
    ∀ {ds : List (FuncId × List V)} {es : List Deferred} {ρ : Rho} {h : H} {w : World}, leaveD late ds h = some h' → DRels ρ ds es → TRel ρ func.ntmps tm tmps → GRel ρ G → HRel B w0 ρ h w → resultsD h' tm fn.results = some vs →
    (∀ ρ' w' x, Step ρ ρ' h h' → RV ρ' (packD vs) x → HRel B w0 ρ' h' w' → Rt (.returned x) w') → Leaves P func tmps Rt es .returning w
  | [], es, ρ, h, w, hr, hd, hT, hG, R, hv, hq => by
    cases hd
    simp only [leaveD, Option.some.injEq] at hr
    subst hr
    obtain ⟨x, x1, x2⟩ := fn_results (C := ⟨P, G, func.ntmps⟩) k.results hT R hv
    exact ⟨x, x2, hq ρ w x (Step.refl _ _) x1 R⟩
  | (f, args) :: ds, es, ρ, h, w, hr, hd, hT, hG, R, hv, hq => by
    cases hd with
    | @cons _ e _ es' h1 h2 =>
      obtain ⟨xs, cap, t1, t2, t3⟩ := h1
      simp only [leaveD, ob_some] at hr
      obtain ⟨h1', hl1, hr⟩ := hr
      obtain ⟨g1, g2⟩ := hl hl1 R hG t3
      refine ⟨by simp, .func f, ⟨cap⟩, f, ⟨xs ++ cap⟩, t1, ?_, ?_⟩
      · rw [t1, t2]
        show (callFunc f ((⟨xs⟩ : Array Value) ++ ⟨cap⟩)).run P w = _
        have : ((⟨xs⟩ : Array Value) ++ ⟨cap⟩) = ⟨xs ++ cap⟩ := by simp
        rw [this]; exact g1
      · refine g2.mono fun e' u' w' ⟨v, hv', hu, ρ', s, R'⟩ => ?_
        subst hv'; subst hu
        have E := s.ext R
        exact leave_ok hl k hr (h2.mono E) (hT.mono E) (hG.mono E) R' hv fun ρ'' w'' x s' => hq ρ'' w'' x (s.trans s')

theorem call_ok (hE : ExecOk P G exec) (horc : OrcOk P G orc) (hd : LateOk P G dorc) (hfns : FnsOk P G fns) : OrcOk P G (callD fns orc dorc exec) := by
  intro f args h v h' hr B w0 ρ w xs R hG hx
  unfold callD at hr
  split at hr
  · rename_i r ho
    cases hr
    exact horc ho R hG hx
  · simp only [ob_some] at hr
    obtain ⟨fn, hfn, ⟨e, a', h1⟩, hen, hr⟩ := hr
    obtain ⟨func, hf, hc⟩ := hfns f fn hfn
    obtain ⟨c, k⟩ := compFn_some hc
    have fin : (∃ vs, leaveD (lateD fns dorc exec) a'.defers h1 = some h' ∧ resultsD h' a'.tmps fn.results = some vs ∧ v = packD vs) ∧ (e = .normal ∨ e = .ret) := by
      split at hr
      · cases hr
      · rename_i hne
        simp only [ob_some, Option.some.injEq, Prod.mk.injEq] at hr
        obtain ⟨h2, hl, vs, hvs, rfl, rfl⟩ := hr
        refine ⟨⟨vs, hl, hvs, rfl⟩, ?_⟩
        cases e with
        | normal => exact .inl rfl
        | ret => exact .inr rfl
        | exit id => exact absurd rfl (hne id)
    obtain ⟨⟨vs, f1, f2, rfl⟩, f4⟩ := fin
    refine .inr ⟨callFunc_enter k hf _ w, ?_⟩
    refine calls_of_wp_defers (P := P) (f := f) (fn := func) (c := c) hf k.body (enter_wp hE k hen R hG hx fun ρ' A' w' s hA R' => ?_)
    have L : Leaves P func A'.tmps (fun e w' => ∃ x, e = .returned x ∧ ∃ ρ', Step ρ ρ' h h' ∧ RV ρ' (packD vs) x ∧ HRel B w0 ρ' h' w') A'.defers .returning w' :=
      leave_ok (late_ok hE hd hfns) k f1 hA.defers hA.tmps (hG.mono (s.ext R)) R' f2 fun ρ'' w'' x s' hx' R'' => ⟨x, rfl, ρ'', s.trans s', hx', R''⟩
    rcases f4 with rfl | rfl <;> exact L

theorem turn_ok (hdraw : ∀ {call : Orc}, OrcOk P G call → DrawOk P G call) (horc : OrcOk P G orc) (hd : LateOk P G dorc) (hfns : FnsOk P G fns) : ∀ n, ExecOk P G (turn (envOf P) fns orc dorc n).exec ∧ OrcOk P G (turn (envOf P) fns orc dorc n).call
  | 0 => by
    refine ⟨⟨?_, ?_⟩, ?_⟩
    · intro n c a h e a' h' hr; cases hr
    · intro n c a h e a' h' hr; cases hr
    · intro f args h v h' hr; cases hr
  | n + 1 => by
    obtain ⟨h1, h2⟩ := turn_ok hdraw horc hd hfns n
    exact ⟨execStep_ok h1 h2 (hdraw h2), call_ok h1 horc hd hfns⟩

end
end Go.Dx
namespace Go.Dx
open Go Go.RowKit

/-- It does the same with both temporaries. -/
def SameD (E : Env) (tm tm' : T V) : D → Prop
  | .mov x => x.ev tm = x.ev tm'
  | .p q => q.eval E tm = q.eval E tm'
  | .r q => q.req tm = q.req tm'
  | .e q => ∀ h, q.run tm h = q.run tm' h
  | .c q => q.args E tm = q.args E tm'
  | .defer q => q.args E tm = q.args E tm'
  | .stuck => True

section
variable {C : CE} {tm tm' : T V} {E : Env}

/-- An operand's value is the same. -/
def SameX (C : CE) (tm tm' : T V) (y : Operand) : Prop := ∀ x, compX C y = some x → x.ev tm = x.ev tm'

theorem sameX_of {y : Operand} (h : ∀ t, y = .tmp t → t < C.n → getT tm (pathOf t) = getT tm' (pathOf t)) : SameX C tm tm' y := by
  intro x hx
  cases y with
  | tmp t =>
    simp only [compX, chk_some, Option.some.injEq] at hx
    obtain ⟨h1, rfl⟩ := hx
    exact h t rfl (by simpa using h1)
  | const v => simp only [compX, ob_some, Option.some.injEq] at hx; obtain ⟨d, _, rfl⟩ := hx; rfl
  | global g => simp only [compX, chk_some, Option.some.injEq] at hx; obtain ⟨_, rfl⟩ := hx; rfl
  | func f => simp only [compX, Option.some.injEq] at hx; subst hx; rfl

theorem same_evs : ∀ {ys : List Operand} {xs : List X}, compXs C ys = some xs → (∀ y ∈ ys, SameX C tm tm' y) → evs tm xs = evs tm' xs
  | [], xs, h, _ => by simp only [compXs, Option.some.injEq] at h; subst h; rfl
  | y :: ys, xs, h, H => by
    simp only [compXs, ob_some, Option.some.injEq] at h
    obtain ⟨x, hx, r, hr, rfl⟩ := h
    simp only [evs, H y (List.mem_cons_self ..) x hx, same_evs hr fun z hz => H z (List.mem_cons_of_mem _ hz)]

theorem same_x1 {ys : List Operand} {x : X} (h : compXs C ys = some [x]) (H : ∀ y ∈ ys, SameX C tm tm' y) : x.ev tm = x.ev tm' := by
  have := same_evs h H
  simp only [evs, List.cons.injEq, and_true] at this
  exact this

theorem same_x2 {ys : List Operand} {x u : X} (h : compXs C ys = some [x, u]) (H : ∀ y ∈ ys, SameX C tm tm' y) : x.ev tm = x.ev tm' ∧ u.ev tm = u.ev tm' := by
  have := same_evs h H
  simp only [evs, List.cons.injEq, and_true] at this
  exact this

theorem same_evo {y : Option Operand} {x : Option X} (h : compXo C y = some x) (H : ∀ z, y = some z → SameX C tm tm' z) : evo tm x = evo tm' x := by
  cases y with
  | none => simp only [compXo, Option.some.injEq] at h; subst h; rfl
  | some y =>
    simp only [compXo, ob_some, Option.some.injEq] at h
    obtain ⟨d, hd, rfl⟩ := h
    simp only [evo, H y rfl d hd]

theorem same_fill {place : Nat → Option (Nat × Nat)} : ∀ {ps : List (Nat × Operand)} {l : List (Nat × Nat × X)}, compParts C place ps = some l → (∀ p ∈ ps, SameX C tm tm' p.2) → ∀ cells, fillIn tm l cells = fillIn tm' l cells
  | [], l, h, _, cells => by simp only [compParts, Option.some.injEq] at h; subst h; rfl
  | (i, y) :: ps, l, h, H, cells => by
    simp only [compParts, ob_some, Option.some.injEq] at h
    obtain ⟨p, hp, d, hd, ds, hds, rfl⟩ := h
    have e := H (i, y) (List.mem_cons_self ..) d hd
    simp only [fillIn, e]
    congr 1
    cases putFrom cells p.1 (d.ev tm').cells with
    | none => rfl
    | some c => exact same_fill hds (fun q hq => H q (List.mem_cons_of_mem _ hq)) c

theorem same_fillParts {size : Nat} : ∀ {ps : List (Nat × Operand)} {l : List (Nat × X)}, compPairs C ps = some l → (∀ p ∈ ps, SameX C tm tm' p.2) → ∀ cells, fillParts tm size l cells = fillParts tm' size l cells
  | [], l, h, _, cells => by simp only [compPairs, Option.some.injEq] at h; subst h; rfl
  | (i, y) :: ps, l, h, H, cells => by
    simp only [compPairs, ob_some, Option.some.injEq] at h
    obtain ⟨d, hd, ds, hds, rfl⟩ := h
    have e := H (i, y) (List.mem_cons_self ..) d hd
    simp only [fillParts, e]
    congr 1
    cases putFrom cells (i * size) (d.ev tm').cells with
    | none => rfl
    | some c => exact same_fillParts hds (fun q hq => H q (List.mem_cons_of_mem _ hq)) c

theorem same_convert {s t : TypeId} {x : X} {d : D} (e : x.ev tm = x.ev tm') (h : compConvert C s t x = some d) : SameD E tm tm' d := by
  unfold compConvert at h
  split at h
  · cases h; simp only [SameD, PD.eval, e]
  · cases h; simp only [SameD, PD.eval, e]
  · cases h; simp only [SameD, PD.eval, e]
  · split at h
    · cases h; intro h; simp only [ED.run, e]
    · cases h
  · split at h
    · simp only [chk_some, Option.some.injEq] at h
      obtain ⟨_, rfl⟩ := h
      intro h; simp only [ED.run, e]
    · cases h
  · split at h
    · cases h; simp only [SameD, RD.req, e]
    · cases h
  · split at h
    · cases h; simp only [SameD, RD.req, e]
    · cases h
  · split at h
    · cases h; simp only [SameD, RD.req, e]
    · cases h
  · cases h

theorem same_builtin {b : Builtin} {ys : List Operand} {tl : List TypeId} {xs : List X} {d : D} (hx : compXs C ys = some xs) (H : ∀ y ∈ ys, SameX C tm tm' y) (h : compBuiltin C b tl xs = some d) : SameD E tm tm' d := by
  unfold compBuiltin at h
  split at h
  · have e := same_x1 hx H
    split at h
    · cases h; simp only [SameD, PD.eval, e]
    · cases h; simp only [SameD, PD.eval, e]
    · cases h; simp only [SameD, PD.eval]
    · cases h; simp only [SameD, RD.req, e]
    · cases h
  · have e := same_x1 hx H
    split at h
    · cases h; simp only [SameD, PD.eval, e]
    · cases h
  · obtain ⟨e1, e2⟩ := same_x2 hx H; cases h; simp only [SameD, PD.eval, e1, e2]
  · obtain ⟨e1, e2⟩ := same_x2 hx H; cases h; simp only [SameD, PD.eval, e1, e2]
  · have e := same_x1 hx H; cases h; simp only [SameD, PD.eval, e]
  · obtain ⟨e1, e2⟩ := same_x2 hx H
    split at h
    · split at h
      · cases h; intro h; simp only [ED.run, e1, e2]
      · cases h
    · cases h
  · obtain ⟨e1, e2⟩ := same_x2 hx H
    split at h
    · simp only [ob_some, chk_some] at h
      obtain ⟨_, _, _, _, _, _, _, h⟩ := h
      split at h
      · cases h; intro h; simp only [ED.run, e1, e2]
      · cases h; intro h; simp only [ED.run, e1, e2]
      · cases h; intro h; simp only [ED.run, e1, e2]
      · cases h
    · cases h
  · obtain ⟨e1, e2⟩ := same_x2 hx H
    split at h
    · simp only [ob_some, Option.some.injEq] at h
      obtain ⟨size, hs, rfl⟩ := h
      intro h; simp only [ED.run, e1, e2]
    · cases h
  · have e := same_x1 hx H
    split at h
    · cases h; intro h; simp only [ED.run, e]
    · cases h
  · obtain ⟨e1, e2⟩ := same_x2 hx H
    split at h
    · cases h; intro h; simp only [ED.run, e1, e2]
    · cases h
  · cases h

theorem same_call {c : Call} {q : CD} (h : compCall C c = some q) (H : ∀ y ∈ c.operands, SameX C tm tm' y) : q.args E tm = q.args E tm' := by
  simp only [compCall, ob_some] at h
  obtain ⟨as, has, h⟩ := h
  have e := same_evs has fun y hy => H y (by simp only [Call.operands, Array.mem_append]; right; simpa using hy)
  cases hc : c.callee with
  | value fx =>
    have hm : fx ∈ c.operands := by simp [Call.operands, hc]
    have key : ∀ {x : X}, compX C fx = some x → q = .value x as → q.args E tm = q.args E tm' := fun {x} hx hqe => by
      subst hqe
      simp only [CD.args, H _ hm x hx, e]
    cases fx with
    | func g => simp only [hc, Option.some.injEq] at h; subst h; simp only [CD.args, e]
    | tmp t => simp only [hc, ob_some, Option.some.injEq] at h; obtain ⟨x, hx, h⟩ := h; exact key hx h.symm
    | const v => simp only [hc, ob_some, Option.some.injEq] at h; obtain ⟨x, hx, h⟩ := h; exact key hx h.symm
    | global g => simp only [hc, ob_some, Option.some.injEq] at h; obtain ⟨x, hx, h⟩ := h; exact key hx h.symm
  | invoke r name =>
    have hm : r ∈ c.operands := by simp [Call.operands, hc]
    simp only [hc, ob_some, Option.some.injEq] at h
    obtain ⟨x, hx, rfl⟩ := h
    simp only [CD.args, H _ hm x hx, e]
  | builtin b => simp only [hc] at h; cases h

theorem same_op {o : Op} {d : D} (h : compOp? C o = some d) (H : ∀ y ∈ o.operands, SameX C tm tm' y) : SameD E tm tm' d := by
  cases o with
  | move y => simp only [compOp?, ob_some, Option.some.injEq] at h; obtain ⟨x, hx, rfl⟩ := h; exact H y (by simp [Op.operands]) x hx
  | assign y => simp only [compOp?, ob_some, Option.some.injEq] at h; obtain ⟨x, hx, rfl⟩ := h; exact H y (by simp [Op.operands]) x hx
  | pick c a b =>
    simp only [compOp?, ob_some, Option.some.injEq] at h; obtain ⟨x, hx, y, hy, z, hz, rfl⟩ := h
    simp only [SameD, PD.eval, H c (by simp [Op.operands]) x hx, H a (by simp [Op.operands]) y hy, H b (by simp [Op.operands]) z hz]
  | build t ps =>
    have H' : ∀ p ∈ ps.toList, SameX C tm tm' p.2 := fun p hp => H p.2 (by simp only [Op.operands, List.mem_toArray, List.mem_map]; exact ⟨p, hp, rfl⟩)
    simp only [compOp?, ob_some] at h
    obtain ⟨z, hz, h⟩ := h
    split at h
    · simp only [ob_some, Option.some.injEq] at h
      obtain ⟨pl, hp, l, hl, rfl⟩ := h
      simp only [SameD, PD.eval, same_fill hl H']
    · simp only [ob_some, Option.some.injEq] at h
      obtain ⟨n, hn, l, hl, rfl⟩ := h
      simp only [SameD, PD.eval, same_fill hl H']
    · cases h
  | nilCheck y => simp only [compOp?, ob_some, Option.some.injEq] at h; obtain ⟨x, hx, rfl⟩ := h; simp only [SameD, PD.eval, H y (by simp [Op.operands]) x hx]
  | binOp op t y z u => simp only [compOp?, ob_some, Option.some.injEq] at h; obtain ⟨x, hx, x2, hx2, rfl⟩ := h; simp only [SameD, PD.eval, H y (by simp [Op.operands]) x hx, H z (by simp [Op.operands]) x2 hx2]
  | unOp op t y => simp only [compOp?, ob_some, Option.some.injEq] at h; obtain ⟨x, hx, rfl⟩ := h; simp only [SameD, PD.eval, H y (by simp [Op.operands]) x hx]
  | convert s t y => simp only [compOp?, ob_some] at h; obtain ⟨x, hx, h⟩ := h; exact same_convert (H y (by simp [Op.operands]) x hx) h
  | makeInterface t y =>
    simp only [compOp?] at h
    split at h
    · cases h
    · simp only [ob_some, Option.some.injEq] at h
      obtain ⟨x, hx, rfl⟩ := h
      simp only [SameD, PD.eval, H y (by simp [Op.operands]) x hx]
    · cases h
  | makeFunc f a b =>
    cases f with
    | func f =>
      simp only [compOp?, ob_some, Option.some.injEq] at h; obtain ⟨x, hx, x2, hx2, rfl⟩ := h
      have e1 := same_evs hx fun y hy => H y (by simp only [Op.operands, Array.mem_append]; left; simpa using hy)
      have e2 := same_evs hx2 fun y hy => H y (by simp only [Op.operands, Array.mem_append]; right; simpa using hy)
      simp only [SameD, PD.eval, e1, e2]
    | _ => simp [compOp?] at h
  | slice t y lo hi mx =>
    simp only [compOp?, ob_some] at h
    obtain ⟨x, hx, l, hl, hh, hhi, m, hm, h⟩ := h
    have e := H y (by simp [Op.operands]) x hx
    have e1 := same_evo hl fun z hz => H z (by subst hz; simp [Op.operands])
    have e2 := same_evo hhi fun z hz => H z (by subst hz; simp [Op.operands])
    have e3 := same_evo hm fun z hz => H z (by subst hz; simp [Op.operands])
    split at h
    · split at h
      · cases h; simp only [SameD, PD.eval, e, e1, e2]
      · cases h
    · simp only [ob_some, chk_some, Option.some.injEq] at h
      obtain ⟨n, hn, hd, rfl⟩ := h
      simp only [SameD, PD.eval, e, e1, e2, e3]
    · simp only [ob_some, chk_some, Option.some.injEq] at h
      obtain ⟨size, hn, hd, rfl⟩ := h
      simp only [SameD, PD.eval, e, e1, e2, e3]
    · cases h
  | fieldAddr t y f =>
    simp only [compOp?] at h
    split at h
    · simp only [ob_some, chk_some, Option.some.injEq] at h
      obtain ⟨fd, hf, n, hn, h0, x, hx, rfl⟩ := h
      simp only [SameD, PD.eval, H y (by simp [Op.operands]) x hx]
    · cases h
  | field t y f =>
    simp only [compOp?] at h
    split at h
    · simp only [ob_some, Option.some.injEq] at h
      obtain ⟨fd, hf, rd, hrd, x, hx, rfl⟩ := h
      simp only [SameD, PD.eval, H y (by simp [Op.operands]) x hx]
    · cases h
  | indexAddr t y i =>
    simp only [compOp?, ob_some] at h
    obtain ⟨x, hx, j, hj, h⟩ := h
    have e1 := H y (by simp [Op.operands]) x hx
    have e2 := H i (by simp [Op.operands]) j hj
    split at h
    · simp only [ob_some, Option.some.injEq] at h
      obtain ⟨n, hn, rfl⟩ := h
      simp only [SameD, PD.eval, e1, e2]
    · simp only [ob_some, Option.some.injEq] at h
      obtain ⟨size, hn, rfl⟩ := h
      simp only [SameD, PD.eval, e1, e2]
    · cases h
  | index t y i =>
    simp only [compOp?, ob_some] at h
    obtain ⟨x, hx, j, hj, h⟩ := h
    have e1 := H y (by simp [Op.operands]) x hx
    have e2 := H i (by simp [Op.operands]) j hj
    split at h
    · cases h; simp only [SameD, PD.eval, e1, e2]
    · simp only [ob_some, Option.some.injEq] at h
      obtain ⟨size, hn, rd, hrd, rfl⟩ := h
      simp only [SameD, PD.eval, e1, e2]
    · cases h
  | typeAssert y xt t ok =>
    simp only [compOp?, ob_some] at h
    obtain ⟨x, hx, z, hz, h⟩ := h
    have e := H y (by simp [Op.operands]) x hx
    split at h
    · cases h; simp only [SameD, PD.eval, e]
    · cases h; simp only [SameD, PD.eval, e]
    · cases h
  | entry y => simp only [compOp?, ob_some, Option.some.injEq] at h; obtain ⟨x, hx, rfl⟩ := h; simp only [SameD, RD.req, H y (by simp [Op.operands]) x hx]
  | extract y i => simp only [compOp?, ob_some, Option.some.injEq] at h; obtain ⟨x, hx, rfl⟩ := h; simp only [SameD, PD.eval, H y (by simp [Op.operands]) x hx]
  | load t y => simp only [compOp?, ob_some, Option.some.injEq] at h; obtain ⟨rd, hrd, x, hx, rfl⟩ := h; simp only [SameD, RD.req, H y (by simp [Op.operands]) x hx]
  | lookup t m k ok =>
    simp only [compOp?, ob_some] at h
    obtain ⟨x, hx, j, hj, h⟩ := h
    split at h
    · simp only [ob_some, Option.some.injEq] at h
      obtain ⟨z, hz, rfl⟩ := h
      simp only [SameD, RD.req, H m (by simp [Op.operands]) x hx, H k (by simp [Op.operands]) j hj]
    · cases h
  | alloc t => simp only [compOp?, ob_some, Option.some.injEq] at h; obtain ⟨z, hz, rfl⟩ := h; intro h; rfl
  | box t y => simp only [compOp?, ob_some, Option.some.injEq] at h; obtain ⟨x, hx, rfl⟩ := h; intro h; simp only [ED.run, H y (by simp [Op.operands]) x hx]
  | buildSlice t n ps =>
    have H' : ∀ p ∈ ps.toList, SameX C tm tm' p.2 := fun p hp => H p.2 (by simp only [Op.operands, List.mem_toArray, List.mem_map]; exact ⟨p, hp, rfl⟩)
    simp only [compOp?] at h
    split at h
    · simp only [ob_some, chk_some, Option.some.injEq] at h
      obtain ⟨size, hs, z, hz, _, l, hl, rfl⟩ := h
      intro h
      cases hc : constParts size l (repeatCells z.cells n) with
      | some cs => rfl
      | none => simp only [ED.run, same_fillParts hl H']
    · cases h
  | store t a y => simp only [compOp?, ob_some, Option.some.injEq] at h; obtain ⟨n, hn, x, hx, x2, hx2, rfl⟩ := h; intro h; simp only [ED.run, H a (by simp [Op.operands]) x hx, H y (by simp [Op.operands]) x2 hx2]
  | makeMap t r =>
    cases r with
    | none => simp only [compOp?, Option.some.injEq] at h; subst h; intro h; rfl
    | some r => simp [compOp?] at h
  | makeSlice t n c =>
    simp only [compOp?] at h
    split at h
    · simp only [ob_some, Option.some.injEq] at h
      obtain ⟨size, hs, bytes, hb, z, hz, x, hx, x2, hx2, rfl⟩ := h
      intro h; simp only [ED.run, H n (by simp [Op.operands]) x hx, H c (by simp [Op.operands]) x2 hx2]
    · cases h
  | mapUpdate t m k x =>
    simp only [compOp?] at h
    split at h
    · simp only [ob_some, Option.some.injEq] at h
      obtain ⟨m', hm, k', hk, x', hx, rfl⟩ := h
      intro h; simp only [ED.run, H m (by simp [Op.operands]) m' hm, H k (by simp [Op.operands]) k' hk, H x (by simp [Op.operands]) x' hx]
    · cases h
  | insert t m k x =>
    simp only [compOp?] at h
    split at h
    · simp only [ob_some, Option.some.injEq] at h
      obtain ⟨m', hm, k', hk, x', hx, rfl⟩ := h
      intro h; simp only [ED.run, H m (by simp [Op.operands]) m' hm, H k (by simp [Op.operands]) k' hk, H x (by simp [Op.operands]) x' hx]
    · cases h
  | mapEntry t m k =>
    simp only [compOp?] at h
    split at h
    · simp only [ob_some, Option.some.injEq] at h
      obtain ⟨z, hz, m', hm, k', hk, rfl⟩ := h
      intro h; simp only [ED.run, H m (by simp [Op.operands]) m' hm, H k (by simp [Op.operands]) k' hk]
    · cases h
  | entryStore t m s x =>
    simp only [compOp?, ob_some, Option.some.injEq] at h; obtain ⟨m', hm, s', hs, x', hx, rfl⟩ := h
    intro h; simp only [ED.run, H m (by simp [Op.operands]) m' hm, H s (by simp [Op.operands]) s' hs, H x (by simp [Op.operands]) x' hx]
  | range t y =>
    simp only [compOp?, ob_some] at h
    obtain ⟨x, hx, h⟩ := h
    have e := H y (by simp [Op.operands]) x hx
    split at h
    · cases h; intro h; simp only [ED.run, e]
    · cases h; intro h; simp only [ED.run, e]
    · cases h
  | next y s =>
    cases s with
    | false => simp only [compOp?, ob_some, Option.some.injEq] at h; obtain ⟨x, hx, rfl⟩ := h; intro h; simp only [ED.run, H y (by simp [Op.operands]) x hx]
    | true => simp [compOp?] at h
  | call c =>
    simp only [compOp?] at h
    split at h
    · rename_i b hc
      simp only [ob_some] at h
      obtain ⟨xs, hxs, h⟩ := h
      exact same_builtin hxs (fun y hy => H y (by simp only [Op.operands, Call.operands, Array.mem_append]; right; simpa using hy)) h
    · simp only [ob_some, Option.some.injEq] at h
      obtain ⟨q, hq, rfl⟩ := h
      exact same_call hq H
  | defer c =>
    simp only [compOp?] at h
    split at h
    · simp only [ob_some, Option.some.injEq] at h
      obtain ⟨q, hq, rfl⟩ := h
      exact same_call hq H
    · cases h
  | _ => simp [compOp?] at h

end
end Go.Dx
namespace Go.Dx
open Go Go.RowKit

mutual
theorem vEq_eq : ∀ {a b : V}, vEq a b = true → a = b
  | .bool a, .bool b, h => by cases a <;> cases b <;> simp [vEq] at h ⊢
  | .int j a, .int k b, h => by
    simp only [vEq, Bool.and_eq_true] at h
    have h1 := kindEq_iff.1 h.1
    have h2 : a = b := by have := h.2; rw [intEq_eq] at this; simpa using this
    rw [h1, h2]
  | .str a, .str b, h => by simp only [vEq] at h; rw [natsEq_iff.1 h]
  | .nilPtr, .nilPtr, _ => rfl
  | .ptr l a, .ptr m b, h => by
    simp only [vEq, Bool.and_eq_true] at h
    rw [lbEq_iff h.1, Nat.eq_of_beq_eq_true h.2]
  | .nilSlice a, .nilSlice b, h => by simp only [vEq] at h; rw [Nat.eq_of_beq_eq_true h]
  | .slice l a n c, .slice m b k d, h => by
    simp only [vEq, Bool.and_eq_true] at h
    obtain ⟨⟨⟨h1, h2⟩, h3⟩, h4⟩ := h
    have e : c = d := by
      cases c <;> cases d <;> simp only [Bool.false_eq_true] at h4
      · rw [Nat.eq_of_beq_eq_true h4]
      · rw [Nat.eq_of_beq_eq_true h4]
    rw [lbEq_iff h1, Nat.eq_of_beq_eq_true h2, Nat.eq_of_beq_eq_true h3, e]
  | .nilMap, .nilMap, _ => rfl
  | .map a, .map b, h => by simp only [vEq] at h; rw [lbEq_iff h]
  | .func f a b, .func g c d, h => by
    simp only [vEq, Bool.and_eq_true] at h
    rw [Nat.eq_of_beq_eq_true h.1.1, vsEq_eq h.1.2, vsEq_eq h.2]
  | .nilFunc, .nilFunc, _ => rfl
  | .iface t a, .iface u b, h => by
    simp only [vEq, Bool.and_eq_true] at h
    rw [Nat.eq_of_beq_eq_true h.1, vEq_eq h.2]
  | .nilIface, .nilIface, _ => rfl
  | .agg a, .agg b, h => by simp only [vEq] at h; rw [vsEq_eq h]
  | .tuple a, .tuple b, h => by simp only [vEq] at h; rw [vsEq_eq h]
  | .sym a n, .sym b m, h => by
    simp only [vEq, Bool.and_eq_true] at h
    rw [lbEq_iff h.1, Nat.eq_of_beq_eq_true h.2]
  | .empty, .empty, _ => rfl
  | .any, .any, _ => rfl
  | .rng a b, .rng c d, h => by
    simp only [vEq, Bool.and_eq_true] at h
    have h1 : a = c := by have := h.1; rw [intEq_eq] at this; simpa using this
    have h2 : b = d := by have := h.2; rw [intEq_eq] at this; simpa using this
    rw [h1, h2]
  | .bool _, .int .., h | .bool _, .str _, h | .bool _, .nilPtr, h | .bool _, .ptr .., h | .bool _, .nilSlice _, h | .bool _, .slice .., h | .bool _, .nilMap, h | .bool _, .map _, h | .bool _, .func .., h | .bool _, .nilFunc, h | .bool _, .iface .., h | .bool _, .nilIface, h | .bool _, .agg _, h | .bool _, .tuple _, h | .bool _, .sym .., h | .bool _, .any, h | .bool _, .empty, h | .bool _, .rng .., h => by simp [vEq] at h
  | .int .., .bool _, h | .int .., .str _, h | .int .., .nilPtr, h | .int .., .ptr .., h | .int .., .nilSlice _, h | .int .., .slice .., h | .int .., .nilMap, h | .int .., .map _, h | .int .., .func .., h | .int .., .nilFunc, h | .int .., .iface .., h | .int .., .nilIface, h | .int .., .agg _, h | .int .., .tuple _, h | .int .., .sym .., h | .int .., .any, h | .int .., .empty, h | .int .., .rng .., h => by simp [vEq] at h
  | .str _, .bool _, h | .str _, .int .., h | .str _, .nilPtr, h | .str _, .ptr .., h | .str _, .nilSlice _, h | .str _, .slice .., h | .str _, .nilMap, h | .str _, .map _, h | .str _, .func .., h | .str _, .nilFunc, h | .str _, .iface .., h | .str _, .nilIface, h | .str _, .agg _, h | .str _, .tuple _, h | .str _, .sym .., h | .str _, .any, h | .str _, .empty, h | .str _, .rng .., h => by simp [vEq] at h
  | .nilPtr, .bool _, h | .nilPtr, .int .., h | .nilPtr, .str _, h | .nilPtr, .ptr .., h | .nilPtr, .nilSlice _, h | .nilPtr, .slice .., h | .nilPtr, .nilMap, h | .nilPtr, .map _, h | .nilPtr, .func .., h | .nilPtr, .nilFunc, h | .nilPtr, .iface .., h | .nilPtr, .nilIface, h | .nilPtr, .agg _, h | .nilPtr, .tuple _, h | .nilPtr, .sym .., h | .nilPtr, .any, h | .nilPtr, .empty, h | .nilPtr, .rng .., h => by simp [vEq] at h
  | .ptr .., .bool _, h | .ptr .., .int .., h | .ptr .., .str _, h | .ptr .., .nilPtr, h | .ptr .., .nilSlice _, h | .ptr .., .slice .., h | .ptr .., .nilMap, h | .ptr .., .map _, h | .ptr .., .func .., h | .ptr .., .nilFunc, h | .ptr .., .iface .., h | .ptr .., .nilIface, h | .ptr .., .agg _, h | .ptr .., .tuple _, h | .ptr .., .sym .., h | .ptr .., .any, h | .ptr .., .empty, h | .ptr .., .rng .., h => by simp [vEq] at h
  | .nilSlice _, .bool _, h | .nilSlice _, .int .., h | .nilSlice _, .str _, h | .nilSlice _, .nilPtr, h | .nilSlice _, .ptr .., h | .nilSlice _, .slice .., h | .nilSlice _, .nilMap, h | .nilSlice _, .map _, h | .nilSlice _, .func .., h | .nilSlice _, .nilFunc, h | .nilSlice _, .iface .., h | .nilSlice _, .nilIface, h | .nilSlice _, .agg _, h | .nilSlice _, .tuple _, h | .nilSlice _, .sym .., h | .nilSlice _, .any, h | .nilSlice _, .empty, h | .nilSlice _, .rng .., h => by simp [vEq] at h
  | .slice .., .bool _, h | .slice .., .int .., h | .slice .., .str _, h | .slice .., .nilPtr, h | .slice .., .ptr .., h | .slice .., .nilSlice _, h | .slice .., .nilMap, h | .slice .., .map _, h | .slice .., .func .., h | .slice .., .nilFunc, h | .slice .., .iface .., h | .slice .., .nilIface, h | .slice .., .agg _, h | .slice .., .tuple _, h | .slice .., .sym .., h | .slice .., .any, h | .slice .., .empty, h | .slice .., .rng .., h => by simp [vEq] at h
  | .nilMap, .bool _, h | .nilMap, .int .., h | .nilMap, .str _, h | .nilMap, .nilPtr, h | .nilMap, .ptr .., h | .nilMap, .nilSlice _, h | .nilMap, .slice .., h | .nilMap, .map _, h | .nilMap, .func .., h | .nilMap, .nilFunc, h | .nilMap, .iface .., h | .nilMap, .nilIface, h | .nilMap, .agg _, h | .nilMap, .tuple _, h | .nilMap, .sym .., h | .nilMap, .any, h | .nilMap, .empty, h | .nilMap, .rng .., h => by simp [vEq] at h
  | .map _, .bool _, h | .map _, .int .., h | .map _, .str _, h | .map _, .nilPtr, h | .map _, .ptr .., h | .map _, .nilSlice _, h | .map _, .slice .., h | .map _, .nilMap, h | .map _, .func .., h | .map _, .nilFunc, h | .map _, .iface .., h | .map _, .nilIface, h | .map _, .agg _, h | .map _, .tuple _, h | .map _, .sym .., h | .map _, .any, h | .map _, .empty, h | .map _, .rng .., h => by simp [vEq] at h
  | .func .., .bool _, h | .func .., .int .., h | .func .., .str _, h | .func .., .nilPtr, h | .func .., .ptr .., h | .func .., .nilSlice _, h | .func .., .slice .., h | .func .., .nilMap, h | .func .., .map _, h | .func .., .nilFunc, h | .func .., .iface .., h | .func .., .nilIface, h | .func .., .agg _, h | .func .., .tuple _, h | .func .., .sym .., h | .func .., .any, h | .func .., .empty, h | .func .., .rng .., h => by simp [vEq] at h
  | .nilFunc, .bool _, h | .nilFunc, .int .., h | .nilFunc, .str _, h | .nilFunc, .nilPtr, h | .nilFunc, .ptr .., h | .nilFunc, .nilSlice _, h | .nilFunc, .slice .., h | .nilFunc, .nilMap, h | .nilFunc, .map _, h | .nilFunc, .func .., h | .nilFunc, .iface .., h | .nilFunc, .nilIface, h | .nilFunc, .agg _, h | .nilFunc, .tuple _, h | .nilFunc, .sym .., h | .nilFunc, .any, h | .nilFunc, .empty, h | .nilFunc, .rng .., h => by simp [vEq] at h
  | .iface .., .bool _, h | .iface .., .int .., h | .iface .., .str _, h | .iface .., .nilPtr, h | .iface .., .ptr .., h | .iface .., .nilSlice _, h | .iface .., .slice .., h | .iface .., .nilMap, h | .iface .., .map _, h | .iface .., .func .., h | .iface .., .nilFunc, h | .iface .., .nilIface, h | .iface .., .agg _, h | .iface .., .tuple _, h | .iface .., .sym .., h | .iface .., .any, h | .iface .., .empty, h | .iface .., .rng .., h => by simp [vEq] at h
  | .nilIface, .bool _, h | .nilIface, .int .., h | .nilIface, .str _, h | .nilIface, .nilPtr, h | .nilIface, .ptr .., h | .nilIface, .nilSlice _, h | .nilIface, .slice .., h | .nilIface, .nilMap, h | .nilIface, .map _, h | .nilIface, .func .., h | .nilIface, .nilFunc, h | .nilIface, .iface .., h | .nilIface, .agg _, h | .nilIface, .tuple _, h | .nilIface, .sym .., h | .nilIface, .any, h | .nilIface, .empty, h | .nilIface, .rng .., h => by simp [vEq] at h
  | .agg _, .bool _, h | .agg _, .int .., h | .agg _, .str _, h | .agg _, .nilPtr, h | .agg _, .ptr .., h | .agg _, .nilSlice _, h | .agg _, .slice .., h | .agg _, .nilMap, h | .agg _, .map _, h | .agg _, .func .., h | .agg _, .nilFunc, h | .agg _, .iface .., h | .agg _, .nilIface, h | .agg _, .tuple _, h | .agg _, .sym .., h | .agg _, .any, h | .agg _, .empty, h | .agg _, .rng .., h => by simp [vEq] at h
  | .tuple _, .bool _, h | .tuple _, .int .., h | .tuple _, .str _, h | .tuple _, .nilPtr, h | .tuple _, .ptr .., h | .tuple _, .nilSlice _, h | .tuple _, .slice .., h | .tuple _, .nilMap, h | .tuple _, .map _, h | .tuple _, .func .., h | .tuple _, .nilFunc, h | .tuple _, .iface .., h | .tuple _, .nilIface, h | .tuple _, .agg _, h | .tuple _, .sym .., h | .tuple _, .any, h | .tuple _, .empty, h | .tuple _, .rng .., h => by simp [vEq] at h
  | .sym .., .bool _, h | .sym .., .int .., h | .sym .., .str _, h | .sym .., .nilPtr, h | .sym .., .ptr .., h | .sym .., .nilSlice _, h | .sym .., .slice .., h | .sym .., .nilMap, h | .sym .., .map _, h | .sym .., .func .., h | .sym .., .nilFunc, h | .sym .., .iface .., h | .sym .., .nilIface, h | .sym .., .agg _, h | .sym .., .tuple _, h | .sym .., .any, h | .sym .., .empty, h | .sym .., .rng .., h => by simp [vEq] at h
  | .any, .bool _, h | .any, .int .., h | .any, .str _, h | .any, .nilPtr, h | .any, .ptr .., h | .any, .nilSlice _, h | .any, .slice .., h | .any, .nilMap, h | .any, .map _, h | .any, .func .., h | .any, .nilFunc, h | .any, .iface .., h | .any, .nilIface, h | .any, .agg _, h | .any, .tuple _, h | .any, .sym .., h | .any, .empty, h | .any, .rng .., h => by simp [vEq] at h
  | .empty, .bool _, h | .empty, .int .., h | .empty, .str _, h | .empty, .nilPtr, h | .empty, .ptr .., h | .empty, .nilSlice _, h | .empty, .slice .., h | .empty, .nilMap, h | .empty, .map _, h | .empty, .func .., h | .empty, .nilFunc, h | .empty, .iface .., h | .empty, .nilIface, h | .empty, .agg _, h | .empty, .tuple _, h | .empty, .sym .., h | .empty, .any, h | .empty, .rng .., h => by simp [vEq] at h
  | .rng .., .bool _, h | .rng .., .int .., h | .rng .., .str _, h | .rng .., .nilPtr, h | .rng .., .ptr .., h | .rng .., .nilSlice _, h | .rng .., .slice .., h | .rng .., .nilMap, h | .rng .., .map _, h | .rng .., .func .., h | .rng .., .nilFunc, h | .rng .., .iface .., h | .rng .., .nilIface, h | .rng .., .agg _, h | .rng .., .tuple _, h | .rng .., .sym .., h | .rng .., .any, h | .rng .., .empty, h => by simp [vEq] at h
theorem vsEq_eq : ∀ {a b : List V}, vsEq a b = true → a = b
  | [], [], _ => rfl
  | a :: x, b :: y, h => by
    simp only [vsEq, Bool.and_eq_true] at h
    rw [vEq_eq h.1, vsEq_eq h.2]
  | [], _ :: _, h => by simp [vsEq] at h
  | _ :: _, [], h => by simp [vsEq] at h
end

/-- How many effects there are among the first so many. -/
def effCount : List (DO × Nat × Nat) → Nat → Nat
  | _, 0 => 0
  | [], _ + 1 => 0
  | d :: r, j + 1 => (if isEff d.1 then 1 else 0) + effCount r j

theorem put_tmps (a : A) (d : Option Lb) (v : V) : (a.put d v).tmps = putT a.tmps d v ∧ (a.put d v).defers = a.defers := by cases d <;> exact ⟨rfl, rfl⟩

/-- What is known of an operation. 'hp': the heap behind so many effects; 'c': how many effects come ahead of it in the text; 'e': how many there are. -/
def OpFact (E : Env) (call : Orc) (d : DO) (lo hi : Nat) (tm : T V) (v : V) (hp : Nat → H) (c e : Nat) : Prop :=
  (wants tm d.guard = false ∧ v = undef ∧ (isEff d = true → hp (c + 1) = hp c)) ∨ (wants tm d.guard = true ∧ match d.op with
    | .mov x => v = x.ev tm
    | .p q => q.eval E tm = some v
    | .r q => ∃ Q : Q, q.req tm = some Q ∧ ∀ k, lo ≤ k → k ≤ hi → k ≤ e → Q.ask (hp k) = some v
    | .e q => q.run tm (hp c) = some (v, hp (c + 1))
    | .c q => ∃ f, q.args E tm = some f ∧ call f.1 f.2 (hp c) = some (v, hp (c + 1))
    | _ => False)

theorem stood_all {q : Q} {v : V} : ∀ {k : Nat} {hs : List H}, stoodBefore q v k hs = true → ∀ j, j < k → ∃ g, hs[j]? = some g ∧ q.ask g = some v
  | 0, _, _, j, hj => by omega
  | k + 1, [], h, j, hj => by simp [stoodBefore] at h
  | k + 1, g :: hs, h, j, hj => by
    simp only [stoodBefore, Bool.and_eq_true] at h
    cases j with
    | zero =>
      refine ⟨g, rfl, ?_⟩
      have := h.1
      split at this
      · rename_i u hu; rw [hu, vEq_eq this]
      · cases this
    | succ j => simpa using stood_all h.2 j (by omega)

theorem still_all {h : H} {n : Nat} : ∀ {ps : List Pend}, stillStand h n ps = true → ∀ q v hi, (q, v, hi) ∈ ps → n ≤ hi → q.ask h = some v
  | [], _, q, v, hi, hm, _ => by cases hm
  | (q', v', hi') :: ps, hs, q, v, hi, hm, hn => by
    simp only [stillStand, Bool.and_eq_true] at hs
    rcases List.mem_cons.1 hm with e | hm
    · cases e
      have := hs.1
      rw [show Nat.ble n hi' = true from Nat.ble_eq_true_of_le hn] at this
      simp only at this
      split at this
      · rename_i u hu; rw [hu, vEq_eq this]
      · cases this
    · exact still_all hs.2 q v hi hm hn

structure Trace (E : Env) (call : Orc) (r : List (DO × Nat × Nat)) (n : Nat) (a : A) (hs : List H) (h : H) (ps : List Pend) (a' : A) (h' : H) (v : Nat → V) (tm : Nat → T V) (hp : Nat → H) : Prop where
  tm0 : tm 0 = a.tmps
  now : hp n = h
  before : ∀ j, j < n → hs[n - 1 - j]? = some (hp j)
  ops : ∀ j d lo hi, r[j]? = some (d, lo, hi) → OpFact E call d lo hi (tm j) (v j) hp (n + effCount r j) (n + effCount r r.length) ∧ tm (j + 1) = putT (tm j) d.dst (v j)
  pend : ∀ q u hi, (q, u, hi) ∈ ps → ∀ k, n < k → k ≤ hi → k ≤ n + effCount r r.length → q.ask (hp k) = some u
  last : a'.tmps = tm r.length ∧ h' = hp (n + effCount r r.length) ∧ a'.defers = a.defers

def shift {α : Type} (x : α) (f : Nat → α) : Nat → α
  | 0 => x
  | j + 1 => f j

/-- One operation more in front. -/
theorem Trace.cons {E : Env} {call : Orc} {r : List (DO × Nat × Nat)} {d : DO} {lo hi : Nat} {n n' : Nat} {a : A} {hs hs' : List H} {h h1 : H} {ps ps' : List Pend} {a' : A} {h' : H} {u : V} {v : Nat → V} {tm : Nat → T V} {hp : Nat → H}
    (t : Trace E call r n' (a.put d.dst u) hs' h1 ps' a' h' v tm hp) (hn : n' = n + (if isEff d then 1 else 0)) (now : hp n = h) (before : ∀ j, j < n → hs[n - 1 - j]? = some (hp j))
    (op : OpFact E call d lo hi a.tmps u hp n (n + effCount ((d, lo, hi) :: r) (r.length + 1)))
    (pend : ∀ q u b, (q, u, b) ∈ ps → ∀ k, n < k → k ≤ b → k ≤ n + effCount ((d, lo, hi) :: r) (r.length + 1) → q.ask (hp k) = some u) :
    Trace E call ((d, lo, hi) :: r) n a hs h ps a' h' (shift u v) (shift a.tmps tm) hp := by
  have e : ∀ j, n' + effCount r j = n + effCount ((d, lo, hi) :: r) (j + 1) := fun j => by simp only [effCount]; omega
  refine ⟨rfl, now, before, fun j d' lo' hi' hj => ?_, pend, ?_⟩
  · cases j with
    | zero =>
      simp only [List.getElem?_cons_zero, Option.some.injEq, Prod.mk.injEq] at hj
      obtain ⟨rfl, rfl, rfl⟩ := hj
      have op' : OpFact E call d lo hi (shift a.tmps tm 0) (shift u v 0) hp (n + 0) (n + effCount ((d, lo, hi) :: r) (r.length + 1)) := op
      refine ⟨op', ?_⟩
      show tm 0 = putT a.tmps d.dst u
      rw [t.tm0, (put_tmps a d.dst u).1]
    | succ j =>
      have := t.ops j d' lo' hi' (by simpa using hj)
      rw [e, e] at this
      exact this
  · obtain ⟨l1, l2, l3⟩ := t.last
    refine ⟨l1, ?_, l3.trans (put_tmps a d.dst u).2⟩
    rw [l2, e]; rfl

theorem trace_of {E : Env} {call : Orc} : ∀ {r : List (DO × Nat × Nat)} {n : Nat} {a : A} {hs : List H} {h : H} {ps : List Pend} {a' : A} {h' : H}, hs.length = n → (∀ q v b, (q, v, b) ∈ ps → n ≤ b → q.ask h = some v) → runDraw E call r a h n hs ps = some (a', h') → ∃ v tm hp, Trace E call r n a hs h ps a' h' v tm hp
  | [], n, a, hs, h, ps, a', h', hl, hps, hr => by
    simp only [runDraw, Option.some.injEq, Prod.mk.injEq] at hr
    obtain ⟨rfl, rfl⟩ := hr
    refine ⟨fun _ => undef, fun _ => a.tmps, fun j => if j < n then (hs[n - 1 - j]?).getD h else h, rfl, by simp, fun j hj => ?_, fun j d lo hi hj => by simp at hj, fun q u hi hm k h1 h2 h3 => ?_, rfl, by simp [effCount], rfl⟩
    · rw [if_pos hj]
      have : n - 1 - j < hs.length := by omega
      rw [List.getElem?_eq_getElem this]; rfl
    · simp [effCount] at h3; omega
  | (d, lo, hi) :: r, n, a, hs, h, ps, a', h', hl, hps, hr => by
    have pure : ∀ {u : V}, isEff d = false → (∀ hp : Nat → H, hp n = h → (∀ j, j < n → hs[n - 1 - j]? = some (hp j)) → ∀ e, OpFact E call d lo hi a.tmps u hp n e) → runDraw E call r (a.put d.dst u) h n hs ps = some (a', h') → ∃ v tm hp, Trace E call ((d, lo, hi) :: r) n a hs h ps a' h' v tm hp := fun {u} he hf hr' => by
      obtain ⟨v, tm, hp, t⟩ := trace_of hl hps hr'
      have ec : ∀ j, effCount ((d, lo, hi) :: r) (j + 1) = effCount r j := fun j => by simp [effCount, he]
      exact ⟨_, _, hp, t.cons (lo := lo) (hi := hi) (by simp [he]) t.now t.before (hf hp t.now t.before _) (by rw [ec]; exact t.pend)⟩
    have eff : ∀ {u : V} {h1 : H}, isEff d = true → (∀ hp : Nat → H, hp n = h → hp (n + 1) = h1 → ∀ e, OpFact E call d lo hi a.tmps u hp n e) → (∀ q v b, (q, v, b) ∈ ps → n + 1 ≤ b → q.ask h1 = some v) → runDraw E call r (a.put d.dst u) h1 (n + 1) (h :: hs) ps = some (a', h') →
        ∃ v tm hp, Trace E call ((d, lo, hi) :: r) n a hs h ps a' h' v tm hp := fun {u h1} he hf hst hr' => by
      obtain ⟨v, tm, hp, t⟩ := trace_of (n := n + 1) (by simp [hl]) hst hr'
      have b0 : hp n = h := by have := t.before n (by omega); simpa using this.symm
      have bj : ∀ j, j < n → hs[n - 1 - j]? = some (hp j) := fun j hj => by
        have := t.before j (by omega)
        rw [show n + 1 - 1 - j = (n - 1 - j) + 1 from by omega] at this
        simpa using this
      have ec : ∀ j, n + effCount ((d, lo, hi) :: r) (j + 1) = n + 1 + effCount r j := fun j => by simp [effCount, he]; omega
      refine ⟨_, _, hp, t.cons (lo := lo) (hi := hi) (by simp [he]) b0 bj (hf hp b0 t.now _) fun q u' hi' hm k h1' h2 h3 => ?_⟩
      rw [ec] at h3
      rcases Nat.lt_or_ge (n + 1) k with hk | hk
      · exact t.pend q u' hi' hm k hk h2 h3
      · have : k = n + 1 := by omega
        subst this
        rw [t.now]; exact hst q u' hi' hm h2
    simp only [runDraw] at hr
    split at hr
    · rename_i hw
      split at hr
      · rename_i he
        refine eff he (fun hp p0 p1 e => .inl ⟨hw, rfl, fun _ => ?_⟩) (fun q v hi' hm hn => ?_) hr
        · rw [p0, p1]
        · exact hps q v hi' hm (by omega)
      · rename_i he
        exact pure he (fun hp p0 pb e => .inl ⟨hw, rfl, fun h => by rw [he] at h; cases h⟩) hr
    · rename_i hw
      split at hr
      · rename_i x hop
        exact pure (by obtain ⟨dst, op, g⟩ := d; simp only at hop; subst hop; rfl) (fun hp p0 pb e => .inr ⟨hw, by rw [hop]⟩) hr
      · rename_i q hop
        simp only [ob_some] at hr
        obtain ⟨u, hu, hr⟩ := hr
        exact pure (by obtain ⟨dst, op, g⟩ := d; simp only at hop; subst hop; rfl) (fun hp p0 pb e => .inr ⟨hw, by rw [hop]; exact hu⟩) hr
      · rename_i q hop
        simp only [ob_some, chk_some] at hr
        obtain ⟨Q', hq, u, hu, hst, hr⟩ := hr
        have he : isEff d = false := by obtain ⟨dst, op, g⟩ := d; simp only at hop; subst hop; rfl
        obtain ⟨v, tm, hp, t⟩ := trace_of hl (fun q v b hm hb => by
          rcases List.mem_cons.1 hm with e | hm
          · cases e; exact hu
          · exact hps q v b hm hb) hr
        have ec : ∀ j, effCount ((d, lo, hi) :: r) (j + 1) = effCount r j := fun j => by simp [effCount, he]
        refine ⟨_, _, hp, t.cons (lo := lo) (hi := hi) (by simp [he]) t.now t.before (.inr ⟨hw, ?_⟩) ?_⟩
        · rw [hop]
          refine ⟨Q', hq, fun k h1 h2 h3 => ?_⟩
          rw [ec] at h3
          rcases Nat.lt_trichotomy k n with hk | hk | hk
          · obtain ⟨g, g1, g2⟩ := stood_all hst (n - 1 - k) (by omega)
            have := t.before k hk
            rw [g1] at this
            cases this; exact g2
          · subst hk; rw [t.now]; exact hu
          · exact t.pend _ _ _ (List.mem_cons_self ..) k hk h2 h3
        · rw [ec]
          exact fun q u hi' hm => t.pend q u hi' (List.mem_cons_of_mem _ hm)
      · rename_i q hop
        simp only [ob_some, chk_some] at hr
        obtain ⟨⟨u, h1⟩, hu, hst, hr⟩ := hr
        exact eff (by obtain ⟨dst, op, g⟩ := d; simp only at hop; subst hop; rfl) (fun hp p0 p1 e => .inr ⟨hw, by rw [hop]; show q.run a.tmps (hp n) = _; rw [p0, p1]; exact hu⟩) (fun q v hi' hm hn => still_all hst q v hi' hm hn) hr
      · rename_i q hop
        simp only [ob_some, chk_some] at hr
        obtain ⟨f, hf, ⟨u, h1⟩, hu, hst, hr⟩ := hr
        exact eff (by obtain ⟨dst, op, g⟩ := d; simp only at hop; subst hop; rfl) (fun hp p0 p1 e => .inr ⟨hw, by rw [hop]; exact ⟨f, hf, by rw [p0, p1]; exact hu⟩⟩) (fun q v hi' hm hn => still_all hst q v hi' hm hn) hr
      · cases hr
      · cases hr

end Go.Dx
