/-
  The deterministic machine over labels against the model: operations that read memory.
-/
import Derived.Test.YtkbjonoiecljiaaGreatDoorDxPure
namespace Go.Dx
open Go Go.RowKit

section
variable {P : Program} {B : Nat} {w0 : World} {ρ : Rho} {h : H} {w : World}

/-- A row's cells, read. -/
theorem CRel.range {b : Blk} {vs : List V} {e : TypeId} {fz : Nat} {own : Own} (c : CRel ρ b vs e fz own w) : ∀ {n off : Nat} {r : List V}, rowFrom vs off n = some r →
    ∃ xs : List Value, RVs ρ r xs ∧ xs.length = n ∧ w.rangeAt b.block (b.base + off) xs := by
  intro n
  induction n with
  | zero => intro off r hr; simp [rowFrom, takeN] at hr; subst hr; exact ⟨[], .nil, rfl, fun j v hv => by simp at hv⟩
  | succ n ih =>
    intro off r hr
    obtain ⟨h1, h2, h3⟩ := rowFrom_get hr
    have hlt : off < vs.length := by omega
    have hd : dropN off vs = vs[off] :: dropN (off + 1) vs := by
      rw [dropN_drop, dropN_drop]; exact List.drop_eq_getElem_cons hlt
    unfold rowFrom at hr
    rw [hd] at hr
    simp only [takeN, ob_some, Option.some.injEq] at hr
    obtain ⟨q, hq, rfl⟩ := hr
    obtain ⟨xs, r1, r2, r3⟩ := ih (off := off + 1) hq
    obtain ⟨x, hx1, hx2⟩ := c.cell off vs[off] (List.getElem?_eq_getElem hlt)
    refine ⟨x :: xs, .cons hx2 r1, by simp [r2], fun j v hv => ?_⟩
    cases j with
    | zero =>
      simp at hv; subst hv
      unfold cellAd at hx1
      simpa using hx1
    | succ j =>
      simp at hv
      have := r3 j v hv
      rw [show b.base + off + (j + 1) = b.base + (off + 1) + j from by omega]
      exact this

theorem load_ok {t : TypeId} {rd : Rd} (ht : rdT P t = some rd) {b : Blk} {vs : List V} {e : TypeId} {fz : Nat} {own : Own} (c : CRel ρ b vs e fz own w) {off : Nat} {v : V} (hv : rdPart rd vs off = some v) :
    ∃ x, RV ρ v x ∧ (loadVar t ⟨b.block, b.base + off, none⟩).run P w = .ok x w := by
  rcases rdT_ok ht with ⟨rfl, ha⟩ | ⟨n, rfl, hs, ha⟩
  · simp only [rdPart] at hv
    rw [dropN_drop, List.head?_drop] at hv
    obtain ⟨x, h1, h2⟩ := c.cell off v hv
    unfold cellAd at h1
    exact ⟨x, h2, by simp [loadVar, ha, h1]⟩
  · simp only [rdPart, ob_some, Option.some.injEq] at hv
    obtain ⟨r, h1, rfl⟩ := hv
    obtain ⟨xs, r1, r2, r3⟩ := c.range h1
    refine ⟨_, .agg r1, ?_⟩
    have hl : (loadCells ⟨b.block, b.base + off, none⟩ xs.length).run P w = .ok xs.toArray w :=
      run_loadCells_list (P := P) w _ xs (fun j v hv => by rw [addr_add]; exact r3 j v hv)
    rw [r2] at hl
    simp [loadVar, ha, run_sizeT hs, hl]

/-- Which kind of type a key is of. -/
def PKOk (d : TypeDesc) (pk : PK) : Prop := (pk = .str ∧ d = .string) ∨ (pk = .int ∧ ∃ k, d = .int k)

theorem keyT_ok {t : TypeId} {k : V} (h : plainKey (keyT P t) k = true) : ∃ d, P.underlying t = some d ∧ PKOk d (keyT P t) := by
  unfold keyT at h ⊢
  cases hu : P.underlying t with
  | none => simp [hu] at h; cases k <;> simp [plainKey] at h
  | some d =>
    simp only [hu] at h ⊢
    cases d <;> first | (exact ⟨_, rfl, .inl ⟨rfl, rfl⟩⟩) | (exact ⟨_, rfl, .inr ⟨rfl, _, rfl⟩⟩) | (cases k <;> simp [plainKey] at h)

theorem checkKey_ok {t : TypeId} {d : TypeDesc} {pk : PK} (hu : P.underlying t = some d) (hd : PKOk d pk) (empty : Bool) (x : Value) (n : Nat) : (Instr.checkKey empty (n + 1) t x).run P w = .ok () w := by
  unfold Instr.checkKey
  simp only [Sem.run_bind, run_underlying hu, Result.andThen_ok]
  rcases hd with ⟨_, rfl⟩ | ⟨_, k, rfl⟩ <;> rfl

theorem sameNow_ok {d : TypeDesc} {pk : PK} (hd : PKOk d pk) {k u : V} {x y : Value} {b : Bool} (hk : RV ρ k x) (hu : RV ρ u y) (h : cellEq pk k u = some b) : Instr.sameNow d x y = some b := by
  rcases cellEq_ok hk hu h with ⟨e, c, d', rfl, rfl, rfl⟩ | ⟨e, k', c, d', rfl, rfl, rfl⟩ | ⟨e, s, t', rfl, rfl, rfl⟩
  · subst e; rcases hd with ⟨e, _⟩ | ⟨e, _⟩ <;> cases e
  · subst e
    rcases hd with ⟨e, _⟩ | ⟨_, j, rfl⟩
    · cases e
    · simp [Instr.sameNow]
  · subst e
    rcases hd with ⟨_, rfl⟩ | ⟨e, _⟩
    · rfl
    · cases e

theorem findNow_ok {d : TypeDesc} {pk : PK} (hd : PKOk d pk) {k : V} {x : Value} (hk : RV ρ k x) : ∀ {es : List (V × V × Nat)} {ms : List MapEntry}, REs ρ es ms → ∀ {r : Option (Nat × V)}, findK pk k es = some r → ∀ i,
    (r = none → Instr.findNow d x ms i = some none) ∧ (∀ j v, r = some (j, v) → ∃ e, ms[j]? = some e ∧ RV ρ v e.val ∧ Instr.findNow d x ms i = some (some (i + j, e.val))) := by
  intro es ms hes
  induction hes with
  | nil =>
    intro r hr i
    simp [findK] at hr
    subst hr
    exact ⟨fun _ => rfl, fun j v h => by cases h⟩
  | @cons k' v' n m es ms hk' hv' hn hs ih =>
    intro r hr i
    simp only [findK, ob_some] at hr
    obtain ⟨b, hb, hr⟩ := hr
    have hs' := sameNow_ok hd hk hk' hb
    cases b with
    | true =>
      simp only [Option.some.injEq] at hr
      subst hr
      refine ⟨fun h => (by cases h), fun j v h => ?_⟩
      cases h
      exact ⟨m, rfl, hv', by simp [Instr.findNow, hs']⟩
    | false =>
      simp only [ob_some, Option.some.injEq] at hr
      obtain ⟨q, hq, hr⟩ := hr
      obtain ⟨h1, h2⟩ := ih hq (i + 1)
      cases q with
      | none =>
        subst hr
        exact ⟨fun _ => (by simp [Instr.findNow, hs', h1 rfl]), fun j v h => (by cases h)⟩
      | some p =>
        obtain ⟨j, v⟩ := p
        simp only at hr
        subst hr
        refine ⟨fun h => (by simp at h), fun j' v' h => ?_⟩
        simp at h
        obtain ⟨rfl, rfl⟩ := h
        obtain ⟨e, e1, e2, e3⟩ := h2 j v rfl
        exact ⟨e, (by simpa using e1), e2, (by simp [Instr.findNow, hs', e3]; omega)⟩

theorem findKey_run {t : TypeId} {d : TypeDesc} (hu : P.underlying t = some d) {x : Value} {ms : List MapEntry} {r : Option (Nat × Value)} (h : Instr.findNow d x ms 0 = some r) : (Instr.findKey t x ms).run P w = .ok r w := by
  unfold Instr.findKey
  simp [run_underlying hu, h]

theorem HRel.mapAt (R : HRel B w0 ρ h w) {l : Lb} {b : Blk} {es : List (V × V × Nat)} {clock : Nat} (hl : ρ l = some b) (hg : h.get l = some (.map es clock)) :
    ∃ ms : Array MapEntry, (getObj b.block).run P w = .ok (.map ms clock) w ∧ REs ρ es ms.toList := by
  obtain ⟨ms, h1, h2⟩ := R.obj l b _ hl hg
  exact ⟨ms, by simp [getObj, Sem.run, h1], h2⟩

/-- What the machine's reads say of the model's. -/
def RdOk (C : CE) (o : Op) (d : RD) : Prop := ∀ {ρ : Rho} {tm : T V} {a : Act}, TRel ρ C.n tm a.tmps → GRel ρ C.G → ∀ q, d.req tm = some q →
  ∀ {B : Nat} {w0 : World} {h : H} {w : World} (v : V), HRel B w0 ρ h w → q.ask h = some v → ∃ x, RV ρ v x ∧ ∀ (p : Oper), p.op = o → (execOp a.eval p).run C.P w = .ok (.value x) w

theorem value_run {s : Sem Value} {x : Value} (h : s.run P w = .ok x w) : (do let y ← s; pure (Next.value y) : Sem Next).run P w = .ok (.value x) w := by simp [h]

theorem reqPtr_some {f : Lb → Nat → Q} {v : V} {q : Q} (h : reqPtr f v = some q) : ∃ l off, v = .ptr l off ∧ q = f l off := by
  unfold reqPtr at h
  split at h
  · cases h; exact ⟨_, _, rfl, rfl⟩
  · cases h

theorem ptr_inv {l : Lb} {off : Nat} {x : Value} (h : RV ρ (.ptr l off) x) : ∃ b, ρ l = some b ∧ x = .pointer (some ⟨b.block, b.base + off, none⟩) := by
  cases h with | ptr _ h => exact ⟨_, h, rfl⟩

theorem rd_load {C : CE} {t : TypeId} {rd : Rd} {y : Operand} {x : X} (ht : rdT C.P t = some rd) (hx : compX C y = some x) : RdOk C (.load t y) (.load rd x) := by
  intro ρ tm A hT hG q hq B w0 h w v R hv
  obtain ⟨l, off, e, rfl⟩ := reqPtr_some hq
  have r := compX_ok hT hG hx
  rw [e] at r
  obtain ⟨b, hb, hy⟩ := ptr_inv r
  simp only [Q.ask] at hv
  split at hv
  · rename_i vs el fz own hg
    obtain ⟨z, h1, h2⟩ := load_ok ht (R.obj l b _ hb hg) hv
    refine ⟨z, h1, fun p hp => ?_⟩
    unfold execOp
    rw [hp]
    simp only [hy, Instr.loadAt, Instr.sureAddr]
    exact value_run (by simpa using h2)
  · cases hv

theorem rd_lookup {C : CE} {t kt et : TypeId} {z : V} {ok : Bool} {m k : Operand} {x i : X} (hu : C.P.underlying t = some (.map kt et)) (hz : zeroT C.P et = some z) (hx : compX C m = some x) (hi : compX C k = some i) :
    RdOk C (.lookup t m k ok) (.lookup (keyT C.P kt) z ok x i) := by
  intro ρ tm A hT hG q hq B w0 h w v R hv
  have r := compX_ok hT hG hx
  have ri := compX_ok hT hG hi
  obtain ⟨zx, hz1, hz2⟩ := run_zeroT (ρ := ρ) hz
  simp only [RD.req, chk_some, Option.some.injEq] at hq
  obtain ⟨hk, rfl⟩ := hq
  obtain ⟨d, hd1, hd2⟩ := keyT_ok hk
  simp only [Q.ask] at hv
  generalize hm : A.eval m = mx at r
  generalize hkx : A.eval k = kx at ri
  have unf : ∀ (p : Oper), p.op = .lookup t m k ok → execOp A.eval p = (do pure (.value (← Instr.lookup t mx kx ok))) := fun p hp => by unfold execOp; rw [hp]; simp only [hm, hkx]
  split at hv
  · rename_i e
    rw [e] at r; cases r
    have hv' : v = okV ok z false := by cases ok <;> (cases hv; rfl)
    subst hv'
    refine ⟨_, okV_ok hz1 ok false, fun p hp => ?_⟩
    rw [unf p hp]
    refine value_run ?_
    have hf : (Instr.findKey kt kx []).run C.P w = .ok none w := findKey_run hd1 rfl
    unfold Instr.lookup
    simp only [Sem.run_bind, run_underlying hu, Result.andThen_ok, Sem.run_pure, checkKey_ok hd1 hd2, hf, hz2]
  · rename_i l e
    rw [e] at r; cases r
    rename_i b hb
    split at hv
    · rename_i es clock hg
      obtain ⟨ms, hms, hes⟩ := R.mapAt (P := C.P) hb hg
      simp only [ob_some, Option.some.injEq] at hv
      obtain ⟨f, hf, hv⟩ := hv
      obtain ⟨f1, f2⟩ := findNow_ok hd2 ri hes hf 0
      cases f with
      | none =>
        simp only at hv
        subst hv
        refine ⟨_, okV_ok hz1 ok false, fun p hp => ?_⟩
        rw [unf p hp]
        refine value_run ?_
        unfold Instr.lookup
        simp only [Sem.run_bind, run_underlying hu, Result.andThen_ok, Sem.run_pure, hms, checkKey_ok hd1 hd2, findKey_run hd1 (f1 rfl), hz2]
      | some p0 =>
        obtain ⟨j, u⟩ := p0
        simp only at hv
        subst hv
        obtain ⟨en, _, e2, e3⟩ := f2 j u rfl
        refine ⟨_, okV_ok e2 ok true, fun p hp => ?_⟩
        rw [unf p hp]
        refine value_run ?_
        unfold Instr.lookup
        simp only [Sem.run_bind, run_underlying hu, Result.andThen_ok, Sem.run_pure, hms, checkKey_ok hd1 hd2, findKey_run hd1 e3]
    · cases hv
  · cases hv

/-- A row's bytes. -/
theorem bytesIn_ok : ∀ {cs : List V} {l : List Nat}, bytesIn cs = some l → ∀ {xs : List Value}, RVs ρ cs xs → ∃ u : List UInt8, l = u.map (·.toNat) ∧ xs = u.map fun b => Value.int .u8 (b.toNat : Int)
  | [], l, h, xs, r => by simp [bytesIn] at h; subst h; cases r; exact ⟨[], rfl, rfl⟩
  | c :: cs, l, h, xs, r => by
    unfold bytesIn at h
    split at h
    · rename_i heq; cases heq
    · rename_i n r' heq
      cases heq
      simp only [chk_some, ob_some, Option.some.injEq] at h
      obtain ⟨hn, q, hq, rfl⟩ := h
      cases r with
      | cons r1 r2 =>
        cases r1
        obtain ⟨u, rfl, rfl⟩ := bytesIn_ok hq r2
        have hn' : n < 256 := by simpa using hn
        have e : (UInt8.ofNat n).toNat = n := by simp [Nat.mod_eq_of_lt hn']
        exact ⟨UInt8.ofNat n :: u, by simp [e], by simp [e]⟩
    · cases h

theorem natsOf_mk (u : List UInt8) : natsOf ⟨u.toArray⟩ = u.map (·.toNat) := by simp [natsOf]

theorem slice_inv {l : Lb} {off n : Nat} {c : Cap} {x : Value} (h : RV ρ (.slice l off n c) x) : ∃ b m, ρ l = some b ∧ x = .slice (some ⟨b.block, b.base + off, none⟩) n m := by
  cases h
  · exact ⟨_, _, by assumption, rfl⟩
  · exact ⟨_, _, by assumption, rfl⟩

theorem rd_bytes {C : CE} {s t e : TypeId} {y : Operand} {x : X} (hs : C.P.underlying s = some (.slice e)) (he : C.P.underlying e = some (.int .u8)) (ht : C.P.underlying t = some .string) (hx : compX C y = some x) :
    RdOk C (.convert s t y) (.bytesStr x) := by
  intro ρ tm A hT hG q hq B w0 h w v R hv
  have r := compX_ok hT hG hx
  cases hq
  generalize hy : A.eval y = yx at r
  have unf : ∀ (p : Oper), p.op = .convert s t y → execOp A.eval p = (do pure (.value (← convert s t yx))) := fun p hp => by unfold execOp; rw [hp]; simp only [hy]
  simp only [Q.ask] at hv
  split at hv
  · rename_i c e'
    rw [e'] at r; cases r; cases hv
    refine ⟨_, .str ByteArray.empty, fun p hp => ?_⟩
    rw [unf p hp]
    refine value_run ?_
    rw [run_convert_bytes_string w s t e _ _ _ hs he ht]
    rfl
  · rename_i l off n c e'
    rw [e'] at r
    obtain ⟨b, m, hb, rfl⟩ := slice_inv r
    split at hv
    · rename_i vs el fz own hg
      simp only [ob_some, Option.some.injEq] at hv
      obtain ⟨cs, h1, l', h2, rfl⟩ := hv
      have c := R.obj l b _ hb hg
      obtain ⟨xs, r1, r2, r3⟩ := CRel.range c h1
      obtain ⟨u, rfl, rfl⟩ := bytesIn_ok h2 r1
      refine ⟨.string ⟨u.toArray⟩, by rw [← natsOf_mk]; exact .str _, fun p hp => ?_⟩
      rw [unf p hp]
      refine value_run ?_
      have hl : u.length = n := by simpa using r2
      have := run_convert_bytes_back (P := C.P) w s t e ⟨b.block, b.base + off, none⟩ m u hs he ht (fun j hj => by
        rw [addr_add]
        exact r3 j _ (by simp [List.getElem?_eq_getElem hj]))
      rw [hl] at this
      exact this
    · cases hv
  · cases hv

theorem rd_mapLen {C : CE} {args : Array Operand} {ts : Array TypeId} {t kt et : TypeId} {rest : List TypeId} {x : X} (ht : ts.toList = t :: rest) (hu : C.P.underlying t = some (.map kt et)) (hx : compXs C args.toList = some [x]) :
    RdOk C (.call { callee := .builtin .len, args := args, argTypes := ts }) (.mapLen x) := by
  intro ρ tm A hT hG q hq B w0 h w v R hv
  obtain ⟨y, hy, r⟩ := args1 hx hT hG
  cases hq
  simp only [Q.ask] at hv
  split at hv
  · rename_i e
    rw [e] at r; cases r; cases hv
    refine ⟨_, .int .i64 _, fun p hp => ?_⟩
    rw [builtin_run p hp, hy]
    simp [Go.builtin, Builtin.len_, tsHead ht, run_underlying hu, goInt]
  · rename_i m e
    rw [e] at r; cases r
    rename_i b hb
    split at hv
    · rename_i es clock hg
      cases hv
      obtain ⟨ms, hms, hes⟩ := R.mapAt (P := C.P) hb hg
      refine ⟨_, .int .i64 _, fun p hp => ?_⟩
      rw [builtin_run p hp, hy]
      have : es.length = ms.size := by simpa using hes.length
      simp [Go.builtin, Builtin.len_, tsHead ht, run_underlying hu, goInt, hms, this]
    · cases hv
  · cases hv

/-! ### unsafe pointers -/

theorem viewAt_none {r : Nat} {s : TypeId × Nat} (h : w.shape? r = some s) : (viewAt r).run P w = .ok none w := by
  simp [viewAt, h]

theorem rd_ptrUnsafe {C : CE} {s t e : TypeId} {n : Nat} {y : Operand} {x : X} (hs : C.P.underlying s = some (.pointer e)) (ht : C.P.underlying t = some .unsafePointer) (hn : sizeT C.P e = some (n + 1)) (hx : compX C y = some x) :
    RdOk C (.convert s t y) (.ptrUnsafe x) := by
  intro ρ tm A hT hG q hq B w0 h w v R hv
  obtain ⟨l, off, e', rfl⟩ := reqPtr_some hq
  have r := compX_ok hT hG hx
  rw [e'] at r
  obtain ⟨b, hb, hy⟩ := ptr_inv r
  simp only [Q.ask] at hv
  split at hv
  · rename_i vs el fz own hg
    simp only [chk_some, Option.some.injEq] at hv
    obtain ⟨hlt, rfl⟩ := hv
    have c : CRel ρ b vs el fz own w := R.obj l b _ hb hg
    have hlt' : off < vs.length := by simpa using hlt
    have hfit := c.fits
    refine ⟨_, .ptr off hb, fun p hp => ?_⟩
    unfold execOp
    rw [hp]
    simp only [hy]
    refine value_run ?_
    unfold convert
    simp only [Sem.run_bind, run_underlying hs, run_underlying ht, Result.andThen_ok]
    unfold Conv.unsafePointer
    simp only [Sem.run_bind, run_underlying hs, run_underlying ht, Result.andThen_ok, Conv.seenAt, viewAt_none c.shape, Sem.run_pure, cellsIn, run_shape, c.shape, run_sizeT hn]
    have : ¬ (b.base + off ≥ b.total) := by omega
    simp [this]
  · cases hv

theorem cellsOf_size {t : TypeId} {n : Nat} (h : sizeT P t = some n) : P.cellsOf t = n := by
  obtain ⟨i, h1, rfl⟩ := sizeT_ok h
  simp [Program.cellsOf, h1]

/-- Variables of a row's own type lie in it. -/
theorem liesAt_row {e : TypeId} {s : Nat} (hc : P.cellsOf e = s) (hs : 0 < s) (count n : Nat) (hn : n ≤ count) : liesAt P P.depth e count 0 e n = true := by
  have hd : P.depth = (2 * (P.types.size + Made.depth) + 1) + 1 := rfl
  rw [hd]
  simp only [liesAt, Bool.or_eq_true]
  left
  rw [hd]
  have : s ≠ 0 := by omega
  simp [rowAt, hc, hn, sameLayout, this]

theorem rd_unsafePtr {C : CE} {s t u : TypeId} {n : Nat} {y : Operand} {x : X} (hs : C.P.underlying s = some .unsafePointer) (ht : C.P.underlying t = some (.pointer u)) (hn : sizeT C.P u = some (n + 1)) (hx : compX C y = some x) :
    RdOk C (.convert s t y) (.unsafePtr u (n + 1) x) := by
  intro ρ tm A hT hG q hq B w0 h w v R hv
  obtain ⟨l, off, e', rfl⟩ := reqPtr_some hq
  have r := compX_ok hT hG hx
  rw [e'] at r
  obtain ⟨b, hb, hy⟩ := ptr_inv r
  simp only [Q.ask] at hv
  split at hv
  · rename_i vs el fz own hg
    simp only [chk_some, Option.some.injEq, Bool.and_eq_true] at hv
    obtain ⟨⟨⟨h1, h2⟩, h3⟩, rfl⟩ := hv
    have h1' : el = u := Nat.eq_of_beq_eq_true h1
    have h2' : vs.length = n + 1 := Nat.eq_of_beq_eq_true h2
    have h3' : off = 0 := Nat.eq_of_beq_eq_true h3
    subst h1'; subst h3'
    have c : CRel ρ b vs el fz own w := R.obj l b _ hb hg
    have hfit := c.fits
    have hb0 := (R.base l b hb).1
    refine ⟨_, .ptr 0 hb, fun p hp => ?_⟩
    unfold execOp
    rw [hp]
    simp only [hy]
    refine value_run ?_
    have hcell := cellsOf_size hn
    have hl := liesAt_row hcell (by omega) (b.total / C.P.cellsOf el) 1 (by rw [hcell]; exact (Nat.le_div_iff_mul_le (by omega)).2 (by omega))
    unfold convert
    simp only [Sem.run_bind, run_underlying hs, run_underlying ht, Result.andThen_ok]
    unfold Conv.unsafePointer
    simp only [Sem.run_bind, run_underlying hs, run_underlying ht, Result.andThen_ok, Conv.seenAt, viewAt_none c.shape, Sem.run_pure, run_sizeT hn, variablesAt, run_program, run_shape, c.shape, hb0]
    simp [hl]
  · cases hv

end
end Go.Dx
