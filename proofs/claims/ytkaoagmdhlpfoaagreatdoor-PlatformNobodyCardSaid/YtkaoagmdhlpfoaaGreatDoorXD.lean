/-
  The deterministic machine over labels against the model: operations that write memory, or make some (rows).
  The deterministic machine over labels against the model: append, copy, texts and bytes.
  The deterministic machine over labels against the model: maps.
-/
import Derived.Test.YtkaoagmdhlpfoaaGreatDoorXC
import Derived.Lib.AppendZerosOnto
import Derived.Laws.MakeOwn
import Derived.Lib.UnsafeStr
namespace Go.Dx
open Go Go.RowKit

/-- Labels that were there stand for what they stood for. -/
structure Step (ρ ρ' : Rho) (h h' : H) : Prop where
  old : ∀ l, val l < val h.next → ρ' l = ρ l
  next : val h.next ≤ val h'.next

theorem Step.refl (ρ : Rho) (h : H) : Step ρ ρ h h := ⟨fun _ _ => rfl, Nat.le_refl _⟩
theorem Step.trans {ρ ρ' ρ'' : Rho} {h h' h'' : H} (s : Step ρ ρ' h h') (t : Step ρ' ρ'' h' h'') : Step ρ ρ'' h h'' :=
  ⟨fun l hl => (t.old l (Nat.lt_of_lt_of_le hl s.next)).trans (s.old l hl), Nat.le_trans s.next t.next⟩
theorem Step.same {ρ : Rho} {h h' : H} (e : h'.next = h.next) : Step ρ ρ h h' := ⟨fun _ _ => rfl, by rw [e]; exact Nat.le_refl _⟩

section
variable {P : Program} {B : Nat} {w0 : World} {ρ ρ' : Rho} {h h' : H} {w : World}

theorem Step.ext (s : Step ρ ρ' h h') (R : HRel B w0 ρ h w) : Ext' ρ ρ' := fun l b e => (s.old l (R.lt l b e)).trans e
theorem Step.add (ρ : Rho) (h : H) (b : Blk) (o : Obj) : Step ρ (upd ρ h.next b) h (h.add o) :=
  ⟨fun l hl => upd_ne fun e => by rw [e] at hl; exact absurd hl (Nat.lt_irrefl _), by show val h.next ≤ val (inc h.next); rw [val_inc]; omega⟩

/-- What the machine's effects say of the model's. -/
def EffOk (C : CE) (o : Op) (d : ED) : Prop := ∀ {ρ : Rho} {tm : T V} {A : Act}, TRel ρ C.n tm A.tmps → GRel ρ C.G → ∀ {B : Nat} {w0 : World} {h : H} {w : World}, HRel B w0 ρ h w → ∀ {v : V} {h' : H}, d.run tm h = some (v, h') →
  ∃ ρ' x w', Step ρ ρ' h h' ∧ RV ρ' v x ∧ HRel B w0 ρ' h' w' ∧ ∀ p : Oper, p.op = o → ((execOp A.eval p).run C.P w = .ok (.value x) w' ∨ ((execOp A.eval p).run C.P w = .ok .skip w' ∧ x = Go.undef))

theorem EffOk.ret {C : CE} {o : Op} {A : Act} {s : Sem Value} {ρ' : Rho} {x : Value} {v : V} {w w' : World} {B : Nat} {w0 : World} {ρ : Rho} {h h' : H} (st : Step ρ ρ' h h') (hv : RV ρ' v x) (R : HRel B w0 ρ' h' w') (hs : s.run C.P w = .ok x w')
    (e : ∀ p : Oper, p.op = o → execOp A.eval p = (do pure (.value (← s)))) :
    ∃ ρ' x w', Step ρ ρ' h h' ∧ RV ρ' v x ∧ HRel B w0 ρ' h' w' ∧ ∀ p : Oper, p.op = o → ((execOp A.eval p).run C.P w = .ok (.value x) w' ∨ ((execOp A.eval p).run C.P w = .ok .skip w' ∧ x = Go.undef)) :=
  ⟨ρ', x, w', st, hv, R, fun p hp => .inl (by rw [e p hp]; simp [hs])⟩

theorem EffOk.none {C : CE} {o : Op} {A : Act} {s : Sem Unit} {ρ' : Rho} {w w' : World} {B : Nat} {w0 : World} {ρ : Rho} {h h' : H} (st : Step ρ ρ' h h') (R : HRel B w0 ρ' h' w') (hs : s.run C.P w = .ok () w')
    (e : ∀ p : Oper, p.op = o → execOp A.eval p = (do s; pure .skip)) :
    ∃ ρ' x w', Step ρ ρ' h h' ∧ RV ρ' undef x ∧ HRel B w0 ρ' h' w' ∧ ∀ p : Oper, p.op = o → ((execOp A.eval p).run C.P w = .ok (.value x) w' ∨ ((execOp A.eval p).run C.P w = .ok .skip w' ∧ x = Go.undef)) :=
  ⟨ρ', Go.undef, w', st, .tuple .nil, R, fun p hp => .inr ⟨by rw [e p hp]; simp [hs], rfl⟩⟩

/-! ### cells -/

theorem eff_store {C : CE} {t : TypeId} {n : Nat} {y z : Operand} {a x : X} (hn : sizeT C.P t = some n) (ha : compX C y = some a) (hx : compX C z = some x) : EffOk C (.store t y z) (.store n a x) := by
  intro ρ tm A hT hG B w0 h w R v h' hr
  simp only [ED.run] at hr
  split at hr
  · rename_i l off e
    have r := compX_ok hT hG ha
    rw [e] at r
    obtain ⟨b, hb, hy⟩ := ptr_inv r
    simp only [chk_some, ob_some, Option.some.injEq, Prod.mk.injEq] at hr
    obtain ⟨h1, h2, h3, rfl, rfl⟩ := hr
    have rx := (compX_ok hT hG hx).cells
    obtain ⟨s1, s2⟩ := R.store hb h3 rx
    obtain ⟨vs, el, fz, own, vs', _, _, _, _, _, rfl⟩ := storeV_some h3
    refine EffOk.none (s := Instr.storeAt t (A.eval y) (A.eval z)) (Step.same rfl) s2 ?_ fun p hp => by unfold execOp; rw [hp]
    have hsz : (A.eval z).cells.size = n := by have := rx.length; have := Nat.eq_of_beq_eq_true h1; simp at *; omega
    simp [Instr.storeAt, hy, Instr.sureAddr, storeVar, run_sizeT hn, hsz, s1]
  · cases hr

theorem eff_alloc {C : CE} {t : TypeId} {z : V} (hz : zeroT C.P t = some z) : EffOk C (.alloc t) (.alloc t z.cells) := by
  intro ρ tm A hT hG B w0 h w R v h' hr
  cases hr
  obtain ⟨x, hx, hr⟩ := run_zeroT (ρ := ρ) hz
  have R' := R.row (vs := z.cells) (xs := x.cells.toList) hx.cells [] t 0 .yes
  simp only [List.append_nil] at R'
  refine EffOk.ret (s := Instr.alloc t true (.tuple #[])) (Step.add _ _ _ _) (.ptr 0 (upd_self _ _ _)) R' ?_ fun p hp => by unfold execOp; rw [hp]
  simp [Instr.alloc, hr, newVar, newRow]

theorem eff_box {C : CE} {t : TypeId} {y : Operand} {x : X} (hx : compX C y = some x) : EffOk C (.box t y) (.box t x) := by
  intro ρ tm A hT hG B w0 h w R v h' hr
  cases hr
  have rx := compX_ok hT hG hx
  have R' := R.row (vs := (x.ev tm).cells) (xs := (A.eval y).cells.toList) rx.cells [] t 0 .yes
  simp only [List.append_nil] at R'
  refine EffOk.ret (s := Instr.box t (A.eval y)) (Step.add _ _ _ _) (.ptr 0 (upd_self _ _ _)) R' ?_ fun p hp => by unfold execOp; rw [hp]
  simp [Instr.box, newVar, newRow]

/-! ### rows -/

theorem repeatCells_get {z : List V} {s : Nat} (hs : z.length = s) : ∀ (c i : Nat), i < c * s → (repeatCells z c)[i]? = z[i % s]?
  | 0, i, hi => by omega
  | c + 1, i, hi => by
    unfold repeatCells
    by_cases h : i < s
    · rw [List.getElem?_append_left (by omega), Nat.mod_eq_of_lt h]
    · rw [List.getElem?_append_right (by omega), hs, repeatCells_get hs c (i - s) (by rw [Nat.add_mul] at hi; omega)]
      congr 1
      exact (Nat.mod_eq_sub_mod (by omega)).symm

theorem repeatCells_length {z : List V} : ∀ c, (repeatCells z c).length = c * z.length
  | 0 => by simp [repeatCells]
  | c + 1 => by simp [repeatCells, repeatCells_length c, Nat.add_mul]; omega

theorem RVs.repeat {z : List V} {x : Array Value} (hr : RVs ρ z x.toList) {s : Nat} (hs : z.length = s) (h0 : 0 < s) (c : Nat) : RVs ρ (repeatCells z c) ((Array.range (c * s)).map (x[· % x.size]!)).toList := by
  have hx : x.size = s := by have := hr.length; simp at this; omega
  refine RVs.of_get (by simp [repeatCells_length, hs]) fun i v hv => ?_
  have hi : i < c * s := by
    have := (List.getElem?_eq_some_iff.1 hv).1
    rw [repeatCells_length, hs] at this
    exact this
  rw [repeatCells_get hs c i hi] at hv
  obtain ⟨y, hy, ry⟩ := hr.get hv
  have hlt : i % s < x.size := by rw [hx]; exact Nat.mod_lt _ h0
  refine ⟨y, ?_, ry⟩
  have : x[i % s]! = y := by
    rw [getElem!_pos x (i % s) hlt]
    rw [Array.getElem?_toList, Array.getElem?_eq_getElem hlt] at hy
    exact Option.some.inj hy
  simp [hi, hx, this]

theorem fillParts_ok {A : Act} {C : CE} {ρ : Rho} {tm : T V} {size : Nat} (hT : TRel ρ C.n tm A.tmps) (hG : GRel ρ C.G) : ∀ {ps : List (Nat × Operand)} {l : List (Nat × X)}, compPairs C ps = some l → ∀ {vs r : List V} {arr : Array Value}, RVs ρ vs arr.toList → fillParts tm size l vs = some r →
    ∃ arr', Instr.fill (fun i => some (i * size, size)) arr (ps.map fun p => (p.1, A.eval p.2)) = some arr' ∧ RVs ρ r arr'.toList
  | [], l, h, vs, r, arr, hv, hf => by
    simp [compPairs] at h; subst h
    simp [fillParts] at hf; subst hf
    exact ⟨arr, rfl, hv⟩
  | (i, x) :: ps, l, h, vs, r, arr, hv, hf => by
    simp only [compPairs, ob_some, Option.some.injEq] at h
    obtain ⟨d, h1, ds, h2, rfl⟩ := h
    simp only [fillParts, chk_some, ob_some] at hf
    obtain ⟨h3, q, h4, h5⟩ := hf
    have rx := (compX_ok (a := A) hT hG h1).cells
    have h3' : (d.ev tm).cells.length = size := Nat.eq_of_beq_eq_true h3
    have hsz : (A.eval x).cells.size = size := by have := rx.length; simp at this; omega
    have hle := putFrom_le h4
    have hlv := hv.length
    obtain ⟨e1, e2⟩ := put_ok hv rx h4
    obtain ⟨arr', e3, e4⟩ := fillParts_ok hT hG h2 e2 h5
    refine ⟨arr', ?_, e4⟩
    simp only [List.map_cons, Instr.fill]
    simp at hlv
    have c1 : (decide ((A.eval x).cells.size ≠ size) || decide (i * size + (A.eval x).cells.size > arr.size)) = false := by
      simp only [Bool.or_eq_false_iff, decide_eq_false_iff_not]; omega
    rw [if_neg (by rw [c1]; exact Bool.false_ne_true)]
    exact e3

theorem eff_buildSlice {C : CE} {t e : TypeId} {size n : Nat} {z : V} {ps : Array (Nat × Operand)} {l : List (Nat × X)} (hu : C.P.underlying t = some (.slice e)) (hs : sizeT C.P e = some size) (hz : zeroT C.P e = some z)
    (hn : n * size ≤ 65536) (hzs : z.cells.length = size) (h0 : 0 < size) (hl : compPairs C ps.toList = some l) : EffOk C (.buildSlice t n ps) (.buildSlice e size n (repeatCells z.cells n) l) := by
  intro ρ tm A hT hG B w0 h w R v h' hr
  simp only [ED.run, ob_some, Option.some.injEq, Prod.mk.injEq] at hr
  obtain ⟨cs, hf, rfl, rfl⟩ := hr
  obtain ⟨x, hx, hzr⟩ := run_zeroT (ρ := ρ) hz
  have hrep := hx.cells.repeat hzs h0 n
  obtain ⟨arr, f1, f2⟩ := fillParts_ok (A := A) hT hG hl hrep hf
  have R' := R.row f2 [] e 0 .yes
  simp only [List.append_nil] at R'
  refine EffOk.ret (s := Instr.buildSlice t n (ps.map fun (i, x) => (i, A.eval x))) (Step.add _ _ _ _) (.slice 0 n n (upd_self _ _ _)) R' ?_ fun p hp => by unfold execOp; rw [hp]
  have e1 : (ps.map fun (i, x) => (i, A.eval x)).toList = ps.toList.map fun p => (p.1, A.eval p.2) := by simp
  by_cases hns : n * size = 0
  · have hn0 : n = 0 := by rcases Nat.mul_eq_zero.1 hns with h | h <;> omega
    subst hn0
    have f1' : Instr.fill (fun i => some (i * size, size)) ((Array.range 0).map ((#[] : Array Value)[· % 0]!)) (ps.toList.map fun p => (p.1, A.eval p.2)) = some arr := by
      rw [← f1]; congr 1; simp
    simp only [Instr.buildSlice, Sem.run_bind, run_underlying hu, Result.andThen_ok, run_sizeT hs, Nat.zero_mul]
    simp [newRow]
    simp at f1'
    rw [f1']
    simp
  · have : ¬ (n * size > 2 ^ 24) := by omega
    simp only [Instr.buildSlice, Sem.run_bind, run_underlying hu, Result.andThen_ok, run_sizeT hs, if_neg this, Sem.run_pure, if_neg hns, hzr, e1]
    rw [f1]
    simp [newRow]

theorem eff_makeSlice {C : CE} {t e : TypeId} {size bytes : Nat} {z : V} {y1 y2 : Operand} {n c : X} (hu : C.P.underlying t = some (.slice e)) (hs : sizeT C.P e = some size) (hb : bytesT C.P e = some bytes) (hz : zeroT C.P e = some z)
    (h1 : compX C y1 = some n) (h2 : compX C y2 = some c) : EffOk C (.makeSlice t y1 y2) (.makeSlice e size bytes z.cells n c) := by
  intro ρ tm A hT hG B w0 h w R v h' hr
  simp only [ED.run] at hr
  unfold makeSliceV at hr
  split at hr
  · rename_i n' c' e1 e2
    simp only [chk_some, Option.some.injEq, Bool.and_eq_true, Prod.mk.injEq] at hr
    obtain ⟨⟨⟨⟨⟨g1, g2⟩, g3⟩, g4⟩, g5⟩, rfl, rfl⟩ := hr
    have g1 := Nat.le_of_ble_eq_true g1
    have g2 : c' * bytes ≤ 1099511627776 := Nat.le_of_ble_eq_true g2
    have g3 := Nat.le_of_ble_eq_true g3
    have g4 := Nat.eq_of_beq_eq_true g4
    have g5 : 0 < size := by simpa using g5
    have r1 := compX_ok hT hG h1
    have r2 := compX_ok hT hG h2
    rw [e1] at r1; rw [e2] at r2
    generalize hy1 : A.eval y1 = v1 at r1
    generalize hy2 : A.eval y2 = v2 at r2
    cases r1; cases r2
    simp only [zeroT, ob_some] at hz
    obtain ⟨i, hi, zx, hzx, hzc⟩ := hz
    have hx : RV ρ z zx := ofConst_ok hzc
    have hsz : i.size = size := by obtain ⟨j, hj, e⟩ := sizeT_ok hs; rw [hi] at hj; cases hj; exact e
    have hby : i.bytes = bytes := by
      simp only [bytesT, ob_some, Option.some.injEq] at hb
      obtain ⟨j, hj, e⟩ := hb; rw [hi] at hj; cases hj; exact e
    have hrep := hx.cells.repeat g4 g5 c'
    have R' := R.row hrep [] e 0 .yes
    simp only [List.append_nil] at R'
    refine EffOk.ret (s := Instr.makeSlice t (.int .i64 (Int.ofNat n')) (.int .i64 (Int.ofNat c'))) (Step.add _ _ _ _) (.slice 0 n' c' (upd_self _ _ _)) R' ?_ fun p hp => by unfold execOp; rw [hp]; simp only [hy1, hy2]
    have hbb : (i.bytes : Int) * (c' : Int) ≤ 281474976710656 := by
      rw [hby, ← Int.natCast_mul, Nat.mul_comm]; omega
    have := run_make (P := C.P) w t e i zx hu hi hzx .i64 .i64 n' c' (by omega) (by omega) hbb (by omega)
    rw [hsz] at this
    have em : ∀ a : Array Value, (⟨a.toList⟩ : Array Value) = a := fun a => by cases a; rfl
    rw [em]
    simpa only [madeCells, Int.toNat_natCast, Int.ofNat_eq_natCast] using this
  · cases hr

theorem constParts_fill {size : Nat} (tm : T V) : ∀ {l : List (Nat × X)} {cells r : List V}, constParts size l cells = some r → fillParts tm size l cells = some r
  | [], cells, r, h => by simpa [constParts, fillParts] using h
  | (i, .c v) :: l, cells, r, h => by
    simp only [constParts, chk_some, ob_some] at h
    obtain ⟨h1, c, h2, h3⟩ := h
    simp only [fillParts, chk_some, ob_some, X.ev]
    exact ⟨h1, c, h2, constParts_fill tm h3⟩
  | (_, .t _) :: _, _, _, h => by cases h

theorem eff_allocRow {C : CE} {o : Op} {e : TypeId} {size n : Nat} {cells cs : List V} {l : List (Nat × X)} (hk : EffOk C o (.buildSlice e size n cells l)) (hc : constParts size l cells = some cs) : EffOk C o (.allocRow e cs n) := by
  intro ρ tm A hT hG B w0 h w R v h' hr
  refine hk hT hG R ?_
  simp only [ED.run, Option.some.injEq, Prod.mk.injEq] at hr
  obtain ⟨rfl, rfl⟩ := hr
  simp only [ED.run, ob_some, Option.some.injEq]
  exact ⟨cs, constParts_fill tm hc, rfl⟩

end
end Go.Dx
namespace Go.Dx
open Go Go.RowKit

section
variable {P : Program} {B : Nat} {w0 : World} {ρ ρ' : Rho} {h h' : H} {w : World}

/-- What an append's second argument yields. -/
structure Feeds (P : Program) (w : World) (t tx ty e : TypeId) (i : TypeInfo) (z : Value) (x : Value) (n : Nat) (news : List Value) : Prop where
  room : ∀ (base : Option Addr) (sLen sCap : Nat), sLen + n ≤ sCap → (Builtin.append_ #[t, tx] ty #[.slice base sLen sCap, x]).run P w =
    ((do (match base with | some a => storeCells (a.add (sLen * i.size)) news | none => pure ()); pure (Value.slice base (sLen + n) sCap)) : Sem Value).run P w
  grow : ∀ (base : Option Addr) (sLen sCap : Nat) (olds : List Value), 0 < n → (Builtin.firstCells i.size sLen (.slice base sLen sCap)).run P w.drew = .ok olds.toArray w.drew → sCap < sLen + n → ((sLen + n : Nat) : Int) ≤ 9223372036854775807 →
    Builtin.nextslicecap (sLen + n) sCap * i.bytes ≤ 281474976710656 → (Builtin.append_ #[t, tx] ty #[.slice base sLen sCap, x]).run P w =
      .ok (.slice (some ⟨w.heap.size, 0, none⟩) (sLen + n) (grownCap w (sLen + n) sCap e)) (w.drew.alloc (.cells ((olds ++ news).toArray ++ Builtin.zeroCells z.cells (grownCap w (sLen + n) sCap e - (sLen + n))) e))

theorem feeds_src (t tx ty e : TypeId) (i : TypeInfo) (z : Value) (ht : P.underlying t = some (.slice e)) (hi : P.info? e = some i) (hz : i.zero = some z) (hk : (∃ e', P.underlying tx = some (.slice e')) ∨ P.underlying tx = some .string)
    (x : Value) (n : Nat) (news : List Value) (hlen : ∀ w' : World, (Builtin.lenOf x).run P w' = .ok n w') (hc : (Builtin.firstCells i.size n x).run P w = .ok news.toArray w) (hcD : (Builtin.firstCells i.size n x).run P w.drew = .ok news.toArray w.drew) :
    Feeds P w t tx ty e i z x n news := by
  refine ⟨fun base sLen sCap hroom => ?_, fun base sLen sCap olds hpos hold hg h63 hfit => ?_⟩
  · rcases hk with ⟨e', hk⟩ | hk <;> cases base <;> simp [Builtin.append_, run_underlying ht, run_underlying hk, sizeOf, typeInfo, hi, hlen, hroom, hc]
  · have hn : ¬ (sLen + n ≤ sCap) := by omega
    have h63' : ¬ (9223372036854775807 < ((sLen : Int) + (n : Int))) := by omega
    have h48' : ¬ (281474976710656 < Builtin.nextslicecap (sLen + n) sCap * i.bytes) := by omega
    rcases hk with ⟨e', hk⟩ | hk <;>
      (simp [Builtin.append_, run_underlying ht, run_underlying hk, sizeOf, typeInfo, zeroValue, hi, hz, hlen, hn, h63', h48', Question.forced, hcD, hold, newRow, grownCap]
       congr 2
       apply Array.ext'
       simp [List.append_assoc])

theorem feeds_zeros (t tx ty e : TypeId) (i : TypeInfo) (z : Value) {kn : IntKind} (ht : P.underlying t = some (.slice e)) (hi : P.info? e = some i) (hz : i.zero = some z) (hk : P.underlying tx = some (.int kn)) (h0 : 0 < i.size)
    (n : Nat) (hn : n * i.bytes ≤ 281474976710656) (hn63 : (n : Int) ≤ 9223372036854775807) : Feeds P w t tx ty e i z (.int .i64 n) n (Builtin.zeroCells z.cells n).toList := by
  have hw : IntKind.i64.wrap (n : Int) = n := by rw [IntKind.wrap_i64]; omega
  have h48i : ¬ (281474976710656 < (n : Int) * (i.bytes : Int)) := by
    rw [← Int.natCast_mul]
    omega
  have hneg : ¬ ((n : Int) < 0) := by omega
  refine ⟨fun base sLen sCap hroom => ?_, fun base sLen sCap olds hpos hold hg h63 hfit => ?_⟩
  · by_cases hn0 : n = 0
    · subst hn0
      have hw0 : IntKind.i64.wrap 0 = 0 := hw
      have hr : sLen ≤ sCap := hroom
      cases base <;> simp [Builtin.append_, run_underlying ht, run_underlying hk, sizeOf, typeInfo, zeroValue, hi, hz, asInt, asIntOf, hw0, hr, Builtin.zeroCells, storeCells]
    · have hns : ¬ (n * i.size = 0) := Nat.mul_ne_zero hn0 (by omega)
      cases base <;> simp [Builtin.append_, run_underlying ht, run_underlying hk, sizeOf, typeInfo, zeroValue, hi, hz, asInt, asIntOf, hw, hneg, hns, h48i, hroom]
  · have := Lib.run_append_grow_zeros (P := P) w t tx ty e i z .i64 kn ht hk hi hz base sLen sCap olds hold n hpos h0 hg h63 hn hfit
    rw [this]
    congr 2
    apply congrArg (fun a => Go.Obj.cells a e)
    apply Array.ext'
    simp [List.append_assoc]


/-- A row read as a slice's first elements. -/
theorem CRel.first {b : Blk} {vs r : List V} {e : TypeId} {fz : Nat} {own : Own} (c : CRel ρ b vs e fz own w) {size n off : Nat} (hr : rowFrom vs off (n * size) = some r) :
    ∃ xs : List Value, RVs ρ r xs ∧ xs.length = n * size ∧ ∀ len cap, (Builtin.firstCells size n (.slice (some ⟨b.block, b.base + off, none⟩) len cap)).run P w = .ok xs.toArray w ∧
      (Builtin.firstCells size n (.slice (some ⟨b.block, b.base + off, none⟩) len cap)).run P w.drew = .ok xs.toArray w.drew := by
  obtain ⟨xs, r1, r2, r3⟩ := c.range hr
  refine ⟨xs, r1, r2, fun len cap => ⟨?_, ?_⟩⟩
  · exact run_firstCells_some w size n _ len cap xs r2 fun j v hv => by rw [addr_add]; exact r3 j v hv
  · exact run_firstCells_some w.drew size n _ len cap xs r2 fun j v hv => by rw [addr_add, World.cell?_drew]; exact r3 j v hv

theorem zeroCells_rv {z : V} {x : Value} (hx : RV ρ z x) {s : Nat} (hs : z.cells.length = s) (h0 : 0 < s) (n : Nat) : RVs ρ (repeatCells z.cells n) (Builtin.zeroCells x.cells n).toList := by
  have := hx.cells.repeat hs h0 n
  have hsz : x.cells.size = s := by have := hx.cells.length; simp at this; omega
  unfold Builtin.zeroCells
  simp only [hsz] at this ⊢
  exact this

/-- A row that is made behind a draw. -/
theorem HRel.grown (R : HRel B w0 ρ h w) {vs : List V} {xs : List Value} (hr : RVs ρ vs xs) {need old size : Nat} {e : TypeId} {z : Value} (hl : xs.length = need * size) (hz : z.cells.size = size) (fz : Nat) (own : Own) :
    HRel B w0 (upd ρ h.next (Blk.mk w.heap.size 0 (grownCap w need old e * size) .nilFunc)) (h.add (.cells vs e fz own)) (w.drew.alloc (.cells (xs.toArray ++ Builtin.zeroCells z.cells (grownCap w need old e - need)) e)) := by
  have hge := grownCap_ge w need old e
  have R' := (R.drew).row hr (Builtin.zeroCells z.cells (grownCap w need old e - need)).toList e fz own
  have e1 : (xs ++ (Builtin.zeroCells z.cells (grownCap w need old e - need)).toList).length = grownCap w need old e * size := by
    have := size_zeroCells z.cells (grownCap w need old e - need)
    simp only [List.length_append, Array.length_toList, this, hl, hz]
    rw [← Nat.add_mul]; congr 1; omega
  have e2 : (⟨xs ++ (Builtin.zeroCells z.cells (grownCap w need old e - need)).toList⟩ : Array Value) = xs.toArray ++ Builtin.zeroCells z.cells (grownCap w need old e - need) := by
    apply Array.ext'; simp
  rw [e1, e2] at R'
  exact R'

theorem append_ok {t tx ty e : TypeId} {i : TypeInfo} {z sx x : Value} {n size bytes : Nat} {news : List Value} {new : List V} {s v : V} (hF : Feeds P w t tx ty e i z x n news) (hsize : i.size = size) (hbytes : i.bytes = bytes) (h0 : 0 < size) (hb0 : 0 < bytes) (hz : z.cells.size = size)
    (R : HRel B w0 ρ h w) (hs : RV ρ s sx) (hn : RVs ρ new news) (hlen : new.length = n * size) (happ : appendV h e size bytes s n new = some (v, h')) :
    ∃ ρ' y w', Step ρ ρ' h h' ∧ RV ρ' v y ∧ HRel B w0 ρ' h' w' ∧ (Builtin.append_ #[t, tx] ty #[sx, x]).run P w = .ok y w' := by
  subst hsize hbytes
  have hnl : news.length = n * i.size := by rw [← hn.length, hlen]
  have fit : ∀ {len c : Nat}, 4 * (len + n) * i.bytes ≤ mostBytes → c < len + n → ((len + n : Nat) : Int) ≤ 9223372036854775807 ∧ Builtin.nextslicecap (len + n) c * i.bytes ≤ 281474976710656 := fun {len c} hm hc => by
    have hm : 4 * (len + n) * i.bytes ≤ 1099511627776 := hm
    have h1 := nextslicecap_le hc
    have h2 : Builtin.nextslicecap (len + n) c * i.bytes ≤ 2 * (len + n) * i.bytes := Nat.mul_le_mul_right _ h1
    have h3 : 4 * (len + n) * 1 ≤ 4 * (len + n) * i.bytes := Nat.mul_le_mul_left _ hb0
    have h4 : 4 * (len + n) * i.bytes = 2 * (len + n) * i.bytes + 2 * (len + n) * i.bytes := by
      rw [← Nat.add_mul]; congr 1; omega
    omega
  unfold appendV at happ
  split at happ
  · rename_i c
    cases hs
    split at happ
    · rename_i hc
      have hc := Nat.le_of_ble_eq_true hc
      simp only [chk_some, Option.some.injEq, Prod.mk.injEq] at happ
      obtain ⟨hn0, rfl, rfl⟩ := happ
      have hn0 : n = 0 := Nat.eq_of_beq_eq_true hn0
      subst hn0
      refine ⟨ρ, _, w, Step.refl _ _, .nilSlice c, R, ?_⟩
      rw [hF.room none 0 c (by omega)]
      rfl
    · rename_i hc
      have hc : ¬ n ≤ c := fun h => by have := Nat.ble_eq_true_of_le h; rw [this] at hc; cases hc
      simp only [chk_some, Option.some.injEq, Prod.mk.injEq] at happ
      obtain ⟨hm, rfl, rfl⟩ := happ
      have hm := Nat.le_of_ble_eq_true hm
      obtain ⟨f1, f2⟩ := fit (len := 0) (c := c) (by simpa using hm) (by omega)
      have hg := hF.grow none 0 c [] (by omega) (run_firstCells_none w.drew _ 0 0 c) (by omega) f1 f2
      have R' := R.grown (need := 0 + n) (old := c) (size := i.size) (e := e) (z := z) hn (by simpa using hnl) hz 0 .yes
      refine ⟨_, _, _, Step.add _ _ _ _, .sliceEnd 0 n i.size (grownCap w (0 + n) c e) (upd_self _ _ _) ?_ ?_, R', ?_⟩
      · have := grownCap_ge w (0 + n) c e; omega
      · simp
      · rw [hg]; simp
  · rename_i l off len cap
    simp only [chk_some] at happ
    obtain ⟨hm, happ⟩ := happ
    have hm := Nat.le_of_ble_eq_true hm
    split at happ
    · rename_i c
      cases hs with
      | slice _ _ _ hb =>
      rename_i b
      split at happ
      · rename_i hc
        have hc := Nat.le_of_ble_eq_true hc
        simp only [ob_some, Option.some.injEq, Prod.mk.injEq] at happ
        obtain ⟨h1, hst, rfl, rfl⟩ := happ
        obtain ⟨s1, s2⟩ := R.store hb hst hn
        obtain ⟨_, _, _, _, _, _, _, _, _, _, rfl⟩ := storeV_some hst
        refine ⟨ρ, _, _, Step.same rfl, .slice off (len + n) c hb, s2, ?_⟩
        rw [hF.room _ _ _ hc]
        simp only [Sem.run_bind, addr_add, Nat.add_assoc, s1 P, Result.andThen_ok, Sem.run_pure]
      · rename_i hc
        have hc : ¬ len + n ≤ c := fun h => by have := Nat.ble_eq_true_of_le h; rw [this] at hc; cases hc
        split at happ
        · rename_i vs el fz own hg
          simp only [chk_some, ob_some, Option.some.injEq, Prod.mk.injEq] at happ
          obtain ⟨hn0, old, ho, rfl, rfl⟩ := happ
          have hn0 : 0 < n := by simpa using hn0
          obtain ⟨f1, f2⟩ := fit (len := len) (c := c) hm (by omega)
          have cr : CRel ρ b vs el fz own w := R.obj l b _ hb hg
          obtain ⟨xs, r1, r2, r3⟩ := cr.first (P := P) ho
          have hgr := hF.grow (some ⟨b.block, b.base + off, none⟩) len c xs hn0 (r3 len c).2 (by omega) f1 f2
          have R' := R.grown (need := len + n) (old := c) (size := i.size) (e := e) (z := z) (r1.append hn) (by simp [r2, hnl, Nat.add_mul]) hz 0 .yes
          refine ⟨_, _, _, Step.add _ _ _ _, .sliceEnd 0 (len + n) i.size (grownCap w (len + n) c e) (upd_self _ _ _) (grownCap_ge w (len + n) c e) (by simp), R', ?_⟩
          rw [hgr]
        · cases happ
    · rename_i es
      cases hs with
      | sliceEnd _ _ _ c hb hlc hcap =>
      rename_i b
      simp only [chk_some] at happ
      obtain ⟨he, happ⟩ := happ
      have he : es = i.size := Nat.eq_of_beq_eq_true he
      subst he
      split at happ
      · rename_i vs el fz own hg
        simp only [chk_some, Bool.and_eq_true] at happ
        obtain ⟨⟨hown, hel⟩, happ⟩ := happ
        have hel : el = e := Nat.eq_of_beq_eq_true hel
        subst hel
        have cr : CRel ρ b vs el fz own w := R.obj l b _ hb hg
        have hfits := cr.fits
        have hbase := (R.base l b hb).1
        split at happ
        · rename_i hin
          have hin := Nat.le_of_ble_eq_true hin
          simp only [ob_some, Option.some.injEq, Prod.mk.injEq] at happ
          obtain ⟨h1, hst, rfl, rfl⟩ := happ
          obtain ⟨s1, s2⟩ := R.store hb hst hn
          obtain ⟨_, _, _, _, _, _, _, _, _, _, rfl⟩ := storeV_some hst
          have hc : len + n ≤ c := by
            have : (len + n) * i.size ≤ c * i.size := by omega
            exact Nat.le_of_mul_le_mul_right this h0
          refine ⟨ρ, _, _, Step.same rfl, .sliceEnd off (len + n) i.size c hb hc hcap, s2, ?_⟩
          rw [hF.room _ _ _ hc]
          simp only [Sem.run_bind, addr_add, Nat.add_assoc, s1 P, Result.andThen_ok, Sem.run_pure]
        · simp only [chk_some, Option.some.injEq, Prod.mk.injEq, Bool.and_eq_true] at happ
          obtain ⟨⟨⟨⟨ho0, hov⟩, hfz⟩, hfl⟩, rfl, rfl⟩ := happ
          have ho0 : off = 0 := Nat.eq_of_beq_eq_true ho0
          have hov : off + len * i.size = vs.length := Nat.eq_of_beq_eq_true hov
          have hfz := Nat.le_of_ble_eq_true hfz
          subst ho0
          have hvl : vs.length = len * i.size := by omega
          by_cases hc : len + n ≤ c
          · have hroom : b.base + vs.length + new.length ≤ b.total := by
              have : (len + n) * i.size ≤ c * i.size := Nat.mul_le_mul_right _ hc
              rw [Nat.add_mul] at this
              omega
            obtain ⟨m1, m2⟩ := R.move hb hg hown (off := 0) (by omega) rfl hfz hn hfl hroom
            refine ⟨_, _, _, ⟨fun m hm => upd_ne fun e' => ?_, ?_⟩, .sliceEnd 0 (len + n) i.size c (upd_self _ _ _) hc (by show b.base + 0 + 0 + c * i.size = b.total; omega), m2, ?_⟩
            · rw [e'] at hm; exact absurd hm (Nat.lt_irrefl _)
            · show val h.next ≤ val (inc h.next); rw [val_inc]; omega
            · rw [hF.room _ _ _ hc]
              have e1 : b.base + 0 + len * i.size = b.base + vs.length := by omega
              simp only [Sem.run_bind, addr_add, e1, m1 P, Result.andThen_ok, Sem.run_pure]
          · have hn0 : 0 < n := by omega
            obtain ⟨f1, f2⟩ := fit (len := len) (c := c) hm (by omega)
            have ho : rowFrom vs 0 (len * i.size) = some vs := by
              rw [← hvl]; exact takeN_all vs
            obtain ⟨xs, r1, r2, r3⟩ := cr.first (P := P) ho
            have hgr := hF.grow (some ⟨b.block, b.base + 0, none⟩) len c xs hn0 (r3 len c).2 (by omega) f1 f2
            have R' := (R.del l).grown (need := len + n) (old := c) (size := i.size) (e := el) (z := z) (r1.append hn) (by simp [r2, hnl, Nat.add_mul]) hz fz own
            refine ⟨upd ρ h.next (Blk.mk w.heap.size 0 (grownCap w (len + n) c el * i.size) .nilFunc), _, _, ⟨fun m hm => upd_ne fun e' => ?_, ?_⟩, .sliceEnd 0 (len + n) i.size (grownCap w (len + n) c el) (upd_self _ _ _) (grownCap_ge w (len + n) c el) (by simp), R', ?_⟩
            · rw [e'] at hm; exact absurd hm (Nat.lt_irrefl _)
            · show val h.next ≤ val (inc h.next); rw [val_inc]; omega
            · rw [hgr]
      · cases happ
  · cases happ


/-! ### texts, bytes -/

theorem natCells_ok (t : ByteArray) : RVs ρ (natCells (natsOf t)) (t.data.toList.map fun b => Value.int .u8 b.toNat) := by
  unfold natsOf
  generalize t.data.toList = l
  induction l with
  | nil => exact .nil
  | cons b l ih => exact .cons (.int .u8 _) ih

theorem natCells_length : ∀ l : List Nat, (natCells l).length = l.length
  | [] => rfl
  | _ :: l => by simp [natCells, natCells_length l]

/-- The elements of a slice or a text, as they are read. -/
theorem elems_ok {size : Nat} {x : V} {y : Value} (R : HRel B w0 ρ h w) (r : RV ρ x y) {n : Nat} {cs : List V} (he : elemsV h size x = some (n, cs)) :
    ∃ xs : List Value, RVs ρ cs xs ∧ cs.length = n * size ∧ (∀ w', (Builtin.lenOf y).run P w' = .ok n w') ∧ (∀ k, k ≤ n → (Builtin.firstCells size k y).run P w = .ok (xs.take (k * size)).toArray w) ∧ (Builtin.firstCells size n y).run P w.drew = .ok xs.toArray w.drew := by
  unfold elemsV at he
  split at he
  · cases r; cases he
    refine ⟨[], .nil, by simp, fun _ => rfl, fun k hk => ?_, rfl⟩
    simpa using run_firstCells_none (P := P) w size k 0 _
  · rename_i l off m cap
    split at he
    · rename_i vs el fz own hg
      simp only [ob_some, Option.some.injEq, Prod.mk.injEq] at he
      obtain ⟨q, hq, rfl, rfl⟩ := he
      obtain ⟨b, c, hb, rfl⟩ := slice_inv r
      have cr : CRel ρ b vs el fz own w := R.obj l b _ hb hg
      obtain ⟨xs, r1, r2, r3⟩ := cr.range hq
      refine ⟨xs, r1, by rw [r1.length, r2], fun _ => rfl, fun k hk => ?_, ?_⟩
      · refine run_firstCells_some w size k _ m c _ ?_ fun j v hv => ?_
        · have : k * size ≤ m * size := Nat.mul_le_mul_right _ hk
          rw [List.length_take]; omega
        · rw [List.getElem?_take] at hv
          split at hv
          · rw [addr_add]; exact r3 j v hv
          · cases hv
      · exact run_firstCells_some w.drew size m _ m c xs r2 fun j v hv => by rw [addr_add, World.cell?_drew]; exact r3 j v hv
    · cases he
  · rename_i s
    cases r with | str t =>
    simp only [chk_some, Option.some.injEq, Prod.mk.injEq] at he
    obtain ⟨hs, rfl, rfl⟩ := he
    have hs : size = 1 := Nat.eq_of_beq_eq_true hs
    subst hs
    have e1 : ∀ k, ((t.extract 0 k).data.map fun b => Value.int .u8 (b.toNat : Int)) = ((t.data.toList.map fun b => Value.int .u8 (b.toNat : Int)).take k).toArray := fun k => by
      apply Array.ext'
      simp
    refine ⟨_, natCells_ok t, by rw [natCells_length, Nat.mul_one], fun w' => ?_, fun k hk => ?_, ?_⟩
    · show (pure t.size : Sem Nat).run P w' = _
      rw [natsOf_length]; rfl
    · show (pure ((t.extract 0 k).data.map fun b => Value.int .u8 (b.toNat : Int)) : Sem _).run P w = _
      rw [e1, Nat.mul_one]; rfl
    · show (pure ((t.extract 0 (natsOf t).length).data.map fun b => Value.int .u8 (b.toNat : Int)) : Sem _).run P w.drew = _
      rw [e1, List.take_of_length_le (by rw [natsOf_length]; simp)]; rfl
  · cases r; cases he
    rename_i a c
    refine ⟨[], .nil, by simp, fun _ => rfl, fun k hk => ?_, ?_⟩
    · have hk : k = 0 := Nat.le_zero.1 hk
      subst hk
      have := run_firstCells_some (P := P) w size 0 a 0 c [] (by simp) fun j v hv => by simp at hv
      simpa using this
    · exact run_firstCells_some w.drew size 0 a 0 c [] (by simp) fun j v hv => by simp at hv
  · cases he

theorem two_of_list {ts : Array TypeId} {t u : TypeId} (h : ts.toList = [t, u]) : ts = #[t, u] := by
  apply Array.ext'; simpa using h

theorem eff_append {C : CE} {args : Array Operand} {ts : Array TypeId} {t u e : TypeId} {size bytes : Nat} {z : V} {s x : X} (hts : ts.toList = [t, u]) (ht : C.P.underlying t = some (.slice e)) (hu : (∃ e', C.P.underlying u = some (.slice e')) ∨ C.P.underlying u = some .string)
    (hs : sizeT C.P e = some size) (hb : bytesT C.P e = some bytes) (hz : zeroT C.P e = some z) (h0 : 0 < size) (hb0 : 0 < bytes) (hzs : z.cells.length = size) (hx : compXs C args.toList = some [s, x]) :
    EffOk C (.call { callee := .builtin .append, args := args, argTypes := ts }) (.append e size bytes s x) := by
  intro ρ tm A hT hG B w0 h w R v h' hr
  obtain ⟨y1, y2, hy, r1, r2⟩ := args2 hx hT hG
  simp only [ED.run, ob_some] at hr
  obtain ⟨⟨n, cs⟩, he, ha⟩ := hr
  obtain ⟨xs, e1, e2, e3, e4, e5⟩ := elems_ok (P := C.P) R r2 he
  obtain ⟨i, hi, hsz⟩ := sizeT_ok hs
  have hby : i.bytes = bytes := by
    simp only [bytesT, ob_some, Option.some.injEq] at hb
    obtain ⟨j, hj, e⟩ := hb; rw [hi] at hj; cases hj; exact e
  simp only [zeroT, ob_some] at hz
  obtain ⟨j, hj, zx, hzx, hzc⟩ := hz
  rw [hi] at hj; cases hj
  have hzr : RV ρ z zx := ofConst_ok hzc
  have hzsz : zx.cells.size = size := by have := hzr.cells.length; simp at this; omega
  have e4' := e4 n (Nat.le_refl _)
  rw [List.take_of_length_le (by rw [← e1.length, e2]; exact Nat.le_refl _)] at e4'
  have hts' := two_of_list hts
  subst hts'
  subst hsz
  have hF := fun ty => feeds_src (P := C.P) (w := w) t u ty e i zx ht hi hzx hu y2 n xs e3 e4' e5
  have key := fun ty => append_ok (hF ty) rfl hby h0 hb0 hzsz R r1 e1 e2 ha
  obtain ⟨ρ', y, w', k1, k2, k3, k4⟩ := key 0
  refine ⟨ρ', y, w', k1, k2, k3, fun p hp => .inl ?_⟩
  rw [builtin_run p hp, hy]
  have : (Builtin.append_ #[t, u] p.type #[y1, y2]).run C.P w = .ok y w' := k4
  simp [Go.builtin, this]

theorem eff_appendZeros {C : CE} {args : Array Operand} {ts : Array TypeId} {t u e : TypeId} {kn : IntKind} {size bytes : Nat} {z : V} {s x : X} (hts : ts.toList = [t, u]) (ht : C.P.underlying t = some (.slice e)) (hu : C.P.underlying u = some (.int kn))
    (hs : sizeT C.P e = some size) (hb : bytesT C.P e = some bytes) (hz : zeroT C.P e = some z) (h0 : 0 < size) (hb0 : 0 < bytes) (hzs : z.cells.length = size) (hx : compXs C args.toList = some [s, x]) :
    EffOk C (.call { callee := .builtin .append, args := args, argTypes := ts }) (.appendZeros e size bytes z.cells s x) := by
  intro ρ tm A hT hG B w0 h w R v h' hr
  obtain ⟨y1, y2, hy, r1, r2⟩ := args2 hx hT hG
  simp only [ED.run] at hr
  split at hr
  · rename_i n e'
    rw [e'] at r2
    cases r2
    simp only [chk_some, Bool.and_eq_true] at hr
    obtain ⟨⟨hn, hm⟩, ha⟩ := hr
    have hn := Nat.le_of_ble_eq_true hn
    have hm : n * bytes ≤ 1099511627776 := Nat.le_of_ble_eq_true hm
    obtain ⟨i, hi, hsz⟩ := sizeT_ok hs
    have hby : i.bytes = bytes := by
      simp only [bytesT, ob_some, Option.some.injEq] at hb
      obtain ⟨j, hj, e⟩ := hb; rw [hi] at hj; cases hj; exact e
    have hz' := hz
    simp only [zeroT, ob_some] at hz
    obtain ⟨j, hj, zx, hzx, hzc⟩ := hz
    rw [hi] at hj; cases hj
    have hzr : RV ρ z zx := ofConst_ok hzc
    have hzsz : zx.cells.size = size := by have := hzr.cells.length; simp at this; omega
    have hts' := two_of_list hts
    subst hts'
    subst hsz
    have e1 := zeroCells_rv hzr hzs h0 n
    have e2 : (repeatCells z.cells n).length = n * i.size := by rw [repeatCells_length, hzs]
    · have hbig : n * i.bytes ≤ 281474976710656 := by rw [hby]; omega
      have hF := fun ty => feeds_zeros (P := C.P) (w := w) t u ty e i zx (kn := kn) ht hi hzx hu h0 n hbig (by omega)
      obtain ⟨ρ', y, w', k1, k2, k3, k4⟩ := append_ok (hF 0) rfl hby h0 hb0 hzsz R r1 e1 e2 ha
      refine ⟨ρ', y, w', k1, k2, k3, fun p hp => .inl ?_⟩
      rw [builtin_run p hp, hy]
      have : (Builtin.append_ #[t, u] p.type #[y1, .int .i64 (Int.ofNat n)]).run C.P w = .ok y w' := k4
      simp [Go.builtin] at this ⊢
      simp [this]
  · cases hr


theorem eff_copy {C : CE} {args : Array Operand} {ts : Array TypeId} {t e : TypeId} {rest : List TypeId} {size : Nat} {d s : X} (hts : ts.toList = t :: rest) (ht : C.P.underlying t = some (.slice e)) (hs : sizeT C.P e = some size) (hx : compXs C args.toList = some [d, s]) :
    EffOk C (.call { callee := .builtin .copy, args := args, argTypes := ts }) (.copy size d s) := by
  intro ρ tm A hT hG B w0 h w R v h' hr
  obtain ⟨y1, y2, hy, r1, r2⟩ := args2 hx hT hG
  simp only [ED.run, copyV, ob_some] at hr
  obtain ⟨⟨n, cs⟩, he, hr⟩ := hr
  obtain ⟨xs, e1, e2, e3, e4, e5⟩ := elems_ok (P := C.P) R r2 he
  have unf : ∀ (ty : TypeId) (base : Option Addr) (len cap : Nat), y1 = .slice base len cap → (Builtin.copy_ ts ty #[y1, y2]).run C.P w = ((match base with | some a => storeCells a (xs.take (Nat.min n len * size)) | none => pure () : Sem Unit).run C.P w).andThen fun _ w => .ok (goInt (Nat.min n len)) w := fun ty base len cap hy1 => by
    subst hy1
    have e4' := e4 (Nat.min n len) (Nat.min_le_left _ _)
    cases base <;> simp [Builtin.copy_, tsHead hts, run_underlying ht, e3, run_sizeT hs, e4']
  simp only at hr
  split at hr
  · rename_i c e'
    rw [e'] at r1
    cases r1
    cases hr
    refine ⟨ρ, _, w, Step.refl _ _, .int .i64 _, R, fun p hp => .inl ?_⟩
    rw [builtin_run p hp, hy]
    have := unf p.type none 0 c rfl
    simp [Go.builtin, this, goInt]
  · rename_i l off len cap e'
    rw [e'] at r1
    obtain ⟨b, c, hb, rfl⟩ := slice_inv r1
    simp only [ob_some] at hr
    obtain ⟨q, hq, hr⟩ := hr
    have hq' := (e1.takeN hq).1
    split at hr
    · simp only [Option.some.injEq, Prod.mk.injEq] at hr
      obtain ⟨rfl, rfl⟩ := hr
      refine ⟨ρ, _, w, Step.refl _ _, .int .i64 _, R, fun p hp => .inl ?_⟩
      rw [builtin_run p hp, hy]
      have h0 : xs.take (Nat.min n len * size) = [] := by
        generalize xs.take (Nat.min n len * size) = l at hq'
        cases hq'; rfl
      have := unf p.type _ len c rfl
      rw [h0] at this
      simp [Go.builtin, this, goInt, storeCells]
    · simp only [ob_some, Option.some.injEq, Prod.mk.injEq] at hr
      obtain ⟨h1, hst, rfl, rfl⟩ := hr
      obtain ⟨s1, s2⟩ := R.store hb hst hq'
      obtain ⟨_, _, _, _, _, _, _, _, _, _, rfl⟩ := storeV_some hst
      refine ⟨ρ, _, _, Step.same rfl, .int .i64 _, s2, fun p hp => .inl ?_⟩
      rw [builtin_run p hp, hy]
      have := unf p.type _ len c rfl
      simp [Go.builtin, this, goInt, s1]
  · cases hr

/-! ### bytes of a text -/

theorem appendCap_ge (need old t : Nat) (e : TypeId) : need ≤ (Question.appendCap need old e).cut t := by
  show need ≤ need + t % (2 ^ 63 - need)
  exact Nat.le_add_right _ _

theorem frozen_freeze_row {w : World} {b n k : Nat} {c : Array Value} {e : TypeId} {lo hi : Nat} (h : w.heap[b]? = some (.cells c e (lo, hi))) (hk : k ≠ 0) :
    (w.freeze ⟨b, n, none⟩ k).heap[b]? = some (.cells c e (if lo == hi then (n, n + k) else (min lo n, max hi (n + k)))) := by
  unfold World.freeze
  rw [if_neg hk]
  simp [Array.getElem?_modify, h]

theorem heap_freeze_ne {w : World} {a : Addr} {k i : Nat} (hi : i ≠ a.block) : (w.freeze a k).heap[i]? = w.heap[i]? := by
  unfold World.freeze
  split
  · rfl
  · simp only [Array.getElem?_modify]; rw [if_neg (Ne.symm hi)]

theorem size_freeze (w : World) (a : Addr) (k : Nat) : (w.freeze a k).heap.size = w.heap.size ∧ (w.freeze a k).os = w.os ∧ (w.freeze a k).tape = w.tape ∧ (w.freeze a k).output = w.output := by
  unfold World.freeze
  split
  · exact ⟨rfl, rfl, rfl, rfl⟩
  · exact ⟨by simp, rfl, rfl, rfl⟩

theorem eff_strBytes {C : CE} {s t e : TypeId} {y : Operand} {x : X} (hs : C.P.underlying s = some .string) (ht : C.P.underlying t = some (.slice e)) (he : C.P.underlying e = some (.int .u8)) (hx : compX C y = some x) :
    EffOk C (.convert s t y) (.strBytes e x) := by
  intro ρ tm A hT hG B w0 h w R v h' hr
  have r := compX_ok hT hG hx
  simp only [ED.run] at hr
  split at hr
  · rename_i b e'
    rw [e'] at r
    generalize hy : A.eval y = u at r
    cases r with | str u =>
    simp only [chk_some, Option.some.injEq, Prod.mk.injEq] at hr
    obtain ⟨hlen, rfl, rfl⟩ := hr
    have hq : (Question.appendCap u.size 0 e).forced = false := rfl
    obtain ⟨cap, hcap⟩ : ∃ cap, cap = (Question.appendCap u.size 0 e).cut (w.tape w.drawn (.appendCap u.size 0 e)) := ⟨_, rfl⟩
    have hge : u.size ≤ cap := by rw [hcap]; exact appendCap_ge _ _ _ _
    have R1 := (R.drew).row (natCells_ok (ρ := ρ) u) (List.replicate (cap - u.size) (Value.int .u8 0)) e 0 .marked
    have hd : u.data.toList.length = u.size := by simp
    have hn : ((u.data.toList.map fun b => Value.int .u8 (b.toNat : Int)) ++ List.replicate (cap - u.size) (Value.int .u8 0)).length = cap := by
      simp only [List.length_append, List.length_map, hd, List.length_replicate]; omega
    have harr : (⟨(u.data.toList.map fun b => Value.int .u8 (b.toNat : Int)) ++ List.replicate (cap - u.size) (Value.int .u8 0)⟩ : Array Value) = (u.data.map fun b => Value.int .u8 (b.toNat : Int)) ++ Array.replicate (cap - u.size) (Value.int .u8 0) := by
      apply Array.ext'; simp
    rw [hn, harr] at R1
    generalize hcells : (u.data.map fun b => Value.int .u8 (b.toNat : Int)) ++ Array.replicate (cap - u.size) (Value.int .u8 0) = cells at R1
    have hcs : cells.size = cap := by rw [← hcells, ← harr]; simpa using hn
    have hnew : (w.drew.alloc (.cells cells e)).heap[w.heap.size]? = some (.cells cells e (0, 0)) := heap_alloc_new (w := w.drew) _
    have hfz := frozen_freeze_row (n := cap) hnew (k := 1) (by omega)
    simp only [beq_self_eq_true, if_true] at hfz
    obtain ⟨z1, z2, z3, z4⟩ := size_freeze (w.drew.alloc (.cells cells e)) ⟨w.heap.size, cap, none⟩ 1
    -- the mark
    have hself : (h.add (.cells (natCells (natsOf u)) e 0 .marked)).get h.next = some (.cells (natCells (natsOf u)) e 0 .marked) := H.get_add_self h _
    have cr : CRel (upd ρ h.next (Blk.mk w.heap.size 0 cap .nilFunc)) (Blk.mk w.heap.size 0 cap .nilFunc) (natCells (natsOf u)) e 0 .marked (w.drew.alloc (.cells cells e)) := R1.obj h.next _ _ (upd_self _ _ _) hself
    have R2 := R1.change (w' := (w.drew.alloc (.cells cells e)).freeze ⟨w.heap.size, cap, none⟩ 1) (p := .cells (natCells (natsOf u)) e 0 .marked) (upd_self _ _ _) hself rfl z1 (fun k hk => heap_freeze_ne hk) z2 z3 z4 (by
      refine ⟨?_, cr.fits, fun i v hv => ?_, fun _ i _ hi => ?_, fun ho => by cases ho⟩
      · simp only [World.shape?, hfz, hcs]
      · obtain ⟨q, hq1, hq2⟩ := cr.cell i v hv
        refine ⟨q, ?_, hq2⟩
        unfold cellAd at hq1 ⊢
        simp only [World.cell?, hnew] at hq1
        simp only [World.cell?, hfz]
        exact hq1
      · have hi : i < cap := hi
        simp only [World.frozen?, hfz]
        have : ¬ cap ≤ i := by omega
        simp [this])
    have hset : (h.add (.cells (natCells (natsOf u)) e 0 .marked)).set h.next (.cells (natCells (natsOf u)) e 0 .marked) = h.add (.cells (natCells (natsOf u)) e 0 .marked) := by
      unfold H.set H.add
      simp only [T.set_set]
    rw [hset] at R2
    refine EffOk.ret (s := convert s t (.string u)) (Step.add _ _ _ _) (.sliceEnd 0 (natsOf u).length 1 cap (upd_self _ _ _) (by rw [natsOf_length]; exact hge) (by simp)) R2 ?_ fun p hp => by unfold execOp; rw [hp]; simp only [hy]
    unfold convert
    simp only [Sem.run_bind, run_underlying hs, run_underlying ht, Result.andThen_ok, run_underlying he]
    simp only [Conv.stringToBytes, Sem.run_bind, run_choose, hq, Bool.false_eq_true, if_false, ← hcap, Result.andThen_ok, newRow, run_newObj, Sem.run_pure, hcells, markStringish, run_shape]
    have hsh0 : (w.drew.alloc (.cells cells e)).shape? w.heap.size = some (e, cap) := by simp only [World.shape?, hnew, hcs]
    have hsh : World.shape? { heap := w.heap.push (Go.Obj.cells cells e), tape := w.tape, drawn := w.drawn + 1, os := w.os, output := w.output } w.heap.size = some (e, cap) := hsh0
    simp only [hsh, run_freeze, Result.andThen_ok, natsOf_length]
    rfl
  · cases hr


theorem eff_unsafeStr {C : CE} {args : Array Operand} {ts : Array TypeId} {t u e : TypeId} {x n : X} (hts : ts.toList = [t, u]) (ht : C.P.underlying t = some (.pointer e)) (hs : sizeT C.P e = some 1) (hx : compXs C args.toList = some [x, n]) :
    EffOk C (.call { callee := .builtin .unsafeString, args := args, argTypes := ts }) (.unsafeStr e x n) := by
  intro ρ tm A hT hG B w0 h w R v h' hr
  obtain ⟨y1, y2, hy, r1, r2⟩ := args2 hx hT hG
  have hts' := two_of_list hts
  subst hts'
  simp only [ED.run] at hr
  unfold unsafeStrV at hr
  split at hr
  · rename_i e1 e2
    rw [e1] at r1; rw [e2] at r2
    cases r1; cases r2; cases hr
    refine ⟨ρ, _, w, Step.refl _ _, .str ByteArray.empty, R, fun p hp => .inl ?_⟩
    rw [builtin_run p hp, hy]
    have := Lib.run_unsafeString_none (P := C.P) w t u p.type none
    have h2 : (Builtin.unsafeString_ #[t, u] p.type #[.pointer none, .int .i64 (Int.ofNat 0)]).run C.P w = .ok (.string .empty) w := this
    simp [Go.builtin] at h2 ⊢
    simp [h2]
  · rename_i l off e1 e2
    rw [e1] at r1; rw [e2] at r2
    obtain ⟨b, hb, rfl⟩ := ptr_inv r1
    cases r2; cases hr
    refine ⟨ρ, _, w, Step.refl _ _, .str ByteArray.empty, R, fun p hp => .inl ?_⟩
    rw [builtin_run p hp, hy]
    have := Lib.run_unsafeString_none (P := C.P) w t u p.type (some ⟨b.block, b.base + off, none⟩)
    have h2 : (Builtin.unsafeString_ #[t, u] p.type #[.pointer (some ⟨b.block, b.base + off, none⟩), .int .i64 (Int.ofNat 0)]).run C.P w = .ok (.string .empty) w := this
    simp [Go.builtin] at h2 ⊢
    simp [h2]
  · rename_i l m e1 e2
    rw [e1] at r1; rw [e2] at r2
    obtain ⟨b, hb, rfl⟩ := ptr_inv r1
    cases r2
    have hb0 := (R.base l b hb).1
    split at hr
    · rename_i vs el fz hg
      simp only [chk_some, ob_some, Option.some.injEq, Prod.mk.injEq, Bool.and_eq_true] at hr
      obtain ⟨⟨hel, hm⟩, q, hq, bs, hbs, rfl, rfl⟩ := hr
      have hel : el = e := Nat.eq_of_beq_eq_true hel
      subst hel
      have hm := Nat.le_of_ble_eq_true hm
      have cr : CRel ρ b vs el fz .yes w := R.obj l b _ hb hg
      have hle := takeN_le hq
      have hfit := cr.fits
      obtain ⟨xs, x1, x2, x3⟩ := cr.range (show rowFrom vs 0 (m + 1) = some q from hq)
      obtain ⟨us, rfl, rfl⟩ := bytesIn_ok hbs x1
      have hul : us.length = m + 1 := by simpa using x2
      obtain ⟨c, lo, hi, hrow, hhi, hlo⟩ := cr.bare rfl
      obtain ⟨lo', hi', hfr, hhi', hlo'⟩ : ∃ lo' hi', (w.freeze ⟨b.block, 0, none⟩ (m + 1)).heap[b.block]? = some (.cells c el (lo', hi')) ∧ hi' ≤ max hi (m + 1) ∧ lo' ≤ hi' := by
        have hfr := frozen_freeze_row (n := 0) hrow (k := m + 1) (by omega)
        by_cases hlh : (lo == hi) = true
        · rw [if_pos hlh] at hfr
          exact ⟨_, _, hfr, by omega, by omega⟩
        · rw [if_neg hlh] at hfr
          exact ⟨_, _, hfr, by omega, by omega⟩
      obtain ⟨z1, z2, z3, z4⟩ := size_freeze w ⟨b.block, 0, none⟩ (m + 1)
      have hcs : c.size = b.total := by
        have := cr.shape
        simp only [World.shape?, hrow] at this
        simpa using this
      have R2 := R.change (w' := w.freeze ⟨b.block, 0, none⟩ (m + 1)) (p := .cells vs el (Nat.max fz (m + 1)) .yes) hb hg rfl z1 (fun k hk => heap_freeze_ne hk) z2 z3 z4 (by
        have hmx : (Nat.max fz (m + 1)) = max fz (m + 1) := rfl
        refine ⟨?_, hfit, fun i v hv => ?_, fun _ i hi1 hi2 => ?_, fun _ => ⟨c, _, _, hfr, ?_, hlo'⟩⟩
        · simp only [World.shape?, hfr, hcs]
        · obtain ⟨q, hq1, hq2⟩ := cr.cell i v hv
          refine ⟨q, ?_, hq2⟩
          unfold cellAd at hq1 ⊢
          simp only [World.cell?, hrow] at hq1
          simp only [World.cell?, hfr]
          exact hq1
        · rw [hmx, hb0] at hi1
          rw [hb0] at hhi
          simp only [World.frozen?, hfr]
          simp only [Bool.and_eq_false_iff, decide_eq_false_iff_not]; right; omega
        · rw [hmx, hb0]
          rw [hb0] at hhi
          omega)
      refine ⟨ρ, .string ⟨us.toArray⟩, _, Step.same rfl, by rw [← natsOf_mk]; exact .str _, R2, fun p hp => .inl ?_⟩
      rw [builtin_run p hp, hy]
      have := Lib.run_unsafeString_row (P := C.P) w t u p.type el ht (cellsOf_size hs) b.block b.total cr.shape us (by intro h0; rw [h0] at hul; simp at hul) (by omega) (by omega) (fun j a ha => by
        rw [addr_add]
        have := x3 j (Value.int .u8 a.toNat) (by simp [List.getElem?_map, ha])
        rw [hb0] at this
        simpa using this)
      rw [hul] at this
      rw [hb0]
      have h2 : (Builtin.unsafeString_ #[t, u] p.type #[.pointer (some ⟨b.block, 0 + 0, none⟩), .int .i64 (Int.ofNat (m + 1))]).run C.P w = .ok (.string ⟨us.toArray⟩) (w.freeze ⟨b.block, 0, none⟩ (m + 1)) := this
      simp only [Go.builtin, Sem.run_bind, h2, Result.andThen_ok, Sem.run_pure]
    · cases hr
  · cases hr

theorem eff_sameBytes {C : CE} {s e0 e : TypeId} {y : Operand} {x : X} (_hs0 : C.P.underlying s = some (.slice e0)) (hs : C.P.underlying s = some (.slice e)) (he : C.P.underlying e = some (.int .u8)) (hx : compX C y = some x) :
    EffOk C (.convert s s y) (.sameBytes x) := by
  intro ρ tm A hT hG B w0 h w R v h' hr
  have r := compX_ok hT hG hx
  generalize hyv : A.eval y = yv at r
  simp only [ED.run] at hr
  split at hr
  · rename_i l off n cp e1
    rw [e1] at r
    split at hr
    · rename_i vs el hg
      cases hr
      obtain ⟨b, c, hb, rfl⟩ := slice_inv r
      have hb0 := (R.base l b hb).1
      have cr : CRel ρ b vs el 0 .yes w := R.obj l b _ hb hg
      have hfit := cr.fits
      obtain ⟨cs, lo, hi, hrow, hhi, hlo⟩ := cr.bare rfl
      have hcs : cs.size = b.total := by
        have := cr.shape
        simp only [World.shape?, hrow] at this
        simpa using this
      have hfr := frozen_freeze_row (n := b.total) hrow (k := 1) (by omega)
      have hlh : (lo == hi) = true := by simp; omega
      rw [if_pos hlh] at hfr
      obtain ⟨z1, z2, z3, z4⟩ := size_freeze w ⟨b.block, b.total, none⟩ 1
      have R2 := R.change (w' := w.freeze ⟨b.block, b.total, none⟩ 1) (p := .cells vs el 0 .marked) hb hg rfl z1 (fun k hk => heap_freeze_ne hk) z2 z3 z4 (by
        refine ⟨?_, hfit, fun i v hv => ?_, fun _ i hi1 hi2 => ?_, fun q => by cases q⟩
        · simp only [World.shape?, hfr, hcs]
        · obtain ⟨q, hq1, hq2⟩ := cr.cell i v hv
          refine ⟨q, ?_, hq2⟩
          unfold cellAd at hq1 ⊢
          simp only [World.cell?, hrow] at hq1
          simp only [World.cell?, hfr]
          exact hq1
        · simp only [World.frozen?, hfr]
          simp only [Bool.and_eq_false_iff, decide_eq_false_iff_not]; left; omega)
      refine ⟨ρ, _, _, Step.same rfl, r, R2, fun p hp => .inl ?_⟩
      unfold execOp
      rw [hp]
      have hsh : w.shape? b.block = some (el, b.total) := cr.shape
      simp [hyv, convert, run_underlying hs, run_underlying he, markStringish, hsh]
    · cases hr
  · cases hr

theorem T.set_self {α : Type} : ∀ {p : Lb} {t : T α} {x : α}, t.get p = some x → t.set p (some x) = t
  | p, .leaf, x, h => by rw [T.get_leaf] at h; cases h
  | [], .node l v r, x, h => by simp only [T.get] at h; simp only [T.set, h]
  | true :: p, .node l v r, x, h => by simp only [T.get] at h; simp only [T.set, T.set_self h]
  | false :: p, .node l v r, x, h => by simp only [T.get] at h; simp only [T.set, T.set_self h]

/-- A text's bytes, where their label was laid ahead. -/
theorem strBytes_laid {B : Nat} {w0 w : World} {ρ : Rho} {h : H} {s t e : TypeId} {L : Lb} {u : ByteArray} (hs : P.underlying s = some .string) (ht : P.underlying t = some (.slice e)) (he : P.underlying e = some (.int .u8))
    (R : HRel B w0 ρ h w) (hnone : ρ L = none) (hlt : val L < val h.next) (hget : h.get L = some (.cells (natCells (natsOf u)) e 0 .marked)) :
    ∃ cap w', u.size ≤ cap ∧ HRel B w0 (upd ρ L (Blk.mk w.heap.size 0 cap .nilFunc)) h w' ∧ (convert s t (.string u)).run P w = .ok (.slice (some ⟨w.heap.size, 0, none⟩) u.size cap) w' := by
  have hq : (Question.appendCap u.size 0 e).forced = false := rfl
  obtain ⟨cap, hcap⟩ : ∃ cap, cap = (Question.appendCap u.size 0 e).cut (w.tape w.drawn (.appendCap u.size 0 e)) := ⟨_, rfl⟩
  have hge : u.size ≤ cap := by rw [hcap]; exact appendCap_ge _ _ _ _
  have hE : Ext' ρ (upd ρ L (Blk.mk w.heap.size 0 cap .nilFunc)) := upd_ext hnone
  have hd : u.data.toList.length = u.size := by simp
  have hn : ((u.data.toList.map fun b => Value.int .u8 (b.toNat : Int)) ++ List.replicate (cap - u.size) (Value.int .u8 0)).length = cap := by
    simp only [List.length_append, List.length_map, hd, List.length_replicate]; omega
  have harr : (⟨(u.data.toList.map fun b => Value.int .u8 (b.toNat : Int)) ++ List.replicate (cap - u.size) (Value.int .u8 0)⟩ : Array Value) = (u.data.map fun b => Value.int .u8 (b.toNat : Int)) ++ Array.replicate (cap - u.size) (Value.int .u8 0) := by
    apply Array.ext'; simp
  have hcr : CRel (upd ρ L (Blk.mk w.drew.heap.size 0 ((u.data.toList.map fun b => Value.int .u8 (b.toNat : Int)) ++ List.replicate (cap - u.size) (Value.int .u8 0)).length .nilFunc)) (Blk.mk w.drew.heap.size 0 ((u.data.toList.map fun b => Value.int .u8 (b.toNat : Int)) ++ List.replicate (cap - u.size) (Value.int .u8 0)).length .nilFunc) (natCells (natsOf u)) e 0 .marked (w.drew.alloc (.cells ⟨(u.data.toList.map fun b => Value.int .u8 (b.toNat : Int)) ++ List.replicate (cap - u.size) (Value.int .u8 0)⟩ e)) :=
    CRel.new (rest := List.replicate (cap - u.size) (Value.int .u8 0)) ((natCells_ok (ρ := ρ) u).mono (by rw [hn]; exact hE)) e 0 .marked
  have R1 := (R.drew).laid (h' := h) (l := L) (o := .cells (natCells (natsOf u)) e 0 .marked) (x := .cells ⟨(u.data.toList.map fun b => Value.int .u8 (b.toNat : Int)) ++ List.replicate (cap - u.size) (Value.int .u8 0)⟩ e)
    (b := (Blk.mk w.drew.heap.size 0 ((u.data.toList.map fun b => Value.int .u8 (b.toNat : Int)) ++ List.replicate (cap - u.size) (Value.int .u8 0)).length .nilFunc)) rfl ⟨rfl, rfl⟩ hnone hlt (Nat.le_refl _) hget (fun _ _ => rfl) hcr
  rw [hn, harr] at R1
  clear hcr
  generalize hcells : (u.data.map fun b => Value.int .u8 (b.toNat : Int)) ++ Array.replicate (cap - u.size) (Value.int .u8 0) = cells at R1
  have hcs : cells.size = cap := by rw [← hcells, ← harr]; simpa using hn
  have hnew : (w.drew.alloc (.cells cells e)).heap[w.heap.size]? = some (.cells cells e (0, 0)) := heap_alloc_new (w := w.drew) _
  have hfz := frozen_freeze_row (n := cap) hnew (k := 1) (by omega)
  simp only [beq_self_eq_true, if_true] at hfz
  obtain ⟨z1, z2, z3, z4⟩ := size_freeze (w.drew.alloc (.cells cells e)) ⟨w.heap.size, cap, none⟩ 1
  have R1 : HRel B w0 (upd ρ L (Blk.mk w.heap.size 0 cap .nilFunc)) h (w.drew.alloc (.cells cells e)) := R1
  have cr : CRel (upd ρ L (Blk.mk w.heap.size 0 cap .nilFunc)) (Blk.mk w.heap.size 0 cap .nilFunc) (natCells (natsOf u)) e 0 .marked (w.drew.alloc (.cells cells e)) := R1.obj L _ _ (upd_self _ _ _) hget
  have R2 := R1.change (w' := (w.drew.alloc (.cells cells e)).freeze ⟨w.heap.size, cap, none⟩ 1) (p := .cells (natCells (natsOf u)) e 0 .marked) (upd_self _ _ _) hget rfl z1 (fun k hk => heap_freeze_ne hk) z2 z3 z4 (by
    refine ⟨?_, cr.fits, fun i v hv => ?_, fun _ i _ hi => ?_, fun ho => by cases ho⟩
    · simp only [World.shape?, hfz, hcs]
    · obtain ⟨q, hq1, hq2⟩ := cr.cell i v hv
      refine ⟨q, ?_, hq2⟩
      unfold cellAd at hq1 ⊢
      simp only [World.cell?, hnew] at hq1
      simp only [World.cell?, hfz]
      exact hq1
    · have hi : i < cap := hi
      simp only [World.frozen?, hfz]
      have : ¬ cap ≤ i := by omega
      simp [this])
  have hset : h.set L (.cells (natCells (natsOf u)) e 0 .marked) = h := by
    unfold H.set
    have : h.t.set L (some (.cells (natCells (natsOf u)) e 0 .marked)) = h.t := T.set_self hget
    rw [this]
  rw [hset] at R2
  refine ⟨cap, _, hge, R2, ?_⟩
  unfold convert
  simp only [Sem.run_bind, run_underlying hs, run_underlying ht, Result.andThen_ok, run_underlying he]
  simp only [Conv.stringToBytes, Sem.run_bind, run_choose, hq, Bool.false_eq_true, if_false, ← hcap, Result.andThen_ok, newRow, run_newObj, Sem.run_pure, hcells, markStringish, run_shape]
  have hsh0 : (w.drew.alloc (.cells cells e)).shape? w.heap.size = some (e, cap) := by simp only [World.shape?, hnew, hcs]
  have hsh : World.shape? { heap := w.heap.push (Go.Obj.cells cells e), tape := w.tape, drawn := w.drawn + 1, os := w.os, output := w.output } w.heap.size = some (e, cap) := hsh0
  simp only [hsh, run_freeze, Result.andThen_ok]
  rfl

/-- A slice of constants, where its label was laid ahead. -/
theorem buildSlice_laid {C : CE} {B : Nat} {w0 w : World} {ρ : Rho} {h : H} {tm : T V} {A : Act} {t e : TypeId} {size n : Nat} {z : V} {ps : Array (Nat × Operand)} {l : List (Nat × X)} {cs : List V} {L : Lb} (hT : TRel ρ C.n tm A.tmps) (hG : GRel ρ C.G)
    (hu : C.P.underlying t = some (.slice e)) (hs : sizeT C.P e = some size) (hz : zeroT C.P e = some z) (hn : n * size ≤ 65536) (hzs : z.cells.length = size) (h0 : 0 < size) (hl : compPairs C ps.toList = some l) (hc : constParts size l (repeatCells z.cells n) = some cs)
    (R : HRel B w0 ρ h w) (hnone : ρ L = none) (hlt : val L < val h.next) (hget : h.get L = some (.cells cs e 0 .yes)) :
    ∃ (m : Nat) (w' : World), HRel B w0 (upd ρ L (Blk.mk w.heap.size 0 m .nilFunc)) h w' ∧ (Instr.buildSlice t n (ps.map fun (i, x) => (i, A.eval x))).run C.P w = .ok (.slice (some ⟨w.heap.size, 0, none⟩) n n) w' := by
  obtain ⟨x, hx, hzr⟩ := run_zeroT (ρ := ρ) hz
  have hrep := hx.cells.repeat hzs h0 n
  obtain ⟨arr, f1, f2⟩ := fillParts_ok (A := A) hT hG hl hrep (constParts_fill tm hc)
  have hE : Ext' ρ (upd ρ L (Blk.mk w.heap.size 0 (arr.toList ++ ([] : List Value)).length .nilFunc)) := upd_ext hnone
  have hcr : CRel (upd ρ L (Blk.mk w.heap.size 0 (arr.toList ++ []).length .nilFunc)) (Blk.mk w.heap.size 0 (arr.toList ++ []).length .nilFunc) cs e 0 .yes (w.alloc (.cells ⟨arr.toList ++ []⟩ e)) := CRel.new (rest := []) (f2.mono hE) e 0 .yes
  have R' := R.laid (h' := h) (o := .cells cs e 0 .yes) (x := .cells ⟨arr.toList ++ []⟩ e) (b := (Blk.mk w.heap.size 0 (arr.toList ++ ([] : List Value)).length .nilFunc)) rfl ⟨rfl, rfl⟩ hnone hlt (Nat.le_refl _) hget (fun _ _ => rfl) hcr
  refine ⟨_, _, R', ?_⟩
  have e1 : (ps.map fun (i, x) => (i, A.eval x)).toList = ps.toList.map fun p => (p.1, A.eval p.2) := by simp
  by_cases hns : n * size = 0
  · have hn0 : n = 0 := by rcases Nat.mul_eq_zero.1 hns with h | h <;> omega
    subst hn0
    have f1' : Instr.fill (fun i => some (i * size, size)) ((Array.range 0).map ((#[] : Array Value)[· % 0]!)) (ps.toList.map fun p => (p.1, A.eval p.2)) = some arr := by
      rw [← f1]; congr 1; simp
    simp only [Instr.buildSlice, Sem.run_bind, run_underlying hu, Result.andThen_ok, run_sizeT hs, Nat.zero_mul]
    simp [newRow]
    simp at f1'
    rw [f1']
    simp
  · have : ¬ (n * size > 2 ^ 24) := by omega
    simp only [Instr.buildSlice, Sem.run_bind, run_underlying hu, Result.andThen_ok, run_sizeT hs, if_neg this, Sem.run_pure, if_neg hns, hzr, e1]
    rw [f1]
    simp [newRow]

end
end Go.Dx
namespace Go.Dx
open Go Go.RowKit

section
variable {P : Program} {B : Nat} {w0 : World} {ρ ρ' : Rho} {h h' : H} {w : World}

theorem REs.get {es : List (V × V × Nat)} {ms : List MapEntry} (r : REs ρ es ms) : ∀ {i : Nat} {k v : V} {n : Nat}, es[i]? = some (k, v, n) → ∃ m, ms[i]? = some m ∧ RV ρ k m.key ∧ RV ρ v m.val ∧ m.born = n := by
  induction r with
  | nil => intro i k v n h; simp at h
  | cons hk hv hn _ ih =>
    intro i k v n h
    cases i with
    | zero => simp at h; obtain ⟨rfl, rfl, rfl⟩ := h; exact ⟨_, rfl, hk, hv, hn⟩
    | succ i => simp at h; simpa using ih h

theorem REs.push {es : List (V × V × Nat)} {ms : List MapEntry} (r : REs ρ es ms) {k v : V} {m : MapEntry} {n : Nat} (hk : RV ρ k m.key) (hv : RV ρ v m.val) (hn : m.born = n) : REs ρ (es ++ [(k, v, n)]) (ms ++ [m]) := by
  induction r with
  | nil => exact .cons hk hv hn .nil
  | cons hk' hv' hn' _ ih => exact .cons hk' hv' hn' ih

theorem REs.setNth {es : List (V × V × Nat)} {ms : List MapEntry} (r : REs ρ es ms) {k v : V} (f : MapEntry → MapEntry) : ∀ {i : Nat}, (∀ m, ms[i]? = some m → RV ρ k (f m).key ∧ RV ρ v (f m).val ∧ (f m).born = m.born) → REs ρ (setNth es i k v) (ms.modify i f) := by
  induction r with
  | nil => intro i _; cases i <;> exact .nil
  | @cons k' v' n m es ms hk' hv' hn' hs ih =>
    intro i hf
    cases i with
    | zero =>
      obtain ⟨a, b, c⟩ := hf m rfl
      simp only [Dx.setNth, List.modify_cons]
      exact .cons a b (c.trans hn') hs
    | succ i =>
      simp only [Dx.setNth, List.modify_cons]
      rw [if_neg (by omega)]
      exact .cons hk' hv' hn' (ih fun m' hm' => hf m' (by simpa using hm'))

theorem REs.erase {es : List (V × V × Nat)} {ms : List MapEntry} (r : REs ρ es ms) : ∀ i, REs ρ (eraseNth es i) (ms.eraseIdx i) := by
  induction r with
  | nil => intro i; exact .nil
  | cons hk' hv' hn' hs ih =>
    intro i
    cases i with
    | zero => exact hs
    | succ i => exact .cons hk' hv' hn' (ih i)

theorem REs.bornAt {es : List (V × V × Nat)} {ms : List MapEntry} (r : REs ρ es ms) : ∀ {i : Nat} {m : MapEntry}, ms[i]? = some m → bornAt es i = m.born := by
  induction r with
  | nil => intro i m h; simp at h
  | cons hk' hv' hn' hs ih =>
    intro i m h
    cases i with
    | zero => simp at h; subst h; exact hn'.symm
    | succ i => simp at h; exact ih h

theorem REs.setBorn {es : List (V × V × Nat)} {ms : List MapEntry} (r : REs ρ es ms) {b : Nat} {v : V} {x : Value} (hv : RV ρ v x) : ∀ {es' : List (V × V × Nat)}, setBorn es b v = some es' →
    ∃ i, ms.findIdx? (fun e => (e.born : Int) == (b : Int)) = some i ∧ REs ρ es' (ms.modify i fun e => { e with val := x }) := by
  induction r with
  | nil => intro es' h; simp [Dx.setBorn] at h
  | @cons k' v' n m es ms hk' hv' hn' hs ih =>
    intro es' h
    simp only [Dx.setBorn] at h
    split at h
    · rename_i hb
      cases h
      have hb : n = b := Nat.eq_of_beq_eq_true hb
      refine ⟨0, by simp [List.findIdx?_cons, hn', hb], ?_⟩
      simp only [List.modify_cons]
      exact .cons hk' hv hn' hs
    · rename_i hb
      simp only [ob_some, Option.some.injEq] at h
      obtain ⟨q, hq, rfl⟩ := h
      obtain ⟨i, h1, h2⟩ := ih hq
      have hne : ¬ n = b := fun e => by rw [e] at hb; simp at hb
      refine ⟨i + 1, ?_, ?_⟩
      · have : ((m.born : Int) == (b : Int)) = false := by
          rw [hn']; simp; omega
        simp [List.findIdx?_cons, this, h1]
      · simp only [List.modify_cons]
        rw [if_neg (by omega)]
        exact .cons hk' hv' hn' h2

theorem findK_key {pk : PK} {k : V} : ∀ {es : List (V × V × Nat)} {j : Nat} {v : V}, findK pk k es = some (some (j, v)) → ∃ k' n, es[j]? = some (k', v, n) ∧ cellEq pk k k' = some true
  | [], j, v, h => by simp [findK] at h
  | (x, u, n) :: es, j, v, h => by
    simp only [findK, ob_some] at h
    obtain ⟨b, hb, h⟩ := h
    cases b with
    | true => simp at h; obtain ⟨rfl, rfl⟩ := h; exact ⟨x, n, rfl, hb⟩
    | false =>
      simp only [ob_some, Option.some.injEq] at h
      obtain ⟨q, hq, h⟩ := h
      cases q with
      | none => simp at h
      | some p =>
        simp at h
        obtain ⟨rfl, rfl⟩ := h
        obtain ⟨k', n', h1, h2⟩ := findK_key hq
        exact ⟨k', n', by simpa using h1, h2⟩

theorem sameBits_ok {pk : PK} {k u : V} {x y : Value} (hk : RV ρ k x) (hu : RV ρ u y) (h : cellEq pk k u = some true) (n : Nat) : Instr.sameBits n y x = true := by
  rcases cellEq_ok hk hu h with ⟨_, c, d, rfl, rfl, e⟩ | ⟨_, k', c, d, rfl, rfl, e⟩ | ⟨_, s, t, rfl, rfl, e⟩
  · have : c = d := by simpa using e.symm
    subst this; cases n <;> simp [Instr.sameBits]
  · have : c = d := by simpa using e.symm
    subst this; cases n <;> simp [Instr.sameBits]
  · have e2 : (t == s) = true := by
      rw [bytes_beq] at e ⊢
      have : s.data.toList = t.data.toList := by simpa using e.symm
      simp [this]
    cases n <;> simp [Instr.sameBits, e2]

theorem keyStays_ok {old new : Value} (h : Instr.sameBits 10000 old new = true) : (Instr.keyThatStays old new).run P w = .ok new w := by
  unfold Instr.keyThatStays
  rw [if_pos h]; rfl

/-- A map, changed in place. -/
theorem HRel.mapChange (R : HRel B w0 ρ h w) {l : Lb} {b : Blk} {es : List (V × V × Nat)} {clock : Nat} (hl : ρ l = some b) (hg : h.get l = some (.map es clock)) :
    ∃ ms : Array MapEntry, REs ρ es ms.toList ∧ (∀ P, (getObj b.block).run P w = .ok (.map ms clock) w) ∧ ∀ (es' : List (V × V × Nat)) (ms' : Array MapEntry) (c' : Nat), REs ρ es' ms'.toList →
      (∀ P, (Go.setObj b.block (.map ms' c')).run P w = .ok () { w with heap := w.heap.setIfInBounds b.block (.map ms' c') }) ∧ HRel B w0 ρ (h.set l (.map es' c')) { w with heap := w.heap.setIfInBounds b.block (.map ms' c') } := by
  obtain ⟨ms, h1, h2⟩ := R.obj l b _ hl hg
  refine ⟨ms, h2, fun P => by simp [getObj, Sem.run, h1], fun es' ms' c' hr => ⟨fun P => by simp [Go.setObj, Sem.run, h1], ?_⟩⟩
  exact R.setObj hl hg rfl fun w' hw' => ⟨ms', hw', hr⟩

theorem withMap_some {m : V} {f : Lb → List (V × V × Nat) → Nat → Option (V × H)} {r : V × H} (h' : withMap h m f = some r) : ∃ l es clock, m = .map l ∧ h.get l = some (.map es clock) ∧ f l es clock = some r := by
  unfold withMap at h'
  split at h'
  · split at h'
    · exact ⟨_, _, _, rfl, by assumption, h'⟩
    · cases h'
  · cases h'

theorem map_inv {l : Lb} {x : Value} (r : RV ρ (.map l) x) : ∃ b, ρ l = some b ∧ x = .map (some b.block) := by
  cases r with | map h => exact ⟨_, h, rfl⟩

theorem eff_makeMap {C : CE} {t : TypeId} : EffOk C (.makeMap t none) .makeMap := by
  intro ρ tm A hT hG B w0 h w R v h' hr
  cases hr
  have R' := R.add (o := .map [] 0) (x := .map #[] 0) (b := (Blk.mk w.heap.size 0 0 .nilFunc)) rfl ⟨rfl, rfl⟩ ⟨#[], heap_alloc_new _, .nil⟩
  refine EffOk.ret (s := Instr.makeMap t none) (Step.add _ _ _ _) (.map (upd_self _ _ _)) R' ?_ fun p hp => by unfold execOp; rw [hp]; rfl
  simp [Instr.makeMap]

theorem mapUpdate_run {C : CE} {t kt et : TypeId} {m k x : Operand} {mx kx xx : X} (hu : C.P.underlying t = some (.map kt et)) (hm : compX C m = some mx) (hk : compX C k = some kx) (hx : compX C x = some xx)
    {ρ : Rho} {tm : T V} {A : Act} (hT : TRel ρ C.n tm A.tmps) (hG : GRel ρ C.G) (R : HRel B w0 ρ h w) {v : V} (hr : (ED.mapUpdate (keyT C.P kt) mx kx xx).run tm h = some (v, h')) :
    v = undef ∧ ∃ w', Step ρ ρ h h' ∧ HRel B w0 ρ h' w' ∧ (Instr.mapUpdate t (A.eval m) (A.eval k) (A.eval x)).run C.P w = .ok () w' := by
  have rm := compX_ok hT hG hm
  have rk := compX_ok hT hG hk
  have rx := compX_ok hT hG hx
  simp only [ED.run, chk_some] at hr
  obtain ⟨hpk, hr⟩ := hr
  obtain ⟨d, hd1, hd2⟩ := keyT_ok hpk
  obtain ⟨l, es, clock, e1, hg, hr⟩ := withMap_some hr
  rw [e1] at rm
  obtain ⟨b, hb, hmx⟩ := map_inv rm
  obtain ⟨ms, hes, hget, hchg⟩ := R.mapChange hb hg
  simp only [mapSet, ob_some, Option.some.injEq, Prod.mk.injEq] at hr
  obtain ⟨o, ⟨f, hf, ho⟩, rfl, rfl⟩ := hr
  obtain ⟨f1, f2⟩ := findNow_ok hd2 rk hes hf 0
  refine ⟨rfl, ?_⟩
  cases f with
  | none =>
    simp only [Option.some.injEq] at ho
    subst ho
    obtain ⟨c1, c2⟩ := hchg (es ++ [(kx.ev tm, xx.ev tm, clock)]) (ms.push { key := A.eval k, val := A.eval x, born := clock }) (clock + 1) (by
      rw [Array.toList_push]; exact hes.push rk rx rfl)
    refine ⟨_, Step.same rfl, c2, ?_⟩
    unfold Instr.mapUpdate
    simp only [Sem.run_bind, run_underlying hu, Result.andThen_ok, hmx, hget, checkKey_ok hd1 hd2, findKey_run hd1 (f1 rfl), c1]
  | some p =>
    obtain ⟨j, u⟩ := p
    simp only [Option.some.injEq] at ho
    subst ho
    obtain ⟨en, g1, g2, g3⟩ := f2 j u rfl
    obtain ⟨k', n, k1, k2⟩ := findK_key hf
    obtain ⟨en', q1, q2, _, _⟩ := hes.get k1
    rw [g1] at q1; cases q1
    have hsb := sameBits_ok rk q2 k2 10000
    have hms : ms[j]? = some en := by simpa using g1
    obtain ⟨c1, c2⟩ := hchg (setNth es j (kx.ev tm) (xx.ev tm)) (ms.modify j fun e => { e with key := A.eval k, val := A.eval x }) clock (by
      rw [Array.toList_modify]; exact hes.setNth _ fun m _ => ⟨rk, rx, rfl⟩)
    refine ⟨_, Step.same rfl, c2, ?_⟩
    unfold Instr.mapUpdate
    have e0 : 0 + j = j := by omega
    rw [e0] at g3
    simp only [Sem.run_bind, run_underlying hu, Result.andThen_ok, hmx, hget, checkKey_ok hd1 hd2, findKey_run hd1 g3, hms, Option.map_some, Option.getD_some, keyStays_ok hsb, c1]

theorem eff_mapUpdate {C : CE} {t kt et : TypeId} {m k x : Operand} {mx kx xx : X} (hu : C.P.underlying t = some (.map kt et)) (hm : compX C m = some mx) (hk : compX C k = some kx) (hx : compX C x = some xx) : EffOk C (.mapUpdate t m k x) (.mapUpdate (keyT C.P kt) mx kx xx) := by
  intro ρ tm A hT hG B w0 h w R v h' hr
  obtain ⟨rfl, w', s1, s2, s3⟩ := mapUpdate_run hu hm hk hx hT hG R hr
  exact EffOk.none s1 s2 s3 fun p hp => by unfold execOp; rw [hp]

theorem eff_insert {C : CE} {t kt et : TypeId} {m k x : Operand} {mx kx xx : X} (hu : C.P.underlying t = some (.map kt et)) (hm : compX C m = some mx) (hk : compX C k = some kx) (hx : compX C x = some xx) : EffOk C (.insert t m k x) (.mapUpdate (keyT C.P kt) mx kx xx) := by
  intro ρ tm A hT hG B w0 h w R v h' hr
  obtain ⟨rfl, w', s1, s2, s3⟩ := mapUpdate_run hu hm hk hx hT hG R hr
  exact EffOk.none s1 s2 s3 fun p hp => by unfold execOp; rw [hp]

theorem eff_mapEntry {C : CE} {t kt et : TypeId} {m k : Operand} {z : V} {mx kx : X} (hu : C.P.underlying t = some (.map kt et)) (hz : zeroT C.P et = some z) (hm : compX C m = some mx) (hk : compX C k = some kx) : EffOk C (.mapEntry t m k) (.mapEntry (keyT C.P kt) z mx kx) := by
  intro ρ tm A hT hG B w0 h w R v h' hr
  have rm := compX_ok hT hG hm
  have rk := compX_ok hT hG hk
  obtain ⟨zx, hz1, hz2⟩ := run_zeroT (ρ := ρ) hz
  simp only [ED.run, chk_some] at hr
  obtain ⟨hpk, hr⟩ := hr
  obtain ⟨d, hd1, hd2⟩ := keyT_ok hpk
  obtain ⟨l, es, clock, e1, hg, hr⟩ := withMap_some hr
  rw [e1] at rm
  obtain ⟨b, hb, hmx⟩ := map_inv rm
  obtain ⟨ms, hes, hget, hchg⟩ := R.mapChange hb hg
  simp only [ob_some] at hr
  obtain ⟨f, hf, hr⟩ := hr
  obtain ⟨f1, f2⟩ := findNow_ok hd2 rk hes hf 0
  cases f with
  | none =>
    simp only [Option.some.injEq, Prod.mk.injEq] at hr
    obtain ⟨rfl, rfl⟩ := hr
    obtain ⟨c1, c2⟩ := hchg (es ++ [(kx.ev tm, z, clock)]) (ms.push { key := A.eval k, val := zx, born := clock }) (clock + 1) (by
      rw [Array.toList_push]; exact hes.push rk hz1 rfl)
    refine EffOk.ret (s := Instr.mapEntry t (A.eval m) (A.eval k)) (Step.same rfl) (.tuple (.cons hz1 (.cons (.int .i64 _) .nil))) c2 ?_ fun p hp => by unfold execOp; rw [hp]
    unfold Instr.mapEntry
    simp only [Sem.run_bind, run_underlying hu, Result.andThen_ok, hmx, hget, checkKey_ok hd1 hd2, findKey_run hd1 (f1 rfl), hz2, c1, Sem.run_pure]
    rfl
  | some p =>
    obtain ⟨j, u⟩ := p
    simp only [Option.some.injEq, Prod.mk.injEq] at hr
    obtain ⟨rfl, rfl⟩ := hr
    obtain ⟨en, g1, g2, g3⟩ := f2 j u rfl
    obtain ⟨k', n, k1, k2⟩ := findK_key hf
    obtain ⟨en', q1, q2, _, _⟩ := hes.get k1
    rw [g1] at q1; cases q1
    have hsb := sameBits_ok rk q2 k2 10000
    have hms : ms[j]? = some en := by simpa using g1
    obtain ⟨c1, c2⟩ := hchg (setNth es j (kx.ev tm) u) (ms.modify j fun e => { e with key := A.eval k }) clock (by
      rw [Array.toList_modify]
      exact hes.setNth _ fun m hm => by
        rw [g1] at hm; cases hm
        exact ⟨rk, g2, rfl⟩)
    refine EffOk.ret (s := Instr.mapEntry t (A.eval m) (A.eval k)) (Step.same rfl) (.tuple (.cons g2 (.cons (.int .i64 _) .nil))) c2 ?_ fun p hp => by unfold execOp; rw [hp]
    have e0 : 0 + j = j := by omega
    rw [e0] at g3
    unfold Instr.mapEntry
    simp only [Sem.run_bind, run_underlying hu, Result.andThen_ok, hmx, hget, checkKey_ok hd1 hd2, findKey_run hd1 g3, hms, Option.map_some, Option.getD_some, keyStays_ok hsb, c1, Sem.run_pure, hes.bornAt g1]
    rfl

theorem eff_entryStore {C : CE} {t : TypeId} {m s x : Operand} {mx sx xx : X} (hm : compX C m = some mx) (hs : compX C s = some sx) (hx : compX C x = some xx) : EffOk C (.entryStore t m s x) (.entryStore mx sx xx) := by
  intro ρ tm A hT hG B w0 h w R v h' hr
  have rm := compX_ok hT hG hm
  have rs := compX_ok hT hG hs
  have rx := compX_ok hT hG hx
  simp only [ED.run] at hr
  obtain ⟨l, es, clock, e1, hg, hr⟩ := withMap_some hr
  rw [e1] at rm
  obtain ⟨b, hb, hmx⟩ := map_inv rm
  obtain ⟨ms, hes, hget, hchg⟩ := R.mapChange hb hg
  split at hr
  · rename_i k n e2
    rw [e2] at rs
    generalize hsv : A.eval s = sv at rs
    cases rs
    simp only [ob_some, Option.some.injEq, Prod.mk.injEq] at hr
    obtain ⟨es', hset, rfl, rfl⟩ := hr
    obtain ⟨i, i1, i2⟩ := hes.setBorn rx hset
    obtain ⟨c1, c2⟩ := hchg es' (ms.modify i fun e => { e with val := A.eval x }) clock (by rw [Array.toList_modify]; exact i2)
    refine EffOk.none (s := Instr.entryStore t (A.eval m) (A.eval s) (A.eval x)) (Step.same rfl) c2 ?_ fun p hp => by unfold execOp; rw [hp]
    have i1' : ms.findIdx? (fun e => (e.born : Int) == (Int.ofNat n)) = some i := by
      rw [← i1]; cases ms; simp
    unfold Instr.entryStore
    simp only [Sem.run_bind, hmx, Sem.run_pure, Result.andThen_ok, hget, hsv, asInt, asIntOf, i1', c1]
  · cases hr

theorem eff_rangeMap {C : CE} {t kt et : TypeId} {y : Operand} {x : X} (hu : C.P.underlying t = some (.map kt et)) (hx : compX C y = some x) : EffOk C (.range t y) (.rangeMap x) := by
  intro ρ tm A hT hG B w0 h w R v h' hr
  have r := compX_ok hT hG hx
  simp only [ED.run] at hr
  generalize hyv : A.eval y = yv at r
  split at hr
  · rename_i e1
    rw [e1] at r; cases r; cases hr
    have R' := R.add (o := .mapIter none 0 [] 0) (x := .mapIter none 0 #[] 0) (b := (Blk.mk w.heap.size 0 0 .nilFunc)) rfl ⟨rfl, rfl⟩ ⟨rfl, none, heap_alloc_new _, rfl⟩
    refine EffOk.ret (s := Instr.range t (.map none)) (Step.add _ _ _ _) (.ptr 0 (upd_self _ _ _)) R' ?_ fun p hp => by unfold execOp; rw [hp]; simp only [hyv]
    simp [Instr.range, run_underlying hu]
  · rename_i l e1
    rw [e1] at r
    obtain ⟨b, hb, rfl⟩ := map_inv r
    split at hr
    · rename_i es clock hg
      cases hr
      obtain ⟨ms, hes, hget, _⟩ := R.mapChange hb hg
      have R' := R.add (o := .mapIter (some l) clock [] clock) (x := .mapIter (some b.block) clock #[] clock) (b := (Blk.mk w.heap.size 0 0 .nilFunc)) rfl ⟨rfl, rfl⟩ ⟨rfl, some b.block, heap_alloc_new _, b, upd_ext R.fresh _ _ hb, rfl⟩
      refine EffOk.ret (s := Instr.range t (.map (some b.block))) (Step.add _ _ _ _) (.ptr 0 (upd_self _ _ _)) R' ?_ fun p hp => by unfold execOp; rw [hp]; simp only [hyv]
      simp [Instr.range, run_underlying hu, hget]
    · cases hr
  · cases hr

theorem eff_rangeStr {C : CE} {t : TypeId} {y : Operand} {x : X} (hu : C.P.underlying t = some .string) (hx : compX C y = some x) : EffOk C (.range t y) (.rangeStr x) := by
  intro ρ tm A hT hG B w0 h w R v h' hr
  have r := compX_ok hT hG hx
  simp only [ED.run] at hr
  generalize hyv : A.eval y = yv at r
  split at hr
  · rename_i s e1
    rw [e1] at r; cases r with | str u =>
    cases hr
    have R' := R.add (o := .strIter (natsOf u) 0) (x := .stringIter u 0) (b := (Blk.mk w.heap.size 0 0 .nilFunc)) rfl ⟨rfl, rfl⟩ ⟨u, heap_alloc_new _, rfl, rfl⟩
    refine EffOk.ret (s := Instr.range t (.string u)) (Step.add _ _ _ _) (.ptr 0 (upd_self _ _ _)) R' ?_ fun p hp => by unfold execOp; rw [hp]; simp only [hyv]
    simp [Instr.range, run_underlying hu]
  · cases hr


theorem hasNat_eq (n : Nat) : ∀ l : List Nat, hasNat n l = l.contains n
  | [] => rfl
  | m :: l => by
    simp only [hasNat, List.contains_cons, hasNat_eq n l]
    rw [show Nat.beq n m = (n == m) from by rw [Bool.eq_iff_iff]; simp]

theorem REs.left {es : List (V × V × Nat)} {ms : List MapEntry} (r : REs ρ es ms) (seen : List Nat) : REs ρ (leftOf seen es) (ms.filter fun e => !seen.contains e.born) := by
  induction r with
  | nil => exact .nil
  | @cons k v n m es ms hk' hv' hn' hs ih =>
    simp only [leftOf, List.filter_cons, hasNat_eq, hn']
    cases hc : seen.contains n with
    | true => simpa using ih
    | false => simpa using REs.cons hk' hv' hn' ih

theorem REs.allFrom {es : List (V × V × Nat)} {ms : List MapEntry} (r : REs ρ es ms) (n : Nat) : allFrom n es = ms.all fun e => decide (e.born ≥ n) := by
  induction r with
  | nil => rfl
  | @cons k v b m es ms hk' hv' hn' hs ih =>
    simp only [Dx.allFrom, List.all_cons, ih, hn']
    congr 1
    rw [Bool.eq_iff_iff]; simp

theorem eff_next {C : CE} {y : Operand} {x : X} (hx : compX C y = some x) : EffOk C (.next y false) (.next x) := by
  intro ρ tm A hT hG B w0 h w R v h' hr
  have r := compX_ok hT hG hx
  simp only [ED.run] at hr
  generalize hyv : A.eval y = yv at r
  split at hr
  · rename_i l e1
    rw [e1] at r
    obtain ⟨b, hb, rfl⟩ := ptr_inv r
    have hb0 := (R.base l b hb).1
    have unf : ∀ (p : Oper), p.op = .next y false → execOp A.eval p = (do pure (.value (← Instr.next (.pointer (some ⟨b.block, 0, none⟩)) false p.type))) := fun p hp => by
      unfold execOp; rw [hp]; simp only [hyv, hb0]
    have fin : ∀ {ρ' : Rho} {x : Value} {w' : World}, Step ρ ρ' h h' → RV ρ' v x → HRel B w0 ρ' h' w' → (∀ ty, (Instr.next (.pointer (some ⟨b.block, 0, none⟩)) false ty).run C.P w = .ok x w') →
        ∃ ρ' x w', Step ρ ρ' h h' ∧ RV ρ' v x ∧ HRel B w0 ρ' h' w' ∧ ∀ p : Oper, p.op = .next y false → ((execOp A.eval p).run C.P w = .ok (.value x) w' ∨ ((execOp A.eval p).run C.P w = .ok .skip w' ∧ x = Go.undef)) :=
      fun s1 s2 s3 s4 => ⟨_, _, _, s1, s2, s3, fun p hp => .inl (by rw [unf p hp]; simp [s4])⟩
    unfold nextV at hr
    split at hr
    · rename_i since seen last hg
      cases hr
      obtain ⟨_, m', h1, h2⟩ := R.obj l b _ hb hg
      simp only at h2
      subst h2
      refine fin (Step.refl _ _) (.tuple (.cons (.bool false) .nil)) R fun ty => ?_
      unfold Instr.next
      simp [getObj, Sem.run, h1]
    · rename_i m since seen last hg
      obtain ⟨_, m', h1, c, hc, h2⟩ := R.obj l b _ hb hg
      subst h2
      split at hr
      · rename_i es clock hgm
        obtain ⟨ms, hms, hes⟩ := R.mapAt (P := C.P) hc hgm
        simp only [chk_some] at hr
        obtain ⟨hok, hr⟩ := hr
        have hit : (getObj b.block).run C.P w = .ok (.mapIter (some c.block) since ⟨seen⟩ last) w := by simp [getObj, Sem.run, h1]
        have hguard : (!(⟨seen⟩ : Array Nat).isEmpty && !ms.isEmpty && ms.all fun e => decide (e.born ≥ last)) = false := by
          rw [hes.allFrom] at hok
          cases ms with | mk ml =>
          have : es.isEmpty = ml.isEmpty := by
            have := hes.length
            cases es <;> cases ml <;> simp at this ⊢
          simp only [this] at hok
          simp only [List.isEmpty_toArray, List.all_toArray]
          revert hok
          cases seen.isEmpty <;> cases ml.isEmpty <;> cases (ml.all fun e => decide (e.born ≥ last)) <;> simp
        have hleft := hes.left seen
        have hfl : (ms.filter fun e => !(⟨seen⟩ : Array Nat).contains e.born).toList = ms.toList.filter fun e => !seen.contains e.born := by
          rw [Array.toList_filter]; congr 1; funext e; simp
        have unf2 : ∀ ty, (Instr.next (.pointer (some ⟨b.block, 0, none⟩)) false ty).run C.P w = ((do
            let left := ms.filter fun e => !(⟨seen⟩ : Array Nat).contains e.born
            let old := left.filter fun e => decide (e.born < since)
            let new := left.filter fun e => decide (e.born ≥ since)
            let candidates := (if old.isEmpty then #[none] else #[]) ++ (old ++ new).map some
            match candidates[← choose (.mapNext candidates.size)]? with
            | some (some e) =>
              setObj b.block (.mapIter (some c.block) since ((⟨seen⟩ : Array Nat).push e.born) clock)
              pure (.tuple #[.bool true, e.key, e.val])
            | some none => pure (.tuple #[.bool false])
            | none => stuck "Next: no such candidate") : Sem Value).run C.P w := fun ty => by
          unfold Instr.next
          simp only [Sem.run_bind, hit, Result.andThen_ok, hms, hguard, Bool.false_eq_true, if_false]
          rfl
        split at hr
        · rename_i hl
          cases hr
          rw [hl] at hleft
          have h0 : (ms.filter fun e => !(⟨seen⟩ : Array Nat).contains e.born) = #[] := by
            apply Array.ext'
            rw [hfl]
            generalize ms.toList.filter (fun e => !seen.contains e.born) = L at hleft
            cases hleft; rfl
          refine fin (Step.refl _ _) (.tuple (.cons (.bool false) .nil)) R fun ty => ?_
          rw [unf2 ty, h0]
          have hf : (Question.mapNext 1).forced = true := rfl
          simp [hf]
        · rename_i k u n hl
          simp only [chk_some, Option.some.injEq, Prod.mk.injEq] at hr
          obtain ⟨hn, rfl, rfl⟩ := hr
          have hn : n < since := by simpa using hn
          rw [hl] at hleft
          obtain ⟨en, h0, rk, ru, hborn⟩ : ∃ en, (ms.filter fun e => !(⟨seen⟩ : Array Nat).contains e.born) = #[en] ∧ RV ρ k en.key ∧ RV ρ u en.val ∧ en.born = n := by
            generalize hL : ms.toList.filter (fun e => !seen.contains e.born) = L at hleft
            cases hleft with
            | cons h1 h2 h3 h4 =>
              cases h4
              exact ⟨_, by apply Array.ext'; rw [hfl, hL], h1, h2, h3⟩
          have R2 := R.setObj (p := .mapIter (some m) since (seen ++ [n]) clock) (x := .mapIter (some c.block) since ((⟨seen⟩ : Array Nat).push n) clock) hb hg rfl fun w' hw' => ⟨hb0, some c.block, by rw [hw']; simp, c, hc, rfl⟩
          refine fin (Step.same rfl) (.tuple (.cons (.bool true) (.cons rk (.cons ru .nil)))) R2 fun ty => ?_
          rw [unf2 ty, h0]
          have hf : (Question.mapNext 1).forced = true := rfl
          have hn' : ¬ since ≤ n := by omega
          simp [hborn, hn, hn', hf, setObj, Sem.run, h1]
        · cases hr
      · cases hr
    · cases hr
  · cases hr

theorem eff_clearMap {C : CE} {args : Array Operand} {ts : Array TypeId} {t kt et : TypeId} {rest : List TypeId} {x : X} (hts : ts.toList = t :: rest) (hu : C.P.underlying t = some (.map kt et)) (hx : compXs C args.toList = some [x]) :
    EffOk C (.call { callee := .builtin .clear, args := args, argTypes := ts }) (.clearMap x) := by
  intro ρ tm A hT hG B w0 h w R v h' hr
  obtain ⟨y, hy, r⟩ := args1 hx hT hG
  simp only [ED.run] at hr
  split at hr
  · rename_i e1
    rw [e1] at r; cases r; cases hr
    refine ⟨ρ, _, w, Step.refl _ _, .tuple .nil, R, fun p hp => .inl ?_⟩
    rw [builtin_run p hp, hy]
    simp [Go.builtin, Builtin.clear_, tsHead hts, run_underlying hu]
  · obtain ⟨l, es, clock, e1, hg, hr⟩ := withMap_some hr
    rw [e1] at r
    obtain ⟨b, hb, rfl⟩ := map_inv r
    obtain ⟨ms, hes, hget, hchg⟩ := R.mapChange hb hg
    cases hr
    obtain ⟨c1, c2⟩ := hchg [] #[] clock .nil
    refine ⟨ρ, _, _, Step.same rfl, .tuple .nil, c2, fun p hp => .inl ?_⟩
    rw [builtin_run p hp, hy]
    simp [Go.builtin, Builtin.clear_, tsHead hts, run_underlying hu, hget, c1]

theorem eff_delete {C : CE} {args : Array Operand} {ts : Array TypeId} {t kt et : TypeId} {rest : List TypeId} {m k : X} (hts : ts.toList = t :: rest) (hu : C.P.underlying t = some (.map kt et)) (hx : compXs C args.toList = some [m, k]) :
    EffOk C (.call { callee := .builtin .delete, args := args, argTypes := ts }) (.delete (keyT C.P kt) m k) := by
  intro ρ tm A hT hG B w0 h w R v h' hr
  obtain ⟨y1, y2, hy, r1, r2⟩ := args2 hx hT hG
  simp only [ED.run, chk_some] at hr
  obtain ⟨hpk, hr⟩ := hr
  obtain ⟨d, hd1, hd2⟩ := keyT_ok hpk
  obtain ⟨l, es, clock, e1, hg, hr⟩ := withMap_some hr
  rw [e1] at r1
  obtain ⟨b, hb, rfl⟩ := map_inv r1
  obtain ⟨ms, hes, hget, hchg⟩ := R.mapChange hb hg
  simp only [ob_some] at hr
  obtain ⟨f, hf, hr⟩ := hr
  obtain ⟨f1, f2⟩ := findNow_ok hd2 r2 hes hf 0
  cases f with
  | none =>
    simp only [Option.some.injEq, Prod.mk.injEq] at hr
    obtain ⟨rfl, rfl⟩ := hr
    obtain ⟨c1, c2⟩ := hchg es ms clock hes
    have hset : h.set l (.map es clock) = { h with t := h.t.set l (some (.map es clock)) } := rfl
    have R2 : HRel B w0 ρ h { w with heap := w.heap.setIfInBounds b.block (.map ms clock) } := by
      have hwb : w.heap[b.block]? = some (.map ms clock) := by
        have := hget C.P
        obtain ⟨ms', q1, q2⟩ := R.obj l b _ hb hg
        simp [getObj, Sem.run, q1] at this
        rw [q1, this]
      have : w.heap.setIfInBounds b.block (.map ms clock) = w.heap := by
        apply Array.ext_getElem?
        intro i
        rw [Array.getElem?_setIfInBounds]
        by_cases hi : b.block = i
        · subst hi
          rw [if_pos rfl, if_pos (heap_lt hwb), hwb]
        · rw [if_neg hi]
      rw [this]; exact R
    refine ⟨ρ, _, _, Step.refl _ _, .tuple .nil, R2, fun p hp => .inl ?_⟩
    rw [builtin_run p hp, hy]
    simp [Go.builtin, Builtin.delete_, tsHead hts, run_underlying hu, hget, checkKey_ok hd1 hd2, findKey_run hd1 (f1 rfl), c1]
  | some p =>
    obtain ⟨j, u⟩ := p
    simp only [Option.some.injEq, Prod.mk.injEq] at hr
    obtain ⟨rfl, rfl⟩ := hr
    obtain ⟨en, g1, g2, g3⟩ := f2 j u rfl
    obtain ⟨c1, c2⟩ := hchg (eraseNth es j) (ms.eraseIdxIfInBounds j) clock (by rw [Array.toList_eraseIdxIfInBounds]; exact hes.erase j)
    refine ⟨ρ, _, _, Step.same rfl, .tuple .nil, c2, fun p hp => .inl ?_⟩
    rw [builtin_run p hp, hy]
    have e0 : 0 + j = j := by omega
    rw [e0] at g3
    simp [Go.builtin, Builtin.delete_, tsHead hts, run_underlying hu, hget, checkKey_ok hd1 hd2, findKey_run hd1 g3, c1]

end
end Go.Dx
