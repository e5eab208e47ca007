/-
  The deterministic machine over labels against the model: operations that write memory, or make some (rows).
-/
import Derived.Test.YtkbjonoiecljiaaGreatDoorDxReads
import Derived.Lib.AppendZerosOnto
import Derived.Laws.MakeOwn
import Derived.Lib.UnsafeStr
namespace Go.Dx
open Go Go.RowKit

/-- Labels that were there stand for what they stood for. -/
structure Step (ρ ρ' : Rho) (h h' : H) : Prop where
  old : ∀ l, val l < val h.next → ρ' l = ρ l
  next : val h.next ≤ val h'.next

theorem Step.refl (ρ : Rho) (h : H) : Step ρ ρ h h := ⟨fun _ _ => rfl, Nat.le_refl _⟩
theorem Step.trans {ρ ρ' ρ'' : Rho} {h h' h'' : H} (s : Step ρ ρ' h h') (t : Step ρ' ρ'' h' h'') : Step ρ ρ'' h h'' :=
  ⟨fun l hl => (t.old l (Nat.lt_of_lt_of_le hl s.next)).trans (s.old l hl), Nat.le_trans s.next t.next⟩
theorem Step.same {ρ : Rho} {h h' : H} (e : h'.next = h.next) : Step ρ ρ h h' := ⟨fun _ _ => rfl, by rw [e]; exact Nat.le_refl _⟩

section
variable {P : Program} {B : Nat} {w0 : World} {ρ ρ' : Rho} {h h' : H} {w : World}

theorem Step.ext (s : Step ρ ρ' h h') (R : HRel B w0 ρ h w) : Ext' ρ ρ' := fun l b e => (s.old l (R.lt l b e)).trans e
theorem Step.add (ρ : Rho) (h : H) (b : Blk) (o : Obj) : Step ρ (upd ρ h.next b) h (h.add o) :=
  ⟨fun l hl => upd_ne fun e => by rw [e] at hl; exact absurd hl (Nat.lt_irrefl _), by show val h.next ≤ val (inc h.next); rw [val_inc]; omega⟩

/-- What the machine's effects say of the model's. -/
def EffOk (C : CE) (o : Op) (d : ED) : Prop := ∀ {ρ : Rho} {tm : T V} {A : Act}, TRel ρ C.n tm A.tmps → GRel ρ C.G → ∀ {B : Nat} {w0 : World} {h : H} {w : World}, HRel B w0 ρ h w → ∀ {v : V} {h' : H}, d.run tm h = some (v, h') →
  ∃ ρ' x w', Step ρ ρ' h h' ∧ RV ρ' v x ∧ HRel B w0 ρ' h' w' ∧ ∀ p : Oper, p.op = o → ((execOp A.eval p).run C.P w = .ok (.value x) w' ∨ ((execOp A.eval p).run C.P w = .ok .skip w' ∧ x = Go.undef))

theorem EffOk.ret {C : CE} {o : Op} {A : Act} {s : Sem Value} {ρ' : Rho} {x : Value} {v : V} {w w' : World} {B : Nat} {w0 : World} {ρ : Rho} {h h' : H} (st : Step ρ ρ' h h') (hv : RV ρ' v x) (R : HRel B w0 ρ' h' w') (hs : s.run C.P w = .ok x w')
    (e : ∀ p : Oper, p.op = o → execOp A.eval p = (do pure (.value (← s)))) :
    ∃ ρ' x w', Step ρ ρ' h h' ∧ RV ρ' v x ∧ HRel B w0 ρ' h' w' ∧ ∀ p : Oper, p.op = o → ((execOp A.eval p).run C.P w = .ok (.value x) w' ∨ ((execOp A.eval p).run C.P w = .ok .skip w' ∧ x = Go.undef)) :=
  ⟨ρ', x, w', st, hv, R, fun p hp => .inl (by rw [e p hp]; simp [hs])⟩

theorem EffOk.none {C : CE} {o : Op} {A : Act} {s : Sem Unit} {ρ' : Rho} {w w' : World} {B : Nat} {w0 : World} {ρ : Rho} {h h' : H} (st : Step ρ ρ' h h') (R : HRel B w0 ρ' h' w') (hs : s.run C.P w = .ok () w')
    (e : ∀ p : Oper, p.op = o → execOp A.eval p = (do s; pure .skip)) :
    ∃ ρ' x w', Step ρ ρ' h h' ∧ RV ρ' undef x ∧ HRel B w0 ρ' h' w' ∧ ∀ p : Oper, p.op = o → ((execOp A.eval p).run C.P w = .ok (.value x) w' ∨ ((execOp A.eval p).run C.P w = .ok .skip w' ∧ x = Go.undef)) :=
  ⟨ρ', Go.undef, w', st, .tuple .nil, R, fun p hp => .inr ⟨by rw [e p hp]; simp [hs], rfl⟩⟩

/-! ### cells -/

theorem eff_store {C : CE} {t : TypeId} {n : Nat} {y z : Operand} {a x : X} (hn : sizeT C.P t = some n) (ha : compX C y = some a) (hx : compX C z = some x) : EffOk C (.store t y z) (.store n a x) := by
  intro ρ tm A hT hG B w0 h w R v h' hr
  simp only [ED.run] at hr
  split at hr
  · rename_i l off e
    have r := compX_ok hT hG ha
    rw [e] at r
    obtain ⟨b, hb, hy⟩ := ptr_inv r
    simp only [chk_some, ob_some, Option.some.injEq, Prod.mk.injEq] at hr
    obtain ⟨h1, h2, h3, rfl, rfl⟩ := hr
    have rx := (compX_ok hT hG hx).cells
    obtain ⟨s1, s2⟩ := R.store hb h3 rx
    obtain ⟨vs, el, fz, own, vs', _, _, _, _, _, rfl⟩ := storeV_some h3
    refine EffOk.none (s := Instr.storeAt t (A.eval y) (A.eval z)) (Step.same rfl) s2 ?_ fun p hp => by unfold execOp; rw [hp]
    have hsz : (A.eval z).cells.size = n := by have := rx.length; have := Nat.eq_of_beq_eq_true h1; simp at *; omega
    simp [Instr.storeAt, hy, Instr.sureAddr, storeVar, run_sizeT hn, hsz, s1]
  · cases hr

theorem eff_alloc {C : CE} {t : TypeId} {z : V} (hz : zeroT C.P t = some z) : EffOk C (.alloc t) (.alloc t z.cells) := by
  intro ρ tm A hT hG B w0 h w R v h' hr
  cases hr
  obtain ⟨x, hx, hr⟩ := run_zeroT (ρ := ρ) hz
  have R' := R.row (vs := z.cells) (xs := x.cells.toList) hx.cells [] t 0 .yes
  simp only [List.append_nil] at R'
  refine EffOk.ret (s := Instr.alloc t true (.tuple #[])) (Step.add _ _ _ _) (.ptr 0 (upd_self _ _ _)) R' ?_ fun p hp => by unfold execOp; rw [hp]
  simp [Instr.alloc, hr, newVar, newRow]

theorem eff_box {C : CE} {t : TypeId} {y : Operand} {x : X} (hx : compX C y = some x) : EffOk C (.box t y) (.box t x) := by
  intro ρ tm A hT hG B w0 h w R v h' hr
  cases hr
  have rx := compX_ok hT hG hx
  have R' := R.row (vs := (x.ev tm).cells) (xs := (A.eval y).cells.toList) rx.cells [] t 0 .yes
  simp only [List.append_nil] at R'
  refine EffOk.ret (s := Instr.box t (A.eval y)) (Step.add _ _ _ _) (.ptr 0 (upd_self _ _ _)) R' ?_ fun p hp => by unfold execOp; rw [hp]
  simp [Instr.box, newVar, newRow]

/-! ### rows -/

theorem repeatCells_get {z : List V} {s : Nat} (hs : z.length = s) : ∀ (c i : Nat), i < c * s → (repeatCells z c)[i]? = z[i % s]?
  | 0, i, hi => by omega
  | c + 1, i, hi => by
    unfold repeatCells
    by_cases h : i < s
    · rw [List.getElem?_append_left (by omega), Nat.mod_eq_of_lt h]
    · rw [List.getElem?_append_right (by omega), hs, repeatCells_get hs c (i - s) (by rw [Nat.add_mul] at hi; omega)]
      congr 1
      exact (Nat.mod_eq_sub_mod (by omega)).symm

theorem repeatCells_length {z : List V} : ∀ c, (repeatCells z c).length = c * z.length
  | 0 => by simp [repeatCells]
  | c + 1 => by simp [repeatCells, repeatCells_length c, Nat.add_mul]; omega

theorem RVs.repeat {z : List V} {x : Array Value} (hr : RVs ρ z x.toList) {s : Nat} (hs : z.length = s) (h0 : 0 < s) (c : Nat) : RVs ρ (repeatCells z c) ((Array.range (c * s)).map (x[· % x.size]!)).toList := by
  have hx : x.size = s := by have := hr.length; simp at this; omega
  refine RVs.of_get (by simp [repeatCells_length, hs]) fun i v hv => ?_
  have hi : i < c * s := by
    have := (List.getElem?_eq_some_iff.1 hv).1
    rw [repeatCells_length, hs] at this
    exact this
  rw [repeatCells_get hs c i hi] at hv
  obtain ⟨y, hy, ry⟩ := hr.get hv
  have hlt : i % s < x.size := by rw [hx]; exact Nat.mod_lt _ h0
  refine ⟨y, ?_, ry⟩
  have : x[i % s]! = y := by
    rw [getElem!_pos x (i % s) hlt]
    rw [Array.getElem?_toList, Array.getElem?_eq_getElem hlt] at hy
    exact Option.some.inj hy
  simp [hi, hx, this]

theorem fillParts_ok {A : Act} {C : CE} {ρ : Rho} {tm : T V} {size : Nat} (hT : TRel ρ C.n tm A.tmps) (hG : GRel ρ C.G) : ∀ {ps : List (Nat × Operand)} {l : List (Nat × X)}, compPairs C ps = some l → ∀ {vs r : List V} {arr : Array Value}, RVs ρ vs arr.toList → fillParts tm size l vs = some r →
    ∃ arr', Instr.fill (fun i => some (i * size, size)) arr (ps.map fun p => (p.1, A.eval p.2)) = some arr' ∧ RVs ρ r arr'.toList
  | [], l, h, vs, r, arr, hv, hf => by
    simp [compPairs] at h; subst h
    simp [fillParts] at hf; subst hf
    exact ⟨arr, rfl, hv⟩
  | (i, x) :: ps, l, h, vs, r, arr, hv, hf => by
    simp only [compPairs, ob_some, Option.some.injEq] at h
    obtain ⟨d, h1, ds, h2, rfl⟩ := h
    simp only [fillParts, chk_some, ob_some] at hf
    obtain ⟨h3, q, h4, h5⟩ := hf
    have rx := (compX_ok (a := A) hT hG h1).cells
    have h3' : (d.ev tm).cells.length = size := Nat.eq_of_beq_eq_true h3
    have hsz : (A.eval x).cells.size = size := by have := rx.length; simp at this; omega
    have hle := putFrom_le h4
    have hlv := hv.length
    obtain ⟨e1, e2⟩ := put_ok hv rx h4
    obtain ⟨arr', e3, e4⟩ := fillParts_ok hT hG h2 e2 h5
    refine ⟨arr', ?_, e4⟩
    simp only [List.map_cons, Instr.fill]
    simp at hlv
    have c1 : (decide ((A.eval x).cells.size ≠ size) || decide (i * size + (A.eval x).cells.size > arr.size)) = false := by
      simp only [Bool.or_eq_false_iff, decide_eq_false_iff_not]; omega
    rw [if_neg (by rw [c1]; exact Bool.false_ne_true)]
    exact e3

theorem eff_buildSlice {C : CE} {t e : TypeId} {size n : Nat} {z : V} {ps : Array (Nat × Operand)} {l : List (Nat × X)} (hu : C.P.underlying t = some (.slice e)) (hs : sizeT C.P e = some size) (hz : zeroT C.P e = some z)
    (hn : n * size ≤ 65536) (hzs : z.cells.length = size) (h0 : 0 < size) (hl : compPairs C ps.toList = some l) : EffOk C (.buildSlice t n ps) (.buildSlice e size n (repeatCells z.cells n) l) := by
  intro ρ tm A hT hG B w0 h w R v h' hr
  simp only [ED.run, ob_some, Option.some.injEq, Prod.mk.injEq] at hr
  obtain ⟨cs, hf, rfl, rfl⟩ := hr
  obtain ⟨x, hx, hzr⟩ := run_zeroT (ρ := ρ) hz
  have hrep := hx.cells.repeat hzs h0 n
  obtain ⟨arr, f1, f2⟩ := fillParts_ok (A := A) hT hG hl hrep hf
  have R' := R.row f2 [] e 0 .yes
  simp only [List.append_nil] at R'
  refine EffOk.ret (s := Instr.buildSlice t n (ps.map fun (i, x) => (i, A.eval x))) (Step.add _ _ _ _) (.slice 0 n n (upd_self _ _ _)) R' ?_ fun p hp => by unfold execOp; rw [hp]
  have e1 : (ps.map fun (i, x) => (i, A.eval x)).toList = ps.toList.map fun p => (p.1, A.eval p.2) := by simp
  by_cases hns : n * size = 0
  · have hn0 : n = 0 := by rcases Nat.mul_eq_zero.1 hns with h | h <;> omega
    subst hn0
    have f1' : Instr.fill (fun i => some (i * size, size)) ((Array.range 0).map ((#[] : Array Value)[· % 0]!)) (ps.toList.map fun p => (p.1, A.eval p.2)) = some arr := by
      rw [← f1]; congr 1; simp
    simp only [Instr.buildSlice, Sem.run_bind, run_underlying hu, Result.andThen_ok, run_sizeT hs, Nat.zero_mul]
    simp [e1, newRow]
    simp at f1'
    rw [f1']
    simp
  · have : ¬ (n * size > 2 ^ 24) := by omega
    simp only [Instr.buildSlice, Sem.run_bind, run_underlying hu, Result.andThen_ok, run_sizeT hs, if_neg this, Sem.run_pure, if_neg hns, hzr, e1]
    rw [f1]
    simp [newRow]

theorem eff_makeSlice {C : CE} {t e : TypeId} {size bytes : Nat} {z : V} {y1 y2 : Operand} {n c : X} (hu : C.P.underlying t = some (.slice e)) (hs : sizeT C.P e = some size) (hb : bytesT C.P e = some bytes) (hz : zeroT C.P e = some z)
    (h1 : compX C y1 = some n) (h2 : compX C y2 = some c) : EffOk C (.makeSlice t y1 y2) (.makeSlice e size bytes z.cells n c) := by
  intro ρ tm A hT hG B w0 h w R v h' hr
  simp only [ED.run] at hr
  unfold makeSliceV at hr
  split at hr
  · rename_i n' c' e1 e2
    simp only [chk_some, Option.some.injEq, Bool.and_eq_true, Prod.mk.injEq] at hr
    obtain ⟨⟨⟨⟨⟨g1, g2⟩, g3⟩, g4⟩, g5⟩, rfl, rfl⟩ := hr
    have g1 := Nat.le_of_ble_eq_true g1
    have g2 : c' * bytes ≤ 1099511627776 := Nat.le_of_ble_eq_true g2
    have g3 := Nat.le_of_ble_eq_true g3
    have g4 := Nat.eq_of_beq_eq_true g4
    have g5 : 0 < size := by simpa using g5
    have r1 := compX_ok hT hG h1
    have r2 := compX_ok hT hG h2
    rw [e1] at r1; rw [e2] at r2
    generalize hy1 : A.eval y1 = v1 at r1
    generalize hy2 : A.eval y2 = v2 at r2
    cases r1; cases r2
    simp only [zeroT, ob_some] at hz
    obtain ⟨i, hi, zx, hzx, hzc⟩ := hz
    have hx : RV ρ z zx := ofConst_ok hzc
    have hsz : i.size = size := by obtain ⟨j, hj, e⟩ := sizeT_ok hs; rw [hi] at hj; cases hj; exact e
    have hby : i.bytes = bytes := by
      simp only [bytesT, ob_some, Option.some.injEq] at hb
      obtain ⟨j, hj, e⟩ := hb; rw [hi] at hj; cases hj; exact e
    have hrep := hx.cells.repeat g4 g5 c'
    have R' := R.row hrep [] e 0 .yes
    simp only [List.append_nil] at R'
    refine EffOk.ret (s := Instr.makeSlice t (.int .i64 (Int.ofNat n')) (.int .i64 (Int.ofNat c'))) (Step.add _ _ _ _) (.slice 0 n' c' (upd_self _ _ _)) R' ?_ fun p hp => by unfold execOp; rw [hp]; simp only [hy1, hy2]
    have hbb : (i.bytes : Int) * (c' : Int) ≤ 281474976710656 := by
      rw [hby, ← Int.natCast_mul, Nat.mul_comm]; omega
    have := run_make (P := C.P) w t e i zx hu hi hzx .i64 .i64 n' c' (by omega) (by omega) hbb (by omega)
    rw [hsz] at this
    have em : ∀ a : Array Value, (⟨a.toList⟩ : Array Value) = a := fun a => by cases a; rfl
    rw [em]
    simpa only [madeCells, Int.toNat_natCast, Int.ofNat_eq_natCast] using this
  · cases hr

end
end Go.Dx
