/-
  The deterministic machine over labels against the model: functions that are taken by what they do.
  A range over a map that holds nothing, or one entry: its steps, as equations.
-/
import Derived.Test.YtkaoagmdhlpfoaaGreatDoorXF
import Derived.Test.YtkaoagmdhlpfoaaGreatDoorXA
import Derived.Laws.Externs
import Derived.Lib.MakeNoZero
import Derived.Lib.Bytealg
import Derived.OwnWalkIn
import Derived.RangeFuncSeq
import Derived.RangeFuncIn
import Derived.RangeFuncRecord
namespace Go.Dx
open Go Go.RowKit

/-- A function without a body, and what it does. -/
structure EntryAt (P : Program) (f : FuncId) (e : Array Value → Sem Value) : Prop where
  at_ : ∃ fn, P.funcs[f]? = some fn ∧ (fn.name == "runtime.NumGoroutine") = false ∧ fn.body.isNone = true ∧ Extern.findNext fn = none ∧ Extern.find fn = some e

def ExtOk (P : Program) (G : Nat) (f : FuncId) (k : Ext) : Prop := ∀ {args : List V} {h : H} {v : V} {h' : H}, extRun P k args h = some (v, h') → ∀ {B : Nat} {w0 : World} {ρ : Rho} {w : World} {xs : List Value}, HRel B w0 ρ h w → GRel ρ G → RVs ρ args xs →
  Good P f xs w fun x w' => ∃ ρ', Step ρ ρ' h h' ∧ RV ρ' v x ∧ HRel B w0 ρ' h' w'

theorem orc_ok {P : Program} {G : Nat} {ids : List (FuncId × Ext)} (h : ∀ p ∈ ids, ExtOk P G p.1 p.2) : OrcOk P G (orcOf P ids) := by
  intro f args h1 v h1' hr B w0 ρ w xs R hG hx
  simp only [orcOf, ob_some] at hr
  obtain ⟨k, hk, hr⟩ := hr
  have : ∀ {l : List (FuncId × Ext)}, findExt l f = some k → (f, k) ∈ l := by
    intro l
    induction l with
    | nil => intro h; simp [findExt] at h
    | cons p l ih =>
      intro h
      obtain ⟨g, k'⟩ := p
      simp only [findExt] at h
      split at h
      · rename_i he
        cases h
        rw [Nat.eq_of_beq_eq_true he]; exact List.mem_cons_self ..
      · exact List.mem_cons_of_mem _ (ih h)
  exact h _ (this hk) hr R hG hx

section
variable {P : Program} {G : Nat} {f : FuncId} {B : Nat} {w0 : World} {ρ : Rho} {h h' : H} {w : World}

theorem EntryAt.good {e : Array Value → Sem Value} (E : EntryAt P f e) {xs : List Value} {x : Value} {w' : World} {R : Value → World → Prop} (hr : (e ⟨xs⟩).run P w = .ok x w') (hR : R x w') : Good P f xs w R := by
  obtain ⟨fn, h1, h2, h3, h4, h5⟩ := E.at_
  refine .inl ⟨x, w', ?_, hR⟩
  rw [run_callFunc_extern h1 h2 h3 h4 h5, hr]; rfl

theorem ext_nop {m : Mark} (E : EntryAt P f fun _ => do mark m; pure Extern.Race.none_) : ExtOk P G f .nop := by
  intro args h v h' hr B w0 ρ w xs R hG hx
  simp only [extRun] at hr
  split at hr
  · cases hr; cases hx
    exact E.good (x := Extern.Race.none_) (w' := w) (by simp) ⟨ρ, Step.refl _ _, .tuple .nil, R⟩
  · cases hr

theorem ext_mark {m : Addr → Mark} (E : EntryAt P f (Extern.Race.marked m)) : ExtOk P G f .mark := by
  intro args h v h' hr B w0 ρ w xs R hG hx
  simp only [extRun] at hr
  split at hr
  · cases hr
    obtain ⟨x, rfl, rx⟩ := hx.one
    obtain ⟨b, hb, rfl⟩ := ptr_inv rx
    exact E.good (x := Extern.Race.none_) (w' := w) (by simp [Extern.Race.marked, Extern.Race.at_]) ⟨ρ, Step.refl _ _, .tuple .nil, R⟩
  · cases hr

theorem ext_same (E : EntryAt P f Extern.AbiNoEscape.same) : ExtOk P G f .same := by
  intro args h v h' hr B w0 ρ w xs R hG hx
  simp only [extRun] at hr
  split at hr
  · cases hr
    obtain ⟨x, rfl, rx⟩ := hx.one
    exact E.good (x := x) (w' := w) rfl ⟨ρ, Step.refl _ _, rx, R⟩
  · cases hr

theorem ext_clone (E : EntryAt P f Extern.MapsClone.clone) : ExtOk P G f .clone := by
  intro args h v h' hr B w0 ρ w xs R hG hx
  simp only [extRun] at hr
  split at hr
  · rename_i t r
    obtain ⟨x, rfl, rx⟩ := hx.one
    obtain ⟨y, rfl, ry⟩ := iface_inv rx
    obtain ⟨b, hb, rfl⟩ := map_inv ry
    split at hr
    · rename_i es c hg
      cases hr
      obtain ⟨ms, hms, hes⟩ := R.mapAt (P := P) hb hg
      have R' := R.add (o := .map es c) (x := .map ms c) (b := Blk.mk w.heap.size 0 0 .nilFunc) rfl ⟨rfl, rfl⟩ ⟨ms, heap_alloc_new _, hes.mono (upd_ext R.fresh)⟩
      refine E.good (x := .iface t (.map (some w.heap.size))) (w' := w.alloc (.map ms c)) ?_ ⟨_, Step.add _ _ _ _, .iface t (.map (upd_self _ _ _)), R'⟩
      show (Extern.MapsClone.clone #[.iface t (.map (some b.block))]).run P w = _
      have hdef : Extern.MapsClone.clone #[.iface t (.map (some b.block))] = (do
        let .map entries clock ← getObj b.block | stuck "maps.clone: a map expected"
        pure (.iface t (.map (some (← newObj (.map entries clock)))))) := rfl
      rw [hdef]
      simp [hms]
    · cases hr
  · cases hr

theorem ext_noZero {ps : Array TypeId} {t et : TypeId} (ht : P.underlying t = some (.slice et)) (E : EntryAt P f (Extern.BytealgMakeNoZero.makeNoZero ps #[t])) : ExtOk P G f (.noZero et) := by
  intro args h v h' hr B w0 ρ w xs R hG hx
  simp only [extRun] at hr
  split at hr
  · rename_i n
    simp only [chk_some, Option.some.injEq, Prod.mk.injEq] at hr
    obtain ⟨hn, rfl, rfl⟩ := hr
    have hn := Nat.le_of_ble_eq_true hn
    obtain ⟨x, rfl, rx⟩ := hx.one
    cases rx
    obtain ⟨cs, c1, c2, _⟩ := Lib.run_makeNoZero (P := P) w ps t et ht n (by omega)
    have R' := ((R.drew).drew).row (vs := []) (xs := []) .nil cs.toList et 0 .yes
    have e : (⟨[] ++ cs.toList⟩ : Array Value) = cs := by cases cs; rfl
    rw [e] at R'
    refine E.good c1 ⟨_, Step.add _ _ _ _, .sliceEnd 0 n 1 cs.size (upd_self _ _ _) c2 ?_, R'⟩
    simp
  · cases hr


/-- One cell, read; the store of one. -/
theorem one_cell (R : HRel B w0 ρ h w) {l : Lb} {b : Blk} (hb : ρ l = some b) {off : Nat} {v u : V} {x : Value} (hc : cellAt h l off = some v) (hs : storeV h l off [u] = some h') (hx : RV ρ u x) :
    ∃ y, RV ρ v y ∧ w.cell? ⟨b.block, b.base + off, none⟩ = some y ∧ w.frozen? ⟨b.block, b.base + off, none⟩ = false ∧ (∃ e n, w.shape? b.block = some (e, n)) ∧ HRel B w0 ρ h' (w.setCell ⟨b.block, b.base + off, none⟩ x) ∧ h'.next = h.next := by
  obtain ⟨s1, s2⟩ := R.store hb hs (.cons hx .nil)
  obtain ⟨vs, e, fz, own, vs', hg, ho, hf, hfl, hp, rfl⟩ := storeV_some hs
  have c : CRel ρ b vs e fz own w := R.obj l b _ hb hg
  simp only [cellAt, Q.ask, hg, rdPart] at hc
  rw [dropN_drop, List.head?_drop] at hc
  obtain ⟨y, y1, y2⟩ := c.cell off v hc
  have hle := putFrom_le hp
  have hfit := c.fits
  simp only [List.length_cons, List.length_nil] at hle
  exact ⟨y, y2, y1, c.free ho _ (by omega) (by omega), ⟨_, _, c.shape⟩, s2, rfl⟩

theorem ext_add32 (E : EntryAt P f (Extern.Atomic.update (Op.intArith .add) .i32 true)) : ExtOk P G f .add32 := by
  intro args h v h' hr B w0 ρ w xs R hG hx
  simp only [extRun] at hr
  split at hr
  · rename_i l off y
    obtain ⟨x1, x2, rfl, r1, r2⟩ := hx.two
    obtain ⟨b, hb, rfl⟩ := ptr_inv r1
    cases r2
    split at hr
    · rename_i v0 hc
      simp only [ob_some, Option.some.injEq, Prod.mk.injEq] at hr
      obtain ⟨h1, hs, rfl, rfl⟩ := hr
      obtain ⟨c, c1, c2, c3, c4, c5, c6⟩ := one_cell R hb hc hs (.int .i32 _)
      cases c1
      rw [wrapD_eq] at c5 ⊢
      refine E.good (x := .int .i32 (IntKind.i32.wrap (v0 + y))) ?_ ⟨ρ, Step.same c6, .int _ _, c5⟩
      show (Extern.Atomic.update (Op.intArith .add) .i32 true #[.pointer (some ⟨b.block, b.base + off, none⟩), .int .i32 y]).run P w = _
      have hdef : Extern.Atomic.update (Op.intArith .add) .i32 true #[.pointer (some ⟨b.block, b.base + off, none⟩), .int .i32 y] = (do
        let a ← asAddr (.pointer (some ⟨b.block, b.base + off, none⟩))
        let old ← Extern.Atomic.read (.int .i32) a
        let new ← Op.intArith .add .i32 (← asInt old) (← asInt (.int .i32 y))
        store a new .atomic
        pure (if true then new else old)) := rfl
      rw [hdef]
      simp [Extern.Atomic.read, asAddr, asInt, asIntOf, c2, c3, Op.intArith, run_store P w _ (.int .i32 (IntKind.i32.wrap (v0 + y))) .atomic rfl]
    · cases hr
  · cases hr

theorem ext_cas32 (E : EntryAt P f (Extern.Atomic.casT (.int .i32))) : ExtOk P G f .cas32 := by
  intro args h v h' hr B w0 ρ w xs R hG hx
  simp only [extRun] at hr
  split at hr
  · rename_i l off x y
    cases hx with | cons r1 hx =>
    obtain ⟨x2, x3, rfl, r2, r3⟩ := hx.two
    obtain ⟨b, hb, rfl⟩ := ptr_inv r1
    cases r2; cases r3
    split at hr
    · rename_i v0 hc
      simp only [chk_some, ob_some, Option.some.injEq, Prod.mk.injEq] at hr
      obtain ⟨he, h1, hs, rfl, rfl⟩ := hr
      have he : v0 = x := by rw [intEq_eq] at he; simpa using he
      subst he
      obtain ⟨c, c1, c2, c3, ⟨e, n, c4⟩, c5, c6⟩ := one_cell R hb hc hs (.int .i32 y)
      cases c1
      refine E.good (x := .bool true) ?_ ⟨ρ, Step.same c6, .bool _, c5⟩
      show (Extern.Atomic.casT (.int .i32) #[.pointer (some ⟨b.block, b.base + off, none⟩), .int .i32 v0, .int .i32 y]).run P w = _
      have hdef : Extern.Atomic.casT (.int .i32) #[.pointer (some ⟨b.block, b.base + off, none⟩), .int .i32 v0, .int .i32 y] = (do
        let a ← asAddr (.pointer (some ⟨b.block, b.base + off, none⟩))
        if ← Extern.Atomic.touchesFrozen a then unsupported (.unsafePointer "a write to bytes that a string shares")
        let eq ← match Extern.Atomic.T.int .i32, ← Extern.Atomic.read (.int .i32) a, Value.int .i32 v0 with
          | _, .int _ x, .int _ y => pure (x == y)
          | .ptr, .pointer x, .pointer y => samePointer x y
          | .int _, .pointer (some _), .int _ 0 | .int _, .int _ 0, .pointer (some _) => pure false
          | .int _, .pointer (some _), _ | .int _, _, .pointer (some _) => unsupported .addressObserved
          | _, _, _ => stuck "atomic.CompareAndSwap: old is no T"
        if eq then store a (.int .i32 y) .atomic
        pure (.bool eq)) := rfl
      rw [hdef]
      simp [Extern.Atomic.read, Extern.Atomic.touchesFrozen, asAddr, viewAt, c4, c2, c3, run_store P w _ (.int .i32 y) .atomic rfl]
    · cases hr
  · cases hr


/-! ### bytes -/

theorem bget {t : ByteArray} {i : Nat} (h : i < t.size) : t[i]! = (t.data.toList)[i]'(by simpa using h) := by
  rw [getElem!_pos t i h]; rfl

theorem find_range {p : Nat → Bool} : ∀ (n : Nat), (List.range n).find? p = (List.range' 0 n).find? p := fun n => by rw [List.range_eq_range']

theorem indexNat_ok (c : UInt8) (t : ByteArray) : ∀ (l : List UInt8) (k : Nat), t.data.toList.drop k = l → indexNat c.toNat (l.map (·.toNat)) k = (match (List.range' k (t.size - k)).find? (fun i => t[i]! == c) with | some i => (i : Int) | none => -1)
  | [], k, h => by
    have : t.size ≤ k := by
      have := congrArg List.length h
      simp at this; omega
    rw [show t.size - k = 0 from by omega]
    rfl
  | b :: l, k, h => by
    have hlt : k < t.size := by
      have := congrArg List.length h
      simp at this; omega
    have hc := List.drop_eq_getElem_cons (l := t.data.toList) (i := k) (by simpa using hlt)
    rw [hc] at h
    injection h with hb hd
    have hb : t[k]! = b := by rw [bget hlt]; exact hb
    rw [show t.size - k = (t.size - (k + 1)) + 1 from by omega, List.range'_succ, List.find?_cons, hb]
    simp only [List.map_cons, indexNat]
    by_cases e : b = c
    · subst e; simp
    · have h1 : (b == c) = false := by simpa using e
      have h2 : Nat.beq b.toNat c.toNat = false := by
        rw [← Bool.not_eq_true, Nat.beq_eq]
        exact fun h => e (UInt8.toNat_inj.1 h)
      rw [h1, h2]
      exact indexNat_ok c t l (k + 1) hd

theorem ext_indexByte (E : EntryAt P f Extern.BytealgIndexByte.indexByte) : ExtOk P G f .indexByte := by
  intro args h v h' hr B w0 ρ w xs R hG hx
  simp only [extRun] at hr
  split at hr
  · rename_i s c
    simp only [chk_some, Option.some.injEq, Prod.mk.injEq] at hr
    obtain ⟨hc, rfl, rfl⟩ := hr
    have hc : c < 256 := by simpa using hc
    obtain ⟨x1, x2, rfl, r1, r2⟩ := hx.two
    cases r1 with | str t =>
    cases r2
    have hu : (UInt8.ofNat c).toNat = c := by simp [Nat.mod_eq_of_lt hc]
    have key := indexNat_ok (UInt8.ofNat c) t t.data.toList 0 rfl
    rw [hu] at key
    have hcc : ((Int.ofNat c).toNat).toUInt8 = UInt8.ofNat c := rfl
    refine E.good (x := .int .i64 (indexNat c (natsOf t) 0)) (w' := w) ?_ ⟨ρ, Step.refl _ _, .int _ _, R⟩
    have hk : indexNat c (natsOf t) 0 = (match (List.range t.size).find? (fun i => t[i]! == UInt8.ofNat c) with | some i => (i : Int) | none => -1) := by
      rw [List.range_eq_range']; exact key
    show (Extern.BytealgIndexByte.indexByte #[.string t, .int .u8 (Int.ofNat c)]).run P w = _
    have hdef : Extern.BytealgIndexByte.indexByte #[.string t, .int .u8 (Int.ofNat c)] = (match (List.range t.size).find? (fun i => t[i]! == UInt8.ofNat c) with
      | some i => pure (goInt i)
      | none => pure (goInt (-1)) : Sem Value) := rfl
    rw [hdef, hk]
    cases (List.range t.size).find? (fun i => t[i]! == UInt8.ofNat c) <;> rfl
  · cases hr


theorem cmpNats_ok : ∀ a b : List UInt8, cmpNats (a.map (·.toNat)) (b.map (·.toNat)) = Lib.compareBytes a b
  | [], [] => rfl
  | [], _ :: _ => rfl
  | _ :: _, [] => rfl
  | a :: x, b :: y => by
    have ih := cmpNats_ok x y
    unfold cmpNats at ih ⊢
    simp only [List.map_cons, natsLess, natsEq]
    unfold Lib.compareBytes
    have h1 : Nat.blt a.toNat b.toNat = decide (a < b) := by
      rw [Bool.eq_iff_iff, decide_eq_true_iff, UInt8.lt_iff_toNat_lt]
      simp
    have h2 : Nat.beq a.toNat b.toNat = (a == b) := by
      rw [Bool.eq_iff_iff, beq_iff_eq, Nat.beq_eq]
      exact UInt8.toNat_inj
    rw [h1, h2]
    by_cases e : a < b
    · simp [e]
    · by_cases e2 : a = b
      · subst e2
        simp [e]
        exact ih
      · have e3 : b < a := by
          rw [UInt8.lt_iff_toNat_lt] at *
          have : a.toNat ≠ b.toNat := fun h => e2 (UInt8.toNat_inj.1 h)
          omega
        have e4 : (a == b) = false := by simpa using e2
        simp [e, e3, e4]

theorem ext_compare (E : EntryAt P f Extern.BytealgCompare.compare) : ExtOk P G f .compare := by
  intro args h v h' hr B w0 ρ w xs R hG hx
  simp only [extRun] at hr
  split at hr
  · cases hr
    obtain ⟨x1, x2, rfl, r1, r2⟩ := hx.two
    cases r1 with | str t =>
    cases r2 with | str u =>
    refine E.good (Lib.run_compareString (P := P) t u w) ⟨ρ, Step.refl _ _, ?_, R⟩
    have := cmpNats_ok t.data.toList u.data.toList
    unfold natsOf
    rw [this]
    exact .int _ _
  · cases hr

theorem hasNat_mem {n : Nat} {l : List Nat} (h : hasNat n l = true) : n ∈ l := by
  rw [hasNat_eq] at h; simpa using h

theorem ext_typeOf {rt : TypeId} {ts : List TypeId} {g : Nat} (hg : g < G) (hgl : g = P.globals.size) (E : EntryAt P f Extern.ReflectliteType.typeOf) (hc : ∀ w, (cutType "internal/reflectlite.rtype").run P w = .ok rt w) : ExtOk P G f (.typeOf rt (pathOf g) ts) := by
  intro args h v h' hr B w0 ρ w xs R hG hx
  simp only [extRun] at hr
  split at hr
  · rename_i t v0
    simp only [chk_some, Option.some.injEq, Prod.mk.injEq] at hr
    obtain ⟨_, rfl, rfl⟩ := hr
    obtain ⟨x, rfl, rx⟩ := hx.one
    obtain ⟨y, rfl, ry⟩ := iface_inv rx
    obtain ⟨k, hk⟩ := hG g hg
    refine E.good (x := .iface rt (.agg #[.pointer (some ⟨g, t, none⟩)])) (w' := w) ?_ ⟨ρ, Step.refl _ _, ?_, R⟩
    · show (Extern.ReflectliteType.toType t).run P w = _
      subst hgl
      unfold Extern.ReflectliteType.toType
      simp [hc, Extern.Rtype.handle, typeHandle]
    · have := RV.ptr (ρ := ρ) t hk
      exact .iface rt (.agg (.cons (by simpa using this) .nil))
  · cases hr

theorem ext_comparable {ts : List TypeId} {g : Nat} (hg : g < G) (_hgs : g < 2 ^ 64) (E : EntryAt P f (Extern.ReflectliteType.method fun t => do Extern.Rtype.noPackHeld "Comparable" t; pure (.bool (← typeInfo t).comparable)))
    (hc : ∀ t ∈ ts, ∀ i, P.info? t = some i → ∀ w, (Extern.ReflectliteType.method (fun t => do Extern.Rtype.noPackHeld "Comparable" t; pure (.bool (← typeInfo t).comparable)) #[.agg #[.pointer (some ⟨g, t, none⟩)]]).run P w = .ok (.bool i.comparable) w) :
    ExtOk P G f (.comparable (pathOf g) ts) := by
  intro args h v h' hr B w0 ρ w xs R hG hx
  simp only [extRun] at hr
  split at hr
  · rename_i l t
    simp only [chk_some, ob_some, Option.some.injEq, Prod.mk.injEq, Bool.and_eq_true] at hr
    obtain ⟨⟨hl, ht⟩, i, hi, rfl, rfl⟩ := hr
    have hl := lbEq_iff hl
    subst hl
    obtain ⟨x, rfl, rx⟩ := hx.one
    cases rx with | agg rx =>
    obtain ⟨y, rfl, ry⟩ := rx.one
    obtain ⟨b, hb, rfl⟩ := ptr_inv ry
    obtain ⟨k, hk⟩ := hG g hg
    rw [hk] at hb
    cases hb
    refine E.good (x := .bool i.comparable) (w' := w) ?_ ⟨ρ, Step.refl _ _, .bool _, R⟩
    have := hc t (hasNat_mem ht) i hi w
    simpa using this
  · cases hr


/-- A block that no label stands for. -/
theorem HRel.junk (R : HRel B w0 ρ h w) (o : Go.Obj) : HRel B w0 ρ h (w.alloc o) :=
  ⟨fun l b p hl hp => (R.obj l b p hl hp).of_block (Ext'.refl _) (heap_alloc_old o (R.obj l b p hl hp).lt), R.lt, R.base, R.inj, R.own, by rw [World.size_alloc]; exact Nat.le_succ_of_le R.size, R.below.alloc R.size o⟩

/-- What is behind a call's result, given what the call does. -/
theorem Good.of_calls {xs : List Value} {R : Value → World → Prop} {func : Func} {c : Code} (hf : P.funcs[f]? = some func) (hb : func.body = some c) (hn : (func.name == "runtime.NumGoroutine") = false) (h : Calls P f ⟨xs⟩ w fun e w' => ∃ v, e = .returned v ∧ R v w') : Good P f xs w R := by
  refine .inr ⟨?_, h⟩
  have hn : ¬ func.name = "runtime.NumGoroutine" := fun e => by rw [e] at hn; simp at hn
  unfold callFunc
  simp [hf, hn, hb]

end
end Go.Dx
namespace Go.Dx
open Go Go.RowKit

section
variable {P : Program} {w : World}

theorem run_range_nil {t k e : TypeId} (ht : P.underlying t = some (.map k e)) : (Instr.range t (.map none)).run P w = .ok (.pointer (some ⟨w.heap.size, 0, none⟩)) (w.alloc (.mapIter none 0 #[] 0)) := by
  unfold Instr.range
  simp [run_underlying ht]

theorem run_range_map {t k e : TypeId} (ht : P.underlying t = some (.map k e)) {m : Nat} {es : Array MapEntry} {clock : Nat} (hm : w.heap[m]? = some (.map es clock)) :
    (Instr.range t (.map (some m))).run P w = .ok (.pointer (some ⟨w.heap.size, 0, none⟩)) (w.alloc (.mapIter (some m) clock #[] clock)) := by
  unfold Instr.range
  have hg : (getObj m).run P w = .ok (.map es clock) w := by simp [getObj, Sem.run, hm]
  simp [run_underlying ht, hg]

theorem run_next_nil {r a b : Nat} {s : Array Nat} (hr : w.heap[r]? = some (.mapIter none a s b)) (ty : TypeId) : (Instr.next (.pointer (some ⟨r, 0, none⟩)) false ty).run P w = .ok (.tuple #[.bool false]) w := by
  unfold Instr.next
  have hg : (getObj r).run P w = .ok (.mapIter none a s b) w := by simp [getObj, Sem.run, hr]
  simp [hg]

theorem run_next_empty {r m since last clock : Nat} {s : Array Nat} (hr : w.heap[r]? = some (.mapIter (some m) since s last)) (hm : w.heap[m]? = some (.map #[] clock)) (ty : TypeId) :
    (Instr.next (.pointer (some ⟨r, 0, none⟩)) false ty).run P w = .ok (.tuple #[.bool false]) w := by
  unfold Instr.next
  have hg : (getObj r).run P w = .ok (.mapIter (some m) since s last) w := by simp [getObj, Sem.run, hr]
  have hgm : (getObj m).run P w = .ok (.map #[] clock) w := by simp [getObj, Sem.run, hm]
  have hf : (Question.mapNext 1).forced = true := rfl
  simp [hg, hgm, hf]

theorem run_next_first {r m since last clock : Nat} {en : MapEntry} (hr : w.heap[r]? = some (.mapIter (some m) since #[] last)) (hm : w.heap[m]? = some (.map #[en] clock)) (hb : en.born < since) (ty : TypeId) :
    (Instr.next (.pointer (some ⟨r, 0, none⟩)) false ty).run P w = .ok (.tuple #[.bool true, en.key, en.val]) (w.putObj r (.mapIter (some m) since #[en.born] clock)) := by
  unfold Instr.next
  have hg : (getObj r).run P w = .ok (.mapIter (some m) since #[] last) w := by simp [getObj, Sem.run, hr]
  have hgm : (getObj m).run P w = .ok (.map #[en] clock) w := by simp [getObj, Sem.run, hm]
  have hf : (Question.mapNext 1).forced = true := rfl
  have hb' : ¬ since ≤ en.born := by omega
  simp [hg, hgm, hf, hb, hb', setObj, Sem.run, hr, World.putObj]

theorem run_next_last {r m since last clock : Nat} {en : MapEntry} (hr : w.heap[r]? = some (.mapIter (some m) since #[en.born] last)) (hm : w.heap[m]? = some (.map #[en] clock)) (hb : en.born < last) (ty : TypeId) :
    (Instr.next (.pointer (some ⟨r, 0, none⟩)) false ty).run P w = .ok (.tuple #[.bool false]) w := by
  unfold Instr.next
  have hg : (getObj r).run P w = .ok (.mapIter (some m) since #[en.born] last) w := by simp [getObj, Sem.run, hr]
  have hgm : (getObj m).run P w = .ok (.map #[en] clock) w := by simp [getObj, Sem.run, hm]
  have hf : (Question.mapNext 1).forced = true := rfl
  have hb' : ¬ last ≤ en.born := by omega
  simp [hg, hgm, hf, hb']

theorem run_entry_one {r m since clock : Nat} {en : MapEntry} (hr : w.heap[r]? = some (.mapIter (some m) since #[en.born] clock)) (hm : w.heap[m]? = some (.map #[en] clock)) :
    (Instr.entry (.pointer (some ⟨r, 0, none⟩))).run P w = .ok (.tuple #[en.key, en.val]) w := by
  unfold Instr.entry
  have hg : (getObj r).run P w = .ok (.mapIter (some m) since #[en.born] clock) w := by simp [getObj, Sem.run, hr]
  have hgm : (getObj m).run P w = .ok (.map #[en] clock) w := by simp [getObj, Sem.run, hm]
  simp [hg, hgm]

theorem grownBy_put (W : World) (l : Nat) (o : Go.Obj) : W.grownBy (W.putObj l o) (some l) :=
  ⟨rfl, rfl, rfl, by simp, fun k _ hk => World.putObj_heap_other (fun e => hk (by rw [e]))⟩

theorem cell_of_box {W : World} {B : Nat} {v : Value} {t : TypeId} (h : W.heap[B]? = some (.cells #[v] t (0, 0))) : W.cell? ⟨B, 0, none⟩ = some v ∧ W.frozen? ⟨B, 0, none⟩ = false := by
  constructor <;> simp [World.cell?, World.frozen?, h]

/-- What lies below is as it was: the relation stands. -/
theorem HRel.below_ok {B : Nat} {w0 : World} {ρ : Rho} {h : H} {w' : World} (R : HRel B w0 ρ h w) (hb : Below w.heap.size w w') : HRel B w0 ρ h w' :=
  ⟨fun l b o hl ho => (R.obj l b o hl ho).of_block (Ext'.refl _) (hb.block _ (R.obj l b o hl ho).lt), R.lt, R.base, R.inj, R.own, Nat.le_trans R.size hb.size, R.below.trans (hb.mono R.size)⟩

/-- A label for a block that nothing stands for yet. -/
theorem HRel.named {B : Nat} {w0 : World} {ρ : Rho} {h : H} {w' : World} (R : HRel B w0 ρ h w) (hb : Below w.heap.size w w') {o : Obj} {b : Blk} (hbl : w.heap.size ≤ b.block) (hb0 : b.base = 0 ∧ b.val = .nilFunc) (ho : ORel (upd ρ h.next b) b w' o) :
    HRel B w0 (upd ρ h.next b) (h.add o) w' := by
  have R' := R.below_ok hb
  have E := upd_ext (b := b) R.fresh
  refine ⟨fun m c p hm hp => ?_, fun m c hm => ?_, fun m c hm => ?_, fun m n c d hm hn im in' e => ?_, fun m c p hm hp hw => ?_, R'.size, R'.below⟩
  · by_cases e : m = h.next
    · subst e
      rw [upd_self] at hm; cases hm
      rw [H.get_add_self] at hp; cases hp
      exact ho
    · rw [upd_ne e] at hm
      rw [H.get_add_ne _ _ e] at hp
      exact (R'.obj m c p hm hp).of_block E rfl
  · show val m < val (inc h.next)
    rw [val_inc]
    by_cases e : m = h.next
    · subst e; omega
    · rw [upd_ne e] at hm; exact Nat.lt_succ_of_lt (R.lt m c hm)
  · by_cases e : m = h.next
    · subst e; rw [upd_self] at hm; cases hm; exact ⟨hb0.1, .nil hb0.2⟩
    · rw [upd_ne e] at hm; exact R.base m c hm
  · by_cases e1 : m = h.next
    · by_cases e2 : n = h.next
      · rw [e1, e2]
      · subst e1
        rw [upd_self] at hm
        rw [upd_ne e2] at hn
        cases hm
        rw [H.get_add_ne _ _ e2] at in'
        obtain ⟨p, hp⟩ := Option.isSome_iff_exists.1 in'
        have := (R.obj n d p hn hp).lt
        omega
    · by_cases e2 : n = h.next
      · subst e2
        rw [upd_self] at hn
        rw [upd_ne e1] at hm
        cases hn
        rw [H.get_add_ne _ _ e1] at im
        obtain ⟨p, hp⟩ := Option.isSome_iff_exists.1 im
        have := (R.obj m c p hm hp).lt
        omega
      · rw [upd_ne e1] at hm
        rw [upd_ne e2] at hn
        rw [H.get_add_ne _ _ e1] at im
        rw [H.get_add_ne _ _ e2] at in'
        exact R.inj m n c d hm hn im in' e
  · by_cases e : m = h.next
    · subst e
      rw [upd_self] at hm; cases hm
      have := R.size; omega
    · rw [upd_ne e] at hm
      rw [H.get_add_ne _ _ e] at hp
      exact R.own m c p hm hp hw

/-- The loop's record at its start. -/
structure Rec0 (fn : FuncId) (a : Act) (ps : Array Tmp) (assign body : Code) (D : Nat) (L : Loop) : Prop where
  state : L.state = .ready
  pending : L.pending = none
  fn : L.fn = fn
  tmps : L.tmps = a.tmps
  params : L.params = ps
  assign : L.assign = assign
  body : L.body = body
  defers : L.defers = D

/-- A range over a function, by whoever calls it: the call's contract alone is asked; behind it the record is to be found as it lay, and the block for deferred calls empty. -/
theorem wpIn_rangeFunc_flat {g : Operand} {ps : Array Tmp} {assign body : Code} {Q : Exit → Act → World → Prop} {a : Act} {gf : Nat} {lb : Array Value} (hg : a.eval g = .func (.func gf) #[] lb) (eg : ∀ args w, (callFunc gf args).run P w = .ok (.enter gf args) w)
    (h : ∀ fn L, Rec0 fn a ps assign body w.heap.size L → CallsIn Fence.wide 0 P gf (#[.func (.yield (w.heap.size + 1)) #[] #[]] ++ lb) ((w.alloc (.deferred (some []))).alloc (.loop L)) fun e W' =>
      (∃ v, e = .returned v) ∧ W'.heap[w.heap.size + 1]? = some (.loop L) ∧
        Q .normal { a with defers := { target := .collected w.heap.size, args := #[] } :: a.defers } (W'.putObj (w.heap.size + 1) (.loop { L with state := .exhausted }))) :
    (Code.rangeFunc g ps assign body).wpIn Fence.wide 0 P Q a w := by
  refine wpIn_rangeFunc fun fn _ => ?_
  obtain ⟨L, hL⟩ : ∃ L, L = ({ state := .ready, pending := none, fn := fn, tmps := a.tmps, params := ps, assign := assign, body := body, defers := w.heap.size } : Loop) := ⟨_, rfl⟩
  have h := h fn L (by subst hL; exact ⟨rfl, rfl, rfl, rfl, rfl, rfl, rfl, rfl⟩)
  have hst : L.state = .ready := by rw [hL]
  have hpe : L.pending = none := by rw [hL]
  obtain ⟨W1, hW1⟩ : ∃ W1, W1 = ((w.alloc (.deferred (some []))).alloc (.loop L)) := ⟨_, rfl⟩
  rw [← hW1] at h
  refine ⟨w.heap.size + 1, [{ target := .collected w.heap.size, args := #[] }], W1, { target := .fn (.func gf) lb, args := #[.func (.yield (w.heap.size + 1)) #[] #[]] }, W1, gf,
    #[.func (.yield (w.heap.size + 1)) #[] #[]] ++ lb, W1, ?_, ?_, fun _ _ => trivial, ?_, ?_, ?_⟩
  · rw [hW1, hL]; exact run_enterLoop_outer _ _ _ _ _
  · unfold resolve
    simp only [hg]
    simp [Act.eval, Deferred.ofValue]
  · simp [invoke, go_sem, eg]
  · intro e; exact absurd e (by simp [Fence.wide])
  · simp only [List.cons_append, List.nil_append, Nat.zero_sub]
    refine h.mono fun e W' hh => ?_
    obtain ⟨⟨v, rfl⟩, h1, h2⟩ := hh
    refine ⟨none, _, ?_, h2⟩
    have := run_endLoop (P := P) h1 (by rw [hst]; exact fun e => by cases e)
    rw [this, hpe]

/-- 'append(s, x..)', as it runs. -/
theorem wpListIn_append_run {F : Fence} {n : Nat} {ops : Array Oper} {rest : List Oper} {o : Oper} {a : Act} {Q : Exit → Act → World → Prop} (hg : o.guard = none) (s x : Operand) (t u : TypeId)
    (hop : o.op = Op.call { callee := Callee.builtin Builtin.append, args := #[s, x], argTypes := #[t, u] }) {sx xx y : Value} {w' : World} (hs : a.eval s = sx) (hx : a.eval x = xx) (hrun : (Builtin.append_ #[t, u] o.type #[sx, xx]).run P w = .ok y w')
    (hK : wpListIn F n P ops Q rest (a.put o.dst y) w') : wpListIn F n P ops Q (o :: rest) a w := by
  refine wpListIn_plain hg fun K' hK' => ?_
  unfold Oper.wpIn
  refine ⟨?_, ?_⟩
  · simp [Oper.about, hop, resolve, Target.leads, Sem.run_pure]
  · rw [Oper.semAt_plain F _ _ (by rw [hop]; intro c hc'; cases hc')]
    simp [execOp, hop, resolve, invoke, Go.builtin, hs, hx, hrun, Result.andThen]
    exact hK' _ _ hK

/-- append(nil, one element of a row): a new row. -/
theorem run_append_one {t e : TypeId} {i : TypeInfo} {z : Value} (ht : P.underlying t = some (.slice e)) (hi : P.info? e = some i) (hz : i.zero = some z) (hz2 : z.cells.size = i.size) (hb : i.bytes ≤ 1048576) {src : Addr} {news : List Value} (hn : news.length = i.size)
    (hc : ∀ j v, news[j]? = some v → w.cell? (src.add j) = some v) (ty : TypeId) :
    ∃ g cap cur, (Builtin.append_ #[t, t] ty #[.slice none 0 0, .slice (some src) 1 1]).run P w = .ok (.slice (some ⟨g, 0, none⟩) 1 cap) (w.drew.alloc (.cells cur e)) ∧ g = w.heap.size ∧ cur.toList.take i.size = news ∧ cur.size = cap * i.size ∧ 1 ≤ cap := by
  have hF := feeds_src (P := P) (w := w) t t ty e i z ht hi hz (.inl ⟨e, ht⟩) (.slice (some src) 1 1) 1 news (fun w' => rfl)
    (run_firstCells_some w i.size 1 _ 1 1 news (by omega) fun j v hv => hc j v hv) (run_firstCells_some w.drew i.size 1 _ 1 1 news (by omega) fun j v hv => by rw [World.cell?_drew]; exact hc j v hv)
  have h2 := nextslicecap_le (need := 0 + 1) (old := 0) (by omega)
  have hg := hF.grow none 0 0 [] (by omega) (run_firstCells_none w.drew _ 0 0 0) (by omega) (by omega) (by
    have : Builtin.nextslicecap (0 + 1) 0 * i.bytes ≤ 2 * (0 + 1) * i.bytes := Nat.mul_le_mul_right _ h2
    omega)
  have hge := grownCap_ge w (0 + 1) 0 e
  refine ⟨w.heap.size, grownCap w (0 + 1) 0 e, _, hg, rfl, ?_, ?_, hge⟩
  · simp [← hn]
  · have := size_zeroCells z.cells (grownCap w (0 + 1) 0 e - (0 + 1))
    simp only [List.nil_append, Array.size_append, List.size_toArray, hn]
    rw [this, hz2]
    have : grownCap w (0 + 1) 0 e = (grownCap w (0 + 1) 0 e - (0 + 1)) + 1 := by omega
    generalize grownCap w (0 + 1) 0 e - (0 + 1) = q at this ⊢
    rw [this, Nat.add_mul]; omega

/-- append(what holds nothing, a slice that lies there): a slice; nothing that lay there has turned. -/
theorem run_append_all {t e : TypeId} {i : TypeInfo} {z : Value} (ht : P.underlying t = some (.slice e)) (hi : P.info? e = some i) (hz : i.zero = some z) (h0 : 0 < i.bytes) {src b0 : Addr} {n cap : Nat} (hb : n * i.bytes ≤ 140737488355328)
    (hc : ∀ j, j < n * i.size → (w.cell? (src.add j)).isSome = true) (ty : TypeId) :
    ∃ y w', (Builtin.append_ #[t, t] ty #[.slice (some b0) 0 0, .slice (some src) n cap]).run P w = .ok y w' ∧ symOk y = true ∧ Below w.heap.size w w' := by
  obtain ⟨news, hn, hnews⟩ : ∃ news : List Value, news.length = n * i.size ∧ ∀ j v, news[j]? = some v → w.cell? (src.add j) = some v := by
    refine ⟨(List.range (n * i.size)).map fun j => (w.cell? (src.add j)).getD .nilFunc, by simp, fun j v hv => ?_⟩
    have hj : j < n * i.size := by
      have := (List.getElem?_eq_some_iff.1 hv).1
      simpa using this
    simp [hj] at hv
    have := hc j hj
    cases hw : w.cell? (src.add j) with
    | none => rw [hw] at this; cases this
    | some x => rw [hw] at hv; simp at hv; rw [hv]
  have hF := feeds_src (P := P) (w := w) t t ty e i z ht hi hz (.inl ⟨e, ht⟩) (.slice (some src) n cap) n news (fun w' => rfl)
    (run_firstCells_some w i.size n _ n cap news (by omega) fun j v hv => hnews j v hv) (run_firstCells_some w.drew i.size n _ n cap news (by omega) fun j v hv => by rw [World.cell?_drew]; exact hnews j v hv)
  by_cases hn0 : n = 0
  · subst hn0
    have hnil : news = [] := List.length_eq_zero_iff.1 (by omega)
    subst hnil
    refine ⟨.slice (some b0) (0 + 0) 0, w, ?_, rfl, Below.refl _ _⟩
    rw [hF.room (some b0) 0 0 (by omega)]
    rfl
  · have h2 := nextslicecap_le (need := 0 + n) (old := 0) (by omega)
    have h3 : Builtin.nextslicecap (0 + n) 0 * i.bytes ≤ 2 * (0 + n) * i.bytes := Nat.mul_le_mul_right _ h2
    have h4 : 2 * (0 + n) * i.bytes = 2 * (n * i.bytes) := by rw [Nat.zero_add, Nat.mul_assoc]
    have h5 : n ≤ n * i.bytes := Nat.le_mul_of_pos_right _ h0
    have hg := hF.grow (some b0) 0 0 [] (by omega) (by simpa using run_firstCells_some w.drew i.size 0 _ 0 0 [] (by simp) fun j v hv => by simp at hv) (by omega) (by omega) (by omega)
    exact ⟨_, _, hg, rfl, ((Below.refl _ w).drew).alloc (Nat.le_refl _) _⟩

end
end Go.Dx
