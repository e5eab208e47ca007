/-
  The deterministic machine over labels against the model: functions that are taken by what they do.
-/
import Derived.Test.YtkbjonoiecljiaaGreatDoorDxAny
import Derived.Test.YtkbjonoiecljiaaGreatDoorDxExt
import Derived.Laws.Externs
import Derived.Lib.MakeNoZero
import Derived.Lib.Bytealg
namespace Go.Dx
open Go Go.RowKit

/-- A function without a body, and what it does. -/
structure EntryAt (P : Program) (f : FuncId) (e : Array Value → Sem Value) : Prop where
  at_ : ∃ fn, P.funcs[f]? = some fn ∧ (fn.name == "runtime.NumGoroutine") = false ∧ fn.body.isNone = true ∧ Extern.findNext fn = none ∧ Extern.find fn = some e

def ExtOk (P : Program) (G : Nat) (f : FuncId) (k : Ext) : Prop := ∀ {args : List V} {h : H} {v : V} {h' : H}, extRun P k args h = some (v, h') → ∀ {B : Nat} {w0 : World} {ρ : Rho} {w : World} {xs : List Value}, HRel B w0 ρ h w → GRel ρ G → RVs ρ args xs →
  Good P f xs w fun x w' => ∃ ρ', Step ρ ρ' h h' ∧ RV ρ' v x ∧ HRel B w0 ρ' h' w'

theorem orc_ok {P : Program} {G : Nat} {ids : List (FuncId × Ext)} (h : ∀ p ∈ ids, ExtOk P G p.1 p.2) : OrcOk P G (orcOf P ids) := by
  intro f args h1 v h1' hr B w0 ρ w xs R hG hx
  simp only [orcOf, ob_some] at hr
  obtain ⟨k, hk, hr⟩ := hr
  have : ∀ {l : List (FuncId × Ext)}, findExt l f = some k → (f, k) ∈ l := by
    intro l
    induction l with
    | nil => intro h; simp [findExt] at h
    | cons p l ih =>
      intro h
      obtain ⟨g, k'⟩ := p
      simp only [findExt] at h
      split at h
      · rename_i he
        cases h
        rw [Nat.eq_of_beq_eq_true he]; exact List.mem_cons_self ..
      · exact List.mem_cons_of_mem _ (ih h)
  exact h _ (this hk) hr R hG hx

section
variable {P : Program} {G : Nat} {f : FuncId} {B : Nat} {w0 : World} {ρ : Rho} {h h' : H} {w : World}

theorem EntryAt.good {e : Array Value → Sem Value} (E : EntryAt P f e) {xs : List Value} {x : Value} {w' : World} {R : Value → World → Prop} (hr : (e ⟨xs⟩).run P w = .ok x w') (hR : R x w') : Good P f xs w R := by
  obtain ⟨fn, h1, h2, h3, h4, h5⟩ := E.at_
  refine .inl ⟨x, w', ?_, hR⟩
  rw [run_callFunc_extern h1 h2 h3 h4 h5, hr]; rfl

theorem ext_nop {m : Mark} (E : EntryAt P f fun _ => do mark m; pure Extern.Race.none_) : ExtOk P G f .nop := by
  intro args h v h' hr B w0 ρ w xs R hG hx
  simp only [extRun] at hr
  split at hr
  · cases hr; cases hx
    exact E.good (x := Extern.Race.none_) (w' := w) (by simp) ⟨ρ, Step.refl _ _, .tuple .nil, R⟩
  · cases hr

theorem ext_mark {m : Addr → Mark} (E : EntryAt P f (Extern.Race.marked m)) : ExtOk P G f .mark := by
  intro args h v h' hr B w0 ρ w xs R hG hx
  simp only [extRun] at hr
  split at hr
  · cases hr
    obtain ⟨x, rfl, rx⟩ := hx.one
    obtain ⟨b, hb, rfl⟩ := ptr_inv rx
    exact E.good (x := Extern.Race.none_) (w' := w) (by simp [Extern.Race.marked, Extern.Race.at_]) ⟨ρ, Step.refl _ _, .tuple .nil, R⟩
  · cases hr

theorem ext_same (E : EntryAt P f Extern.AbiNoEscape.same) : ExtOk P G f .same := by
  intro args h v h' hr B w0 ρ w xs R hG hx
  simp only [extRun] at hr
  split at hr
  · cases hr
    obtain ⟨x, rfl, rx⟩ := hx.one
    exact E.good (x := x) (w' := w) rfl ⟨ρ, Step.refl _ _, rx, R⟩
  · cases hr

theorem ext_clone (E : EntryAt P f Extern.MapsClone.clone) : ExtOk P G f .clone := by
  intro args h v h' hr B w0 ρ w xs R hG hx
  simp only [extRun] at hr
  split at hr
  · rename_i t r
    obtain ⟨x, rfl, rx⟩ := hx.one
    obtain ⟨y, rfl, ry⟩ := iface_inv rx
    obtain ⟨b, hb, rfl⟩ := map_inv ry
    split at hr
    · rename_i es c hg
      cases hr
      obtain ⟨ms, hms, hes⟩ := R.mapAt (P := P) hb hg
      have R' := R.add (o := .map es c) (x := .map ms c) (b := Blk.mk w.heap.size 0 0 .nilFunc) rfl ⟨rfl, rfl⟩ ⟨ms, heap_alloc_new _, hes.mono (upd_ext R.fresh)⟩
      refine E.good (x := .iface t (.map (some w.heap.size))) (w' := w.alloc (.map ms c)) ?_ ⟨_, Step.add _ _ _ _, .iface t (.map (upd_self _ _ _)), R'⟩
      show (Extern.MapsClone.clone #[.iface t (.map (some b.block))]).run P w = _
      have hdef : Extern.MapsClone.clone #[.iface t (.map (some b.block))] = (do
        let .map entries clock ← getObj b.block | stuck "maps.clone: a map expected"
        pure (.iface t (.map (some (← newObj (.map entries clock)))))) := rfl
      rw [hdef]
      simp [hms]
    · cases hr
  · cases hr

theorem ext_noZero {ps : Array TypeId} {t et : TypeId} (ht : P.underlying t = some (.slice et)) (E : EntryAt P f (Extern.BytealgMakeNoZero.makeNoZero ps #[t])) : ExtOk P G f (.noZero et) := by
  intro args h v h' hr B w0 ρ w xs R hG hx
  simp only [extRun] at hr
  split at hr
  · rename_i n
    simp only [chk_some, Option.some.injEq, Prod.mk.injEq] at hr
    obtain ⟨hn, rfl, rfl⟩ := hr
    have hn := Nat.le_of_ble_eq_true hn
    obtain ⟨x, rfl, rx⟩ := hx.one
    cases rx
    obtain ⟨cs, c1, c2, _⟩ := Lib.run_makeNoZero (P := P) w ps t et ht n (by omega)
    have R' := ((R.drew).drew).row (vs := []) (xs := []) .nil cs.toList et 0 .yes
    have e : (⟨[] ++ cs.toList⟩ : Array Value) = cs := by cases cs; rfl
    rw [e] at R'
    refine E.good c1 ⟨_, Step.add _ _ _ _, .sliceEnd 0 n 1 cs.size (upd_self _ _ _) c2 ?_, R'⟩
    simp
  · cases hr


/-- One cell, read; the store of one. -/
theorem one_cell (R : HRel B w0 ρ h w) {l : Lb} {b : Blk} (hb : ρ l = some b) {off : Nat} {v u : V} {x : Value} (hc : cellAt h l off = some v) (hs : storeV h l off [u] = some h') (hx : RV ρ u x) :
    ∃ y, RV ρ v y ∧ w.cell? ⟨b.block, b.base + off, none⟩ = some y ∧ w.frozen? ⟨b.block, b.base + off, none⟩ = false ∧ (∃ e n, w.shape? b.block = some (e, n)) ∧ HRel B w0 ρ h' (w.setCell ⟨b.block, b.base + off, none⟩ x) ∧ h'.next = h.next := by
  obtain ⟨s1, s2⟩ := R.store hb hs (.cons hx .nil)
  obtain ⟨vs, e, fz, own, vs', hg, ho, hf, hfl, hp, rfl⟩ := storeV_some hs
  have c : CRel ρ b vs e fz own w := R.obj l b _ hb hg
  simp only [cellAt, Q.ask, hg, rdPart] at hc
  rw [dropN_drop, List.head?_drop] at hc
  obtain ⟨y, y1, y2⟩ := c.cell off v hc
  have hle := putFrom_le hp
  have hfit := c.fits
  simp only [List.length_cons, List.length_nil] at hle
  exact ⟨y, y2, y1, c.free ho _ (by omega) (by omega), ⟨_, _, c.shape⟩, s2, rfl⟩

theorem ext_add32 (E : EntryAt P f (Extern.Atomic.update (Op.intArith .add) .i32 true)) : ExtOk P G f .add32 := by
  intro args h v h' hr B w0 ρ w xs R hG hx
  simp only [extRun] at hr
  split at hr
  · rename_i l off y
    obtain ⟨x1, x2, rfl, r1, r2⟩ := hx.two
    obtain ⟨b, hb, rfl⟩ := ptr_inv r1
    cases r2
    split at hr
    · rename_i v0 hc
      simp only [ob_some, Option.some.injEq, Prod.mk.injEq] at hr
      obtain ⟨h1, hs, rfl, rfl⟩ := hr
      obtain ⟨c, c1, c2, c3, c4, c5, c6⟩ := one_cell R hb hc hs (.int .i32 _)
      cases c1
      rw [wrapD_eq] at c5 ⊢
      refine E.good (x := .int .i32 (IntKind.i32.wrap (v0 + y))) ?_ ⟨ρ, Step.same c6, .int _ _, c5⟩
      show (Extern.Atomic.update (Op.intArith .add) .i32 true #[.pointer (some ⟨b.block, b.base + off, none⟩), .int .i32 y]).run P w = _
      have hdef : Extern.Atomic.update (Op.intArith .add) .i32 true #[.pointer (some ⟨b.block, b.base + off, none⟩), .int .i32 y] = (do
        let a ← asAddr (.pointer (some ⟨b.block, b.base + off, none⟩))
        let old ← Extern.Atomic.read (.int .i32) a
        let new ← Op.intArith .add .i32 (← asInt old) (← asInt (.int .i32 y))
        store a new .atomic
        pure (if true then new else old)) := rfl
      rw [hdef]
      simp [Extern.Atomic.read, asAddr, asInt, asIntOf, c2, c3, Op.intArith, run_store P w _ (.int .i32 (IntKind.i32.wrap (v0 + y))) .atomic rfl]
    · cases hr
  · cases hr

theorem ext_cas32 (E : EntryAt P f (Extern.Atomic.casT (.int .i32))) : ExtOk P G f .cas32 := by
  intro args h v h' hr B w0 ρ w xs R hG hx
  simp only [extRun] at hr
  split at hr
  · rename_i l off x y
    cases hx with | cons r1 hx =>
    obtain ⟨x2, x3, rfl, r2, r3⟩ := hx.two
    obtain ⟨b, hb, rfl⟩ := ptr_inv r1
    cases r2; cases r3
    split at hr
    · rename_i v0 hc
      simp only [chk_some, ob_some, Option.some.injEq, Prod.mk.injEq] at hr
      obtain ⟨he, h1, hs, rfl, rfl⟩ := hr
      have he : v0 = x := by rw [intEq_eq] at he; simpa using he
      subst he
      obtain ⟨c, c1, c2, c3, ⟨e, n, c4⟩, c5, c6⟩ := one_cell R hb hc hs (.int .i32 y)
      cases c1
      refine E.good (x := .bool true) ?_ ⟨ρ, Step.same c6, .bool _, c5⟩
      show (Extern.Atomic.casT (.int .i32) #[.pointer (some ⟨b.block, b.base + off, none⟩), .int .i32 v0, .int .i32 y]).run P w = _
      have hdef : Extern.Atomic.casT (.int .i32) #[.pointer (some ⟨b.block, b.base + off, none⟩), .int .i32 v0, .int .i32 y] = (do
        let a ← asAddr (.pointer (some ⟨b.block, b.base + off, none⟩))
        if ← Extern.Atomic.touchesFrozen a then unsupported (.unsafePointer "a write to bytes that a string shares")
        let eq ← match Extern.Atomic.T.int .i32, ← Extern.Atomic.read (.int .i32) a, Value.int .i32 v0 with
          | _, .int _ x, .int _ y => pure (x == y)
          | .ptr, .pointer x, .pointer y => samePointer x y
          | .int _, .pointer (some _), .int _ 0 | .int _, .int _ 0, .pointer (some _) => pure false
          | .int _, .pointer (some _), _ | .int _, _, .pointer (some _) => unsupported .addressObserved
          | _, _, _ => stuck "atomic.CompareAndSwap: old is no T"
        if eq then store a (.int .i32 y) .atomic
        pure (.bool eq)) := rfl
      rw [hdef]
      simp [Extern.Atomic.read, Extern.Atomic.touchesFrozen, asAddr, viewAt, c4, c2, c3, run_store P w _ (.int .i32 y) .atomic rfl]
    · cases hr
  · cases hr


/-! ### bytes -/

theorem bget {t : ByteArray} {i : Nat} (h : i < t.size) : t[i]! = (t.data.toList)[i]'(by simpa using h) := by
  rw [getElem!_pos t i h]; rfl

theorem find_range {p : Nat → Bool} : ∀ (n : Nat), (List.range n).find? p = (List.range' 0 n).find? p := fun n => by rw [List.range_eq_range']

theorem indexNat_ok (c : UInt8) (t : ByteArray) : ∀ (l : List UInt8) (k : Nat), t.data.toList.drop k = l → indexNat c.toNat (l.map (·.toNat)) k = (match (List.range' k (t.size - k)).find? (fun i => t[i]! == c) with | some i => (i : Int) | none => -1)
  | [], k, h => by
    have : t.size ≤ k := by
      have := congrArg List.length h
      simp at this; omega
    rw [show t.size - k = 0 from by omega]
    rfl
  | b :: l, k, h => by
    have hlt : k < t.size := by
      have := congrArg List.length h
      simp at this; omega
    have hc := List.drop_eq_getElem_cons (l := t.data.toList) (i := k) (by simpa using hlt)
    rw [hc] at h
    injection h with hb hd
    have hb : t[k]! = b := by rw [bget hlt]; exact hb
    rw [show t.size - k = (t.size - (k + 1)) + 1 from by omega, List.range'_succ, List.find?_cons, hb]
    simp only [List.map_cons, indexNat]
    by_cases e : b = c
    · subst e; simp
    · have h1 : (b == c) = false := by simpa using e
      have h2 : Nat.beq b.toNat c.toNat = false := by
        rw [← Bool.not_eq_true, Nat.beq_eq]
        exact fun h => e (UInt8.toNat_inj.1 h)
      rw [h1, h2]
      exact indexNat_ok c t l (k + 1) hd

theorem ext_indexByte (E : EntryAt P f Extern.BytealgIndexByte.indexByte) : ExtOk P G f .indexByte := by
  intro args h v h' hr B w0 ρ w xs R hG hx
  simp only [extRun] at hr
  split at hr
  · rename_i s c
    simp only [chk_some, Option.some.injEq, Prod.mk.injEq] at hr
    obtain ⟨hc, rfl, rfl⟩ := hr
    have hc : c < 256 := by simpa using hc
    obtain ⟨x1, x2, rfl, r1, r2⟩ := hx.two
    cases r1 with | str t =>
    cases r2
    have hu : (UInt8.ofNat c).toNat = c := by simp [Nat.mod_eq_of_lt hc]
    have key := indexNat_ok (UInt8.ofNat c) t t.data.toList 0 rfl
    rw [hu] at key
    have hcc : ((Int.ofNat c).toNat).toUInt8 = UInt8.ofNat c := rfl
    refine E.good (x := .int .i64 (indexNat c (natsOf t) 0)) (w' := w) ?_ ⟨ρ, Step.refl _ _, .int _ _, R⟩
    have hk : indexNat c (natsOf t) 0 = (match (List.range t.size).find? (fun i => t[i]! == UInt8.ofNat c) with | some i => (i : Int) | none => -1) := by
      rw [List.range_eq_range']; exact key
    show (Extern.BytealgIndexByte.indexByte #[.string t, .int .u8 (Int.ofNat c)]).run P w = _
    have hdef : Extern.BytealgIndexByte.indexByte #[.string t, .int .u8 (Int.ofNat c)] = (match (List.range t.size).find? (fun i => t[i]! == UInt8.ofNat c) with
      | some i => pure (goInt i)
      | none => pure (goInt (-1)) : Sem Value) := rfl
    rw [hdef, hk]
    cases (List.range t.size).find? (fun i => t[i]! == UInt8.ofNat c) <;> rfl
  · cases hr


theorem cmpNats_ok : ∀ a b : List UInt8, cmpNats (a.map (·.toNat)) (b.map (·.toNat)) = Lib.compareBytes a b
  | [], [] => rfl
  | [], _ :: _ => rfl
  | _ :: _, [] => rfl
  | a :: x, b :: y => by
    have ih := cmpNats_ok x y
    unfold cmpNats at ih ⊢
    simp only [List.map_cons, natsLess, natsEq]
    unfold Lib.compareBytes
    have h1 : Nat.blt a.toNat b.toNat = decide (a < b) := by
      rw [Bool.eq_iff_iff, decide_eq_true_iff, UInt8.lt_iff_toNat_lt]
      simp
    have h2 : Nat.beq a.toNat b.toNat = (a == b) := by
      rw [Bool.eq_iff_iff, beq_iff_eq, Nat.beq_eq]
      exact UInt8.toNat_inj
    rw [h1, h2]
    by_cases e : a < b
    · simp [e]
    · by_cases e2 : a = b
      · subst e2
        simp [e]
        exact ih
      · have e3 : b < a := by
          rw [UInt8.lt_iff_toNat_lt] at *
          have : a.toNat ≠ b.toNat := fun h => e2 (UInt8.toNat_inj.1 h)
          omega
        have e4 : (a == b) = false := by simpa using e2
        simp [e, e3, e4]

theorem ext_compare (E : EntryAt P f Extern.BytealgCompare.compare) : ExtOk P G f .compare := by
  intro args h v h' hr B w0 ρ w xs R hG hx
  simp only [extRun] at hr
  split at hr
  · cases hr
    obtain ⟨x1, x2, rfl, r1, r2⟩ := hx.two
    cases r1 with | str t =>
    cases r2 with | str u =>
    refine E.good (Lib.run_compareString (P := P) t u w) ⟨ρ, Step.refl _ _, ?_, R⟩
    have := cmpNats_ok t.data.toList u.data.toList
    unfold natsOf
    rw [this]
    exact .int _ _
  · cases hr

theorem hasNat_mem {n : Nat} {l : List Nat} (h : hasNat n l = true) : n ∈ l := by
  rw [hasNat_eq] at h; simpa using h

theorem ext_typeOf {rt : TypeId} {ts : List TypeId} {g : Nat} (hg : g < G) (hgl : g = P.globals.size) (E : EntryAt P f Extern.ReflectliteType.typeOf) (hc : ∀ w, (cutType "internal/reflectlite.rtype").run P w = .ok rt w) : ExtOk P G f (.typeOf rt (pathOf g) ts) := by
  intro args h v h' hr B w0 ρ w xs R hG hx
  simp only [extRun] at hr
  split at hr
  · rename_i t v0
    simp only [chk_some, Option.some.injEq, Prod.mk.injEq] at hr
    obtain ⟨_, rfl, rfl⟩ := hr
    obtain ⟨x, rfl, rx⟩ := hx.one
    obtain ⟨y, rfl, ry⟩ := iface_inv rx
    obtain ⟨k, hk⟩ := hG g hg
    refine E.good (x := .iface rt (.agg #[.pointer (some ⟨g, t, none⟩)])) (w' := w) ?_ ⟨ρ, Step.refl _ _, ?_, R⟩
    · show (Extern.ReflectliteType.toType t).run P w = _
      subst hgl
      unfold Extern.ReflectliteType.toType
      simp [hc, Extern.Rtype.handle, typeHandle]
    · have := RV.ptr (ρ := ρ) t hk
      exact .iface rt (.agg (.cons (by simpa using this) .nil))
  · cases hr

theorem ext_comparable {ts : List TypeId} {g : Nat} (hg : g < G) (hgs : g < 2 ^ 64) (E : EntryAt P f (Extern.ReflectliteType.method fun t => do Extern.Rtype.noPackHeld "Comparable" t; pure (.bool (← typeInfo t).comparable)))
    (hc : ∀ t ∈ ts, ∀ i, P.info? t = some i → ∀ w, (Extern.ReflectliteType.method (fun t => do Extern.Rtype.noPackHeld "Comparable" t; pure (.bool (← typeInfo t).comparable)) #[.agg #[.pointer (some ⟨g, t, none⟩)]]).run P w = .ok (.bool i.comparable) w) :
    ExtOk P G f (.comparable (pathOf g) ts) := by
  intro args h v h' hr B w0 ρ w xs R hG hx
  simp only [extRun] at hr
  split at hr
  · rename_i l t
    simp only [chk_some, ob_some, Option.some.injEq, Prod.mk.injEq, Bool.and_eq_true] at hr
    obtain ⟨⟨hl, ht⟩, i, hi, rfl, rfl⟩ := hr
    have hl := lbEq_iff hl
    subst hl
    obtain ⟨x, rfl, rx⟩ := hx.one
    cases rx with | agg rx =>
    obtain ⟨y, rfl, ry⟩ := rx.one
    obtain ⟨b, hb, rfl⟩ := ptr_inv ry
    obtain ⟨k, hk⟩ := hG g hg
    rw [hk] at hb
    cases hb
    refine E.good (x := .bool i.comparable) (w' := w) ?_ ⟨ρ, Step.refl _ _, .bool _, R⟩
    have := hc t (hasNat_mem ht) i hi w
    simpa using this
  · cases hr


/-- A block that no label stands for. -/
theorem HRel.junk (R : HRel B w0 ρ h w) (o : Go.Obj) : HRel B w0 ρ h (w.alloc o) :=
  ⟨fun l b p hl hp => (R.obj l b p hl hp).of_block (Ext'.refl _) (heap_alloc_old o (R.obj l b p hl hp).lt), R.lt, R.base, R.inj, R.own, by rw [World.size_alloc]; exact Nat.le_succ_of_le R.size, R.below.alloc R.size o⟩

/-- What is behind a call's result, given what the call does. -/
theorem Good.of_calls {xs : List Value} {R : Value → World → Prop} {func : Func} {c : Code} (hf : P.funcs[f]? = some func) (hb : func.body = some c) (hn : (func.name == "runtime.NumGoroutine") = false) (h : Calls P f ⟨xs⟩ w fun e w' => ∃ v, e = .returned v ∧ R v w') : Good P f xs w R := by
  refine .inr ⟨?_, h⟩
  have hn : ¬ func.name = "runtime.NumGoroutine" := fun e => by rw [e] at hn; simp at hn
  unfold callFunc
  simp [hf, hn, hb]

end
end Go.Dx
