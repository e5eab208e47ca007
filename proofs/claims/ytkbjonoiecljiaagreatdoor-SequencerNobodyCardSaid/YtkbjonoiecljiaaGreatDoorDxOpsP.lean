/-
  The deterministic machine over labels against the model: operations that hang on their operands alone.
-/
import Derived.Test.YtkbjonoiecljiaaGreatDoorDxStore
import Derived.Laws.Entries
namespace Go.Dx
open Go Go.RowKit

section operands
variable {ρ : Rho} {C : CE} {tm : T V} {a : Act}

/-- The temporaries: each stands for its own. -/
structure TRel (ρ : Rho) (n : Nat) (tm : T V) (tmps : Array Value) : Prop where
  size : tmps.size = n
  small : n ≤ 65536
  get : ∀ t, t < n → RV ρ (getT tm (pathOf t)) (tmps.getD t Go.undef)

/-- The package-level variables' labels. -/
def GRel (ρ : Rho) (G : Nat) : Prop := ∀ g, g < G → ∃ n, ρ (pathOf g) = some (Blk.mk g 0 n .nilFunc)

theorem GRel.mono {ρ ρ' : Rho} (e : Ext' ρ ρ') {G : Nat} (h : GRel ρ G) : GRel ρ' G := fun g hg => let ⟨n, k⟩ := h g hg; ⟨n, e _ _ k⟩

theorem TRel.mono {ρ ρ' : Rho} (e : Ext' ρ ρ') {n : Nat} {tm : T V} {tmps : Array Value} (h : TRel ρ n tm tmps) : TRel ρ' n tm tmps := ⟨h.size, h.small, fun t ht => (h.get t ht).mono e⟩

theorem ofFlat_ok {v : Value} {d : V} (h : ofFlat v = some d) : RV ρ d v := by
  unfold ofFlat at h
  split at h <;> first
    | (cases h; first | exact .bool _ | exact .int _ _ | exact .str _ | exact .nilPtr | exact .nilSlice _ | exact .nilMap | exact .func _ .nil .nil | exact .nilFunc | exact .nilIface | exact .tuple .nil)
    | cases h

theorem ofFlats_ok : ∀ {vs : List Value} {ds : List V}, ofFlats vs = some ds → RVs ρ ds vs
  | [], ds, h => by simp [ofFlats] at h; subst h; exact .nil
  | v :: vs, ds, h => by
    simp only [ofFlats, ob_some] at h
    obtain ⟨d, h1, r, h2, h3⟩ := h
    cases h3
    exact .cons (ofFlat_ok h1) (ofFlats_ok h2)

theorem ofConst_ok {v : Value} {d : V} (h : ofConst v = some d) : RV ρ d v := by
  unfold ofConst at h
  split at h
  · simp only [ob_some] at h
    obtain ⟨ds, h1, h2⟩ := h
    cases h2
    exact .agg (ofFlats_ok h1)
  · exact ofFlat_ok h

theorem compX_ok (hC : TRel ρ C.n tm a.tmps) (hG : GRel ρ C.G) {x : Operand} {d : X} (h : compX C x = some d) : RV ρ (d.ev tm) (a.eval x) := by
  cases x with
  | tmp t =>
    simp only [compX, chk_some] at h
    obtain ⟨h1, h2⟩ := h
    cases h2
    exact hC.get t (by simpa using h1)
  | const v =>
    simp only [compX, ob_some] at h
    obtain ⟨d', h1, h2⟩ := h
    cases h2
    exact ofConst_ok h1
  | global g =>
    simp only [compX, chk_some] at h
    obtain ⟨h1, h2⟩ := h
    cases h2
    obtain ⟨n, hn⟩ := hG g (by simpa using h1)
    have := RV.ptr (ρ := ρ) 0 hn
    show RV ρ (.ptr (pathOf g) 0) (.pointer (some ⟨g, 0, none⟩))
    simpa using this
  | func f =>
    simp only [compX, Option.some.injEq] at h
    cases h
    exact .func f .nil .nil

theorem compXs_ok (hC : TRel ρ C.n tm a.tmps) (hG : GRel ρ C.G) : ∀ {xs : List Operand} {ds : List X}, compXs C xs = some ds → RVs ρ (evs tm ds) (xs.map a.eval)
  | [], ds, h => by simp [compXs] at h; subst h; exact .nil
  | x :: xs, ds, h => by
    simp only [compXs, ob_some] at h
    obtain ⟨d, h1, r, h2, h3⟩ := h
    cases h3
    exact .cons (compX_ok hC hG h1) (compXs_ok hC hG h2)

inductive ROpt (ρ : Rho) : Option V → Option Value → Prop
  | none : ROpt ρ none none
  | some {v : V} {x : Value} (h : RV ρ v x) : ROpt ρ (some v) (some x)

theorem compXo_ok (hC : TRel ρ C.n tm a.tmps) (hG : GRel ρ C.G) {x : Option Operand} {d : Option X} (h : compXo C x = some d) : ROpt ρ (evo tm d) (x.map a.eval) := by
  cases x with
  | none => simp [compXo] at h; subst h; exact .none
  | some x =>
    simp only [compXo, ob_some] at h
    obtain ⟨d', h1, h2⟩ := h
    cases h2
    exact .some (compX_ok hC hG h1)

end operands

/-! ### types -/

section
variable {P : Program} {ρ : Rho} {w : World}

theorem sizeT_ok {t : TypeId} {n : Nat} (h : sizeT P t = some n) : ∃ i, P.info? t = some i ∧ i.size = n := by
  simp only [sizeT, ob_some] at h
  obtain ⟨i, h1, h2⟩ := h
  cases h2
  exact ⟨i, h1, rfl⟩

theorem run_sizeT {t : TypeId} {n : Nat} (h : sizeT P t = some n) (w : World) : (sizeOf t).run P w = .ok n w := by
  obtain ⟨i, h1, rfl⟩ := sizeT_ok h
  simp [sizeOf, typeInfo, h1]

theorem run_bytesT {t : TypeId} {n : Nat} (h : bytesT P t = some n) (w : World) : ∃ i, (typeInfo t).run P w = .ok i w ∧ i.bytes = n := by
  simp only [bytesT, ob_some] at h
  obtain ⟨i, h1, h2⟩ := h
  cases h2
  exact ⟨i, by simp [typeInfo, h1], rfl⟩

theorem run_zeroT {t : TypeId} {v : V} (h : zeroT P t = some v) : ∃ x, RV ρ v x ∧ ∀ w, (zeroValue t).run P w = .ok x w := by
  simp only [zeroT, ob_some] at h
  obtain ⟨i, h1, z, h2, h3⟩ := h
  exact ⟨z, ofConst_ok h3, fun w => by simp [zeroValue, typeInfo, h1, h2]⟩

theorem cells_of_one {x : Value} (h : x.oneCell' = true) : x.cells = #[x] := by
  cases x <;> first | rfl | simp [Value.oneCell'] at h

theorem RV.cells {v : V} {x : Value} (h : RV ρ v x) : RVs ρ v.cells x.cells.toList := by
  cases h with
  | agg h => exact h
  | bool b => exact .cons (.bool b) .nil
  | int k n => exact .cons (.int k n) .nil
  | str t => exact .cons (.str t) .nil
  | nilPtr => exact .cons .nilPtr .nil
  | ptr off h => exact .cons (.ptr off h) .nil
  | nilSlice c => exact .cons (.nilSlice c) .nil
  | slice off len c h => exact .cons (.slice off len c h) .nil
  | sliceEnd off len size c h hl hc => exact .cons (.sliceEnd off len size c h hl hc) .nil
  | nilMap => exact .cons .nilMap .nil
  | map h => exact .cons (.map h) .nil
  | func f ha hb => exact .cons (.func f ha hb) .nil
  | nilFunc => exact .cons .nilFunc .nil
  | iface t h => exact .cons (.iface t h) .nil
  | nilIface => exact .cons .nilIface .nil
  | tuple h => exact .cons (.tuple h) .nil
  | sym h ht hv => rw [cells_of_one (symOk_one hv)]; exact .cons (.sym h ht hv) .nil
  | any h => rw [cells_of_one (symOk_one h)]; exact .cons (.any h) .nil

/-- What a part of so many cells is. -/
theorem rdT_ok {t : TypeId} {rd : Rd} (h : rdT P t = some rd) :
    (rd = .one ∧ ∀ w, (isAgg t).run P w = .ok false w) ∨ (∃ n, rd = .many n ∧ sizeT P t = some n ∧ ∀ w, (isAgg t).run P w = .ok true w) := by
  unfold rdT at h
  split at h
  · rename_i fs hu
    simp only [ob_some] at h
    obtain ⟨n, h1, h2⟩ := h
    cases h2
    exact .inr ⟨n, rfl, h1, fun w => by simp [isAgg, run_underlying hu]⟩
  · rename_i n e hu
    simp only [ob_some] at h
    obtain ⟨n, h1, h2⟩ := h
    cases h2
    exact .inr ⟨n, rfl, h1, fun w => by simp [isAgg, run_underlying hu]⟩
  · rename_i d hns hna hu
    cases h
    refine .inl ⟨rfl, fun w => ?_⟩
    cases d with
    | struct fs => exact absurd rfl (hns fs)
    | array n e => exact absurd rfl (hna n e)
    | _ => simp [isAgg, run_underlying hu]
  · cases h

theorem dropN_drop : ∀ (n : Nat) (vs : List V), dropN n vs = vs.drop n
  | 0, vs => by simp [dropN]
  | n + 1, [] => by simp [dropN]
  | n + 1, v :: vs => by simp [dropN, dropN_drop n vs]

theorem part_ok {t : TypeId} {rd : Rd} (ht : rdT P t = some rd) {cs : List V} {xs : List Value} (hr : RVs ρ cs xs) {off : Nat} {v : V} (h : rdPart rd cs off = some v) :
    ∃ x, RV ρ v x ∧ ∀ w, (part t ⟨xs⟩ off).run P w = .ok x w := by
  rcases rdT_ok ht with ⟨rfl, ha⟩ | ⟨n, rfl, hs, ha⟩
  · simp only [rdPart] at h
    rw [dropN_drop, List.head?_drop] at h
    obtain ⟨x, h1, h2⟩ := hr.get h
    exact ⟨x, h2, fun w => by simp [part, ha, h1]⟩
  · simp only [rdPart, ob_some] at h
    obtain ⟨r, h1, h2⟩ := h
    cases h2
    obtain ⟨h3, h4⟩ := hr.rowFrom h1
    refine ⟨_, .agg h3, fun w => ?_⟩
    have hx : (⟨xs⟩ : Array Value).extract off (off + n) = ⟨(xs.drop off).take n⟩ := by
      apply Array.ext'
      simp
    simp [part, ha, run_sizeT hs, hx]

end

/-! ### numbers and texts -/

theorem natsEq_iff : ∀ {a b : List Nat}, natsEq a b = true ↔ a = b
  | [], [] => by simp [natsEq]
  | [], _ :: _ => by simp [natsEq]
  | _ :: _, [] => by simp [natsEq]
  | a :: x, b :: y => by simp [natsEq, natsEq_iff (a := x) (b := y)]

theorem natsEq_eq (a b : List Nat) : natsEq a b = (a == b) := by
  rw [Bool.eq_iff_iff, natsEq_iff, beq_iff_eq]

theorem natsOf_inj {s t : ByteArray} (h : natsOf s = natsOf t) : s = t := by
  unfold natsOf at h
  have h2 : s.data.toList = t.data.toList := by
    have := congrArg (List.map UInt8.ofNat) h
    simpa [List.map_map, Function.comp_def] using this
  cases s with | mk s => cases t with | mk t =>
  cases s with | mk s => cases t with | mk t =>
  simp at h2
  rw [h2]

theorem natsOf_eq (s t : ByteArray) : natsEq (natsOf s) (natsOf t) = (s.data.toList == t.data.toList) := by
  rw [natsEq_eq, Bool.eq_iff_iff, beq_iff_eq, beq_iff_eq]
  refine ⟨fun h => ?_, fun h => by unfold natsOf; rw [h]⟩
  rw [natsOf_inj h]

theorem natsLess_eq : ∀ (a b : List UInt8), natsLess (a.map (·.toNat)) (b.map (·.toNat)) = Op.bytesLess a b
  | _, [] => by simp [natsLess, Op.bytesLess]
  | [], _ :: _ => by simp [natsLess, Op.bytesLess]
  | a :: x, b :: y => by
    simp only [List.map_cons, natsLess, Op.bytesLess, natsLess_eq x y]
    have h1 : Nat.blt a.toNat b.toNat = decide (a < b) := by
      rw [Bool.eq_iff_iff, decide_eq_true_iff, UInt8.lt_iff_toNat_lt]
      simp
    have h2 : Nat.beq a.toNat b.toNat = (a == b) := by
      rw [Bool.eq_iff_iff, beq_iff_eq, Nat.beq_eq]
      exact UInt8.toNat_inj
    rw [h1, h2]

theorem kindEq_iff {j k : IntKind} : kindEq j k = true ↔ j = k := by cases j <;> cases k <;> simp [kindEq]

theorem intEq_eq (a b : Int) : intEq a b = (a == b) := by
  rw [Bool.eq_iff_iff, beq_iff_eq]
  cases a <;> cases b <;> simp [intEq] <;> omega

theorem intLt_eq (a b : Int) : intLt a b = decide (a < b) := by
  rw [Bool.eq_iff_iff, decide_eq_true_iff]
  cases a <;> cases b <;> simp [intLt] <;> omega

theorem lowNat_eq {top : Nat} (ht : 0 < top) : ∀ n : Int, (lowNat top n : Int) = n % (top : Int)
  | .ofNat m => by simp [lowNat]
  | .negSucc m => by
    have h1 := Nat.mod_lt m ht
    show ((top - 1 - m % top : Nat) : Int) = Int.negSucc m % (top : Int)
    rw [Int.negSucc_emod _ (by omega)]
    omega

theorem lowNat_lt {top : Nat} (ht : 0 < top) : ∀ n : Int, lowNat top n < top
  | .ofNat m => Nat.mod_lt _ ht
  | .negSucc m => by have := Nat.mod_lt m ht; simp only [lowNat]; omega

theorem IK.top_eq (k : IntKind) : IK.top k = 2 ^ k.bits := by cases k <;> rfl
theorem IK.half_eq (k : IntKind) : IK.half k = 2 ^ (k.bits - 1) := by cases k <;> rfl
theorem IK.sgn_eq (k : IntKind) : IK.sgn k = k.signed := by cases k <;> rfl
theorem IK.top_pos (k : IntKind) : 0 < IK.top k := by cases k <;> decide
theorem bitsOf_eq (k : IntKind) : bitsOf k = k.bits := by cases k <;> rfl

theorem backInt_eq (k : IntKind) {m : Nat} (hm : m < IK.top k) : backInt (IK.sgn k) (IK.half k) (IK.top k) m = k.wrap (m : Int) := by
  have e : (m : Int) % (2 ^ k.bits : Int) = m := by
    have : (2 ^ k.bits : Int) = ((IK.top k : Nat) : Int) := by rw [IK.top_eq]; simp
    rw [this]; exact Int.emod_eq_of_lt (by omega) (by omega)
  unfold backInt IntKind.wrap
  simp only [e, IK.sgn_eq]
  have hh : (2 ^ (k.bits - 1) : Int) = ((IK.half k : Nat) : Int) := by rw [IK.half_eq]; simp
  have ht : (2 ^ k.bits : Int) = ((IK.top k : Nat) : Int) := by rw [IK.top_eq]; simp
  rw [hh, ht]
  by_cases hs : k.signed = true
  · by_cases hb : IK.half k ≤ m
    · have : Nat.ble (IK.half k) m = true := by rw [Nat.ble_eq]; exact hb
      simp [hs, this]
      rw [if_pos (by omega)]
      omega
    · have : Nat.ble (IK.half k) m = false := by rw [← Bool.not_eq_true, Nat.ble_eq]; exact hb
      simp [hs, this]
      intro h; exact absurd h hb
  · simp [Bool.not_eq_true] at hs
    simp [hs]

theorem wrap_mod (k : IntKind) (n : Int) : k.wrap (n % (2 ^ k.bits : Int)) = k.wrap n := by
  unfold IntKind.wrap
  simp

theorem wrapD_eq (k : IntKind) (n : Int) : wrapD k n = k.wrap n := by
  unfold wrapD
  rw [backInt_eq k (lowNat_lt (IK.top_pos k) n), lowNat_eq (IK.top_pos k)]
  have ht : ((IK.top k : Nat) : Int) = (2 ^ k.bits : Int) := by rw [IK.top_eq]; simp
  rw [ht, wrap_mod]

theorem ofInt_toNat (k : IntKind) (n : Int) : (BitVec.ofInt k.bits n).toNat = lowNat (IK.top k) n := by
  have := lowNat_eq (IK.top_pos k) n
  have ht : ((IK.top k : Nat) : Int) = (2 ^ k.bits : Int) := by rw [IK.top_eq]; simp
  rw [BitVec.toNat_ofInt]
  rw [ht] at this
  have e : ((2 ^ k.bits : Nat) : Int) = (2 ^ k.bits : Int) := by simp
  rw [e, ← this]
  simp

theorem bitsD_eq (k : IntKind) (x y : Int) (f : Nat → Nat → Nat) (g : BitVec k.bits → BitVec k.bits → BitVec k.bits)
    (h : ∀ a b : BitVec k.bits, (g a b).toNat = f a.toNat b.toNat) : bitsD f k x y = .int k (k.wrap (g (BitVec.ofInt k.bits x) (BitVec.ofInt k.bits y)).toNat) := by
  unfold bitsD
  have e := h (BitVec.ofInt k.bits x) (BitVec.ofInt k.bits y)
  rw [ofInt_toNat, ofInt_toNat] at e
  have hlt : f (lowNat (IK.top k) x) (lowNat (IK.top k) y) < IK.top k := by rw [← e, IK.top_eq]; exact BitVec.isLt _
  rw [backInt_eq k hlt, e]

end Go.Dx
