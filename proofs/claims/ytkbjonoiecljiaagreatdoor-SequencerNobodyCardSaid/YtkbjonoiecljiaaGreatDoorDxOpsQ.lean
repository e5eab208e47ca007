/-
  The deterministic machine over labels against the model: what each of its pure operations comes to.
-/
import Derived.Test.YtkbjonoiecljiaaGreatDoorDxOpsP
import Derived.Lib.Strings
import Derived.Lib.SmallJoins
namespace Go.Dx
open Go Go.RowKit

section
variable {P : Program} {ρ : Rho}

/-- A value that the model's program comes to, in every world. -/
def Gives (P : Program) (ρ : Rho) (v : V) (s : Sem Value) : Prop := ∃ x, RV ρ v x ∧ ∀ w, s.run P w = .ok x w

theorem Gives.pure {v : V} {x : Value} (h : RV ρ v x) : Gives P ρ v (Pure.pure x) := ⟨x, h, fun _ => rfl⟩

theorem intArith_ok {op : BinOp} {k : IntKind} {a b : Int} {v : V} (h : intOp op k a b = some v) (h1 : op ≠ .shl) (h2 : op ≠ .shr) (t : TypeId) :
    Gives P ρ v (Go.binOp op t (.int k a) (.int k b)) := by
  cases op
  case shl => exact absurd rfl h1
  case shr => exact absurd rfl h2
  case add => simp only [intOp, Option.some.injEq] at h; subst h; refine ⟨_, .int _ _, fun w => ?_⟩; simp [Go.binOp, Op.intArith, wrapD_eq]
  case sub => simp only [intOp, Option.some.injEq] at h; subst h; refine ⟨_, .int _ _, fun w => ?_⟩; simp [Go.binOp, Op.intArith, wrapD_eq]
  case mul => simp only [intOp, Option.some.injEq] at h; subst h; refine ⟨_, .int _ _, fun w => ?_⟩; simp [Go.binOp, Op.intArith, wrapD_eq]
  case quo =>
    simp only [intOp, chk_some, Option.some.injEq, intEq_eq] at h
    obtain ⟨hb, h⟩ := h; subst h; refine ⟨_, .int _ _, fun w => ?_⟩
    have : b ≠ 0 := by simpa using hb
    simp [Go.binOp, Op.intDiv, wrapD_eq, this]
  case rem =>
    simp only [intOp, chk_some, Option.some.injEq, intEq_eq] at h
    obtain ⟨hb, h⟩ := h; subst h; refine ⟨_, .int _ _, fun w => ?_⟩
    have : b ≠ 0 := by simpa using hb
    simp [Go.binOp, Op.intDiv, this]
  case and =>
    simp only [intOp, Option.some.injEq] at h
    rw [bitsD_eq k a b _ (fun a b => a &&& b) (fun a b => by rw [BitVec.toNat_and]; rfl)] at h
    subst h; exact ⟨_, .int _ _, fun w => by simp [Go.binOp, Op.intBits]⟩
  case or =>
    simp only [intOp, Option.some.injEq] at h
    rw [bitsD_eq k a b _ (fun a b => a ||| b) (fun a b => by rw [BitVec.toNat_or]; rfl)] at h
    subst h; exact ⟨_, .int _ _, fun w => by simp [Go.binOp, Op.intBits]⟩
  case xor =>
    simp only [intOp, Option.some.injEq] at h
    rw [bitsD_eq k a b _ (fun a b => a ^^^ b) (fun a b => by rw [BitVec.toNat_xor]; rfl)] at h
    subst h; exact ⟨_, .int _ _, fun w => by simp [Go.binOp, Op.intBits]⟩
  case andNot =>
    simp only [intOp, Option.some.injEq] at h
    rw [bitsD_eq k a b _ (fun a b => a &&& ~~~b) (fun a b => by
      have : a &&& ~~~b = a ^^^ (a &&& b) := by
        apply BitVec.eq_of_getLsbD_eq
        intro i hi
        simp [hi]
        cases a[i] <;> cases b[i] <;> rfl
      rw [this, BitVec.toNat_xor, BitVec.toNat_and]; rfl)] at h
    subst h; exact ⟨_, .int _ _, fun w => by simp [Go.binOp, Op.intBits]⟩
  case eql => simp only [intOp, Option.some.injEq, intEq_eq] at h; subst h; exact ⟨_, .bool _, fun w => by simp [Go.binOp, Op.intCmp]⟩
  case neq => simp only [intOp, Option.some.injEq, intEq_eq] at h; subst h; exact ⟨_, .bool _, fun w => by simp [Go.binOp, Op.intCmp, bne]⟩
  case lss => simp only [intOp, Option.some.injEq, intLt_eq] at h; subst h; exact ⟨_, .bool _, fun w => by simp [Go.binOp, Op.intCmp]⟩
  case leq =>
    simp only [intOp, Option.some.injEq, intLt_eq] at h; subst h; refine ⟨_, .bool _, fun w => ?_⟩
    have : (!decide (b < a)) = decide (a ≤ b) := by rw [Bool.eq_iff_iff]; simp
    simp only [Go.binOp, Op.intCmp, this]; simp
  case gtr => simp only [intOp, Option.some.injEq, intLt_eq] at h; subst h; exact ⟨_, .bool _, fun w => by simp [Go.binOp, Op.intCmp]⟩
  case geq =>
    simp only [intOp, Option.some.injEq, intLt_eq] at h; subst h; refine ⟨_, .bool _, fun w => ?_⟩
    have : (!decide (a < b)) = decide (a ≥ b) := by rw [Bool.eq_iff_iff]; simp
    simp only [Go.binOp, Op.intCmp, this]; simp

theorem shiftOp_ok {op : BinOp} {k j : IntKind} {a b : Int} {v : V} (h : shiftOp op k a b = some v) (t : TypeId) : Gives P ρ v (Go.binOp op t (.int k a) (.int j b)) := by
  unfold shiftOp at h
  cases b with
  | negSucc n => simp at h
  | ofNat n =>
    cases a with
    | negSucc m => cases op <;> simp at h
    | ofNat m =>
      cases op <;> simp only [Option.some.injEq, reduceCtorEq] at h
      case shl =>
        have e : Nat.shiftLeft m (Nat.min n k.bits) = m * 2 ^ (min n k.bits) := by rw [show Nat.shiftLeft m (Nat.min n k.bits) = m <<< (min n k.bits) from rfl, Nat.shiftLeft_eq]
        rw [bitsOf_eq, e, wrapD_eq] at h
        subst h
        refine ⟨_, .int _ _, fun w => ?_⟩
        have hn : ¬ ((n : Nat) : Int) < 0 := by omega
        simp [Go.binOp, Op.shift, hn]
      case shr =>
        have e : Nat.shiftRight m (Nat.min n k.bits) = m / 2 ^ (min n k.bits) := by rw [show Nat.shiftRight m (Nat.min n k.bits) = m >>> (min n k.bits) from rfl, Nat.shiftRight_eq_div_pow]
        rw [bitsOf_eq, e] at h
        subst h
        refine ⟨_, .int _ _, fun w => ?_⟩
        have hn : ¬ ((n : Nat) : Int) < 0 := by omega
        have h2 : (0 : Int) ≤ 2 ^ (min n k.bits) := Int.le_of_lt (Int.pow_pos (by decide))
        simp [Go.binOp, Op.shift, hn, Int.fdiv_eq_ediv_of_nonneg _ h2]

theorem natsOf_length (s : ByteArray) : (natsOf s).length = s.size := by simp [natsOf]

theorem natsOf_append (s t : ByteArray) : natsOf (s ++ t) = natsOf s ++ natsOf t := by
  unfold natsOf; rw [Go.Joins.data_append]; simp

theorem strOp_ok {op : BinOp} {s t : ByteArray} {v : V} (h : strOp op (natsOf s) (natsOf t) = some v) (ty : TypeId) : Gives P ρ v (Go.binOp op ty (.string s) (.string t)) := by
  have e1 : natsEq (natsOf s) (natsOf t) = (s.toList == t.toList) := by rw [natsOf_eq, ByteArray.toList_eq, ByteArray.toList_eq]
  have e2 : natsLess (natsOf s) (natsOf t) = Op.bytesLess s.toList t.toList := by unfold natsOf; rw [natsLess_eq, ByteArray.toList_eq, ByteArray.toList_eq]
  cases op <;> simp only [strOp, Option.some.injEq, reduceCtorEq, e1, e2, chk_some] at h
  case add =>
    obtain ⟨hb, h⟩ := h
    rw [← natsOf_append] at h
    subst h
    refine ⟨_, .str _, fun w => ?_⟩
    have hb' : (natsOf s).length + (natsOf t).length < 9223372036854775807 := by simpa using hb
    rw [natsOf_length, natsOf_length] at hb'
    have : ¬ ((s.size + t.size : Nat) : Int) > IntKind.i64.max := by rw [IntKind.max_i64]; omega
    simp only [Go.binOp, Op.stringOp, if_neg this]; rfl
  all_goals (subst h; exact ⟨_, .bool _, fun w => by simp [Go.binOp, Op.stringOp, bne]⟩)

theorem bytes_beq (s t : ByteArray) : (s == t) = (s.data.toList == t.data.toList) := by
  show ByteArray.beq s t = _
  unfold ByteArray.beq
  rw [Bool.eq_iff_iff, beq_iff_eq, beq_iff_eq]
  exact ⟨fun h => by rw [h], fun h => by
    cases s with | mk s => cases t with | mk t => cases s with | mk s => cases t with | mk t => simp at h; rw [h]⟩

theorem boolEqD_eq (a b : Bool) : boolEqD a b = (a == b) := by cases a <;> cases b <;> rfl

/-- What a plain comparison says of the values. -/
theorem cellEq_ok {pk : PK} {v u : V} {x y : Value} {b : Bool} (hv : RV ρ v x) (hu : RV ρ u y) (h : cellEq pk v u = some b) :
    (pk = .bool ∧ ∃ c d, x = .bool c ∧ y = .bool d ∧ b = (c == d)) ∨ (pk = .int ∧ ∃ k c d, x = .int k c ∧ y = .int k d ∧ b = (c == d)) ∨ (pk = .str ∧ ∃ s t : ByteArray, x = .string s ∧ y = .string t ∧ b = (s == t)) := by
  cases pk with
  | bool =>
    simp only [cellEq] at h
    split at h
    · cases hv; cases hu
      cases h
      exact .inl ⟨rfl, _, _, rfl, rfl, boolEqD_eq _ _⟩
    · cases h
  | int =>
    simp only [cellEq] at h
    split at h
    · cases hv; cases hu
      simp only [chk_some, kindEq_iff, Option.some.injEq] at h
      obtain ⟨rfl, h⟩ := h
      exact .inr (.inl ⟨rfl, _, _, _, rfl, rfl, by rw [← h, intEq_eq]⟩)
    · cases h
  | str =>
    simp only [cellEq] at h
    split at h
    · cases hv with | str s => cases hu with | str t =>
      simp only [Option.some.injEq] at h
      exact .inr (.inr ⟨rfl, s, t, rfl, rfl, by rw [← h, natsOf_eq, bytes_beq]⟩)
    · cases h
  | no => simp [cellEq] at h

end
end Go.Dx
