/-
  The deterministic machine over labels against the model: comparisons.
-/
import Derived.Test.YtkbjonoiecljiaaGreatDoorDxOpsQ
namespace Go.Dx
open Go Go.RowKit

section
variable {P : Program} {ρ : Rho} {w : World}

theorem isNatBeq {a b : Nat} : Nat.beq a b = (a == b) := by rw [Bool.eq_iff_iff, Nat.beq_eq, beq_iff_eq]

theorem eqIn_ptr (d : Nat) {t e : TypeId} {n : Nat} (hu : P.underlying t = some (.pointer e)) (hs : sizeT P e = some (n + 1)) (b o p : Nat) :
    (Op.equalIn (d + 1) t (.pointer (some ⟨b, o, none⟩)) (.pointer (some ⟨b, p, none⟩))).run P w = .ok (o == p) w := by
  have e1 : ((⟨b, o, none⟩ : Addr) == ⟨b, p, none⟩) = (o == p) := by
    rw [Bool.eq_iff_iff, beq_iff_eq, beq_iff_eq]; simp
  simp [Op.equalIn, run_underlying hu, run_sizeT hs, sameAddr, e1]

theorem plainT_ok {t : TypeId} (h : plainT P t ≠ .no) : ∃ i, P.info? t = some i ∧ i.comparable = true ∧
    ((plainT P t = .int ∧ ∃ k, P.underlying t = some (.int k)) ∨ (plainT P t = .str ∧ P.underlying t = some .string) ∨ (plainT P t = .bool ∧ P.underlying t = some .bool)) := by
  unfold plainT at h ⊢
  cases hi : P.info? t with
  | none => simp [hi] at h
  | some i =>
    simp only [hi] at h ⊢
    cases hc : i.comparable with
    | false => simp [hc] at h
    | true =>
      simp only [hc] at h ⊢
      refine ⟨i, rfl, hc, ?_⟩
      cases hu : P.underlying t with
      | none => simp [hu] at h
      | some d => cases d <;> simp [hu] at h ⊢

theorem eqIn_flat (d : Nat) {t : TypeId} {v u : V} {x y : Value} {b : Bool} (hv : RV ρ v x) (hu : RV ρ u y) (h : cellEq (plainT P t) v u = some b) :
    ∃ i, P.info? t = some i ∧ i.comparable = true ∧ (Op.equalIn (d + 1) t x y).run P w = .ok b w := by
  have hp : plainT P t ≠ .no := fun e => by rw [e] at h; simp [cellEq] at h
  obtain ⟨i, hi, hc, hk⟩ := plainT_ok hp
  refine ⟨i, hi, hc, ?_⟩
  rcases cellEq_ok hv hu h with ⟨e, c, d', rfl, rfl, rfl⟩ | ⟨e, k, c, d', rfl, rfl, rfl⟩ | ⟨e, s, t', rfl, rfl, rfl⟩
  · rcases hk with ⟨e', _⟩ | ⟨e', _⟩ | ⟨_, hk⟩
    · rw [e'] at e; cases e
    · rw [e'] at e; cases e
    · simp [Op.equalIn, run_underlying hk]
  · rcases hk with ⟨_, j, hk⟩ | ⟨e', _⟩ | ⟨e', _⟩
    · simp [Op.equalIn, run_underlying hk]
    · rw [e'] at e; cases e
    · rw [e'] at e; cases e
  · rcases hk with ⟨e', _⟩ | ⟨_, hk⟩ | ⟨e', _⟩
    · rw [e'] at e; cases e
    · simp [Op.equalIn, run_underlying hk]
    · rw [e'] at e; cases e

theorem eqIn_iface (n : Nat) {t a : TypeId} {ms : Array (String × TypeId)} {i : TypeInfo} {x y : Value} (ht : P.underlying t = some (.interface ms)) (hi : P.info? a = some i) (hc : i.comparable = true) :
    (Op.equalIn (n + 1) t (.iface a x) (.iface a y)).run P w = (Op.equalIn n a x y).run P w := by
  simp [Op.equalIn, run_underlying ht, typeInfo, hi, hc]

/-- A comparison whose guard says nothing, and what it comes to. -/
def EqRuns (P : Program) (op : BinOp) (t : TypeId) (ox oy : Operand) (x y : Value) (r : Bool) : Prop :=
  ∀ w d, (eqGuard op t ox oy x y).run P w = .ok () w ∧ (Op.equalIn (d + 2) t x y).run P w = .ok r w

theorem eqBool_ok {t : TypeId} {ox oy : Operand} {v u : V} {x y : Value} {r : Bool} (op : BinOp) (ht : P.underlying t = some .bool) (hv : RV ρ v x) (hu : RV ρ u y) (h : eqBool v u = some r) : EqRuns P op t ox oy x y r := by
  have hU := run_underlying ht
  cases hv <;> first | (simp [eqBool] at h; done) | skip
  cases hu <;> first | (simp [eqBool] at h; done) | skip
  simp only [eqBool, Option.some.injEq] at h
  subst h
  exact fun w d => ⟨by unfold eqGuard; cases op <;> simp, by rw [boolEqD_eq]; simp only [Op.equalIn, Sem.run_bind, hU, Result.andThen_ok]; rfl⟩

theorem eqPtr_ok {t e : TypeId} {n : Nat} {ox oy : Operand} {v u : V} {x y : Value} {r : Bool} (op : BinOp) (ht : P.underlying t = some (.pointer e)) (hs : sizeT P e = some (n + 1)) (hv : RV ρ v x) (hu : RV ρ u y)
    (h : eqPtr v u = some r) : EqRuns P op t ox oy x y r := by
  have hU := run_underlying ht
  cases hv <;> first | (simp [eqPtr] at h; done) | skip
  · cases hu <;> first | (simp [eqPtr] at h; done) | skip
    · simp only [eqPtr, Option.some.injEq] at h; subst h
      exact fun w d => ⟨by unfold eqGuard; cases op <;> simp, by simp only [Op.equalIn, Sem.run_bind, hU, Result.andThen_ok]; rfl⟩
    · simp only [eqPtr, Option.some.injEq] at h; subst h
      exact fun w d => ⟨by unfold eqGuard; cases op <;> simp, by simp only [Op.equalIn, Sem.run_bind, hU, Result.andThen_ok]; rfl⟩
  · cases hu <;> first | (simp [eqPtr] at h; done) | skip
    · simp only [eqPtr, Option.some.injEq] at h; subst h
      exact fun w d => ⟨by unfold eqGuard; cases op <;> simp, by simp only [Op.equalIn, Sem.run_bind, hU, Result.andThen_ok]; rfl⟩
    · rename_i l b o hb m c p hc
      simp only [eqPtr, chk_some, Option.some.injEq] at h
      obtain ⟨hl, h⟩ := h
      have := lbEq_iff hl
      subst this
      rw [hb] at hc
      cases hc
      refine fun w d => ⟨by unfold eqGuard; cases op <;> simp, ?_⟩
      rw [eqIn_ptr (d + 1) ht hs, ← h, isNatBeq]
      congr 1
      rw [Bool.eq_iff_iff, beq_iff_eq, beq_iff_eq]; omega

theorem eqIface_ok {t : TypeId} {ms : Array (String × TypeId)} {ox oy : Operand} {v u : V} {x y : Value} {r : Bool} (op : BinOp) (ht : P.underlying t = some (.interface ms)) (hv : RV ρ v x) (hu : RV ρ u y)
    (h : eqIface (plainT P) (isLitNil ox || isLitNil oy) v u = some r) : EqRuns P op t ox oy x y r := by
  have hU := run_underlying ht
  cases hv <;> first | (simp [eqIface] at h; done) | skip
  · cases hu <;> first | (simp [eqIface] at h; done) | skip
    · rename_i a v x hx b u y hy
      simp only [eqIface] at h
      refine fun w d => ⟨by unfold eqGuard; cases op <;> simp, ?_⟩
      split at h
      · rename_i hb
        have : a ≠ b := by intro e; subst e; rw [Nat.beq_refl] at hb; cases hb
        cases h
        simp only [Op.equalIn, Sem.run_bind, hU, Result.andThen_ok, if_pos this]; rfl
      · rename_i hb
        have : a = b := Nat.eq_of_beq_eq_true hb
        subst this
        obtain ⟨i, hi, hc, hk⟩ := eqIn_flat (w := w) d hx hy h
        rw [eqIn_iface (d + 1) ht hi hc]
        exact hk
    · simp only [eqIface, Option.some.injEq] at h; subst h
      exact fun w d => ⟨by unfold eqGuard; cases op <;> simp, by simp only [Op.equalIn, Sem.run_bind, hU, Result.andThen_ok]; rfl⟩
  · cases hu <;> first | (simp [eqIface] at h; done) | skip
    · simp only [eqIface, Option.some.injEq] at h; subst h
      exact fun w d => ⟨by unfold eqGuard; cases op <;> simp, by simp only [Op.equalIn, Sem.run_bind, hU, Result.andThen_ok]; rfl⟩
    · simp only [eqIface, chk_some, Option.some.injEq] at h
      obtain ⟨hl, h⟩ := h; subst h
      refine fun w d => ⟨?_, by simp only [Op.equalIn, Sem.run_bind, hU, Result.andThen_ok]; rfl⟩
      unfold eqGuard
      cases ox <;> cases oy <;> cases op <;> simp [isLitNil] at hl ⊢

theorem eqSlice_ok {t e : TypeId} {ox oy : Operand} {v u : V} {x y : Value} {r : Bool} (op : BinOp) (ht : P.underlying t = some (.slice e)) (hv : RV ρ v x) (hu : RV ρ u y) (h : eqSlice v u = some r) : EqRuns P op t ox oy x y r := by
  have hU := run_underlying ht
  cases hv <;> first | (simp [eqSlice] at h; done) | skip
  all_goals (cases hu <;> first | (simp [eqSlice] at h; done) | skip)
  all_goals (simp only [eqSlice, Option.some.injEq] at h; subst h; exact fun w d => ⟨by unfold eqGuard; cases op <;> simp, by simp only [Op.equalIn, Sem.run_bind, hU, Result.andThen_ok]; rfl⟩)

theorem eqMap_ok {t k e : TypeId} {ox oy : Operand} {v u : V} {x y : Value} {r : Bool} (op : BinOp) (ht : P.underlying t = some (.map k e)) (hv : RV ρ v x) (hu : RV ρ u y) (h : eqMap v u = some r) : EqRuns P op t ox oy x y r := by
  have hU := run_underlying ht
  cases hv <;> first | (simp [eqMap] at h; done) | skip
  all_goals (cases hu <;> first | (simp [eqMap] at h; done) | skip)
  all_goals (simp only [eqMap, Option.some.injEq] at h; subst h; exact fun w d => ⟨by unfold eqGuard; cases op <;> simp, by simp only [Op.equalIn, Sem.run_bind, hU, Result.andThen_ok]; rfl⟩)

theorem eqFunc_ok {t : TypeId} {a b : Array TypeId} {c : Bool} {ox oy : Operand} {v u : V} {x y : Value} {r : Bool} (op : BinOp) (ht : P.underlying t = some (.func a b c)) (hv : RV ρ v x) (hu : RV ρ u y) (h : eqFunc v u = some r) :
    EqRuns P op t ox oy x y r := by
  have hU := run_underlying ht
  cases hv <;> first | (simp [eqFunc] at h; done) | skip
  all_goals (cases hu <;> first | (simp [eqFunc] at h; done) | skip)
  all_goals (simp only [eqFunc, Option.some.injEq] at h; subst h; exact fun w d => ⟨by unfold eqGuard; cases op <;> simp, by simp only [Op.equalIn, Sem.run_bind, hU, Result.andThen_ok]; rfl⟩)

theorem eqOp_ok {t : TypeId} {ox oy : Operand} {v u : V} {x y : Value} {r : Bool} (op : BinOp) (hv : RV ρ v x) (hu : RV ρ u y) (h : eqOp (plainT P) (eqKind P t ox oy) v u = some r) : EqRuns P op t ox oy x y r := by
  unfold eqKind at h
  split at h
  · rename_i ht; exact eqBool_ok op ht hv hu h
  · rename_i e ht
    split at h
    · simp [eqOp] at h
    · rename_i n hne hs
      cases n with
      | zero => exact absurd rfl hne
      | succ n => exact eqPtr_ok op ht hs hv hu h
    · simp [eqOp] at h
  · rename_i ht; exact eqIface_ok op ht hv hu h
  · rename_i ht; exact eqSlice_ok op ht hv hu h
  · rename_i ht; exact eqMap_ok op ht hv hu h
  · rename_i ht; exact eqFunc_ok op ht hv hu h
  · simp [eqOp] at h

theorem eqOp_plain {pl : TypeId → PK} {k : EK} {v u : V} {b : Bool} (h : eqOp pl k v u = some b) : plainV v = true ∧ plainV u = true := by
  unfold eqOp at h
  split at h
  · unfold eqBool at h; split at h <;> first | exact ⟨rfl, rfl⟩ | cases h
  · unfold eqPtr at h; split at h <;> first | exact ⟨rfl, rfl⟩ | cases h
  · unfold eqIface at h; split at h <;> first | exact ⟨rfl, rfl⟩ | cases h
  · unfold eqSlice at h; split at h <;> first | exact ⟨rfl, rfl⟩ | cases h
  · unfold eqMap at h; split at h <;> first | exact ⟨rfl, rfl⟩ | cases h
  · unfold eqFunc at h; split at h <;> first | exact ⟨rfl, rfl⟩ | cases h
  · cases h

/-- The operation whole. -/
theorem binOp_ok {t : TypeId} {ox oy : Operand} {v u r : V} {x y : Value} {op : BinOp} (hv : RV ρ v x) (hu : RV ρ u y) (h : binOp (plainT P) op (eqKind P t ox oy) v u = some r) :
    Gives P ρ r (do eqGuard op t ox oy x y; Go.binOp op t x y) := by
  have ints : ∀ k a j b, x = .int k a → y = .int j b → ∀ w, (eqGuard op t ox oy x y).run P w = .ok () w := fun k a j b e e' w => by
    subst e; subst e'; unfold eqGuard; cases op <;> simp
  have strs : ∀ a b, x = .string a → y = .string b → ∀ w, (eqGuard op t ox oy x y).run P w = .ok () w := fun a b e e' w => by
    subst e; subst e'; unfold eqGuard; cases op <;> simp
  have fin : ∀ {s : Sem Value}, Gives P ρ r s → (∀ w, (eqGuard op t ox oy x y).run P w = .ok () w) → s = Go.binOp op t x y → Gives P ρ r (do eqGuard op t ox oy x y; Go.binOp op t x y) := fun ⟨z, hz, hr⟩ hg e =>
    ⟨z, hz, fun w => by rw [Sem.run_bind, hg w, Result.andThen_ok, ← e]; exact hr w⟩
  unfold binOp at h
  split at h
  · rename_i j a k b
    cases hv; cases hu
    have hg := ints _ _ _ _ rfl rfl
    cases op
    case shl => exact fin (shiftOp_ok h t) hg rfl
    case shr => exact fin (shiftOp_ok h t) hg rfl
    all_goals
      simp only [chk_some, kindEq_iff] at h
      obtain ⟨rfl, h⟩ := h
      exact fin (intArith_ok h (by simp) (by simp) t) hg rfl
  · rename_i a b
    cases hv with | str s => cases hu with | str u =>
    exact fin (strOp_ok h t) (strs _ _ rfl rfl) rfl
  · rename_i hni hns
    have big : ∀ a b, Op.equal t a b = Op.equalIn (9998 + 2) t a b := fun _ _ => rfl
    have hp : plainV v = true ∧ plainV u = true := by
      cases op <;> simp only [ob_some, reduceCtorEq] at h <;> (obtain ⟨b, h, _⟩ := h; exact eqOp_plain h)
    have shape : (∀ k a j b, ¬ (x = .int k a ∧ y = .int j b)) ∧ (∀ a b, ¬ (x = .string a ∧ y = .string b)) := by
      refine ⟨fun k a j b ⟨e, e'⟩ => ?_, fun a b ⟨e, e'⟩ => ?_⟩
      · subst e; subst e'; exact hni _ _ _ _ (rv_int hv hp.1) (rv_int hu hp.2)
      · subst e; subst e'; exact hns _ _ (rv_string hv hp.1) (rv_string hu hp.2)
    have nofl : (∀ k a, x ≠ .float k a) ∧ (∀ k a b, x ≠ .complex k a b) := ⟨fun k a e => (by subst e; exact rv_float hv hp.1), fun k a b e => (by subst e; exact rv_complex hv hp.1)⟩
    cases op <;> simp only [ob_some, reduceCtorEq] at h
    case eql =>
      obtain ⟨b, h, h2⟩ := h
      cases h2
      refine ⟨_, .bool b, fun w => ?_⟩
      obtain ⟨h1, h2⟩ := eqOp_ok .eql hv hu h w 9998
      have e : Go.binOp .eql t x y = (do pure (.bool (← Op.equal t x y))) := by
        cases x <;> cases y <;> first | rfl | (exact absurd ⟨rfl, rfl⟩ (shape.1 _ _ _ _)) | (exact absurd ⟨rfl, rfl⟩ (shape.2 _ _)) | (exact absurd rfl (nofl.1 _ _)) | (exact absurd rfl (nofl.2 _ _ _))
      rw [e, big]
      simp only [Sem.run_bind, h1, Result.andThen_ok, h2]; rfl
    case neq =>
      obtain ⟨b, h, h2⟩ := h
      cases h2
      refine ⟨_, .bool (!b), fun w => ?_⟩
      obtain ⟨h1, h2⟩ := eqOp_ok .neq hv hu h w 9998
      have e : Go.binOp .neq t x y = (do pure (.bool (!(← Op.equal t x y)))) := by
        cases x <;> cases y <;> first | rfl | (exact absurd ⟨rfl, rfl⟩ (shape.1 _ _ _ _)) | (exact absurd ⟨rfl, rfl⟩ (shape.2 _ _)) | (exact absurd rfl (nofl.1 _ _)) | (exact absurd rfl (nofl.2 _ _ _))
      rw [e, big]
      simp only [Sem.run_bind, h1, Result.andThen_ok, h2]; rfl

end
end Go.Dx
