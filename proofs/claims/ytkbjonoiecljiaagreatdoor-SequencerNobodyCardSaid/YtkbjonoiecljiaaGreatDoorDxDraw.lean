/-
  The deterministic machine over labels against the model: a region whose order is open.
-/
import Derived.Test.YtkbjonoiecljiaaGreatDoorDxAhead
namespace Go.Dx
open Go Go.RowKit

/-! ### the variables that are made ahead -/

def isAlloc : DO → Bool
  | ⟨_, .e (.alloc _ _), _⟩ => true
  | _ => false

/-- How many variables the first so many operations make. -/
def aCount : List DO → Nat → Nat
  | _, 0 => 0
  | [], _ + 1 => 0
  | d :: r, j + 1 => (if isAlloc d then 1 else 0) + aCount r j

def resD (d : DO) (k : Nat) : DO := match d with
  | ⟨dst, .e (.alloc t cs), g⟩ => ⟨dst, .r (.fresh t cs (.t (pathOf k))), g⟩
  | d => d

theorem reserve_cons (d : DO) (r : List DO) (k : Nat) : reserve (d :: r) k = (match isAlloc d with
    | true => (resD d k :: (reserve r (k + 1)).1, (match d with | ⟨_, .e (.alloc t cs), _⟩ => (pathOf k, t, cs) | _ => (pathOf k, 0, [])) :: (reserve r (k + 1)).2)
    | false => (d :: (reserve r k).1, (reserve r k).2)) := by
  obtain ⟨dst, op, g⟩ := d
  cases op with
  | e q => cases q <;> rfl
  | _ => rfl

theorem resD_not {d : DO} (h : isAlloc d = false) (k : Nat) : resD d k = d := by
  obtain ⟨dst, op, g⟩ := d
  cases op with
  | e q => cases q <;> first | rfl | cases h
  | _ => rfl

theorem resD_parts (d : DO) (k : Nat) : (resD d k).dst = d.dst ∧ (resD d k).guard = d.guard := by
  obtain ⟨dst, op, g⟩ := d
  cases op with
  | e q => cases q <;> exact ⟨rfl, rfl⟩
  | _ => exact ⟨rfl, rfl⟩

theorem reserve_get : ∀ {l : List DO} {k j : Nat} {d : DO}, l[j]? = some d → (reserve l k).1[j]? = some (resD d (k + aCount l j))
  | [], k, j, d, h => by simp at h
  | d' :: l, k, 0, d, h => by
    simp at h; subst h
    rw [reserve_cons]
    cases ha : isAlloc d' with
    | true => simp [aCount]
    | false => simp [aCount, resD_not ha]
  | d' :: l, k, j + 1, d, h => by
    have h : l[j]? = some d := by simpa using h
    rw [reserve_cons]
    cases ha : isAlloc d' with
    | true =>
      have := reserve_get (k := k + 1) h
      simp only [List.getElem?_cons_succ, this, aCount, ha, if_true]
      congr 2; omega
    | false =>
      have := reserve_get (k := k) h
      simp [this, aCount, ha]

theorem reserve_length : ∀ (l : List DO) (k : Nat), (reserve l k).1.length = l.length
  | [], k => rfl
  | d :: l, k => by
    rw [reserve_cons]
    cases isAlloc d <;> simp [reserve_length l]

theorem reserve_slot : ∀ {l : List DO} {k p : Nat} {x : Lb × TypeId × List V}, (reserve l k).2[p]? = some x → x.1 = pathOf (k + p)
  | [], k, p, x, h => by simp [reserve] at h
  | d :: l, k, p, x, h => by
    rw [reserve_cons] at h
    cases ha : isAlloc d with
    | true =>
      rw [ha] at h
      cases p with
      | zero =>
        simp only [List.getElem?_cons_zero, Option.some.injEq] at h
        subst h
        obtain ⟨dst, op, g⟩ := d
        cases op with
        | e q => cases q <;> rfl
        | _ => rfl
      | succ p =>
        have := reserve_slot (l := l) (k := k + 1) (p := p) (x := x) (by simpa using h)
        rw [this]; congr 1; omega
    | false =>
      rw [ha] at h
      exact reserve_slot h

theorem aCount_lt : ∀ {l : List DO} {k j : Nat} {d : DO}, l[j]? = some d → isAlloc d = true → aCount l j < (reserve l k).2.length
  | [], k, j, d, h, _ => by simp at h
  | d' :: l, k, 0, d, h, ha => by
    simp at h; subst h
    rw [reserve_cons, ha]
    simp [aCount]
  | d' :: l, k, j + 1, d, h, ha => by
    have h : l[j]? = some d := by simpa using h
    rw [reserve_cons]
    cases hb : isAlloc d' with
    | true => have := aCount_lt (k := k + 1) h ha; simp [aCount, hb]; omega
    | false => have := aCount_lt (k := k) h ha; simp [aCount, hb]; omega

theorem reserve_le : ∀ (l : List DO) (k : Nat), (reserve l k).2.length ≤ l.length
  | [], k => Nat.le_refl _
  | d :: l, k => by
    rw [reserve_cons]
    cases isAlloc d with
    | true => have := reserve_le l (k + 1); simp; omega
    | false => have := reserve_le l k; simp; omega

/-- Two operations that make variables have different places. -/
theorem aCount_inj : ∀ {l : List DO} {i j : Nat} {d : DO}, i < j → l[i]? = some d → isAlloc d = true → aCount l i < aCount l j
  | [], i, j, d, _, h, _ => by simp at h
  | d' :: l, 0, j + 1, d, _, h, ha => by simp at h; subst h; simp [aCount, ha]; omega
  | d' :: l, i + 1, j + 1, d, hij, h, ha => by
    have := aCount_inj (l := l) (i := i) (j := j) (by omega) (by simpa using h) ha
    simp [aCount]; omega
  | _ :: _, _, 0, _, hij, _, _ => by omega

theorem makeAll_ok : ∀ (m : List (Lb × TypeId × List V)) (k : Nat) (tm : T V) (h : H), (∀ p x, m[p]? = some x → x.1 = pathOf (k + p)) → k + m.length < 2 ^ 64 →
    (∀ t, t < k → getT (makeAll m tm h).1 (pathOf t) = getT tm (pathOf t)) ∧ (∀ p, p < m.length → ∃ L, val L = val h.next + p ∧ getT (makeAll m tm h).1 (pathOf (k + p)) = .ptr L 0) ∧
    (∀ l, val l < val h.next → (makeAll m tm h).2.get l = h.get l) ∧ val (makeAll m tm h).2.next = val h.next + m.length
  | [], k, tm, h, _, _ => ⟨fun _ _ => rfl, fun p hp => by simp at hp, fun _ _ => rfl, rfl⟩
  | (q, t, cs) :: r, k, tm, h, hm, hk => by
    simp only [List.length_cons] at hk
    have hq : q = pathOf k := by have := hm 0 _ rfl; simpa using this
    obtain ⟨i1, i2, i3, i4⟩ := makeAll_ok r (k + 1) (tm.set q (some (.ptr h.next 0))) (h.add (.cells cs t 0 .yes)) (fun p x hp => by
      have := hm (p + 1) x (by simpa using hp)
      rw [this]; congr 1; omega) (by omega)
    have hn : val (h.add (.cells cs t 0 .yes)).next = val h.next + 1 := val_inc _
    refine ⟨fun t' ht => ?_, fun p hp => ?_, fun l hl => ?_, ?_⟩
    · show getT (makeAll r _ _).1 _ = _
      rw [i1 t' (by omega), getT_set_ne]
      intro e; rw [hq] at e
      have := pathOf_inj (by omega) (by omega) e; omega
    · cases p with
      | zero =>
        refine ⟨h.next, rfl, ?_⟩
        show getT (makeAll r _ _).1 _ = _
        rw [Nat.add_zero, i1 k (by omega), hq, getT_set_self]
      | succ p =>
        obtain ⟨L, h1, h2⟩ := i2 p (by simp at hp; omega)
        refine ⟨L, by rw [h1, hn]; omega, ?_⟩
        rw [show k + (p + 1) = k + 1 + p from by omega]
        exact h2
    · show (makeAll r _ _).2.get l = _
      rw [i3 l (by rw [hn]; omega), H.get_add_ne]
      intro e; rw [e] at hl; omega
    · show val (makeAll r _ _).2.next = _
      rw [i4, hn]; simp; omega

theorem getT_putT (tm : T V) (d : Option Lb) (v : V) (q : Lb) : getT (putT tm d v) q = if d = some q then v else getT tm q := by
  cases d with
  | none => simp [putT]
  | some d =>
    by_cases e : d = q
    · subst e; simp [putT, getT_set_self]
    · simp [putT, getT_set_ne _ _ e, e]

theorem compDOs_get {C : CE} {ops : Array Oper} : ∀ {os : List Oper} {l : List DO}, compDOs C ops os = some l → ∀ j : Nat, (∀ o, os[j]? = some o → ∃ d : DO, l[j]? = some d ∧ compDO C ops o = some d) ∧ l.length = os.length
  | [], l, h, j => by simp only [compDOs, Option.some.injEq] at h; subst h; exact ⟨fun o ho => by simp at ho, rfl⟩
  | o :: os, l, h, j => by
    simp only [compDOs, ob_some, Option.some.injEq] at h
    obtain ⟨d, h1, ds, h2, rfl⟩ := h
    refine ⟨fun o' ho => ?_, by have := (compDOs_get h2 0).2; simp [this]⟩
    cases j with
    | zero => simp at ho; subst ho; exact ⟨d, rfl, h1⟩
    | succ j => simpa using (compDOs_get h2 j).1 o' (by simpa using ho)

end Go.Dx
