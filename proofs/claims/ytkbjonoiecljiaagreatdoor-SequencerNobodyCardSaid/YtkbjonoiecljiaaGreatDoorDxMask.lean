/-
  A region whose order is open: the temporaries behind some of its operations.
-/
import Derived.Test.YtkbjonoiecljiaaGreatDoorDxDraw
namespace Go.Dx
open Go Go.RowKit

/-- The temporaries behind those of the first i operations that are in S. -/
def mask (l : List DO) (tm0 : T V) (v : Nat → V) (S : Nat → Bool) : Nat → T V
  | 0 => tm0
  | i + 1 => if S i then putT (mask l tm0 v S i) ((l[i]?).bind (·.dst)) (v i) else mask l tm0 v S i

section
variable {C : CE} {ops : Array Oper} {l : List DO} {tm0 : T V} {v : Nat → V} {S : Nat → Bool}

theorem getT_mask (i : Nat) (q : Lb) : getT (mask l tm0 v S (i + 1)) q = if S i = true ∧ (l[i]?).bind (·.dst) = some q then v i else getT (mask l tm0 v S i) q := by
  show getT (if S i then putT (mask l tm0 v S i) ((l[i]?).bind (·.dst)) (v i) else mask l tm0 v S i) q = _
  cases h : S i with
  | true => simp only [if_true]; rw [getT_putT]; simp
  | false => simp

/-- Where an operation's result goes. -/
theorem dst_ok (hl : compDOs C ops ops.toList = some l) {i : Nat} {q : Lb} (h : (l[i]?).bind (·.dst) = some q) : ∃ (o : Oper) (t : Nat), ops[i]? = some o ∧ o.dst = some t ∧ q = pathOf t ∧ t < C.n := by
  obtain ⟨h1, h2⟩ := compDOs_get hl i
  cases ho : ops[i]? with
  | none =>
    have hge : ops.size ≤ i := Array.getElem?_eq_none_iff.1 ho
    rw [List.getElem?_eq_none_iff.2 (by rw [h2]; simpa using hge)] at h
    cases h
  | some o =>
    obtain ⟨d, hd, hc⟩ := h1 o (by simpa using ho)
    rw [hd] at h
    simp only [compDO, ob_some, Option.some.injEq] at hc
    obtain ⟨dst, hdst, g, hg, rfl⟩ := hc
    have h : dst = some q := h
    rcases compDst_ok hdst with ⟨e1, e2⟩ | ⟨t, e1, e2, e3⟩
    · rw [h] at e2; cases e2
    · rw [h] at e2; cases e2
      exact ⟨o, t, rfl, e1, rfl, e3⟩

theorem looks_tmp {o : Oper} {t : Nat} (h : .tmp t ∈ o.op.operands) : t ∈ o.looksAt ops := by
  unfold Oper.looksAt
  exact List.mem_append_left _ (List.mem_filterMap.2 ⟨.tmp t, by simpa using h, rfl⟩)

structure Facts (C : CE) (ops : Array Oper) (l : List DO) : Prop where
  comp : compDOs C ops ops.toList = some l
  small : C.n ≤ 65536
  edges : edgesOk ops = true
  apart : apartOk ops (aheads ops.toList []) = true

/-- What an operation looks at is, once all that must come ahead of it has been, what it was in the order of the text. -/
theorem mask_reads (F : Facts C ops l) (hS : Closed ops (fun i => S i = true)) {j : Nat} {o : Oper} (ho : ops[j]? = some o) (hj : S j = false) (hready : ∀ e ∈ o.after, Region.binds .any e = true → S e.on = true)
    {t : Nat} (ht : t < C.n) (hlook : t ∈ o.looksAt ops) : getT (mask l tm0 v S ops.size) (pathOf t) = getT (mask l tm0 v (fun _ => true) j) (pathOf t) := by
  have hjs : j < ops.size := (Array.getElem?_eq_some_iff.1 ho).1
  have hah : ∀ i, Ahead (aheads ops.toList []) i j → S i = true := fun i hi => by
    obtain ⟨o', ho', e, he, hb, h'⟩ := ahead_edge hi
    rw [ho] at ho'; cases ho'
    have hs := hready e he hb
    rcases h' with rfl | h'
    · exact hs
    · exact closed_ahead F.edges hS e.on i h' hs
  -- behind j
  have c1 : ∀ k, j + k ≤ ops.size → getT (mask l tm0 v S (j + k)) (pathOf t) = getT (mask l tm0 v S j) (pathOf t) := by
    intro k
    induction k with
    | zero => intro _; rfl
    | succ k ih =>
      intro hk
      rw [← Nat.add_assoc, getT_mask, if_neg, ih (by omega)]
      rintro ⟨h1, h2⟩
      obtain ⟨o', t', ho', hd', hq, ht'⟩ := dst_ok F.comp h2
      have := F.small
      have e := pathOf_inj (by omega) (by omega) hq
      subst e
      have hne : j ≠ j + k := fun e => by rw [← e, hj] at h1; cases h1
      rcases apart_of F.apart (i := j) (j := j + k) (by omega) ho ho' with ha | ha
      · have := closed_ahead F.edges hS (j + k) j ha h1
        rw [hj] at this; cases this
      · exact (Oper.apart_spec ha).2.2 _ hd' hlook
  -- ahead of j
  have c2 : ∀ i, i ≤ j → getT (mask l tm0 v S i) (pathOf t) = getT (mask l tm0 v (fun _ => true) i) (pathOf t) := by
    intro i
    induction i with
    | zero => intro _; rfl
    | succ i ih =>
      intro hi
      rw [getT_mask, getT_mask, ih (by omega)]
      by_cases hd : (l[i]?).bind (·.dst) = some (pathOf t)
      · obtain ⟨o', t', ho', hd', hq, ht'⟩ := dst_ok F.comp hd
        have := F.small
        have e := pathOf_inj (by omega) (by omega) hq
        subst e
        have hs : S i = true := by
          rcases apart_of F.apart (i := i) (j := j) (by omega) ho' ho with ha | ha
          · exact hah i ha
          · exact absurd hlook ((Oper.apart_spec ha).1 _ hd')
        rw [if_pos ⟨hs, hd⟩, if_pos ⟨rfl, hd⟩]
      · rw [if_neg (fun h => hd h.2), if_neg (fun h => hd h.2)]
  have := c1 (ops.size - j) (by omega)
  rw [show j + (ops.size - j) = ops.size from by omega] at this
  rw [this, c2 j (Nat.le_refl _)]

/-- One operation more. -/
theorem mask_put (F : Facts C ops l) (hS : Closed ops (fun i => S i = true)) {j : Nat} {o : Oper} (ho : ops[j]? = some o) (hj : S j = false) (q : Lb) :
    getT (mask l tm0 v (fun i => S i || i == j) ops.size) q = getT (putT (mask l tm0 v S ops.size) ((l[j]?).bind (·.dst)) (v j)) q := by
  have hjs : j < ops.size := (Array.getElem?_eq_some_iff.1 ho).1
  have b1 : ∀ i, i ≤ j → mask l tm0 v (fun i => S i || i == j) i = mask l tm0 v S i := by
    intro i
    induction i with
    | zero => intro _; rfl
    | succ i ih =>
      intro hi
      have hne : (i == j) = false := by simp; omega
      simp only [mask, hne, Bool.or_false, ih (by omega)]
  have b2 : ∀ k, j + 1 + k ≤ ops.size → getT (mask l tm0 v (fun i => S i || i == j) (j + 1 + k)) q = if (l[j]?).bind (·.dst) = some q then v j else getT (mask l tm0 v S (j + 1 + k)) q := by
    intro k
    induction k with
    | zero =>
      intro _
      rw [Nat.add_zero, getT_mask, b1 j (Nat.le_refl _), getT_mask]
      simp [hj]
    | succ k ih =>
      intro hk
      rw [← Nat.add_assoc, getT_mask, getT_mask, ih (by omega)]
      have hne : (j + 1 + k == j) = false := by simp; omega
      simp only [hne, Bool.or_false]
      by_cases hd : (l[j]?).bind (·.dst) = some q
      · rw [if_pos hd, if_pos hd, if_neg]
        rintro ⟨h1, h2⟩
        obtain ⟨o1, t1, ho1, hd1, hq1, ht1⟩ := dst_ok F.comp hd
        obtain ⟨o2, t2, ho2, hd2, hq2, ht2⟩ := dst_ok F.comp h2
        have := F.small
        have e := pathOf_inj (by omega) (by omega) (hq1.symm.trans hq2)
        subst e
        rcases apart_of F.apart (i := j) (j := j + 1 + k) (by omega) ho1 ho2 with ha | ha
        · have := closed_ahead F.edges hS (j + 1 + k) j ha h1
          rw [hj] at this; cases this
        · exact (Oper.apart_spec ha).2.1 _ hd1 hd2
      · rw [if_neg hd, if_neg hd]
  have := b2 (ops.size - (j + 1)) (by omega)
  rw [show j + 1 + (ops.size - (j + 1)) = ops.size from by omega] at this
  rw [this, getT_putT]

theorem mask_congr {S' : Nat → Bool} : ∀ i, (∀ k, k < i → S k = S' k) → mask l tm0 v S i = mask l tm0 v S' i
  | 0, _ => rfl
  | i + 1, h => by simp only [mask, h i (by omega), mask_congr i fun k hk => h k (by omega)]

end
end Go.Dx
