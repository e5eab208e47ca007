/-
  Which operations of a region come ahead of which in every order.
-/
import Derived.Test.YtkbjonoiecljiaaGreatDoorDxTrace
namespace Go.Dx
open Go Go.RowKit

def Ahead (ah : List Nat) (i j : Nat) : Prop := ((ah[j]?).getD 0).testBit i = true

theorem aheads_length : ∀ (l : List Oper) (acc : List Nat), (aheads l acc).length = acc.length + l.length
  | [], acc => rfl
  | o :: l, acc => by simp only [aheads, aheads_length l, List.length_append, List.length_cons, List.length_nil]; omega

theorem aheads_pre : ∀ (l : List Oper) (acc : List Nat) (j : Nat), j < acc.length → (aheads l acc)[j]? = acc[j]?
  | [], acc, j, _ => rfl
  | o :: l, acc, j, h => by
    rw [aheads, aheads_pre l _ j (by simp; omega), List.getElem?_append_left h]

theorem aheads_at : ∀ (l : List Oper) (acc : List Nat) (k : Nat) (o : Oper), l[k]? = some o → ∃ acc', (aheads l acc)[acc.length + k]? = some (aheadOf acc' o.after.toList) ∧ acc'.length = acc.length + k ∧ ∀ j, j < acc'.length → acc'[j]? = (aheads l acc)[j]?
  | [], acc, k, o, h => by simp at h
  | o' :: l, acc, 0, o, h => by
    simp at h
    subst h
    refine ⟨acc, ?_, rfl, fun j hj => (aheads_pre (o' :: l) acc j hj).symm⟩
    rw [aheads, aheads_pre l _ _ (by simp)]
    simp
  | o' :: l, acc, k + 1, o, h => by
    obtain ⟨acc', h1, h2, h3⟩ := aheads_at l (acc ++ [aheadOf acc o'.after.toList]) k o (by simpa using h)
    refine ⟨acc', ?_, by simp at h2; omega, h3⟩
    rw [aheads, ← h1]
    congr 1
    simp; omega

theorem aheadOf_bit {acc : List Nat} {i : Nat} : ∀ {es : List Edge}, (aheadOf acc es).testBit i = true → ∃ e ∈ es, Region.binds .any e = true ∧ (i = e.on ∨ ((acc[e.on]?).getD 0).testBit i = true)
  | [], h => by simp [aheadOf] at h
  | e :: es, h => by
    have h' : (match Region.binds .any e with
      | true => Nat.lor (Nat.shiftLeft 1 e.on) ((acc[e.on]?).getD 0)
      | false => 0).testBit i = true ∨ (aheadOf acc es).testBit i = true := by
      have : ((match Region.binds .any e with
        | true => Nat.lor (Nat.shiftLeft 1 e.on) ((acc[e.on]?).getD 0)
        | false => 0) ||| (aheadOf acc es)).testBit i = true := h
      rw [Nat.testBit_or, Bool.or_eq_true] at this
      exact this
    rcases h' with h' | h'
    · cases hb : Region.binds .any e with
      | false => rw [hb] at h'; simp at h'
      | true =>
        rw [hb] at h'
        have : ((1 <<< e.on) ||| ((acc[e.on]?).getD 0)).testBit i = true := h'
        rw [Nat.testBit_or, Bool.or_eq_true] at this
        refine ⟨e, List.mem_cons_self .., hb, ?_⟩
        rcases this with this | this
        · left
          rw [Nat.one_shiftLeft, Nat.testBit_two_pow] at this
          simpa using (of_decide_eq_true this).symm
        · exact .inr this
    · obtain ⟨e', h1, h2⟩ := aheadOf_bit h'
      exact ⟨e', List.mem_cons_of_mem _ h1, h2⟩

theorem ahead_edge {ops : Array Oper} {i j : Nat} (h : Ahead (aheads ops.toList []) i j) : ∃ o, ops[j]? = some o ∧ ∃ e ∈ o.after, Region.binds .any e = true ∧ (i = e.on ∨ Ahead (aheads ops.toList []) i e.on) := by
  unfold Ahead at h
  cases ho : ops[j]? with
  | none =>
    have hge : ops.size ≤ j := Array.getElem?_eq_none_iff.1 ho
    have : (aheads ops.toList [])[j]? = none := by
      rw [List.getElem?_eq_none_iff, aheads_length]; simp; omega
    rw [this] at h; simp at h
  | some o =>
    obtain ⟨acc', h1, h2, h3⟩ := aheads_at ops.toList [] j o (by simpa using ho)
    simp only [List.length_nil, Nat.zero_add] at h1 h2
    rw [h1] at h
    obtain ⟨e, e1, e2, e3⟩ := aheadOf_bit h
    refine ⟨o, rfl, e, by simpa using e1, e2, e3.imp id fun e3 => ?_⟩
    unfold Ahead
    by_cases hlt : e.on < acc'.length
    · rw [← h3 _ hlt]; exact e3
    · rw [List.getElem?_eq_none_iff.2 (by omega)] at e3; simp at e3

theorem edges_lt {ops : Array Oper} (h : edgesOk ops = true) {j : Nat} {o : Oper} (ho : ops[j]? = some o) {e : Edge} (he : e ∈ o.after) (hb : Region.binds .any e = true) : e.on < j := by
  unfold edgesOk at h
  rw [List.all_eq_true] at h
  have := h j (List.mem_range.2 (Array.getElem?_eq_some_iff.1 ho).1)
  have ho' : ops.toList[j]? = some o := by simpa using ho
  simp only [ho', List.all_eq_true] at this
  have := this e (by simpa using he)
  rw [hb] at this
  simpa using this

/-- Closed under what must come ahead. -/
def Closed (ops : Array Oper) (S : Nat → Prop) : Prop := ∀ j o, ops[j]? = some o → S j → ∀ e ∈ o.after, Region.binds .any e = true → S e.on

theorem closed_ahead {ops : Array Oper} (hE : edgesOk ops = true) {S : Nat → Prop} (hS : Closed ops S) : ∀ (j i : Nat), Ahead (aheads ops.toList []) i j → S j → S i := by
  intro j
  induction j using Nat.strongRecOn with
  | _ j ih =>
    intro i h hj
    obtain ⟨o, ho, e, he, hb, h'⟩ := ahead_edge h
    have hs := hS j o ho hj e he hb
    rcases h' with rfl | h'
    · exact hs
    · exact ih e.on (edges_lt hE ho he hb) i h' hs

theorem ahead_lt {ops : Array Oper} (hE : edgesOk ops = true) : ∀ (j i : Nat), Ahead (aheads ops.toList []) i j → i < j := by
  intro j
  induction j using Nat.strongRecOn with
  | _ j ih =>
    intro i h
    obtain ⟨o, ho, e, he, hb, h'⟩ := ahead_edge h
    have hlt := edges_lt hE ho he hb
    rcases h' with rfl | h'
    · exact hlt
    · exact Nat.lt_trans (ih e.on hlt i h') hlt

theorem apart_of {ops : Array Oper} (h : apartOk ops (aheads ops.toList []) = true) {i j : Nat} (hij : i < j) {x y : Oper} (hx : ops[i]? = some x) (hy : ops[j]? = some y) : Ahead (aheads ops.toList []) i j ∨ Oper.apart ops x y = true := by
  unfold apartOk at h
  rw [List.all_eq_true] at h
  have h1 := h j (List.mem_range.2 (Array.getElem?_eq_some_iff.1 hy).1)
  rw [List.all_eq_true] at h1
  have h2 := h1 i (List.mem_range.2 hij)
  have hx' : ops.toList[i]? = some x := by simpa using hx
  have hy' : ops.toList[j]? = some y := by simpa using hy
  simp only [hx', hy', Bool.or_eq_true] at h2
  exact h2

/-! ### effects -/

theorem countB_eq (f : Nat → Bool) : ∀ l : List Nat, countB f l = l.countP f
  | [] => rfl
  | i :: l => by
    simp only [countB, List.countP_cons, countB_eq f l]
    cases f i <;> simp

theorem effsAt_mem : ∀ {l : List DO} {k e : Nat}, e ∈ effsAt l k ↔ ∃ p d, l[p]? = some d ∧ isEff d = true ∧ e = k + p
  | [], k, e => by simp [effsAt]
  | d :: l, k, e => by
    have ih := effsAt_mem (l := l) (k := k + 1) (e := e)
    unfold effsAt
    constructor
    · intro h
      split at h
      · rename_i hd
        rcases List.mem_cons.1 h with rfl | h
        · exact ⟨0, d, rfl, hd, rfl⟩
        · obtain ⟨p, d', h1, h2, h3⟩ := ih.1 h
          exact ⟨p + 1, d', by simpa using h1, h2, by omega⟩
      · obtain ⟨p, d', h1, h2, h3⟩ := ih.1 h
        exact ⟨p + 1, d', by simpa using h1, h2, by omega⟩
    · rintro ⟨p, d', h1, h2, h3⟩
      cases p with
      | zero => simp at h1; subst h1; rw [h2]; simp [h3]
      | succ p =>
        have := ih.2 ⟨p, d', by simpa using h1, h2, by omega⟩
        split
        · exact List.mem_cons_of_mem _ this
        · exact this

theorem effsAt_lt {l : List DO} {k e : Nat} (h : e ∈ effsAt l k) : k ≤ e := by
  obtain ⟨p, d, _, _, rfl⟩ := effsAt_mem.1 h
  omega

theorem effsAt_sorted : ∀ (l : List DO) (k : Nat), (effsAt l k).Pairwise (· < ·)
  | [], k => .nil
  | d :: l, k => by
    unfold effsAt
    split
    · refine .cons (fun e he => ?_) (effsAt_sorted l (k + 1))
      have := effsAt_lt he
      omega
    · exact effsAt_sorted l (k + 1)

theorem chain_closed {ops : Array Oper} (hE : edgesOk ops = true) {S : Nat → Prop} (hS : Closed ops S) : ∀ {l : List Nat}, chainOk (aheads ops.toList []) l = true → l.Pairwise fun a b => S b → S a
  | [], _ => .nil
  | [a], _ => by simp
  | a :: b :: l, h => by
    simp only [chainOk, Bool.and_eq_true] at h
    have ih := chain_closed hE hS h.2
    refine .cons (fun c hc hsc => ?_) ih
    have hab : S b → S a := fun hb => closed_ahead hE hS b a h.1 hb
    rcases List.mem_cons.1 hc with rfl | hc
    · exact hab hsc
    · exact hab (List.rel_of_pairwise_cons ih hc hsc)

theorem tagAll_get {ah effs : List Nat} : ∀ {l : List DO} {k j : Nat} {d : DO} {lo hi : Nat}, (tagAll ah effs l k)[j]? = some (d, lo, hi) ↔ l[j]? = some d ∧ lo = countB (fun e => ((ah[k + j]?).getD 0).testBit e) effs ∧ hi = countB (fun e => !((ah[e]?).getD 0).testBit (k + j)) effs
  | [], k, j, d, lo, hi => by simp [tagAll]
  | d' :: l, k, 0, d, lo, hi => by
    simp only [tagAll, List.getElem?_cons_zero, Option.some.injEq, Prod.mk.injEq, Nat.add_zero]
    constructor
    · rintro ⟨rfl, rfl, rfl⟩; exact ⟨rfl, rfl, rfl⟩
    · rintro ⟨rfl, rfl, rfl⟩; exact ⟨rfl, rfl, rfl⟩
  | d' :: l, k, j + 1, d, lo, hi => by
    have := tagAll_get (ah := ah) (effs := effs) (l := l) (k := k + 1) (j := j) (d := d) (lo := lo) (hi := hi)
    rw [show k + 1 + j = k + (j + 1) from by omega] at this
    simpa only [tagAll, List.getElem?_cons_succ] using this

theorem tagAll_length {ah effs : List Nat} : ∀ (l : List DO) (k : Nat), (tagAll ah effs l k).length = l.length
  | [], k => rfl
  | d :: l, k => by simp [tagAll, tagAll_length l]

theorem effCount_tag {ah effs : List Nat} : ∀ (l : List DO) (k j : Nat), effCount (tagAll ah effs l k) j = (effsAt l k).countP fun e => decide (e < k + j)
  | [], k, j => by cases j <;> simp [tagAll, effCount, effsAt]
  | d :: l, k, 0 => by
    simp only [effCount, Nat.add_zero]
    symm
    rw [List.countP_eq_zero]
    intro e he
    have := effsAt_lt he
    simp; omega
  | d :: l, k, j + 1 => by
    simp only [tagAll, effCount, effCount_tag l (k + 1) j, effsAt]
    rw [show k + 1 + j = k + (j + 1) from by omega]
    cases hd : isEff d with
    | true =>
      simp only [if_true]
      rw [List.countP_cons]
      have : decide (k < k + (j + 1)) = true := by simp
      simp only [this, if_true]; omega
    | false => simp

end Go.Dx
