/-
  Which operations of a region come ahead of which in every order.
  The deterministic machine over labels against the model: a region whose order is open.
  A region whose order is open: the temporaries behind some of its operations.
  The deterministic machine over labels against the model: a region whose order is open.
  The deterministic machine over labels against the model: a region whose order is open, whole; the main theorem.
  The deterministic machine over labels against the model: a table of functions, each with its certificate.
-/
import Derived.Test.YtkaoagmdhlpfoaaGreatDoorXE
import Derived.Test.YtkaoagmdhlpfoaaGreatDoorXA
namespace Go.Dx
open Go Go.RowKit

def Ahead (ah : List Nat) (i j : Nat) : Prop := ((ah[j]?).getD 0).testBit i = true

theorem aheads_length : ∀ (l : List Oper) (acc : List Nat), (aheads l acc).length = acc.length + l.length
  | [], acc => rfl
  | o :: l, acc => by simp only [aheads, aheads_length l, List.length_append, List.length_cons, List.length_nil]; omega

theorem aheads_pre : ∀ (l : List Oper) (acc : List Nat) (j : Nat), j < acc.length → (aheads l acc)[j]? = acc[j]?
  | [], acc, j, _ => rfl
  | o :: l, acc, j, h => by
    rw [aheads, aheads_pre l _ j (by simp; omega), List.getElem?_append_left h]

theorem aheads_at : ∀ (l : List Oper) (acc : List Nat) (k : Nat) (o : Oper), l[k]? = some o → ∃ acc', (aheads l acc)[acc.length + k]? = some (aheadOf acc' o.after.toList) ∧ acc'.length = acc.length + k ∧ ∀ j, j < acc'.length → acc'[j]? = (aheads l acc)[j]?
  | [], acc, k, o, h => by simp at h
  | o' :: l, acc, 0, o, h => by
    simp at h
    subst h
    refine ⟨acc, ?_, rfl, fun j hj => (aheads_pre (o' :: l) acc j hj).symm⟩
    rw [aheads, aheads_pre l _ _ (by simp)]
    simp
  | o' :: l, acc, k + 1, o, h => by
    obtain ⟨acc', h1, h2, h3⟩ := aheads_at l (acc ++ [aheadOf acc o'.after.toList]) k o (by simpa using h)
    refine ⟨acc', ?_, by simp at h2; omega, h3⟩
    rw [aheads, ← h1]
    congr 1
    simp; omega

theorem aheadOf_bit {acc : List Nat} {i : Nat} : ∀ {es : List Edge}, (aheadOf acc es).testBit i = true → ∃ e ∈ es, Region.binds .any e = true ∧ (i = e.on ∨ ((acc[e.on]?).getD 0).testBit i = true)
  | [], h => by simp [aheadOf] at h
  | e :: es, h => by
    have h' : (match Region.binds .any e with
      | true => Nat.lor (Nat.shiftLeft 1 e.on) ((acc[e.on]?).getD 0)
      | false => 0).testBit i = true ∨ (aheadOf acc es).testBit i = true := by
      have : ((match Region.binds .any e with
        | true => Nat.lor (Nat.shiftLeft 1 e.on) ((acc[e.on]?).getD 0)
        | false => 0) ||| (aheadOf acc es)).testBit i = true := h
      rw [Nat.testBit_or, Bool.or_eq_true] at this
      exact this
    rcases h' with h' | h'
    · cases hb : Region.binds .any e with
      | false => rw [hb] at h'; simp at h'
      | true =>
        rw [hb] at h'
        have : ((1 <<< e.on) ||| ((acc[e.on]?).getD 0)).testBit i = true := h'
        rw [Nat.testBit_or, Bool.or_eq_true] at this
        refine ⟨e, List.mem_cons_self .., hb, ?_⟩
        rcases this with this | this
        · left
          rw [Nat.one_shiftLeft, Nat.testBit_two_pow] at this
          simpa using (of_decide_eq_true this).symm
        · exact .inr this
    · obtain ⟨e', h1, h2⟩ := aheadOf_bit h'
      exact ⟨e', List.mem_cons_of_mem _ h1, h2⟩

theorem ahead_edge {ops : Array Oper} {i j : Nat} (h : Ahead (aheads ops.toList []) i j) : ∃ o, ops[j]? = some o ∧ ∃ e ∈ o.after, Region.binds .any e = true ∧ (i = e.on ∨ Ahead (aheads ops.toList []) i e.on) := by
  unfold Ahead at h
  cases ho : ops[j]? with
  | none =>
    have hge : ops.size ≤ j := Array.getElem?_eq_none_iff.1 ho
    have : (aheads ops.toList [])[j]? = none := by
      rw [List.getElem?_eq_none_iff, aheads_length]; simp; omega
    rw [this] at h; simp at h
  | some o =>
    obtain ⟨acc', h1, h2, h3⟩ := aheads_at ops.toList [] j o (by simpa using ho)
    simp only [List.length_nil, Nat.zero_add] at h1 h2
    rw [h1] at h
    obtain ⟨e, e1, e2, e3⟩ := aheadOf_bit h
    refine ⟨o, rfl, e, by simpa using e1, e2, e3.imp id fun e3 => ?_⟩
    unfold Ahead
    by_cases hlt : e.on < acc'.length
    · rw [← h3 _ hlt]; exact e3
    · rw [List.getElem?_eq_none_iff.2 (by omega)] at e3; simp at e3

theorem edges_lt {ops : Array Oper} (h : edgesOk ops = true) {j : Nat} {o : Oper} (ho : ops[j]? = some o) {e : Edge} (he : e ∈ o.after) (hb : Region.binds .any e = true) : e.on < j := by
  unfold edgesOk at h
  rw [List.all_eq_true] at h
  have := h j (List.mem_range.2 (Array.getElem?_eq_some_iff.1 ho).1)
  have ho' : ops.toList[j]? = some o := by simpa using ho
  simp only [ho', List.all_eq_true] at this
  have := this e (by simpa using he)
  rw [hb] at this
  simpa using this

/-- Closed under what must come ahead. -/
def Closed (ops : Array Oper) (S : Nat → Prop) : Prop := ∀ j o, ops[j]? = some o → S j → ∀ e ∈ o.after, Region.binds .any e = true → S e.on

theorem closed_ahead {ops : Array Oper} (hE : edgesOk ops = true) {S : Nat → Prop} (hS : Closed ops S) : ∀ (j i : Nat), Ahead (aheads ops.toList []) i j → S j → S i := by
  intro j
  induction j using Nat.strongRecOn with
  | _ j ih =>
    intro i h hj
    obtain ⟨o, ho, e, he, hb, h'⟩ := ahead_edge h
    have hs := hS j o ho hj e he hb
    rcases h' with rfl | h'
    · exact hs
    · exact ih e.on (edges_lt hE ho he hb) i h' hs

theorem ahead_lt {ops : Array Oper} (hE : edgesOk ops = true) : ∀ (j i : Nat), Ahead (aheads ops.toList []) i j → i < j := by
  intro j
  induction j using Nat.strongRecOn with
  | _ j ih =>
    intro i h
    obtain ⟨o, ho, e, he, hb, h'⟩ := ahead_edge h
    have hlt := edges_lt hE ho he hb
    rcases h' with rfl | h'
    · exact hlt
    · exact Nat.lt_trans (ih e.on hlt i h') hlt

theorem apart_of {ops : Array Oper} (h : apartOk ops (aheads ops.toList []) = true) {i j : Nat} (hij : i < j) {x y : Oper} (hx : ops[i]? = some x) (hy : ops[j]? = some y) : Ahead (aheads ops.toList []) i j ∨ Oper.apart ops x y = true := by
  unfold apartOk at h
  rw [List.all_eq_true] at h
  have h1 := h j (List.mem_range.2 (Array.getElem?_eq_some_iff.1 hy).1)
  rw [List.all_eq_true] at h1
  have h2 := h1 i (List.mem_range.2 hij)
  have hx' : ops.toList[i]? = some x := by simpa using hx
  have hy' : ops.toList[j]? = some y := by simpa using hy
  simp only [hx', hy', Bool.or_eq_true] at h2
  exact h2

/-! ### effects -/

theorem countB_eq (f : Nat → Bool) : ∀ l : List Nat, countB f l = l.countP f
  | [] => rfl
  | i :: l => by
    simp only [countB, List.countP_cons, countB_eq f l]
    cases f i <;> simp

theorem effsAt_mem : ∀ {l : List DO} {k e : Nat}, e ∈ effsAt l k ↔ ∃ p d, l[p]? = some d ∧ isEff d = true ∧ e = k + p
  | [], k, e => by simp [effsAt]
  | d :: l, k, e => by
    have ih := effsAt_mem (l := l) (k := k + 1) (e := e)
    unfold effsAt
    constructor
    · intro h
      split at h
      · rename_i hd
        rcases List.mem_cons.1 h with rfl | h
        · exact ⟨0, d, rfl, hd, rfl⟩
        · obtain ⟨p, d', h1, h2, h3⟩ := ih.1 h
          exact ⟨p + 1, d', by simpa using h1, h2, by omega⟩
      · obtain ⟨p, d', h1, h2, h3⟩ := ih.1 h
        exact ⟨p + 1, d', by simpa using h1, h2, by omega⟩
    · rintro ⟨p, d', h1, h2, h3⟩
      cases p with
      | zero => simp at h1; subst h1; rw [h2]; simp [h3]
      | succ p =>
        have := ih.2 ⟨p, d', by simpa using h1, h2, by omega⟩
        split
        · exact List.mem_cons_of_mem _ this
        · exact this

theorem effsAt_lt {l : List DO} {k e : Nat} (h : e ∈ effsAt l k) : k ≤ e := by
  obtain ⟨p, d, _, _, rfl⟩ := effsAt_mem.1 h
  omega

theorem effsAt_sorted : ∀ (l : List DO) (k : Nat), (effsAt l k).Pairwise (· < ·)
  | [], k => .nil
  | d :: l, k => by
    unfold effsAt
    split
    · refine .cons (fun e he => ?_) (effsAt_sorted l (k + 1))
      have := effsAt_lt he
      omega
    · exact effsAt_sorted l (k + 1)

theorem chain_closed {ops : Array Oper} (hE : edgesOk ops = true) {S : Nat → Prop} (hS : Closed ops S) : ∀ {l : List Nat}, chainOk (aheads ops.toList []) l = true → l.Pairwise fun a b => S b → S a
  | [], _ => .nil
  | [a], _ => by simp
  | a :: b :: l, h => by
    simp only [chainOk, Bool.and_eq_true] at h
    have ih := chain_closed hE hS h.2
    refine .cons (fun c hc hsc => ?_) ih
    have hab : S b → S a := fun hb => closed_ahead hE hS b a h.1 hb
    rcases List.mem_cons.1 hc with rfl | hc
    · exact hab hsc
    · exact hab (List.rel_of_pairwise_cons ih hc hsc)

theorem tagAll_get {ah effs : List Nat} : ∀ {l : List DO} {k j : Nat} {d : DO} {lo hi : Nat}, (tagAll ah effs l k)[j]? = some (d, lo, hi) ↔ l[j]? = some d ∧ lo = countB (fun e => ((ah[k + j]?).getD 0).testBit e) effs ∧ hi = countB (fun e => !((ah[e]?).getD 0).testBit (k + j)) effs
  | [], k, j, d, lo, hi => by simp [tagAll]
  | d' :: l, k, 0, d, lo, hi => by
    simp only [tagAll, List.getElem?_cons_zero, Option.some.injEq, Prod.mk.injEq, Nat.add_zero]
    constructor
    · rintro ⟨rfl, rfl, rfl⟩; exact ⟨rfl, rfl, rfl⟩
    · rintro ⟨rfl, rfl, rfl⟩; exact ⟨rfl, rfl, rfl⟩
  | d' :: l, k, j + 1, d, lo, hi => by
    have := tagAll_get (ah := ah) (effs := effs) (l := l) (k := k + 1) (j := j) (d := d) (lo := lo) (hi := hi)
    rw [show k + 1 + j = k + (j + 1) from by omega] at this
    simpa only [tagAll, List.getElem?_cons_succ] using this

theorem tagAll_length {ah effs : List Nat} : ∀ (l : List DO) (k : Nat), (tagAll ah effs l k).length = l.length
  | [], k => rfl
  | d :: l, k => by simp [tagAll, tagAll_length l]

theorem effCount_tag {ah effs : List Nat} : ∀ (l : List DO) (k j : Nat), effCount (tagAll ah effs l k) j = (effsAt l k).countP fun e => decide (e < k + j)
  | [], k, j => by cases j <;> simp [tagAll, effCount, effsAt]
  | d :: l, k, 0 => by
    simp only [effCount, Nat.add_zero]
    symm
    rw [List.countP_eq_zero]
    intro e he
    have := effsAt_lt he
    simp; omega
  | d :: l, k, j + 1 => by
    simp only [tagAll, effCount, effCount_tag l (k + 1) j, effsAt]
    rw [show k + 1 + j = k + (j + 1) from by omega]
    cases hd : isEff d with
    | true =>
      simp only [if_true]
      rw [List.countP_cons]
      have : decide (k < k + (j + 1)) = true := by simp
      simp only [this, if_true]; omega
    | false => simp

end Go.Dx
namespace Go.Dx
open Go Go.RowKit

/-! ### the variables that are made ahead -/

/-- Is its result made ahead? 'q': may a text's bytes be? -/
def isAlloc (q : Bool) : DO → Bool
  | ⟨_, .e (.alloc _ _), _⟩ => true
  | ⟨_, .e (.allocRow _ _ _), _⟩ => true
  | ⟨_, .e (.strBytes _ _), _⟩ => q
  | _ => false

/-- May the first text's bytes still be made ahead, behind this one? -/
def nextQ (q : Bool) : DO → Bool
  | ⟨_, .e (.alloc _ _), _⟩ => q
  | ⟨_, .e (.allocRow _ _ _), _⟩ => q
  | d => q && !isEff d

def atQ : List DO → Bool → Nat → Bool
  | _, q, 0 => q
  | [], q, _ + 1 => q
  | d :: r, q, j + 1 => atQ r (nextQ q d) j

/-- How many variables the first so many operations make. -/
def aCount : List DO → Bool → Nat → Nat
  | _, _, 0 => 0
  | [], _, _ + 1 => 0
  | d :: r, q, j + 1 => (if isAlloc q d then 1 else 0) + aCount r (nextQ q d) j

def resD (q : Bool) (d : DO) (k : Nat) : DO := match d, q with
  | ⟨dst, .e (.alloc t cs), g⟩, _ => ⟨dst, .r (.fresh t cs (.t (pathOf k))), g⟩
  | ⟨dst, .e (.allocRow t cs n), g⟩, _ => ⟨dst, .r (.freshS t cs n (.t (pathOf k))), g⟩
  | ⟨dst, .e (.strBytes e x), g⟩, true => ⟨dst, .r (.freshB e x (.t (pathOf k))), g⟩
  | d, _ => d

def madeOf (d : DO) (k : Nat) : Made := match d with
  | ⟨_, .e (.alloc t cs), _⟩ => (pathOf k, t, cs, .yes)
  | ⟨_, .e (.allocRow t cs _), _⟩ => (pathOf k, t, cs, .yes)
  | ⟨_, .e (.strBytes e _), _⟩ => (pathOf k, e, [], .marked)
  | _ => (pathOf k, 0, [], .yes)

theorem madeOf_path (d : DO) (k : Nat) : (madeOf d k).1 = pathOf k := by
  obtain ⟨dst, op, g⟩ := d
  cases op with
  | e q => cases q <;> rfl
  | _ => rfl

theorem reserve_cons (d : DO) (r : List DO) (k : Nat) (q : Bool) : reserve (d :: r) k q = (match isAlloc q d with
    | true => (resD q d k :: (reserve r (k + 1) (nextQ q d)).1, madeOf d k :: (reserve r (k + 1) (nextQ q d)).2)
    | false => (d :: (reserve r k (nextQ q d)).1, (reserve r k (nextQ q d)).2)) := by
  obtain ⟨dst, op, g⟩ := d
  cases op with
  | e p => cases p <;> first | rfl | (cases q <;> rfl)
  | _ => rfl

theorem resD_not {q : Bool} {d : DO} (h : isAlloc q d = false) (k : Nat) : resD q d k = d := by
  obtain ⟨dst, op, g⟩ := d
  cases op with
  | e p => cases p <;> first | rfl | (cases h; done) | (cases q <;> first | rfl | cases h)
  | _ => rfl

theorem resD_parts (q : Bool) (d : DO) (k : Nat) : (resD q d k).dst = d.dst ∧ (resD q d k).guard = d.guard := by
  obtain ⟨dst, op, g⟩ := d
  cases op with
  | e p => cases p <;> first | exact ⟨rfl, rfl⟩ | (cases q <;> exact ⟨rfl, rfl⟩)
  | _ => exact ⟨rfl, rfl⟩

theorem reserve_get : ∀ {l : List DO} {k j : Nat} {q : Bool} {d : DO}, l[j]? = some d → (reserve l k q).1[j]? = some (resD (atQ l q j) d (k + aCount l q j))
  | [], k, j, q, d, h => by simp at h
  | d' :: l, k, 0, q, d, h => by
    simp at h; subst h
    rw [reserve_cons]
    cases ha : isAlloc q d' with
    | true => simp [aCount, atQ]
    | false => simp [aCount, atQ, resD_not ha]
  | d' :: l, k, j + 1, q, d, h => by
    have h : l[j]? = some d := by simpa using h
    rw [reserve_cons]
    cases ha : isAlloc q d' with
    | true =>
      have := reserve_get (k := k + 1) (q := nextQ q d') h
      simp only [List.getElem?_cons_succ, this, aCount, atQ, ha, if_true]
      congr 2; omega
    | false =>
      have := reserve_get (k := k) (q := nextQ q d') h
      simp [this, aCount, atQ, ha]

theorem reserve_length : ∀ (l : List DO) (k : Nat) (q : Bool), (reserve l k q).1.length = l.length
  | [], k, q => rfl
  | d :: l, k, q => by
    rw [reserve_cons]
    cases isAlloc q d <;> simp [reserve_length l]

theorem reserve_slot : ∀ {l : List DO} {k p : Nat} {q : Bool} {x : Made}, (reserve l k q).2[p]? = some x → x.1 = pathOf (k + p)
  | [], k, p, q, x, h => by simp [reserve] at h
  | d :: l, k, p, q, x, h => by
    rw [reserve_cons] at h
    cases ha : isAlloc q d with
    | true =>
      rw [ha] at h
      cases p with
      | zero =>
        simp only [List.getElem?_cons_zero, Option.some.injEq] at h
        subst h
        exact madeOf_path d k
      | succ p =>
        have := reserve_slot (l := l) (k := k + 1) (p := p) (x := x) (by simpa using h)
        rw [this]; congr 1; omega
    | false =>
      rw [ha] at h
      exact reserve_slot h

theorem aCount_lt : ∀ {l : List DO} {k j : Nat} {q : Bool} {d : DO}, l[j]? = some d → isAlloc (atQ l q j) d = true → aCount l q j < (reserve l k q).2.length
  | [], k, j, q, d, h, _ => by simp at h
  | d' :: l, k, 0, q, d, h, ha => by
    simp at h; subst h
    have ha : isAlloc q d' = true := ha
    rw [reserve_cons, ha]
    simp [aCount]
  | d' :: l, k, j + 1, q, d, h, ha => by
    have h : l[j]? = some d := by simpa using h
    have ha : isAlloc (atQ l (nextQ q d') j) d = true := ha
    rw [reserve_cons]
    cases hb : isAlloc q d' with
    | true => have := aCount_lt (k := k + 1) h ha; simp [aCount, hb]; omega
    | false => have := aCount_lt (k := k) h ha; simp [aCount, hb]; omega

theorem reserve_le : ∀ (l : List DO) (k : Nat) (q : Bool), (reserve l k q).2.length ≤ l.length
  | [], k, q => Nat.le_refl _
  | d :: l, k, q => by
    rw [reserve_cons]
    cases isAlloc q d with
    | true => have := reserve_le l (k + 1) (nextQ q d); simp; omega
    | false => have := reserve_le l k (nextQ q d); simp; omega

/-- Two operations that make variables have different places. -/
theorem aCount_inj : ∀ {l : List DO} {i j : Nat} {q : Bool} {d : DO}, i < j → l[i]? = some d → isAlloc (atQ l q i) d = true → aCount l q i < aCount l q j
  | [], i, j, q, d, _, h, _ => by simp at h
  | d' :: l, 0, j + 1, q, d, _, h, ha => by
    simp at h; subst h
    have ha : isAlloc q d' = true := ha
    simp [aCount, ha]; omega
  | d' :: l, i + 1, j + 1, q, d, hij, h, ha => by
    have := aCount_inj (l := l) (i := i) (j := j) (q := nextQ q d') (by omega) (by simpa using h) ha
    simp [aCount]; omega
  | _ :: _, _, 0, _, _, hij, _, _ => by omega

theorem makeAll_ok : ∀ (m : List Made) (k : Nat) (tm : T V) (h : H), (∀ p x, m[p]? = some x → x.1 = pathOf (k + p)) → k + m.length < 2 ^ 64 →
    (∀ t, t < k → getT (makeAll m tm h).1 (pathOf t) = getT tm (pathOf t)) ∧ (∀ p, p < m.length → ∃ L, val L = val h.next + p ∧ getT (makeAll m tm h).1 (pathOf (k + p)) = .ptr L 0) ∧
    (∀ l, val l < val h.next → (makeAll m tm h).2.get l = h.get l) ∧ val (makeAll m tm h).2.next = val h.next + m.length
  | [], k, tm, h, _, _ => ⟨fun _ _ => rfl, fun p hp => by simp at hp, fun _ _ => rfl, rfl⟩
  | (q, t, cs, ow) :: r, k, tm, h, hm, hk => by
    simp only [List.length_cons] at hk
    have hq : q = pathOf k := by have := hm 0 _ rfl; simpa using this
    obtain ⟨i1, i2, i3, i4⟩ := makeAll_ok r (k + 1) (tm.set q (some (.ptr h.next 0))) (h.add (.cells cs t 0 ow)) (fun p x hp => by
      have := hm (p + 1) x (by simpa using hp)
      rw [this]; congr 1; omega) (by omega)
    have hn : val (h.add (.cells cs t 0 ow)).next = val h.next + 1 := val_inc _
    refine ⟨fun t' ht => ?_, fun p hp => ?_, fun l hl => ?_, ?_⟩
    · show getT (makeAll r _ _).1 _ = _
      rw [i1 t' (by omega), getT_set_ne]
      intro e; rw [hq] at e
      have := pathOf_inj (by omega) (by omega) e; omega
    · cases p with
      | zero =>
        refine ⟨h.next, rfl, ?_⟩
        show getT (makeAll r _ _).1 _ = _
        rw [Nat.add_zero, i1 k (by omega), hq, getT_set_self]
      | succ p =>
        obtain ⟨L, h1, h2⟩ := i2 p (by simp at hp; omega)
        refine ⟨L, by rw [h1, hn]; omega, ?_⟩
        rw [show k + (p + 1) = k + 1 + p from by omega]
        exact h2
    · show (makeAll r _ _).2.get l = _
      rw [i3 l (by rw [hn]; omega), H.get_add_ne]
      intro e; rw [e] at hl; omega
    · show val (makeAll r _ _).2.next = _
      rw [i4, hn]; simp; omega

/-- The places stay. -/
theorem setMade_slots {q : Lb} {cs : List V} : ∀ {m : List Made}, (setMade q cs m).map (·.1) = m.map (·.1)
  | [] => rfl
  | (p, t, c, o) :: r => by
    simp only [setMade]
    split
    · rfl
    · simp only [List.map_cons, setMade_slots (m := r)]

theorem guess_slots {E : Env} : ∀ {l : List (DO × Nat × Nat)} {tm : T V} {h : H} {m m' : List Made}, guess E l tm h m = some m' → m'.map (·.1) = m.map (·.1)
  | [], tm, h, m, m', hg => by simp only [guess, Option.some.injEq] at hg; rw [hg]
  | (d, _, _) :: r, tm, h, m, m', hg => by
    simp only [guess] at hg
    split at hg
    · exact guess_slots hg
    · split at hg
      · exact guess_slots hg
      · simp only [ob_some] at hg
        obtain ⟨v, _, hg⟩ := hg
        exact guess_slots hg
      · split at hg
        · simp only [Option.some.injEq] at hg
          rw [← hg]; exact setMade_slots
        · cases hg
      · simp only [ob_some] at hg
        obtain ⟨q, _, v, _, hg⟩ := hg
        exact guess_slots hg
      · simp only [Option.some.injEq] at hg; rw [hg]

theorem guessed_slots {E : Env} {l : List (DO × Nat × Nat)} {tm : T V} {h : H} {m m' : List Made} (hg : guessed E l m tm h = some m') : m'.map (·.1) = m.map (·.1) := by
  unfold guessed at hg
  split at hg
  · exact guess_slots hg
  · simp only [Option.some.injEq] at hg; rw [hg]

theorem getT_putT (tm : T V) (d : Option Lb) (v : V) (q : Lb) : getT (putT tm d v) q = if d = some q then v else getT tm q := by
  cases d with
  | none => simp [putT]
  | some d =>
    by_cases e : d = q
    · subst e; simp [putT, getT_set_self]
    · simp [putT, getT_set_ne _ _ e, e]

theorem compDOs_get {C : CE} {ops : Array Oper} : ∀ {os : List Oper} {l : List DO}, compDOs C ops os = some l → ∀ j : Nat, (∀ o, os[j]? = some o → ∃ d : DO, l[j]? = some d ∧ compDO C ops o = some d) ∧ l.length = os.length
  | [], l, h, j => by simp only [compDOs, Option.some.injEq] at h; subst h; exact ⟨fun o ho => by simp at ho, rfl⟩
  | o :: os, l, h, j => by
    simp only [compDOs, ob_some, Option.some.injEq] at h
    obtain ⟨d, h1, ds, h2, rfl⟩ := h
    refine ⟨fun o' ho => ?_, by have := (compDOs_get h2 0).2; simp [this]⟩
    cases j with
    | zero => simp at ho; subst ho; exact ⟨d, rfl, h1⟩
    | succ j => simpa using (compDOs_get h2 j).1 o' (by simpa using ho)

end Go.Dx
namespace Go.Dx
open Go Go.RowKit

/-- The temporaries behind those of the first i operations that are in S. -/
def mask (l : List DO) (tm0 : T V) (v : Nat → V) (S : Nat → Bool) : Nat → T V
  | 0 => tm0
  | i + 1 => if S i then putT (mask l tm0 v S i) ((l[i]?).bind (·.dst)) (v i) else mask l tm0 v S i

section
variable {C : CE} {ops : Array Oper} {l : List DO} {tm0 : T V} {v : Nat → V} {S : Nat → Bool}

theorem getT_mask (i : Nat) (q : Lb) : getT (mask l tm0 v S (i + 1)) q = if S i = true ∧ (l[i]?).bind (·.dst) = some q then v i else getT (mask l tm0 v S i) q := by
  show getT (if S i then putT (mask l tm0 v S i) ((l[i]?).bind (·.dst)) (v i) else mask l tm0 v S i) q = _
  cases h : S i with
  | true => simp only [if_true]; rw [getT_putT]; simp
  | false => simp

/-- Where an operation's result goes. -/
theorem dst_ok (hl : compDOs C ops ops.toList = some l) {i : Nat} {q : Lb} (h : (l[i]?).bind (·.dst) = some q) : ∃ (o : Oper) (t : Nat), ops[i]? = some o ∧ o.dst = some t ∧ q = pathOf t ∧ t < C.n := by
  obtain ⟨h1, h2⟩ := compDOs_get hl i
  cases ho : ops[i]? with
  | none =>
    have hge : ops.size ≤ i := Array.getElem?_eq_none_iff.1 ho
    rw [List.getElem?_eq_none_iff.2 (by rw [h2]; simpa using hge)] at h
    cases h
  | some o =>
    obtain ⟨d, hd, hc⟩ := h1 o (by simpa using ho)
    rw [hd] at h
    simp only [compDO, ob_some, Option.some.injEq] at hc
    obtain ⟨dst, hdst, g, hg, rfl⟩ := hc
    have h : dst = some q := h
    rcases compDst_ok hdst with ⟨e1, e2⟩ | ⟨t, e1, e2, e3⟩
    · rw [h] at e2; cases e2
    · rw [h] at e2; cases e2
      exact ⟨o, t, rfl, e1, rfl, e3⟩

theorem looks_tmp {o : Oper} {t : Nat} (h : .tmp t ∈ o.op.operands) : t ∈ o.looksAt ops := by
  unfold Oper.looksAt
  exact List.mem_append_left _ (List.mem_filterMap.2 ⟨.tmp t, by simpa using h, rfl⟩)

structure Facts (C : CE) (ops : Array Oper) (l : List DO) : Prop where
  comp : compDOs C ops ops.toList = some l
  small : C.n ≤ 65536
  edges : edgesOk ops = true
  apart : apartOk ops (aheads ops.toList []) = true

/-- What an operation looks at is, once all that must come ahead of it has been, what it was in the order of the text. -/
theorem mask_reads (F : Facts C ops l) (hS : Closed ops (fun i => S i = true)) {j : Nat} {o : Oper} (ho : ops[j]? = some o) (hj : S j = false) (hready : ∀ e ∈ o.after, Region.binds .any e = true → S e.on = true)
    {t : Nat} (ht : t < C.n) (hlook : t ∈ o.looksAt ops) : getT (mask l tm0 v S ops.size) (pathOf t) = getT (mask l tm0 v (fun _ => true) j) (pathOf t) := by
  have hjs : j < ops.size := (Array.getElem?_eq_some_iff.1 ho).1
  have hah : ∀ i, Ahead (aheads ops.toList []) i j → S i = true := fun i hi => by
    obtain ⟨o', ho', e, he, hb, h'⟩ := ahead_edge hi
    rw [ho] at ho'; cases ho'
    have hs := hready e he hb
    rcases h' with rfl | h'
    · exact hs
    · exact closed_ahead F.edges hS e.on i h' hs
  -- behind j
  have c1 : ∀ k, j + k ≤ ops.size → getT (mask l tm0 v S (j + k)) (pathOf t) = getT (mask l tm0 v S j) (pathOf t) := by
    intro k
    induction k with
    | zero => intro _; rfl
    | succ k ih =>
      intro hk
      rw [← Nat.add_assoc, getT_mask, if_neg, ih (by omega)]
      rintro ⟨h1, h2⟩
      obtain ⟨o', t', ho', hd', hq, ht'⟩ := dst_ok F.comp h2
      have := F.small
      have e := pathOf_inj (by omega) (by omega) hq
      subst e
      have hne : j ≠ j + k := fun e => by rw [← e, hj] at h1; cases h1
      rcases apart_of F.apart (i := j) (j := j + k) (by omega) ho ho' with ha | ha
      · have := closed_ahead F.edges hS (j + k) j ha h1
        rw [hj] at this; cases this
      · exact (Oper.apart_spec ha).2.2 _ hd' hlook
  -- ahead of j
  have c2 : ∀ i, i ≤ j → getT (mask l tm0 v S i) (pathOf t) = getT (mask l tm0 v (fun _ => true) i) (pathOf t) := by
    intro i
    induction i with
    | zero => intro _; rfl
    | succ i ih =>
      intro hi
      rw [getT_mask, getT_mask, ih (by omega)]
      by_cases hd : (l[i]?).bind (·.dst) = some (pathOf t)
      · obtain ⟨o', t', ho', hd', hq, ht'⟩ := dst_ok F.comp hd
        have := F.small
        have e := pathOf_inj (by omega) (by omega) hq
        subst e
        have hs : S i = true := by
          rcases apart_of F.apart (i := i) (j := j) (by omega) ho' ho with ha | ha
          · exact hah i ha
          · exact absurd hlook ((Oper.apart_spec ha).1 _ hd')
        rw [if_pos ⟨hs, hd⟩, if_pos ⟨rfl, hd⟩]
      · rw [if_neg (fun h => hd h.2), if_neg (fun h => hd h.2)]
  have := c1 (ops.size - j) (by omega)
  rw [show j + (ops.size - j) = ops.size from by omega] at this
  rw [this, c2 j (Nat.le_refl _)]

/-- One operation more. -/
theorem mask_put (F : Facts C ops l) (hS : Closed ops (fun i => S i = true)) {j : Nat} {o : Oper} (ho : ops[j]? = some o) (hj : S j = false) (q : Lb) :
    getT (mask l tm0 v (fun i => S i || i == j) ops.size) q = getT (putT (mask l tm0 v S ops.size) ((l[j]?).bind (·.dst)) (v j)) q := by
  have hjs : j < ops.size := (Array.getElem?_eq_some_iff.1 ho).1
  have b1 : ∀ i, i ≤ j → mask l tm0 v (fun i => S i || i == j) i = mask l tm0 v S i := by
    intro i
    induction i with
    | zero => intro _; rfl
    | succ i ih =>
      intro hi
      have hne : (i == j) = false := by simp; omega
      simp only [mask, hne, Bool.or_false, ih (by omega)]
  have b2 : ∀ k, j + 1 + k ≤ ops.size → getT (mask l tm0 v (fun i => S i || i == j) (j + 1 + k)) q = if (l[j]?).bind (·.dst) = some q then v j else getT (mask l tm0 v S (j + 1 + k)) q := by
    intro k
    induction k with
    | zero =>
      intro _
      rw [Nat.add_zero, getT_mask, b1 j (Nat.le_refl _), getT_mask]
      simp [hj]
    | succ k ih =>
      intro hk
      rw [← Nat.add_assoc, getT_mask, getT_mask, ih (by omega)]
      have hne : (j + 1 + k == j) = false := by simp; omega
      simp only [hne, Bool.or_false]
      by_cases hd : (l[j]?).bind (·.dst) = some q
      · rw [if_pos hd, if_pos hd, if_neg]
        rintro ⟨h1, h2⟩
        obtain ⟨o1, t1, ho1, hd1, hq1, ht1⟩ := dst_ok F.comp hd
        obtain ⟨o2, t2, ho2, hd2, hq2, ht2⟩ := dst_ok F.comp h2
        have := F.small
        have e := pathOf_inj (by omega) (by omega) (hq1.symm.trans hq2)
        subst e
        rcases apart_of F.apart (i := j) (j := j + 1 + k) (by omega) ho1 ho2 with ha | ha
        · have := closed_ahead F.edges hS (j + 1 + k) j ha h1
          rw [hj] at this; cases this
        · exact (Oper.apart_spec ha).2.1 _ hd1 hd2
      · rw [if_neg hd, if_neg hd]
  have := b2 (ops.size - (j + 1)) (by omega)
  rw [show j + 1 + (ops.size - (j + 1)) = ops.size from by omega] at this
  rw [this, getT_putT]

theorem mask_congr {S' : Nat → Bool} : ∀ i, (∀ k, k < i → S k = S' k) → mask l tm0 v S i = mask l tm0 v S' i
  | 0, _ => rfl
  | i + 1, h => by simp only [mask, h i (by omega), mask_congr i fun k hk => h k (by omega)]

end
end Go.Dx
namespace Go.Dx
open Go Go.RowKit

theorem effCount_succ : ∀ {r : List (DO × Nat × Nat)} {j : Nat} {d : DO} {lo hi : Nat}, r[j]? = some (d, lo, hi) → effCount r (j + 1) = effCount r j + (if isEff d then 1 else 0)
  | [], j, d, lo, hi, h => by simp at h
  | x :: r, 0, d, lo, hi, h => by simp at h; subst h; simp [effCount]
  | x :: r, j + 1, d, lo, hi, h => by
    have := effCount_succ (r := r) (j := j) (d := d) (lo := lo) (hi := hi) (by simpa using h)
    simp only [effCount] at this ⊢
    omega

theorem pairwise_mem {R : Nat → Nat → Prop} : ∀ {l : List Nat}, l.Pairwise (· < ·) → l.Pairwise R → ∀ a, a ∈ l → ∀ b, b ∈ l → a < b → R a b
  | [], _, _, a, ha, _, _, _ => by cases ha
  | x :: l, h1, h2, a, ha, b, hb, hab => by
    rw [List.pairwise_cons] at h1 h2
    rcases List.mem_cons.1 ha with e1 | ha'
    · rcases List.mem_cons.1 hb with e2 | hb'
      · omega
      · rw [e1]; exact h2.1 b hb'
    · rcases List.mem_cons.1 hb with e2 | hb'
      · have := h1.1 a ha'; omega
      · exact pairwise_mem h1.2 h2.2 a ha' b hb' hab

section
variable {P : Program} {G n : Nat} {ops : Array Oper} {l : List DO} {call : Orc} {a a' : A} {h h0 h' : H} {tm0 : T V} {v : Nat → V} {tm : Nat → T V} {hp : Nat → H} {B : Nat} {w0 : World} {ρ0 : Rho}

def effsOf (l : List DO) (n : Nat) : List Nat := effsAt (reserve l n true).1 0
def tagged (ops : Array Oper) (l : List DO) (n : Nat) : List (DO × Nat × Nat) := tagAll (aheads ops.toList []) (effsOf l n) (reserve l n true).1 0

structure Reg (P : Program) (G n : Nat) (ops : Array Oper) (l : List DO) (call : Orc) (a a' : A) (h h0 h' : H) (tm0 : T V) (v : Nat → V) (tm : Nat → T V) (hp : Nat → H) : Prop where
  facts : Facts ⟨P, G, n⟩ ops l
  chain : chainOk (aheads ops.toList []) (effsOf l n) = true
  size : ops.size ≤ 65536
  trace : Trace (envOf P) call (tagged ops l n) 0 { tmps := tm0, defers := a.defers } [] h0 [] a' h' v tm hp
  slots : ∀ p, p < (reserve l n true).2.length → ∃ L, val L = val h.next + p ∧ getT tm0 (pathOf (n + p)) = .ptr L 0
  next : val h0.next = val h.next + (reserve l n true).2.length

structure Inv (P : Program) (G n : Nat) (ops : Array Oper) (l : List DO) (a : A) (h h0 : H) (tm0 : T V) (v : Nat → V) (hp : Nat → H) (B : Nat) (w0 : World) (ρ0 : Rho) (S : Nat → Bool) (x : Act) (w : World) : Prop where
  closed : Closed ops (fun i => S i = true)
  rel : ∃ ρ, (∀ m, val m < val h.next → ρ m = ρ0 m) ∧ HRel B w0 ρ (hp ((effsOf l n).countP S)) w ∧ val h0.next ≤ val (hp ((effsOf l n).countP S)).next ∧
    (∀ i d L, l[i]? = some d → isAlloc (atQ l true i) d = true → S i = false → val L = val h.next + aCount l true i → ρ L = none) ∧ TRel ρ n (mask l tm0 v S ops.size) x.tmps ∧ DRels ρ a.defers x.defers ∧ GRel ρ G

theorem Reg.len (r : Reg P G n ops l call a a' h h0 h' tm0 v tm hp) : l.length = ops.size := by
  have := (compDOs_get r.facts.comp 0).2
  simpa using this

theorem Reg.tms (r : Reg P G n ops l call a a' h h0 h' tm0 v tm hp) : ∀ i, i ≤ ops.size → tm i = mask l tm0 v (fun _ => true) i := by
  intro i
  induction i with
  | zero => intro _; exact r.trace.tm0
  | succ i ih =>
    intro hi
    have hlt : i < l.length := by rw [r.len]; omega
    have hd0 : l[i]? = some l[i] := List.getElem?_eq_getElem hlt
    have hd := reserve_get (k := n) (q := true) hd0
    have ht := (tagAll_get (ah := aheads ops.toList []) (effs := effsOf l n) (k := 0)).2 ⟨hd, rfl, rfl⟩
    have := (r.trace.ops i _ _ _ ht).2
    rw [this, ih (by omega)]
    simp only [mask, if_true, hd0, Option.bind_some, (resD_parts _ _ _).1]

theorem Reg.slot (r : Reg P G n ops l call a a' h h0 h' tm0 v tm hp) {i p : Nat} (hi : i ≤ ops.size) (hpn : n + p < 2 ^ 64) : getT (tm i) (pathOf (n + p)) = getT tm0 (pathOf (n + p)) := by
  rw [r.tms i hi]
  have hsm := r.facts.small
  induction i with
  | zero => rfl
  | succ i ih =>
    rw [getT_mask, if_neg, ih (by omega)]
    rintro ⟨_, h2⟩
    obtain ⟨o, t, _, _, hq, ht⟩ := dst_ok r.facts.comp h2
    have hsm : n ≤ 65536 := hsm
    have ht : t < n := ht
    have := pathOf_inj (by omega) (by omega) hq
    omega

theorem wants_same {C : CE} {o : Oper} {g : Option (Lb × Bool)} (hg : compGuard C ops o.guard = some g) {t1 t2 : T V} (H : ∀ t, t < C.n → t ∈ o.looksAt ops → getT t1 (pathOf t) = getT t2 (pathOf t)) : wants t1 g = wants t2 g := by
  cases ho : o.guard with
  | none => rw [ho] at hg; simp only [compGuard, Option.some.injEq] at hg; subst hg; rfl
  | some p =>
    obtain ⟨j, want⟩ := p
    rw [ho] at hg
    simp only [compGuard, ob_some, chk_some, Option.some.injEq] at hg
    obtain ⟨q, hq, d, hd, hlt, rfl⟩ := hg
    have hq' : ops[j]? = some q := by simpa using hq
    have hl : d ∈ o.looksAt ops := by
      unfold Oper.looksAt
      refine List.mem_append_right _ ?_
      simp [ho, hq', hd]
    have := H d (by simpa using hlt) hl
    simp only [wants, this]

theorem value_run2 {s : Sem Value} {x : Value} {w w' : World} (h : s.run P w = .ok x w') : (do let y ← s; pure (Next.value y) : Sem Next).run P w = .ok (.value x) w' := by simp [h]

/-- One operation of the region, when all has been that must come ahead of it. -/
theorem reg_step (hcall : OrcOk P G call) (r : Reg P G n ops l call a a' h h0 h' tm0 v tm hp) {S : Nat → Bool} {x : Act} {w : World} (inv : Inv P G n ops l a h h0 tm0 v hp B w0 ρ0 S x w) {j : Nat} {o : Oper} (ho : ops[j]? = some o) (hj : S j = false)
    (hready : ∀ e ∈ o.after, Region.binds .any e = true → S e.on = true) {K : Act → World → Prop} {Q : Exit → Act → World → Prop} (hK : ∀ x' w', Inv P G n ops l a h h0 tm0 v hp B w0 ρ0 (fun i => S i || i == j) x' w' → K x' w') : wpOp P ops Q j K x w := by
  have F := r.facts
  have hjs : j < ops.size := (Array.getElem?_eq_some_iff.1 ho).1
  obtain ⟨ρ, i1, i2, i3, i4, i5, i6, i7⟩ := inv.rel
  obtain ⟨d0, hd0, hc⟩ := (compDOs_get F.comp j).1 o (by simpa using ho)
  have hd := reserve_get (k := n) (q := true) hd0
  have htag := (tagAll_get (ah := aheads ops.toList []) (effs := effsOf l n) (k := 0)).2 ⟨hd, rfl, rfl⟩
  rw [Nat.zero_add] at htag
  obtain ⟨fact, _⟩ := r.trace.ops j _ _ _ htag
  generalize hdd : resD (atQ l true j) d0 (n + aCount l true j) = d at fact htag hd
  have hdst : d.dst = d0.dst := by rw [← hdd]; exact (resD_parts _ _ _).1
  have hgrd : d.guard = d0.guard := by rw [← hdd]; exact (resD_parts _ _ _).2
  -- what it looks at
  have agree : ∀ t, t < n → t ∈ o.looksAt ops → getT (mask l tm0 v S ops.size) (pathOf t) = getT (tm j) (pathOf t) := fun t ht hl => by
    rw [r.tms j (by omega)]
    exact mask_reads F inv.closed ho hj hready ht hl
  have hc' := hc
  simp only [compDO, ob_some, Option.some.injEq] at hc'
  obtain ⟨dst, hcd, g, hg, hd0e⟩ := hc'
  have hg0 : d0.guard = g := by rw [← hd0e]
  have hdst0 : d0.dst = dst := by rw [← hd0e]
  have hop0 : d0.op = (compOp? ⟨P, G, n⟩ o.op).getD .stuck := by rw [← hd0e]
  have hwant : Region.wanted o (yielded ops x.tmps) = wants (tm j) d.guard := by
    rw [hgrd, hg0, wants_ok hg i5]
    exact wants_same hg agree
  -- which are behind
  have closed' : Closed ops (fun i => (S i || i == j) = true) := fun i o' ho' hi e he hb => by
    simp only [Bool.or_eq_true, beq_iff_eq] at hi ⊢
    rcases hi with hi | rfl
    · exact .inl (inv.closed i o' ho' hi e he hb)
    · rw [ho] at ho'; cases ho'
      exact .inl (hready e he hb)
  have effs_lt : ∀ e ∈ effsOf l n, e < (tagged ops l n).length := fun e he => by
    obtain ⟨p, q, h1, _, rfl⟩ := effsAt_mem.1 he
    unfold tagged
    rw [tagAll_length]
    have := (List.getElem?_eq_some_iff.1 h1).1
    omega
  have cnt : ∀ k, effCount (tagged ops l n) k = (effsOf l n).countP fun e => decide (e < k) := fun k => by
    have := effCount_tag (ah := aheads ops.toList []) (effs := effsOf l n) (reserve l n true).1 0 k
    rw [Nat.zero_add] at this
    exact this
  have cEff : isEff d = true → (effsOf l n).countP S = effCount (tagged ops l n) j ∧ (effsOf l n).countP (fun i => S i || i == j) = effCount (tagged ops l n) j + 1 := fun he => by
    have hmem : j ∈ effsOf l n := effsAt_mem.2 ⟨j, d, hd, he, by omega⟩
    have hsorted := effsAt_sorted (reserve l n true).1 0
    have p1 := pairwise_mem hsorted (chain_closed F.edges inv.closed r.chain)
    have p2 := pairwise_mem hsorted (chain_closed F.edges closed' r.chain)
    have key : ∀ e ∈ effsOf l n, S e = decide (e < j) := fun e hem => by
      rcases Nat.lt_trichotomy e j with hlt | heq | hgt
      · have := p2 e hem j hmem hlt (by simp)
        simp only [Bool.or_eq_true, beq_iff_eq] at this
        rcases this with this | this
        · simp [this, hlt]
        · omega
      · subst heq; simp [hj]
      · have hne : S e = false := by
          cases hs : S e with
          | false => rfl
          | true => have := p1 j hmem e hem hgt hs; rw [hj] at this; cases this
        rw [hne]; simp; omega
    constructor
    · rw [cnt]; exact List.countP_congr fun e hem => by rw [key e hem]
    · have := effCount_succ htag
      rw [he, if_pos rfl] at this
      have this : effCount (tagged ops l n) (j + 1) = effCount (tagged ops l n) j + 1 := this
      rw [← this, cnt]
      refine List.countP_congr fun e hem => ?_
      rw [key e hem]; simp; omega
  have cNot : isEff d = false → (effsOf l n).countP (fun i => S i || i == j) = (effsOf l n).countP S := fun he => by
    refine List.countP_congr fun e hem => ?_
    have : e ≠ j := fun e' => by
      subst e'
      obtain ⟨p, q, h1, h2, h3⟩ := effsAt_mem.1 hem
      have : p = e := by omega
      subst this
      rw [hd] at h1; cases h1
      rw [he] at h2; cases h2
    simp [this]
  have cLo : countB (fun e => (((aheads ops.toList [])[j]?).getD 0).testBit e) (effsOf l n) ≤ (effsOf l n).countP S := by
    rw [countB_eq]
    refine List.countP_mono_left fun e _ he => ?_
    obtain ⟨o', ho', e', he', hb, h'⟩ := ahead_edge (i := e) (j := j) he
    rw [ho] at ho'; cases ho'
    have hs := hready e' he' hb
    rcases h' with rfl | h'
    · exact hs
    · exact closed_ahead F.edges inv.closed e'.on e h' hs
  have cHi : (effsOf l n).countP S ≤ countB (fun e => !(((aheads ops.toList [])[e]?).getD 0).testBit j) (effsOf l n) := by
    rw [countB_eq]
    refine List.countP_mono_left fun e _ he => ?_
    cases hb : (((aheads ops.toList [])[e]?).getD 0).testBit j with
    | false => rfl
    | true => have := closed_ahead F.edges inv.closed e j hb he; rw [hj] at this; cases this
  have cAll : (effsOf l n).countP S ≤ effCount (tagged ops l n) (tagged ops l n).length := by
    rw [cnt]
    refine List.countP_mono_left fun e hem _ => ?_
    have := effs_lt e hem
    simpa using this
  -- what is left behind it
  have fin : ∀ {ρ' : Rho} {y : Value} {x' : Act} {w' : World}, x' = x.put o.dst y → (∀ m, val m < val h.next → ρ' m = ρ0 m) → Ext' ρ ρ' → HRel B w0 ρ' (hp ((effsOf l n).countP (fun i => S i || i == j))) w' → val h0.next ≤ val (hp ((effsOf l n).countP (fun i => S i || i == j))).next →
      (∀ i d L, l[i]? = some d → isAlloc (atQ l true i) d = true → S i = false → i ≠ j → val L = val h.next + aCount l true i → ρ' L = none) → RV ρ' (v j) y → K x' w' := fun {ρ' y x' w'} hx q1 q2 q3 q4 q5 q6 => by
    subst hx
    have hA : ARel ρ' n (A.put { tmps := mask l tm0 v S ops.size, defers := a.defers } dst (v j)) (x.put o.dst y) :=
      ARel.put (C := ⟨P, G, n⟩) (a := { tmps := mask l tm0 v S ops.size, defers := a.defers }) ⟨i5.mono q2, i6.mono q2⟩ hcd q6
    refine hK _ _ ⟨closed', ρ', q1, q3, q4, fun i d L h1 h2 h3 h4 => ?_, ?_, ?_, i7.mono q2⟩
    · simp only [Bool.or_eq_false_iff] at h3
      exact q5 i d L h1 h2 h3.1 (by simpa using h3.2) h4
    · refine ⟨hA.tmps.size, hA.tmps.small, fun t ht => ?_⟩
      rw [mask_put F inv.closed ho hj]
      have := hA.tmps.get t ht
      rw [(put_tmps _ _ _).1] at this
      rw [hd0]
      simpa [hdst0] using this
    · have := hA.defers
      rw [(put_tmps _ _ _).2] at this
      exact this
  have stay : ∀ {y : Value}, isEff d = false → RV ρ (v j) y → K (x.put o.dst y) w := fun {y} he hv =>
    fin rfl i1 (Ext'.refl ρ) (by rw [cNot he]; exact i2) (by rw [cNot he]; exact i3) (fun i d L h1 h2 h3 _ h4 => i4 i d L h1 h2 h3 h4) hv
  have move : ∀ {ρ' : Rho} {y : Value} {w' : World}, isEff d = true → Step ρ ρ' (hp (effCount (tagged ops l n) j)) (hp (effCount (tagged ops l n) j + 1)) → RV ρ' (v j) y → HRel B w0 ρ' (hp (effCount (tagged ops l n) j + 1)) w' → K (x.put o.dst y) w' := fun {ρ' y w'} he s hv R' => by
    obtain ⟨e1, e2⟩ := cEff he
    rw [e1] at i2 i3
    refine fin rfl (fun m hm => ?_) (s.ext i2) (by rw [e2]; exact R') (by rw [e2]; exact Nat.le_trans i3 s.next) (fun i d L h1 h2 h3 _ h4 => ?_) hv
    · rw [s.old m (by have := r.next; omega)]; exact i1 m hm
    · have hlt := aCount_lt (k := n) (q := true) h1 h2
      rw [s.old L (by have := r.next; omega)]
      exact i4 i d L h1 h2 h3 h4
  unfold wpOp
  simp only [ho]
  rcases fact with ⟨hw, hv, hh⟩ | ⟨hw, fact⟩
  · rw [if_neg (by rw [hwant, hw]; exact Bool.false_ne_true)]
    have hu : RV ρ (v j) Go.undef := by rw [hv]; exact .tuple .nil
    cases he : isEff d with
    | false => exact stay he hu
    | true =>
      have hhe := hh he
      rw [Nat.zero_add] at hhe
      obtain ⟨e1, e2⟩ := cEff he
      have R' := i2
      rw [e1, ← hhe] at R'
      exact move he ⟨fun _ _ => rfl, by rw [hhe]; exact Nat.le_refl _⟩ hu R'
  · rw [if_pos (by rw [hwant, hw])]
    refine .inl ?_
    unfold Oper.wp
    cases hop : compOp? ⟨P, G, n⟩ o.op with
    | none =>
      exfalso
      have : d.op = .stuck := by
        rw [hop, Option.getD_none] at hop0
        have : isAlloc (atQ l true j) d0 = false := by obtain ⟨a1, a2, a3⟩ := d0; simp only at hop0; subst hop0; rfl
        rw [← hdd, resD_not this]; exact hop0
      rw [this] at fact; exact fact
    | some q =>
      rw [hop, Option.getD_some] at hop0
      have ok := compOp_ok hop
      have same := same_op (E := envOf P) (tm := mask l tm0 v S ops.size) (tm' := tm j) hop fun y hy => sameX_of fun t ht hlt => agree t hlt (looks_tmp (by rw [← ht]; exact hy))
      by_cases hal : isAlloc (atQ l true j) d0 = true
      · -- a variable is made
        have hal := hal
        obtain ⟨dst1, op1, g1⟩ := d0
        simp only at hop0
        subst hop0
        cases op1 with
        | e q1 =>
          cases q1 with
          | alloc t cs =>
            have hdop : d.op = .r (.fresh t cs (.t (pathOf (n + aCount l true j)))) := by rw [← hdd]; rfl
            rw [hdop] at fact
            obtain ⟨Q', hq, hask⟩ := fact
            have hlt := aCount_lt (k := n) (q := true) hd0 hal
            obtain ⟨L, hL, hsl⟩ := r.slots _ hlt
            have hsl' : getT (tm j) (pathOf (n + aCount l true j)) = .ptr L 0 := by
              rw [r.slot (by omega) (by have h1 := reserve_le l n true; have h2 := r.len; have h3 := r.size; have h4 : n ≤ 65536 := F.small; omega)]; exact hsl
            simp only [RD.req, X.ev, hsl', reqPtr, Option.some.injEq] at hq
            subst hq
            have hq2 := hask ((effsOf l n).countP S) cLo cHi (by rw [Nat.zero_add]; exact cAll)
            simp only [Dx.Q.ask] at hq2
            split at hq2
            · rename_i vs e hgL
              simp only [chk_some, Bool.and_eq_true, Option.some.injEq] at hq2
              obtain ⟨⟨⟨he, hcs⟩, _⟩, hvj⟩ := hq2
              have he : e = t := Nat.eq_of_beq_eq_true he
              have hcs := vsEq_eq hcs
              subst he; subst hcs
              have hnone : ρ L = none := i4 j _ L hd0 hal hj hL
              -- the model's
              obtain ⟨z, hop2, hz, hvz⟩ := (show EOk ⟨P, G, n⟩ o.op (.alloc e vs) from ok).alloc e vs rfl
              subst hvz
              obtain ⟨y, hy, hyr⟩ := run_zeroT (ρ := ρ) hz
              have hE : Ext' ρ (upd ρ L (Blk.mk w.heap.size 0 (y.cells.toList ++ ([] : List Value)).length .nilFunc)) := upd_ext hnone
              have hLn : val L < val (hp ((effsOf l n).countP S)).next := by have := r.next; omega
              have hcr : CRel (upd ρ L (Blk.mk w.heap.size 0 (y.cells.toList ++ []).length .nilFunc)) (Blk.mk w.heap.size 0 (y.cells.toList ++ []).length .nilFunc) z.cells e 0 .yes (w.alloc (.cells ⟨y.cells.toList ++ []⟩ e)) := CRel.new (rest := []) ((hy.mono hE).cells) e 0 .yes
              have R' := i2.laid (o := .cells z.cells e 0 .yes) (x := .cells ⟨y.cells.toList ++ []⟩ e) (b := (Blk.mk w.heap.size 0 (y.cells.toList ++ ([] : List Value)).length .nilFunc)) rfl ⟨rfl, rfl⟩ hnone hLn (Nat.le_refl _) hgL (fun _ _ => rfl) hcr
              have hne : isEff d = false := by unfold isEff; rw [show d = ⟨d.dst, d.op, d.guard⟩ from rfl, hdop]
              have hrun : (execOp x.eval o).run P w = .ok (.value (.pointer (some ⟨w.heap.size, 0, none⟩))) (w.alloc (.cells ⟨y.cells.toList ++ []⟩ e)) := by
                unfold execOp
                rw [hop2]
                simp [Instr.alloc, hyr, newVar, newRow]
              rw [hrun, Oper.upon_value]
              refine fin rfl (fun m hm => ?_) hE (by rw [cNot hne]; exact R') (by rw [cNot hne]; exact i3) (fun i d' L' h1 h2 h3 h4 h5 => ?_) ?_
              · rw [upd_ne (fun e' => by rw [e'] at hm; omega)]; exact i1 m hm
              · have hne' : L' ≠ L := fun e' => by
                  rw [e', hL] at h5
                  rcases Nat.lt_or_gt_of_ne h4 with hlt' | hgt'
                  · have := aCount_inj hlt' h1 h2; omega
                  · have := aCount_inj hgt' hd0 hal; omega
                rw [upd_ne hne']
                exact i4 i d' L' h1 h2 h3 h5
              · rw [← hvj]
                exact .ptr 0 (upd_self _ _ _)
            · cases hq2
          | allocRow t cs m =>
            have hdop : d.op = .r (.freshS t cs m (.t (pathOf (n + aCount l true j)))) := by rw [← hdd]; rfl
            rw [hdop] at fact
            obtain ⟨Q', hq, hask⟩ := fact
            have hlt := aCount_lt (k := n) (q := true) hd0 hal
            obtain ⟨L, hL, hsl⟩ := r.slots _ hlt
            have hsl' : getT (tm j) (pathOf (n + aCount l true j)) = .ptr L 0 := by
              rw [r.slot (by omega) (by have h1 := reserve_le l n true; have h2 := r.len; have h3 := r.size; have h4 : n ≤ 65536 := F.small; omega)]; exact hsl
            simp only [RD.req, X.ev, hsl', reqPtr, Option.some.injEq] at hq
            subst hq
            have hq2 := hask ((effsOf l n).countP S) cLo cHi (by rw [Nat.zero_add]; exact cAll)
            simp only [Dx.Q.ask] at hq2
            split at hq2
            · rename_i vs e hgL
              simp only [chk_some, Bool.and_eq_true, Option.some.injEq] at hq2
              obtain ⟨⟨⟨he, hcs⟩, _⟩, hvj⟩ := hq2
              have he : e = t := Nat.eq_of_beq_eq_true he
              have hcs := vsEq_eq hcs
              subst he; subst hcs
              have hnone : ρ L = none := i4 j _ L hd0 hal hj hL
              obtain ⟨t0, ps, size, z, l0, _, hop2, k1, k2, k3, k4, k5, k6, k7, k8⟩ := (show EOk ⟨P, G, n⟩ o.op (.allocRow e vs m) from ok).row e vs m rfl
              have hLn : val L < val (hp ((effsOf l n).countP S)).next := by have := r.next; omega
              obtain ⟨tot, w', R', hrun0⟩ := buildSlice_laid (C := ⟨P, G, n⟩) (A := x) i5 i7 k1 k2 k3 k4 k5 k6 k7 k8 i2 hnone hLn hgL
              have hne : isEff d = false := by unfold isEff; rw [show d = ⟨d.dst, d.op, d.guard⟩ from rfl, hdop]
              have hrun : (execOp x.eval o).run P w = .ok (.value (.slice (some ⟨w.heap.size, 0, none⟩) m m)) w' := by
                unfold execOp
                rw [hop2]
                exact value_run2 hrun0
              rw [hrun, Oper.upon_value]
              refine fin rfl (fun m hm => ?_) (upd_ext hnone) (by rw [cNot hne]; exact R') (by rw [cNot hne]; exact i3) (fun i d' L' h1 h2 h3 h4 h5 => ?_) ?_
              · rw [upd_ne (fun e' => by rw [e'] at hm; omega)]; exact i1 m hm
              · have hne' : L' ≠ L := fun e' => by
                  rw [e', hL] at h5
                  rcases Nat.lt_or_gt_of_ne h4 with hlt' | hgt'
                  · have := aCount_inj hlt' h1 h2; omega
                  · have := aCount_inj hgt' hd0 hal; omega
                rw [upd_ne hne']
                exact i4 i d' L' h1 h2 h3 h5
              · rw [← hvj]
                exact .slice 0 m m (upd_self _ _ _)
            · cases hq2
          | strBytes e0 x0 =>
            have hqt : atQ l true j = true := hal
            have hdop : d.op = .r (.freshB e0 x0 (.t (pathOf (n + aCount l true j)))) := by rw [← hdd, hqt]; rfl
            rw [hdop] at fact
            obtain ⟨Q', hq, hask⟩ := fact
            have hlt := aCount_lt (k := n) (q := true) hd0 hal
            obtain ⟨L, hL, hsl⟩ := r.slots _ hlt
            have hsl' : getT (tm j) (pathOf (n + aCount l true j)) = .ptr L 0 := by
              rw [r.slot (by omega) (by have h1 := reserve_le l n true; have h2 := r.len; have h3 := r.size; have h4 : n ≤ 65536 := F.small; omega)]; exact hsl
            obtain ⟨t1, t2, y0, hop2, k1, k2, k3, k4⟩ := (show EOk ⟨P, G, n⟩ o.op (.strBytes e0 x0) from ok).bytes e0 x0 rfl
            have hx0 : x0.ev (tm j) = x0.ev (mask l tm0 v S ops.size) := by
              have := sameX_of (C := ⟨P, G, n⟩) (y := y0) (tm := mask l tm0 v S ops.size) (tm' := tm j) fun t ht hlt => agree t hlt (looks_tmp (by rw [hop2, ht]; simp [Op.operands]))
              exact (this x0 k4).symm
            have rx := compX_ok (C := ⟨P, G, n⟩) i5 i7 k4
            rw [← hx0] at rx
            simp only [RD.req, X.ev, hsl'] at hq
            split at hq
            · rename_i b hxb
              have hxb : x0.ev (tm j) = .str b := hxb
              rw [hxb] at rx
              simp only [chk_some, reqPtr, Option.some.injEq] at hq
              obtain ⟨_, hq⟩ := hq
              subst hq
              have hq2 := hask ((effsOf l n).countP S) cLo cHi (by rw [Nat.zero_add]; exact cAll)
              simp only [Dx.Q.ask] at hq2
              split at hq2
              · rename_i vs e hgL
                simp only [chk_some, Bool.and_eq_true, Option.some.injEq] at hq2
                obtain ⟨⟨⟨he, hcs⟩, _⟩, hvj⟩ := hq2
                have he : e = e0 := Nat.eq_of_beq_eq_true he
                have hcs := vsEq_eq hcs
                subst he; subst hcs
                have hnone : ρ L = none := i4 j _ L hd0 hal hj hL
                have hLn : val L < val (hp ((effsOf l n).countP S)).next := by have := r.next; omega
                generalize hyv : x.eval y0 = yv at rx
                cases rx with | str u =>
                obtain ⟨cap, w', hge, R', hrun0⟩ := strBytes_laid (P := P) k1 k2 k3 i2 hnone hLn hgL
                have hne : isEff d = false := by unfold isEff; rw [show d = ⟨d.dst, d.op, d.guard⟩ from rfl, hdop]
                have hrun : (execOp x.eval o).run P w = .ok (.value (.slice (some ⟨w.heap.size, 0, none⟩) u.size cap)) w' := by
                  unfold execOp
                  rw [hop2]
                  simp only [hyv]
                  exact value_run2 hrun0
                rw [hrun, Oper.upon_value]
                refine fin rfl (fun m hm => ?_) (upd_ext hnone) (by rw [cNot hne]; exact R') (by rw [cNot hne]; exact i3) (fun i d' L' h1 h2 h3 h4 h5 => ?_) ?_
                · rw [upd_ne (fun e' => by rw [e'] at hm; omega)]; exact i1 m hm
                · have hne' : L' ≠ L := fun e' => by
                    rw [e', hL] at h5
                    rcases Nat.lt_or_gt_of_ne h4 with hlt' | hgt'
                    · have := aCount_inj hlt' h1 h2; omega
                    · have := aCount_inj hgt' hd0 hal; omega
                  rw [upd_ne hne']
                  exact i4 i d' L' h1 h2 h3 h5
                · rw [← hvj]
                  have := RV.sliceEnd (ρ := upd ρ L (Blk.mk w.heap.size 0 cap .nilFunc)) 0 (natsOf u).length 1 cap (upd_self _ _ _) (by rw [natsOf_length]; exact hge) (by simp)
                  simpa [natsOf_length] using this
              · cases hq2
            · cases hq
          | _ => cases hal
        | _ => cases hal
      · have hal : isAlloc (atQ l true j) d0 = false := by simpa using hal
        have hdop : d.op = q := by rw [← hdd, resD_not hal]; exact hop0
        rw [hdop] at fact
        cases q with
        | mov y =>
          obtain ⟨z, hz, hr⟩ := ok i5 i7
          have same : y.ev _ = y.ev _ := same
          rw [hr o rfl w, Oper.upon_value]
          refine stay (by unfold isEff; rw [show d = ⟨d.dst, d.op, d.guard⟩ from rfl, hdop]) ?_
          have fact : v j = y.ev (tm j) := fact
          rw [fact, ← same]; exact hz
        | p q =>
          have same : q.eval _ _ = q.eval _ _ := same
          have fact : q.eval (envOf P) (tm j) = some (v j) := fact
          obtain ⟨z, hz, hr⟩ := ok i5 i7 (v j) (same.trans fact)
          rw [hr o rfl w, Oper.upon_value]
          exact stay (by unfold isEff; rw [show d = ⟨d.dst, d.op, d.guard⟩ from rfl, hdop]) hz
        | r q =>
          have same : q.req _ = q.req _ := same
          obtain ⟨Q', hq, hask⟩ := fact
          have hq2 := hask ((effsOf l n).countP S) cLo cHi (by rw [Nat.zero_add]; exact cAll)
          obtain ⟨z, hz, hr⟩ := ok i5 i7 Q' (same.trans hq) (v j) i2 hq2
          rw [hr o rfl, Oper.upon_value]
          exact stay (by unfold isEff; rw [show d = ⟨d.dst, d.op, d.guard⟩ from rfl, hdop]) hz
        | e q =>
          have he : isEff d = true := by unfold isEff; rw [show d = ⟨d.dst, d.op, d.guard⟩ from rfl, hdop]
          have same : ∀ h, q.run _ h = q.run _ h := same
          have fact : q.run (tm j) (hp (0 + effCount (tagged ops l n) j)) = some (v j, hp (0 + effCount (tagged ops l n) j + 1)) := fact
          rw [Nat.zero_add] at fact
          have R' := i2
          rw [(cEff he).1] at R'
          obtain ⟨ρ', y, w', s1, s2, s3, s4⟩ := ok.eff i5 i7 R' ((same _).trans fact)
          rcases s4 o rfl with hr | ⟨hr, rfl⟩
          · rw [hr, Oper.upon_value]; exact move he s1 s2 s3
          · rw [hr, Oper.upon_skip]; exact move he s1 s2 s3
        | c q =>
          have he : isEff d = true := by unfold isEff; rw [show d = ⟨d.dst, d.op, d.guard⟩ from rfl, hdop]
          have same : q.args _ _ = q.args _ _ := same
          obtain ⟨⟨f, vs⟩, hf, hcl⟩ := fact
          rw [Nat.zero_add] at hcl
          have R' := i2
          rw [(cEff he).1] at R'
          obtain ⟨xs, hxs, hr⟩ := ok i5 i7 (same.trans hf)
          rw [hr o rfl w]
          refine (hcall hcl R' i7 hxs).upon fun y w' hR => ?_
          obtain ⟨ρ', s1, s2, s3⟩ := hR
          exact move he s1 s2 s3
        | defer q => exact fact.elim
        | stuck => exact fact.elim

end
end Go.Dx
namespace Go.Dx
open Go Go.RowKit

section
variable {P : Program} {G n : Nat} {ops : Array Oper} {l : List DO} {call : Orc} {a a' : A} {h h0 h' : H} {tm0 : T V} {v : Nat → V} {tm : Nat → T V} {hp : Nat → H} {B : Nat} {w0 : World} {ρ ρ0 : Rho} {w : World}

theorem HRel.more (R : HRel B w0 ρ h w) (hold : ∀ m, val m < val h.next → h0.get m = h.get m) (hn : val h.next ≤ val h0.next) : HRel B w0 ρ h0 w := by
  have g : ∀ m b, ρ m = some b → h0.get m = h.get m := fun m b hm => hold m (R.lt m b hm)
  refine ⟨fun m b o hm ho => R.obj m b o hm (by rw [← g m b hm]; exact ho), fun m b hm => Nat.lt_of_lt_of_le (R.lt m b hm) hn, R.base, fun m k b c hm hk h1 h2 => R.inj m k b c hm hk (by rw [← g m b hm]; exact h1) (by rw [← g k c hk]; exact h2), fun m b o hm ho => R.own m b o hm (by rw [← g m b hm]; exact ho), R.size, R.below⟩

/-- How many are still to come. -/
def unl (m : Nat) (S : Nat → Bool) : Nat := (List.range m).countP fun i => !S i

theorem unl_set {m j : Nat} {S : Nat → Bool} (hj : j < m) (hs : S j = false) : unl m (fun i => S i || i == j) + 1 ≤ unl m S := by
  unfold unl
  have h1 : (List.range m).countP (fun i => !(S i || i == j)) = ((List.range m).filter fun i => !S i).countP fun i => !(i == j) := by
    rw [List.countP_filter]
    refine List.countP_congr fun i _ => ?_
    cases S i <;> simp
  rw [h1]
  have h2 : (List.range m).countP (fun i => !S i) = ((List.range m).filter fun i => !S i).length := List.countP_eq_length_filter
  rw [h2]
  have hmem : j ∈ (List.range m).filter fun i => !S i := List.mem_filter.2 ⟨List.mem_range.2 hj, by simp [hs]⟩
  have h3 := List.length_eq_countP_add_countP (fun i => i == j) (l := (List.range m).filter fun i => !S i)
  have h4 : 0 < ((List.range m).filter fun i => !S i).countP (fun i => i == j) := List.countP_pos_iff.2 ⟨j, hmem, by simp⟩
  have h5 : ((List.range m).filter fun i => !S i).countP (fun i => !(i == j)) = ((List.range m).filter fun i => !S i).countP (fun i => decide ¬((i == j) = true)) := by
    refine List.countP_congr fun i _ => ?_
    cases (i == j) <;> simp
  omega

theorem unl_zero {m : Nat} {S : Nat → Bool} (h : unl m S = 0) : ∀ i, i < m → S i = true := fun i hi => by
  have := (List.countP_eq_zero.1 h) i (List.mem_range.2 hi)
  simpa using this

theorem any_ok (hcall : OrcOk P G call) (r : Reg P G n ops l call a a' h h0 h' tm0 v tm hp) {Q : Exit → Act → World → Prop} (hfin : ∀ S x w, Inv P G n ops l a h h0 tm0 v hp B w0 ρ0 S x w → (∀ i, i < ops.size → S i = true) → Q .normal x w) :
    ∀ (fuel : Nat) (listed : Array Bool) (x : Act) (w : World), listed.size = ops.size → Inv P G n ops l a h h0 tm0 v hp B w0 ρ0 (fun i => listed.getD i false) x w → unl ops.size (fun i => listed.getD i false) ≤ fuel → wpAny P .any ops Q fuel listed x w := by
  have done : ∀ (listed : Array Bool) (x : Act) (w : World), listed.size = ops.size → Inv P G n ops l a h h0 tm0 v hp B w0 ρ0 (fun i => listed.getD i false) x w → Region.ready .any ops listed = [] → Q .normal x w := fun listed x w hsz inv hr => by
    refine hfin _ x w inv fun i hi => ?_
    induction i using Nat.strongRecOn with
    | _ i ih =>
      cases hs : listed.getD i false with
      | true => rfl
      | false =>
        exfalso
        have : i ∈ Region.ready .any ops listed := by
          rw [mem_ready]
          refine ⟨?_, ops[i], by simp [hi], fun e he hb => ?_⟩
          · have hlt : i < listed.size := by omega
            simp only [Array.getD_eq_getD_getElem?, Array.getElem?_eq_getElem hlt, Option.getD_some] at hs ⊢
            exact hs
          · have hlt := edges_lt r.facts.edges (j := i) (o := ops[i]) (by simp [hi]) he hb
            exact ih e.on hlt (by omega)
        rw [hr] at this
        cases this
  intro fuel
  induction fuel with
  | zero =>
    intro listed x w hsz inv hu
    have hall := unl_zero (Nat.le_zero.1 hu)
    have hnil : Region.ready .any ops listed = [] := by
      cases hr : Region.ready .any ops listed with
      | nil => rfl
      | cons i rs =>
        exfalso
        have hm : i ∈ Region.ready .any ops listed := by rw [hr]; exact List.mem_cons_self ..
        rw [mem_ready] at hm
        obtain ⟨h1, o, ho, _⟩ := hm
        have hlt : i < ops.size := (Array.getElem?_eq_some_iff.1 ho).1
        have h2 := hall i hlt
        have hlt' : i < listed.size := by omega
        simp only [Array.getD_eq_getD_getElem?, Array.getElem?_eq_getElem hlt', Option.getD_some] at h1 h2
        rw [h1] at h2; cases h2
    exact ⟨hnil, done listed x w hsz inv hnil⟩
  | succ fuel ih =>
    intro listed x w hsz inv hu
    refine ⟨fun hr => done listed x w hsz inv hr, fun j hj => ?_⟩
    obtain ⟨h1, o, ho, hall⟩ := mem_ready.1 hj
    have hlt : j < ops.size := (Array.getElem?_eq_some_iff.1 ho).1
    have hlt' : j < listed.size := by omega
    have hs : listed.getD j false = false := by
      simp only [Array.getD_eq_getD_getElem?, Array.getElem?_eq_getElem hlt', Option.getD_some] at h1 ⊢
      exact h1
    have hS : (fun i => (listed.setIfInBounds j true).getD i false) = fun i => listed.getD i false || i == j := by
      funext i
      by_cases e : i = j
      · subst e; simp [hlt']
      · have hne : (i == j) = false := by simpa using e
        rw [hne, Bool.or_false]
        exact getD_set_ne false (Ne.symm e)
    refine reg_step hcall r inv ho hs (fun e he hb => hall e he hb) fun x' w' inv' => ?_
    refine ih _ x' w' (by simp [hsz]) (by rw [hS]; exact inv') ?_
    rw [hS]
    have := unl_set (S := fun i => listed.getD i false) hlt hs
    omega

theorem draw_ok (hm : P.follows .mixedOrders = true) (hcall : OrcOk P G call) : DrawOk P G call := by
  intro n id ops l m dl hl hd a a' x ρ h h' w B w0 hA hG R m' hm' hrun Q hQ
  unfold compDraw at hd
  simp only at hd
  split at hd
  · rename_i hchk
    simp only [Bool.and_eq_true] at hchk
    obtain ⟨⟨⟨⟨k1, k2⟩, k3⟩, k4⟩, k5⟩ := hchk
    have k5 := Nat.le_of_ble_eq_true k5
    simp only [DC.draw.injEq] at hd
    obtain ⟨rfl, rfl⟩ := hd
    have hsm : n ≤ 65536 := hA.tmps.small
    have hlen : l.length = ops.size := by have := (compDOs_get hl 0).2; simpa using this
    have hsl := guessed_slots hm'
    have hml : m'.length = (reserve l n true).2.length := by have := congrArg List.length hsl; simpa using this
    obtain ⟨m1, m2, m3, m4⟩ := makeAll_ok m' n a.tmps h (fun p y hp => by
      have e := congrArg (fun l => l[p]?) hsl
      simp only [List.getElem?_map, hp, Option.map_some] at e
      cases hq : (reserve l n true).2[p]? with
      | none => rw [hq] at e; cases e
      | some z =>
        rw [hq] at e
        simp only [Option.map_some, Option.some.injEq] at e
        rw [e]; exact reserve_slot hq) (by rw [hml]; have := reserve_le l n true; omega)
    rw [hml] at m2 m4
    obtain ⟨v, tm, hp, t⟩ := trace_of (n := 0) (hs := []) (ps := []) rfl (fun q v b hm => by simp at hm) hrun
    have r : Reg P G n ops l call a a' h (makeAll m' a.tmps h).2 h' (makeAll m' a.tmps h).1 v tm hp := ⟨⟨hl, hsm, k3, k2⟩, k1, k5, t, m2, m4⟩
    have h0 : hp 0 = (makeAll m' a.tmps h).2 := t.now
    refine wp_region_any hm (any_ok (B := B) (w0 := w0) (ρ0 := ρ) hcall r (fun S y w1 inv hall => ?_) ops.size (Array.replicate ops.size false) x _ (by simp) ?_ ?_)
    · -- the end
      obtain ⟨ρ1, i1, i2, i3, i4, i5, i6, i7⟩ := inv.rel
      obtain ⟨l1, l2, l3⟩ := t.last
      have htl : (tagged ops l n).length = ops.size := by unfold tagged; rw [tagAll_length, reserve_length, hlen]
      have hcnt : (effsOf l n).countP S = effCount (tagged ops l n) (tagged ops l n).length := by
        have e1 := effCount_tag (ah := aheads ops.toList []) (effs := effsOf l n) (reserve l n true).1 0 (tagged ops l n).length
        have e1 : effCount (tagged ops l n) (tagged ops l n).length = (effsOf l n).countP fun e => decide (e < 0 + (tagged ops l n).length) := e1
        rw [e1]
        refine List.countP_congr fun e he => ?_
        obtain ⟨p, q, h1, _, rfl⟩ := effsAt_mem.1 he
        have hlt := (List.getElem?_eq_some_iff.1 h1).1
        rw [reserve_length, hlen] at hlt
        have hp' : S (0 + p) = true := hall (0 + p) (by omega)
        have hq' : 0 + p < 0 + (tagged ops l n).length := by rw [htl]; omega
        simp only [hp', decide_eq_true hq']
      have l2' : h' = hp ((effsOf l n).countP S) := by rw [hcnt, l2]; congr 1; exact Nat.zero_add _
      have hmask : mask l (makeAll m' a.tmps h).1 v S ops.size = a'.tmps := by
        rw [mask_congr (S' := fun _ => true) ops.size (fun k hk => hall k hk), ← r.tms ops.size (Nat.le_refl _)]
        have l1 : a'.tmps = tm (tagged ops l n).length := l1
        rw [l1, htl]
      refine hQ ρ1 y w1 ⟨i1, ?_⟩ ⟨?_, ?_⟩ ?_
      · rw [l2']; have := r.next; omega
      · rw [← hmask]; exact i5
      · rw [l3]; exact i6
      · rw [l2']; exact i2
    · -- the beginning
      have hS : (fun i => (Array.replicate ops.size false).getD i false) = fun _ => false := by
        funext i
        simp [Array.getD_eq_getD_getElem?, Array.getElem?_replicate]
        split <;> rfl
      rw [hS]
      have hc0 : (effsOf l n).countP (fun _ => false) = 0 := by rw [List.countP_eq_zero]; simp
      refine ⟨fun j o _ hj => (by cases hj), ρ, fun _ _ => rfl, ?_, ?_, fun i d L h1 h2 _ h4 => ?_, ?_, hA.defers, hG⟩
      · rw [hc0, h0]
        exact (R.drew).more m3 (by rw [m4]; omega)
      · rw [hc0, h0]; exact Nat.le_refl _
      · cases hr : ρ L with
        | none => rfl
        | some b => have := R.lt L b hr; omega
      · have : mask l (makeAll m' a.tmps h).1 v (fun _ => false) ops.size = (makeAll m' a.tmps h).1 := by
          generalize ops.size = k
          induction k with
          | zero => rfl
          | succ k ih => simp only [mask, ih]; rfl
        rw [this]
        exact ⟨hA.tmps.size, hsm, fun t ht => by rw [m1 t ht]; exact hA.tmps.get t ht⟩
    · unfold unl
      have := List.countP_le_length (p := fun i => !(Array.replicate ops.size false).getD i false) (l := List.range ops.size)
      simpa using this
  · cases hd

/-- The main theorem: what the machine runs, the model does. -/
theorem machine_ok {orc : Orc} {dorc : FuncId → List V → H → Option H} {fns : T DFn} (hm : P.follows .mixedOrders = true) (horc : OrcOk P G orc) (hd : LateOk P G dorc) (hfns : FnsOk P G fns) (n : Nat) : OrcOk P G (turn (envOf P) fns orc dorc n).call :=
  (turn_ok (fun hc => draw_ok hm hc) horc hd hfns n).2

end
end Go.Dx
namespace Go.Dx
open Go Go.RowKit

def T.ofList : List (Nat × DFn) → T DFn
  | [] => .leaf
  | (f, d) :: r => (T.ofList r).set (pathOf f) (some d)

def CertAll (P : Program) (G : Nat) : List (Nat × DFn) → Prop
  | [] => True
  | (f, d) :: r => (∃ func, P.funcs[f]? = some func ∧ compFn P G func = some d) ∧ CertAll P G r

def allSmall : List (Nat × DFn) → Bool
  | [] => true
  | (f, _) :: r => Nat.blt f 65536 && allSmall r

theorem fnsOk_of {P : Program} {G : Nat} {fns : T DFn} {l : List (Nat × DFn)} (ht : T.ofList l = fns) (hs : allSmall l = true) (hl : CertAll P G l) : FnsOk P G fns := by
  subst ht
  intro f fn hf
  simp only [fnAt, chk_some] at hf
  obtain ⟨h1, h2⟩ := hf
  have h1 : f < 65536 := by simpa using h1
  induction l with
  | nil => simp [T.ofList, T.get_leaf] at h2
  | cons p r ih =>
    obtain ⟨g, d⟩ := p
    simp only [allSmall, Bool.and_eq_true] at hs
    obtain ⟨s1, s2⟩ := hs
    have s1 : g < 65536 := by simpa using s1
    obtain ⟨l1, l2⟩ := hl
    by_cases e : f = g
    · subst e
      simp only [T.ofList, T.get_set_self, Option.some.injEq] at h2
      subst h2
      exact l1
    · have : pathOf g ≠ pathOf f := fun h => e (pathOf_inj (Nat.lt_trans s1 (by decide)) (Nat.lt_trans h1 (by decide)) h).symm
      simp only [T.ofList, T.get_set_ne _ _ _ _ this] at h2
      exact ih s2 l2 h2

/-- What a call of a function with a body comes to. -/
theorem Good.calls {P : Program} {f : FuncId} {func : Func} {c : Code} {xs : List Value} {w : World} {R : Value → World → Prop} (hf : P.funcs[f]? = some func) (hb : func.body = some c) (hn : (func.name == "runtime.NumGoroutine") = false) (h : Good P f xs w R) :
    Calls P f ⟨xs⟩ w fun e w' => ∃ v, e = .returned v ∧ R v w' := by
  rcases h with ⟨x, w', h1, _⟩ | ⟨_, h⟩
  · exfalso
    have hn : ¬ func.name = "runtime.NumGoroutine" := fun e => by rw [e] at hn; simp at hn
    unfold callFunc at h1
    simp [hf, hn, hb] at h1
  · exact h

/-- The labels of the variables at the start: block g for the variable g. -/
def rho0 (w : World) (G : Nat) : Rho := fun l => if val l < G ∧ l = pathOf (val l) then some (Blk.mk (val l) 0 (match w.shape? (val l) with | some (_, n) => n | none => 0) .nilFunc) else none

theorem rho0_at (w : World) {G g : Nat} (hg : g < G) (hs : g < 2 ^ 64) : rho0 w G (pathOf g) = some (Blk.mk g 0 (match w.shape? g with | some (_, n) => n | none => 0) .nilFunc) := by
  unfold rho0
  rw [val_pathOf hs, if_pos ⟨hg, rfl⟩]

theorem rho0_rel (w : World) {G : Nat} (hG : G < 2 ^ 64) : GRel (rho0 w G) G := fun g hg => ⟨_, rho0_at w hg (by omega)⟩


/-- The labels at the start, with values that came in behind the variables: of each its size and itself. -/
def rho1 (w : World) (G : Nat) (vs : List (Nat × Value)) : Rho := fun l => if l = pathOf (val l) then (if val l < G then some (Blk.mk (val l) 0 (match w.shape? (val l) with | some (_, n) => n | none => 0) .nilFunc) else (vs[val l - G]?).map fun p => Blk.mk 0 0 p.1 p.2) else none

theorem rho1_var (w : World) {G g : Nat} (vs : List (Nat × Value)) (hg : g < G) (hs : g < 2 ^ 64) : rho1 w G vs (pathOf g) = some (Blk.mk g 0 (match w.shape? g with | some (_, n) => n | none => 0) .nilFunc) := by
  unfold rho1
  rw [val_pathOf hs, if_pos rfl, if_pos hg]

theorem rho1_sym (w : World) {G i n : Nat} {x : Value} {vs : List (Nat × Value)} (hi : vs[i]? = some (n, x)) (hs : G + i < 2 ^ 64) : rho1 w G vs (pathOf (G + i)) = some (Blk.mk 0 0 n x) := by
  unfold rho1
  rw [val_pathOf hs, if_pos rfl, if_neg (by omega), show G + i - G = i by omega, hi]; rfl

theorem rho1_rel (w : World) {G : Nat} (vs : List (Nat × Value)) (hG : G < 2 ^ 64) : GRel (rho1 w G vs) G := fun g hg => ⟨_, rho1_var w vs hg (by omega)⟩

theorem rho1_inv {w : World} {G : Nat} {vs : List (Nat × Value)} {l : Lb} {b : Blk} (h : rho1 w G vs l = some b) : (val l < G ∧ b.base = 0 ∧ b.val = .nilFunc) ∨ ∃ i n x, val l = G + i ∧ vs[i]? = some (n, x) ∧ b = Blk.mk 0 0 n x := by
  unfold rho1 at h
  split at h
  · split at h
    · rename_i hlt; cases h; exact .inl ⟨hlt, rfl, rfl⟩
    · rename_i hlt
      simp only [Option.map_eq_some_iff] at h
      obtain ⟨⟨n, x⟩, h1, rfl⟩ := h
      exact .inr ⟨_, n, x, by omega, h1, rfl⟩
  · cases h

/-- The relation at the start: where one object stands, 'error's handle. -/
theorem rel0 {w : World} {G : Nat} {vs : List (Nat × Value)} {e : TypeId} {rt err g : Nat} {c : Array Value} {fr : Nat × Nat} {nx : Lb} (hG : G < 2 ^ 64) (h0G : 0 < G) (hgG : g < G) (hc : w.heap[0]? = some (.cells c e fr)) (hcell : c[0]? = some (.iface rt (.agg #[.pointer (some ⟨g, err, none⟩)])))
    (hnx : val nx = G + vs.length) (hvs : ∀ p ∈ vs, ValOk w.heap.size w (Blk.mk 0 0 p.1 p.2)) :
    HRel w.heap.size w (rho1 w G vs) { t := T.set .leaf (pathOf 0) (some (.cells [.iface rt (.agg [.ptr (pathOf g) err])] e 0 .no)), next := nx } w := by
  have hsh : w.shape? 0 = some (e, c.size) := by unfold World.shape?; rw [hc]
  have hg : w.cell? ⟨0, 0, none⟩ = some (.iface rt (.agg #[.pointer (some ⟨g, err, none⟩)])) := by unfold World.cell?; simp only [hc]; exact hcell
  have h0lt : 0 < c.size := (Array.getElem?_eq_some_iff.1 hcell).1
  have hget : ∀ l o, (T.set .leaf (pathOf 0) (some (Obj.cells [.iface rt (.agg [.ptr (pathOf g) err])] e 0 .no))).get l = some o → l = pathOf 0 ∧ o = .cells [.iface rt (.agg [.ptr (pathOf g) err])] e 0 .no := fun l o hl => by
    by_cases hp : pathOf 0 = l
    · subst hp; rw [T.get_set_self] at hl; exact ⟨rfl, (Option.some.inj hl).symm⟩
    · rw [T.get_set_ne _ _ _ _ hp, T.get_leaf] at hl; cases hl
  refine ⟨fun l b o hl ho => ?_, fun l b hl => ?_, fun l b hl => ?_, fun l m b d hl hm il im _ => ?_, fun l b o hl ho hw => ?_, Nat.le_refl _, Below.refl _ _⟩
  · obtain ⟨rfl, rfl⟩ := hget l o ho
    have hb := rho1_var w (G := G) (g := 0) vs h0G (by decide)
    rw [hsh] at hb
    rw [hb] at hl; cases hl
    have h77 := rho1_var w (G := G) (g := g) vs hgG (by omega)
    refine ⟨hsh, h0lt, fun i v hv => ?_, (fun h => by cases h), (fun h => by cases h)⟩
    cases i with
    | succ i => simp at hv
    | zero =>
      simp only [List.getElem?_cons_zero, Option.some.injEq] at hv
      subst hv
      refine ⟨_, hg, .iface rt (.agg (.cons ?_ .nil))⟩
      have := RV.ptr (ρ := rho1 w G vs) (l := pathOf g) err h77
      simpa using this
  · show val l < val nx
    rw [hnx]
    rcases rho1_inv hl with ⟨h1, _⟩ | ⟨i, n, x, h1, h2, _⟩
    · omega
    · have := (List.getElem?_eq_some_iff.1 h2).1
      omega
  · rcases rho1_inv hl with ⟨_, h1, h2⟩ | ⟨i, n, x, h1, h2, rfl⟩
    · exact ⟨h1, .nil h2⟩
    · exact ⟨rfl, hvs _ (List.mem_of_getElem? h2)⟩
  · obtain ⟨o1, h1⟩ := Option.isSome_iff_exists.1 il
    obtain ⟨o2, h2⟩ := Option.isSome_iff_exists.1 im
    rw [(hget l o1 h1).1, (hget m o2 h2).1]
  · obtain ⟨rfl, rfl⟩ := hget l o ho
    cases hw

/-- A number or a text. -/
def numOrText : Value → Bool
  | .int _ _ => true
  | .string _ => true
  | _ => false

theorem numOrText_sym {x : Value} (h : numOrText x = true) : symOk x = true := by
  cases x <;> first | rfl | simp [numOrText] at h

theorem ValOk.plain {B : Nat} {w0 : World} {x : Value} (_h : numOrText x = true) : ValOk B w0 (Blk.mk 0 0 1 x) :=
  ⟨(fun h3 => by simp at h3), (fun _ h3 => by simp at h3), (fun _ h3 => by simp at h3), (fun _ h3 => by simp at h3)⟩

theorem ValOk.cell {B : Nat} {w0 : World} {x : Value} : ValOk B w0 (Blk.mk 0 0 1 x) :=
  ⟨(fun h3 => by simp at h3), (fun _ h3 => by simp at h3), (fun _ h3 => by simp at h3), (fun _ h3 => by simp at h3)⟩

/-- The relation at the start, where no object is known. -/
theorem rel1 {w : World} {G : Nat} {vs : List (Nat × Value)} {nx : Lb} (hnx : val nx = G + vs.length) (hvs : ∀ p ∈ vs, ValOk w.heap.size w (Blk.mk 0 0 p.1 p.2)) :
    HRel w.heap.size w (rho1 w G vs) { t := .leaf, next := nx } w := by
  have hget : ∀ l o, ({ t := .leaf, next := nx } : H).get l = some o → False := fun l o hl => by
    have hl : (T.leaf : T Obj).get l = some o := hl
    rw [T.get_leaf] at hl; cases hl
  refine ⟨fun l b o hl ho => (hget l o ho).elim, fun l b hl => ?_, fun l b hl => ?_, fun l m b d hl hm il im _ => ?_, fun l b o hl ho hw => (hget l o ho).elim, Nat.le_refl _, Below.refl _ _⟩
  · show val l < val nx
    rw [hnx]
    rcases rho1_inv hl with ⟨h1, _⟩ | ⟨i, n, x, h1, h2, _⟩
    · omega
    · have := (List.getElem?_eq_some_iff.1 h2).1
      omega
  · rcases rho1_inv hl with ⟨_, h1, h2⟩ | ⟨i, n, x, h1, h2, rfl⟩
    · exact ⟨h1, .nil h2⟩
    · exact ⟨rfl, hvs _ (List.mem_of_getElem? h2)⟩
  · obtain ⟨o1, h1⟩ := Option.isSome_iff_exists.1 il
    exact (hget l o1 h1).elim

end Go.Dx
