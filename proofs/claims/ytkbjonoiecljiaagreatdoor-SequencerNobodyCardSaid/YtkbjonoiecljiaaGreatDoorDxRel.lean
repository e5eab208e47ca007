/-
  The deterministic machine over labels against the model: which values and heaps stand for which.
-/
import Derived.Test.YtkbjonoiecljiaaGreatDoorDxComp
import Derived.Deep.MidRow
import Derived.Below
namespace Go.Dx
open Go Go.RowKit

/-! ### places -/

def val : Lb → Nat
  | [] => 0
  | true :: r => 1 + 2 * val r
  | false :: r => 2 * val r

theorem val_inc : ∀ l, val (inc l) = val l + 1
  | [] => rfl
  | false :: r => by simp [inc, val]; omega
  | true :: r => by simp [inc, val, val_inc r]; omega

theorem val_pathGo : ∀ (f n : Nat), n < 2 ^ f → val (pathGo f n) = n
  | 0, n, h => by simp at h; subst h; rfl
  | f + 1, n, h => by
    unfold pathGo
    by_cases h0 : n = 0
    · subst h0; rfl
    · have hb : (n == 0) = false := by simpa using h0
      have ih := val_pathGo f (n / 2) (by rw [Nat.pow_succ] at h; omega)
      rw [hb]
      rcases Nat.mod_two_eq_zero_or_one n with h2 | h2
      · simp [h2, val, ih]; omega
      · simp [h2, val, ih]; omega

theorem val_pathOf {n : Nat} (h : n < 2 ^ 64) : val (pathOf n) = n := val_pathGo 64 n h

theorem pathOf_inj {m n : Nat} (hm : m < 2 ^ 64) (hn : n < 2 ^ 64) (h : pathOf m = pathOf n) : m = n := by
  rw [← val_pathOf hm, h, val_pathOf hn]

theorem lbEq_iff : ∀ {a b : Lb}, lbEq a b = true → a = b
  | [], [], _ => rfl
  | true :: a, true :: b, h => by rw [lbEq_iff (a := a) (b := b) (by simpa [lbEq] using h)]
  | false :: a, false :: b, h => by rw [lbEq_iff (a := a) (b := b) (by simpa [lbEq] using h)]
  | [], _ :: _, h => by simp [lbEq] at h
  | _ :: _, [], h => by cases ‹Bool› <;> simp [lbEq] at h
  | true :: _, false :: _, h => by simp [lbEq] at h
  | false :: _, true :: _, h => by simp [lbEq] at h

theorem T.get_leaf {α : Type} (p : Lb) : (T.leaf : T α).get p = none := by cases p <;> rfl

theorem T.get_set_self {α : Type} : ∀ (p : Lb) (t : T α) (x : Option α), (t.set p x).get p = x
  | [], .leaf, x => rfl
  | [], .node l v r, x => rfl
  | true :: p, .leaf, x => T.get_set_self p .leaf x
  | false :: p, .leaf, x => T.get_set_self p .leaf x
  | true :: p, .node l v r, x => T.get_set_self p r x
  | false :: p, .node l v r, x => T.get_set_self p l x

theorem T.get_set_ne {α : Type} : ∀ (p q : Lb) (t : T α) (x : Option α), p ≠ q → (t.set p x).get q = t.get q
  | [], [], _, _, h => absurd rfl h
  | [], true :: q, .leaf, x, _ => by simp [T.set, T.get, T.get_leaf]
  | [], false :: q, .leaf, x, _ => by simp [T.set, T.get, T.get_leaf]
  | [], true :: q, .node l v r, x, _ => rfl
  | [], false :: q, .node l v r, x, _ => rfl
  | true :: p, [], .leaf, x, _ => rfl
  | false :: p, [], .leaf, x, _ => rfl
  | true :: p, [], .node l v r, x, _ => rfl
  | false :: p, [], .node l v r, x, _ => rfl
  | true :: p, true :: q, .leaf, x, h => by
    show (T.set .leaf p x).get q = _
    rw [T.get_set_ne p q .leaf x (fun e => h (by rw [e])), T.get_leaf]; rfl
  | false :: p, false :: q, .leaf, x, h => by
    show (T.set .leaf p x).get q = _
    rw [T.get_set_ne p q .leaf x (fun e => h (by rw [e])), T.get_leaf]; rfl
  | true :: p, false :: q, .leaf, x, _ => by simp [T.set, T.get, T.get_leaf]
  | false :: p, true :: q, .leaf, x, _ => by simp [T.set, T.get, T.get_leaf]
  | true :: p, true :: q, .node l v r, x, h => T.get_set_ne p q r x (fun e => h (by rw [e]))
  | false :: p, false :: q, .node l v r, x, h => T.get_set_ne p q l x (fun e => h (by rw [e]))
  | true :: p, false :: q, .node l v r, x, _ => rfl
  | false :: p, true :: q, .node l v r, x, _ => rfl

theorem T.set_set {α : Type} : ∀ (p : Lb) (t : T α) (x y : Option α), (t.set p x).set p y = t.set p y
  | [], .leaf, x, y => rfl
  | [], .node l v r, x, y => rfl
  | true :: p, .leaf, x, y => by show T.node _ _ _ = T.node _ _ _; rw [T.set_set p .leaf x y]
  | false :: p, .leaf, x, y => by show T.node _ _ _ = T.node _ _ _; rw [T.set_set p .leaf x y]
  | true :: p, .node l v r, x, y => by show T.node _ _ _ = T.node _ _ _; rw [T.set_set p r x y]
  | false :: p, .node l v r, x, y => by show T.node _ _ _ = T.node _ _ _; rw [T.set_set p l x y]

/-! ### ob, chk -/

theorem ob_some {α β : Type} {x : Option α} {f : α → Option β} {r : β} : ob x f = some r ↔ ∃ v, x = some v ∧ f v = some r := by
  cases x <;> simp [ob]

theorem chk_some {β : Type} {b : Bool} {k : Option β} {r : β} : chk b k = some r ↔ b = true ∧ k = some r := by
  cases b <;> simp [chk]

/-! ### values -/

/-- Where a label's cells lie: a block, the first one's place, and how many cells the block has. -/
structure Blk where
  block : Nat
  base : Nat
  total : Nat
  /-- a label that stands for a value: the value -/
  val : Value

abbrev Rho := Lb → Option Blk

def Ext' (ρ ρ' : Rho) : Prop := ∀ l b, ρ l = some b → ρ' l = some b

theorem Ext'.refl (ρ : Rho) : Ext' ρ ρ := fun _ _ h => h
theorem Ext'.trans {ρ ρ' ρ'' : Rho} (h : Ext' ρ ρ') (k : Ext' ρ' ρ'') : Ext' ρ ρ'' := fun l b e => k l b (h l b e)

def natsOf (t : ByteArray) : List Nat := t.data.toList.map (·.toNat)

/-- What a value may be that came in: one cell, and no bool. -/
def symOk : Value → Bool
  | .bool _ => false
  | .nilFunc => false
  | v => v.oneCell'

theorem symOk_one {x : Value} (h : symOk x = true) : x.oneCell' = true := by
  cases x <;> first | rfl | simp [symOk, Value.oneCell'] at h

mutual
inductive RV (ρ : Rho) : V → Value → Prop
  | bool (b : Bool) : RV ρ (.bool b) (.bool b)
  | int (k : IntKind) (n : Int) : RV ρ (.int k n) (.int k n)
  | str (t : ByteArray) : RV ρ (.str (natsOf t)) (.string t)
  | nilPtr : RV ρ .nilPtr (.pointer none)
  | ptr {l : Lb} {b : Blk} (off : Nat) (h : ρ l = some b) : RV ρ (.ptr l off) (.pointer (some ⟨b.block, b.base + off, none⟩))
  | nilSlice (c : Nat) : RV ρ (.nilSlice c) (.slice none 0 c)
  | slice {l : Lb} {b : Blk} (off len c : Nat) (h : ρ l = some b) : RV ρ (.slice l off len (.exact c)) (.slice (some ⟨b.block, b.base + off, none⟩) len c)
  | sliceEnd {l : Lb} {b : Blk} (off len size c : Nat) (h : ρ l = some b) (hl : len ≤ c) (hc : b.base + off + c * size = b.total) :
      RV ρ (.slice l off len (.toEnd size)) (.slice (some ⟨b.block, b.base + off, none⟩) len c)
  | nilMap : RV ρ .nilMap (.map none)
  | map {l : Lb} {b : Blk} (h : ρ l = some b) : RV ρ (.map l) (.map (some b.block))
  | func (f : FuncId) {a b : List V} {a' b' : List Value} (ha : RVs ρ a a') (hb : RVs ρ b b') : RV ρ (.func f a b) (.func (.func f) ⟨a'⟩ ⟨b'⟩)
  | nilFunc : RV ρ .nilFunc .nilFunc
  | iface (t : TypeId) {v : V} {x : Value} (h : RV ρ v x) : RV ρ (.iface t v) (.iface t x)
  | nilIface : RV ρ .nilIface .nilIface
  | agg {cs : List V} {xs : List Value} (h : RVs ρ cs xs) : RV ρ (.agg cs) (.agg ⟨xs⟩)
  | tuple {cs : List V} {xs : List Value} (h : RVs ρ cs xs) : RV ρ (.tuple cs) (.tuple ⟨xs⟩)
  | sym {l : Lb} {b : Blk} {n : Nat} (h : ρ l = some b) (ht : b.total = n) (hv : symOk b.val = true) : RV ρ (.sym l n) b.val
  | any {x : Value} (h : symOk x = true) : RV ρ .any x
inductive RVs (ρ : Rho) : List V → List Value → Prop
  | nil : RVs ρ [] []
  | cons {v : V} {x : Value} {vs : List V} {xs : List Value} (h : RV ρ v x) (hs : RVs ρ vs xs) : RVs ρ (v :: vs) (x :: xs)
end

mutual
theorem RV.mono {ρ ρ' : Rho} (e : Ext' ρ ρ') : ∀ {v : V} {x : Value}, RV ρ v x → RV ρ' v x
  | _, _, .bool b => .bool b
  | _, _, .int k n => .int k n
  | _, _, .str t => .str t
  | _, _, .nilPtr => .nilPtr
  | _, _, .ptr off h => .ptr off (e _ _ h)
  | _, _, .nilSlice c => .nilSlice c
  | _, _, .slice off len c h => .slice off len c (e _ _ h)
  | _, _, .sliceEnd off len size c h hl hc => .sliceEnd off len size c (e _ _ h) hl hc
  | _, _, .nilMap => .nilMap
  | _, _, .map h => .map (e _ _ h)
  | _, _, .func f ha hb => .func f (RVs.mono e ha) (RVs.mono e hb)
  | _, _, .nilFunc => .nilFunc
  | _, _, .iface t h => .iface t (RV.mono e h)
  | _, _, .nilIface => .nilIface
  | _, _, .agg h => .agg (RVs.mono e h)
  | _, _, .tuple h => .tuple (RVs.mono e h)
  | _, _, .sym h ht hv => .sym (e _ _ h) ht hv
  | _, _, .any h => .any h
theorem RVs.mono {ρ ρ' : Rho} (e : Ext' ρ ρ') : ∀ {v : List V} {x : List Value}, RVs ρ v x → RVs ρ' v x
  | _, _, .nil => .nil
  | _, _, .cons h hs => .cons (RV.mono e h) (RVs.mono e hs)
end

/-- No value that came in. -/
def plainV : V → Bool
  | .sym .. => false
  | .any => false
  | _ => true

theorem rv_int {ρ : Rho} {v : V} {k : IntKind} {a : Int} (h : RV ρ v (.int k a)) (hp : plainV v = true) : v = .int k a := by
  generalize he : Value.int k a = x at h
  cases h <;> first | (cases he; rfl) | (cases he; done) | simp [plainV] at hp
theorem rv_string {ρ : Rho} {v : V} {s : ByteArray} (h : RV ρ v (.string s)) (hp : plainV v = true) : v = .str (natsOf s) := by
  generalize he : Value.string s = x at h
  cases h <;> first | (cases he; rfl) | (cases he; done) | simp [plainV] at hp
theorem rv_float {ρ : Rho} {v : V} {k : FloatKind} {a : Nat} (h : RV ρ v (.float k a)) (hp : plainV v = true) : False := by
  generalize he : Value.float k a = x at h
  cases h <;> first | (cases he; done) | simp [plainV] at hp

theorem rv_complex {ρ : Rho} {v : V} {k : FloatKind} {a b : Nat} (h : RV ρ v (.complex k a b)) (hp : plainV v = true) : False := by
  generalize he : Value.complex k a b = x at h
  cases h <;> first | (cases he; done) | simp [plainV] at hp

section lists
variable {ρ : Rho}

theorem RVs.length {vs : List V} {xs : List Value} (h : RVs ρ vs xs) : vs.length = xs.length := by
  induction vs generalizing xs with
  | nil => cases h; rfl
  | cons v vs ih => cases h with | cons h hs => simp [ih hs]

theorem RVs.get {vs : List V} {xs : List Value} (h : RVs ρ vs xs) : ∀ {i : Nat} {v : V}, vs[i]? = some v → ∃ x, xs[i]? = some x ∧ RV ρ v x := by
  induction vs generalizing xs with
  | nil => intro i v hv; simp at hv
  | cons v vs ih =>
    cases h with
    | cons h hs =>
      intro i w hw
      cases i with
      | zero => simp at hw; subst hw; exact ⟨_, by simp, h⟩
      | succ i => simp at hw; simpa using ih hs hw

theorem RVs.append {a b : List V} {x y : List Value} (h : RVs ρ a x) (k : RVs ρ b y) : RVs ρ (a ++ b) (x ++ y) := by
  induction a generalizing x with
  | nil => cases h; exact k
  | cons v vs ih => cases h with | cons h hs => exact .cons h (ih hs)

theorem RVs.dropN {vs : List V} {xs : List Value} (h : RVs ρ vs xs) : ∀ n, RVs ρ (dropN n vs) (xs.drop n) := by
  intro n
  induction n generalizing vs xs with
  | zero => simpa [Dx.dropN] using h
  | succ n ih => cases h with
    | nil => simpa [Dx.dropN] using RVs.nil
    | cons h hs => simpa [Dx.dropN] using ih hs

theorem RVs.takeN {vs : List V} {xs : List Value} (h : RVs ρ vs xs) : ∀ {n : Nat} {r : List V}, takeN n vs = some r → RVs ρ r (xs.take n) ∧ n ≤ xs.length := by
  intro n
  induction n generalizing vs xs with
  | zero => intro r hr; simp [Dx.takeN] at hr; subst hr; exact ⟨by simpa using RVs.nil, Nat.zero_le _⟩
  | succ n ih => cases h with
    | nil => intro r hr; simp [Dx.takeN] at hr
    | cons h hs =>
      intro r hr
      simp only [Dx.takeN, ob_some] at hr
      obtain ⟨q, hq, hr⟩ := hr
      cases hr
      obtain ⟨h1, h2⟩ := ih hs hq
      exact ⟨by simpa using RVs.cons h h1, by simpa using h2⟩

theorem RVs.rowFrom {vs : List V} {xs : List Value} (h : RVs ρ vs xs) {i n : Nat} {r : List V} (hr : rowFrom vs i n = some r) :
    RVs ρ r ((xs.drop i).take n) ∧ n ≤ xs.length - i := by
  obtain ⟨h1, h2⟩ := (h.dropN i).takeN hr
  exact ⟨h1, by simpa using h2⟩
end lists

theorem dropN_length : ∀ (n : Nat) (vs : List V), (dropN n vs).length = vs.length - n
  | 0, vs => by simp [dropN]
  | n + 1, [] => by simp [dropN]
  | n + 1, v :: vs => by simp [dropN, dropN_length n vs]

theorem takeN_length : ∀ {n : Nat} {vs r : List V}, takeN n vs = some r → r.length = n
  | 0, vs, r, h => by simp [takeN] at h; subst h; rfl
  | n + 1, [], r, h => by simp [takeN] at h
  | n + 1, v :: vs, r, h => by
    simp only [takeN, ob_some] at h
    obtain ⟨q, hq, h⟩ := h
    cases h
    simp [takeN_length hq]

theorem dropN_get : ∀ (n i : Nat) (vs : List V), (dropN n vs)[i]? = vs[n + i]?
  | 0, i, vs => by simp [dropN]
  | n + 1, i, [] => by simp [dropN]
  | n + 1, i, v :: vs => by
    simp only [dropN, dropN_get n i vs]
    rw [show n + 1 + i = (n + i) + 1 from by omega]; simp

theorem takeN_all : ∀ vs : List V, takeN vs.length vs = some vs
  | [] => rfl
  | v :: vs => by simp only [List.length_cons, takeN, takeN_all vs, ob]

theorem takeN_get : ∀ {n : Nat} {vs r : List V}, takeN n vs = some r → ∀ i, i < n → r[i]? = vs[i]?
  | 0, vs, r, h, i, hi => by omega
  | n + 1, [], r, h, i, hi => by simp [takeN] at h
  | n + 1, v :: vs, r, h, i, hi => by
    simp only [takeN, ob_some] at h
    obtain ⟨q, hq, h⟩ := h
    cases h
    cases i with
    | zero => rfl
    | succ i => simpa using takeN_get hq i (by omega)

theorem takeN_le : ∀ {n : Nat} {vs r : List V}, takeN n vs = some r → n ≤ vs.length
  | 0, vs, r, h => Nat.zero_le _
  | n + 1, [], r, h => by simp [takeN] at h
  | n + 1, v :: vs, r, h => by
    simp only [takeN, ob_some] at h
    obtain ⟨q, hq, h⟩ := h
    simpa using takeN_le hq

theorem rowFrom_get {vs r : List V} {i n : Nat} (h : rowFrom vs i n = some r) : r.length = n ∧ (i + n ≤ vs.length ∨ n = 0) ∧ ∀ j, j < n → r[j]? = vs[i + j]? := by
  refine ⟨takeN_length h, ?_, fun j hj => by rw [takeN_get h j hj, dropN_get]⟩
  have := takeN_le h
  rw [dropN_length] at this
  omega

theorem putFrom_length : ∀ {vs cs r : List V} {i : Nat}, putFrom vs i cs = some r → r.length = vs.length
  | vs, [], r, 0, h => by simp [putFrom] at h; subst h; rfl
  | [], c :: cs, r, 0, h => by simp [putFrom] at h
  | v :: vs, c :: cs, r, 0, h => by
    simp only [putFrom, ob_some] at h
    obtain ⟨q, hq, h⟩ := h
    cases h
    simp [putFrom_length hq]
  | [], cs, r, i + 1, h => by simp [putFrom] at h
  | v :: vs, cs, r, i + 1, h => by
    simp only [putFrom, ob_some] at h
    obtain ⟨q, hq, h⟩ := h
    cases h
    simp [putFrom_length hq]

theorem putFrom_le : ∀ {vs cs r : List V} {i : Nat}, putFrom vs i cs = some r → i + cs.length ≤ vs.length
  | vs, [], r, 0, h => by simp
  | [], c :: cs, r, 0, h => by simp [putFrom] at h
  | v :: vs, c :: cs, r, 0, h => by
    simp only [putFrom, ob_some] at h
    obtain ⟨q, hq, h⟩ := h
    have := putFrom_le hq
    simp at this ⊢
    omega
  | [], cs, r, i + 1, h => by simp [putFrom] at h
  | v :: vs, cs, r, i + 1, h => by
    simp only [putFrom, ob_some] at h
    obtain ⟨q, hq, h⟩ := h
    have := putFrom_le hq
    simp at this ⊢
    omega

theorem putFrom_get : ∀ {vs cs r : List V} {i : Nat}, putFrom vs i cs = some r → ∀ j, r[j]? = if i ≤ j ∧ j < i + cs.length then cs[j - i]? else vs[j]?
  | vs, [], r, 0, h, j => by simp [putFrom] at h; subst h; simp
  | [], c :: cs, r, 0, h, j => by simp [putFrom] at h
  | v :: vs, c :: cs, r, 0, h, j => by
    simp only [putFrom, ob_some] at h
    obtain ⟨q, hq, h⟩ := h
    cases h
    cases j with
    | zero => simp
    | succ j => simpa using putFrom_get hq j
  | [], cs, r, i + 1, h, j => by simp [putFrom] at h
  | v :: vs, cs, r, i + 1, h, j => by
    simp only [putFrom, ob_some] at h
    obtain ⟨q, hq, h⟩ := h
    cases h
    cases j with
    | zero => simp
    | succ j =>
      have := putFrom_get hq j
      simp only [List.getElem?_cons_succ, this]
      have e : (i + 1 ≤ j + 1 ∧ j + 1 < i + 1 + cs.length) ↔ (i ≤ j ∧ j < i + cs.length) := by omega
      simp only [e, Nat.add_sub_add_right]

end Go.Dx
