/-
  The deterministic machine over labels against the model: which values and heaps stand for which.
  The deterministic machine over labels against the model: heaps.
  The deterministic machine over labels against the model: cells that are stored, rows that are made, maps that are written.
  The deterministic machine over labels against the model: operations that hang on their operands alone.
  The deterministic machine over labels against the model: what each of its pure operations comes to.
  The deterministic machine over labels against the model: comparisons.
-/
import Derived.Test.YtkaoagmdhlpfoaaGreatDoorXA
import Derived.Deep.MidRow
import Derived.Below
import Derived.Laws.Entries
import Derived.Lib.Strings
import Derived.Lib.SmallJoins
namespace Go.Dx
open Go Go.RowKit

/-! ### places -/

def val : Lb → Nat
  | [] => 0
  | true :: r => 1 + 2 * val r
  | false :: r => 2 * val r

theorem val_inc : ∀ l, val (inc l) = val l + 1
  | [] => rfl
  | false :: r => by simp [inc, val]; omega
  | true :: r => by simp [inc, val, val_inc r]; omega

theorem val_pathGo : ∀ (f n : Nat), n < 2 ^ f → val (pathGo f n) = n
  | 0, n, h => by simp at h; subst h; rfl
  | f + 1, n, h => by
    unfold pathGo
    by_cases h0 : n = 0
    · subst h0; rfl
    · have hb : (n == 0) = false := by simpa using h0
      have ih := val_pathGo f (n / 2) (by rw [Nat.pow_succ] at h; omega)
      rw [hb]
      rcases Nat.mod_two_eq_zero_or_one n with h2 | h2
      · simp [h2, val, ih]; omega
      · simp [h2, val, ih]; omega

theorem val_pathOf {n : Nat} (h : n < 2 ^ 64) : val (pathOf n) = n := val_pathGo 64 n h

theorem pathOf_inj {m n : Nat} (hm : m < 2 ^ 64) (hn : n < 2 ^ 64) (h : pathOf m = pathOf n) : m = n := by
  rw [← val_pathOf hm, h, val_pathOf hn]

theorem lbEq_iff : ∀ {a b : Lb}, lbEq a b = true → a = b
  | [], [], _ => rfl
  | true :: a, true :: b, h => by rw [lbEq_iff (a := a) (b := b) (by simpa [lbEq] using h)]
  | false :: a, false :: b, h => by rw [lbEq_iff (a := a) (b := b) (by simpa [lbEq] using h)]
  | [], _ :: _, h => by simp [lbEq] at h
  | _ :: _, [], h => by cases ‹Bool› <;> simp [lbEq] at h
  | true :: _, false :: _, h => by simp [lbEq] at h
  | false :: _, true :: _, h => by simp [lbEq] at h

theorem T.get_leaf {α : Type} (p : Lb) : (T.leaf : T α).get p = none := by cases p <;> rfl

theorem T.get_set_self {α : Type} : ∀ (p : Lb) (t : T α) (x : Option α), (t.set p x).get p = x
  | [], .leaf, _x => rfl
  | [], .node _l _v _r, _x => rfl
  | true :: p, .leaf, x => T.get_set_self p .leaf x
  | false :: p, .leaf, x => T.get_set_self p .leaf x
  | true :: p, .node _l _v r, x => T.get_set_self p r x
  | false :: p, .node l _v _r, x => T.get_set_self p l x

theorem T.get_set_ne {α : Type} : ∀ (p q : Lb) (t : T α) (x : Option α), p ≠ q → (t.set p x).get q = t.get q
  | [], [], _, _, h => absurd rfl h
  | [], true :: q, .leaf, x, _ => by simp [T.set, T.get]
  | [], false :: q, .leaf, x, _ => by simp [T.set, T.get]
  | [], true :: q, .node l v r, x, _ => rfl
  | [], false :: q, .node l v r, x, _ => rfl
  | true :: p, [], .leaf, x, _ => rfl
  | false :: p, [], .leaf, x, _ => rfl
  | true :: p, [], .node l v r, x, _ => rfl
  | false :: p, [], .node l v r, x, _ => rfl
  | true :: p, true :: q, .leaf, x, h => by
    show (T.set .leaf p x).get q = _
    rw [T.get_set_ne p q .leaf x (fun e => h (by rw [e])), T.get_leaf]; rfl
  | false :: p, false :: q, .leaf, x, h => by
    show (T.set .leaf p x).get q = _
    rw [T.get_set_ne p q .leaf x (fun e => h (by rw [e])), T.get_leaf]; rfl
  | true :: p, false :: q, .leaf, x, _ => by simp [T.set, T.get]
  | false :: p, true :: q, .leaf, x, _ => by simp [T.set, T.get]
  | true :: p, true :: q, .node l v r, x, h => T.get_set_ne p q r x (fun e => h (by rw [e]))
  | false :: p, false :: q, .node l v r, x, h => T.get_set_ne p q l x (fun e => h (by rw [e]))
  | true :: p, false :: q, .node l v r, x, _ => rfl
  | false :: p, true :: q, .node l v r, x, _ => rfl

theorem T.set_set {α : Type} : ∀ (p : Lb) (t : T α) (x y : Option α), (t.set p x).set p y = t.set p y
  | [], .leaf, x, y => rfl
  | [], .node l v r, x, y => rfl
  | true :: p, .leaf, x, y => by show T.node _ _ _ = T.node _ _ _; rw [T.set_set p .leaf x y]
  | false :: p, .leaf, x, y => by show T.node _ _ _ = T.node _ _ _; rw [T.set_set p .leaf x y]
  | true :: p, .node l v r, x, y => by show T.node _ _ _ = T.node _ _ _; rw [T.set_set p r x y]
  | false :: p, .node l v r, x, y => by show T.node _ _ _ = T.node _ _ _; rw [T.set_set p l x y]

/-! ### ob, chk -/

theorem ob_some {α β : Type} {x : Option α} {f : α → Option β} {r : β} : ob x f = some r ↔ ∃ v, x = some v ∧ f v = some r := by
  cases x <;> simp [ob]

theorem chk_some {β : Type} {b : Bool} {k : Option β} {r : β} : chk b k = some r ↔ b = true ∧ k = some r := by
  cases b <;> simp [chk]

/-! ### values -/

/-- Where a label's cells lie: a block, the first one's place, and how many cells the block has. -/
structure Blk where
  block : Nat
  base : Nat
  total : Nat
  /-- a label that stands for a value: the value -/
  val : Value

abbrev Rho := Lb → Option Blk

def Ext' (ρ ρ' : Rho) : Prop := ∀ l b, ρ l = some b → ρ' l = some b

theorem Ext'.refl (ρ : Rho) : Ext' ρ ρ := fun _ _ h => h
theorem Ext'.trans {ρ ρ' ρ'' : Rho} (h : Ext' ρ ρ') (k : Ext' ρ' ρ'') : Ext' ρ ρ'' := fun l b e => k l b (h l b e)

def natsOf (t : ByteArray) : List Nat := t.data.toList.map (·.toNat)

/-- What a value may be that came in: one cell, and no bool. -/
def symOk : Value → Bool
  | .bool _ => false
  | .nilFunc => false
  | v => v.oneCell'

theorem symOk_one {x : Value} (h : symOk x = true) : x.oneCell' = true := by
  cases x <;> first | rfl | simp [symOk, Value.oneCell'] at h

mutual
inductive RV (ρ : Rho) : V → Value → Prop
  | bool (b : Bool) : RV ρ (.bool b) (.bool b)
  | int (k : IntKind) (n : Int) : RV ρ (.int k n) (.int k n)
  | str (t : ByteArray) : RV ρ (.str (natsOf t)) (.string t)
  | nilPtr : RV ρ .nilPtr (.pointer none)
  | ptr {l : Lb} {b : Blk} (off : Nat) (h : ρ l = some b) : RV ρ (.ptr l off) (.pointer (some ⟨b.block, b.base + off, none⟩))
  | nilSlice (c : Nat) : RV ρ (.nilSlice c) (.slice none 0 c)
  | slice {l : Lb} {b : Blk} (off len c : Nat) (h : ρ l = some b) : RV ρ (.slice l off len (.exact c)) (.slice (some ⟨b.block, b.base + off, none⟩) len c)
  | sliceEnd {l : Lb} {b : Blk} (off len size c : Nat) (h : ρ l = some b) (hl : len ≤ c) (hc : b.base + off + c * size = b.total) :
      RV ρ (.slice l off len (.toEnd size)) (.slice (some ⟨b.block, b.base + off, none⟩) len c)
  | nilMap : RV ρ .nilMap (.map none)
  | map {l : Lb} {b : Blk} (h : ρ l = some b) : RV ρ (.map l) (.map (some b.block))
  | func (f : FuncId) {a b : List V} {a' b' : List Value} (ha : RVs ρ a a') (hb : RVs ρ b b') : RV ρ (.func f a b) (.func (.func f) ⟨a'⟩ ⟨b'⟩)
  | nilFunc : RV ρ .nilFunc .nilFunc
  | iface (t : TypeId) {v : V} {x : Value} (h : RV ρ v x) : RV ρ (.iface t v) (.iface t x)
  | nilIface : RV ρ .nilIface .nilIface
  | agg {cs : List V} {xs : List Value} (h : RVs ρ cs xs) : RV ρ (.agg cs) (.agg ⟨xs⟩)
  | tuple {cs : List V} {xs : List Value} (h : RVs ρ cs xs) : RV ρ (.tuple cs) (.tuple ⟨xs⟩)
  | sym {l : Lb} {b : Blk} {n : Nat} (h : ρ l = some b) (ht : b.total = n) (hv : symOk b.val = true) : RV ρ (.sym l n) b.val
  | any {x : Value} (h : symOk x = true) : RV ρ .any x
  | empty (a : Addr) (c : Nat) : RV ρ .empty (.slice (some a) 0 c)
  | rng {lo hi m : Int} (h1 : lo ≤ m) (h2 : m ≤ hi) : RV ρ (.rng lo hi) (.int .i64 m)
inductive RVs (ρ : Rho) : List V → List Value → Prop
  | nil : RVs ρ [] []
  | cons {v : V} {x : Value} {vs : List V} {xs : List Value} (h : RV ρ v x) (hs : RVs ρ vs xs) : RVs ρ (v :: vs) (x :: xs)
end

mutual
theorem RV.mono {ρ ρ' : Rho} (e : Ext' ρ ρ') : ∀ {v : V} {x : Value}, RV ρ v x → RV ρ' v x
  | _, _, .bool b => .bool b
  | _, _, .int k n => .int k n
  | _, _, .str t => .str t
  | _, _, .nilPtr => .nilPtr
  | _, _, .ptr off h => .ptr off (e _ _ h)
  | _, _, .nilSlice c => .nilSlice c
  | _, _, .slice off len c h => .slice off len c (e _ _ h)
  | _, _, .sliceEnd off len size c h hl hc => .sliceEnd off len size c (e _ _ h) hl hc
  | _, _, .nilMap => .nilMap
  | _, _, .map h => .map (e _ _ h)
  | _, _, .func f ha hb => .func f (RVs.mono e ha) (RVs.mono e hb)
  | _, _, .nilFunc => .nilFunc
  | _, _, .iface t h => .iface t (RV.mono e h)
  | _, _, .nilIface => .nilIface
  | _, _, .agg h => .agg (RVs.mono e h)
  | _, _, .tuple h => .tuple (RVs.mono e h)
  | _, _, .sym h ht hv => .sym (e _ _ h) ht hv
  | _, _, .any h => .any h
  | _, _, .empty a c => .empty a c
  | _, _, .rng h1 h2 => .rng h1 h2
theorem RVs.mono {ρ ρ' : Rho} (e : Ext' ρ ρ') : ∀ {v : List V} {x : List Value}, RVs ρ v x → RVs ρ' v x
  | _, _, .nil => .nil
  | _, _, .cons h hs => .cons (RV.mono e h) (RVs.mono e hs)
end

/-- No value that came in. -/
def plainV : V → Bool
  | .sym .. => false
  | .any => false
  | .rng .. => false
  | _ => true

theorem rv_int {ρ : Rho} {v : V} {k : IntKind} {a : Int} (h : RV ρ v (.int k a)) (hp : plainV v = true) : v = .int k a := by
  generalize he : Value.int k a = x at h
  cases h <;> first | (cases he; rfl) | (cases he; done) | simp [plainV] at hp
theorem rv_string {ρ : Rho} {v : V} {s : ByteArray} (h : RV ρ v (.string s)) (hp : plainV v = true) : v = .str (natsOf s) := by
  generalize he : Value.string s = x at h
  cases h <;> first | (cases he; rfl) | (cases he; done) | simp [plainV] at hp
theorem rv_float {ρ : Rho} {v : V} {k : FloatKind} {a : Nat} (h : RV ρ v (.float k a)) (hp : plainV v = true) : False := by
  generalize he : Value.float k a = x at h
  cases h <;> first | (cases he; done) | simp [plainV] at hp

theorem rv_complex {ρ : Rho} {v : V} {k : FloatKind} {a b : Nat} (h : RV ρ v (.complex k a b)) (hp : plainV v = true) : False := by
  generalize he : Value.complex k a b = x at h
  cases h <;> first | (cases he; done) | simp [plainV] at hp

section lists
variable {ρ : Rho}

theorem RVs.length {vs : List V} {xs : List Value} (h : RVs ρ vs xs) : vs.length = xs.length := by
  induction vs generalizing xs with
  | nil => cases h; rfl
  | cons v vs ih => cases h with | cons h hs => simp [ih hs]

theorem RVs.get {vs : List V} {xs : List Value} (h : RVs ρ vs xs) : ∀ {i : Nat} {v : V}, vs[i]? = some v → ∃ x, xs[i]? = some x ∧ RV ρ v x := by
  induction vs generalizing xs with
  | nil => intro i v hv; simp at hv
  | cons v vs ih =>
    cases h with
    | cons h hs =>
      intro i w hw
      cases i with
      | zero => simp at hw; subst hw; exact ⟨_, by simp, h⟩
      | succ i => simp at hw; simpa using ih hs hw

theorem RVs.append {a b : List V} {x y : List Value} (h : RVs ρ a x) (k : RVs ρ b y) : RVs ρ (a ++ b) (x ++ y) := by
  induction a generalizing x with
  | nil => cases h; exact k
  | cons v vs ih => cases h with | cons h hs => exact .cons h (ih hs)

theorem RVs.dropN {vs : List V} {xs : List Value} (h : RVs ρ vs xs) : ∀ n, RVs ρ (dropN n vs) (xs.drop n) := by
  intro n
  induction n generalizing vs xs with
  | zero => simpa [Dx.dropN] using h
  | succ n ih => cases h with
    | nil => simpa [Dx.dropN] using RVs.nil
    | cons h hs => simpa [Dx.dropN] using ih hs

theorem RVs.takeN {vs : List V} {xs : List Value} (h : RVs ρ vs xs) : ∀ {n : Nat} {r : List V}, takeN n vs = some r → RVs ρ r (xs.take n) ∧ n ≤ xs.length := by
  intro n
  induction n generalizing vs xs with
  | zero => intro r hr; simp [Dx.takeN] at hr; subst hr; exact ⟨by simpa using RVs.nil, Nat.zero_le _⟩
  | succ n ih => cases h with
    | nil => intro r hr; simp [Dx.takeN] at hr
    | cons h hs =>
      intro r hr
      simp only [Dx.takeN, ob_some] at hr
      obtain ⟨q, hq, hr⟩ := hr
      cases hr
      obtain ⟨h1, h2⟩ := ih hs hq
      exact ⟨by simpa using RVs.cons h h1, by simpa using h2⟩

theorem RVs.rowFrom {vs : List V} {xs : List Value} (h : RVs ρ vs xs) {i n : Nat} {r : List V} (hr : rowFrom vs i n = some r) :
    RVs ρ r ((xs.drop i).take n) ∧ n ≤ xs.length - i := by
  obtain ⟨h1, h2⟩ := (h.dropN i).takeN hr
  exact ⟨h1, by simpa using h2⟩
end lists

theorem dropN_length : ∀ (n : Nat) (vs : List V), (dropN n vs).length = vs.length - n
  | 0, vs => by simp [dropN]
  | n + 1, [] => by simp [dropN]
  | n + 1, v :: vs => by simp [dropN, dropN_length n vs]

theorem takeN_length : ∀ {n : Nat} {vs r : List V}, takeN n vs = some r → r.length = n
  | 0, vs, r, h => by simp [takeN] at h; subst h; rfl
  | n + 1, [], r, h => by simp [takeN] at h
  | n + 1, v :: vs, r, h => by
    simp only [takeN, ob_some] at h
    obtain ⟨q, hq, h⟩ := h
    cases h
    simp [takeN_length hq]

theorem dropN_get : ∀ (n i : Nat) (vs : List V), (dropN n vs)[i]? = vs[n + i]?
  | 0, i, vs => by simp [dropN]
  | n + 1, i, [] => by simp [dropN]
  | n + 1, i, v :: vs => by
    simp only [dropN, dropN_get n i vs]
    rw [show n + 1 + i = (n + i) + 1 from by omega]; simp

theorem takeN_all : ∀ vs : List V, takeN vs.length vs = some vs
  | [] => rfl
  | v :: vs => by simp only [List.length_cons, takeN, takeN_all vs, ob]

theorem takeN_get : ∀ {n : Nat} {vs r : List V}, takeN n vs = some r → ∀ i, i < n → r[i]? = vs[i]?
  | 0, vs, r, h, i, hi => by omega
  | n + 1, [], r, h, i, hi => by simp [takeN] at h
  | n + 1, v :: vs, r, h, i, hi => by
    simp only [takeN, ob_some] at h
    obtain ⟨q, hq, h⟩ := h
    cases h
    cases i with
    | zero => rfl
    | succ i => simpa using takeN_get hq i (by omega)

theorem takeN_le : ∀ {n : Nat} {vs r : List V}, takeN n vs = some r → n ≤ vs.length
  | 0, vs, r, h => Nat.zero_le _
  | n + 1, [], r, h => by simp [takeN] at h
  | n + 1, v :: vs, r, h => by
    simp only [takeN, ob_some] at h
    obtain ⟨q, hq, h⟩ := h
    simpa using takeN_le hq

theorem rowFrom_get {vs r : List V} {i n : Nat} (h : rowFrom vs i n = some r) : r.length = n ∧ (i + n ≤ vs.length ∨ n = 0) ∧ ∀ j, j < n → r[j]? = vs[i + j]? := by
  refine ⟨takeN_length h, ?_, fun j hj => by rw [takeN_get h j hj, dropN_get]⟩
  have := takeN_le h
  rw [dropN_length] at this
  omega

theorem putFrom_length : ∀ {vs cs r : List V} {i : Nat}, putFrom vs i cs = some r → r.length = vs.length
  | vs, [], r, 0, h => by simp [putFrom] at h; subst h; rfl
  | [], c :: cs, r, 0, h => by simp [putFrom] at h
  | v :: vs, c :: cs, r, 0, h => by
    simp only [putFrom, ob_some] at h
    obtain ⟨q, hq, h⟩ := h
    cases h
    simp [putFrom_length hq]
  | [], cs, r, i + 1, h => by simp [putFrom] at h
  | v :: vs, cs, r, i + 1, h => by
    simp only [putFrom, ob_some] at h
    obtain ⟨q, hq, h⟩ := h
    cases h
    simp [putFrom_length hq]

theorem putFrom_le : ∀ {vs cs r : List V} {i : Nat}, putFrom vs i cs = some r → i + cs.length ≤ vs.length
  | vs, [], r, 0, h => by simp
  | [], c :: cs, r, 0, h => by simp [putFrom] at h
  | v :: vs, c :: cs, r, 0, h => by
    simp only [putFrom, ob_some] at h
    obtain ⟨q, hq, h⟩ := h
    have := putFrom_le hq
    simp at this ⊢
    omega
  | [], cs, r, i + 1, h => by simp [putFrom] at h
  | v :: vs, cs, r, i + 1, h => by
    simp only [putFrom, ob_some] at h
    obtain ⟨q, hq, h⟩ := h
    have := putFrom_le hq
    simp at this ⊢
    omega

theorem putFrom_get : ∀ {vs cs r : List V} {i : Nat}, putFrom vs i cs = some r → ∀ j, r[j]? = if i ≤ j ∧ j < i + cs.length then cs[j - i]? else vs[j]?
  | vs, [], r, 0, h, j => by simp [putFrom] at h; subst h; simp
  | [], c :: cs, r, 0, h, j => by simp [putFrom] at h
  | v :: vs, c :: cs, r, 0, h, j => by
    simp only [putFrom, ob_some] at h
    obtain ⟨q, hq, h⟩ := h
    cases h
    cases j with
    | zero => simp
    | succ j => simpa using putFrom_get hq j
  | [], cs, r, i + 1, h, j => by simp [putFrom] at h
  | v :: vs, cs, r, i + 1, h, j => by
    simp only [putFrom, ob_some] at h
    obtain ⟨q, hq, h⟩ := h
    cases h
    cases j with
    | zero => simp
    | succ j =>
      have := putFrom_get hq j
      simp only [List.getElem?_cons_succ, this]
      have e : (i + 1 ≤ j + 1 ∧ j + 1 < i + 1 + cs.length) ↔ (i ≤ j ∧ j < i + cs.length) := by omega
      simp only [e, Nat.add_sub_add_right]

end Go.Dx
namespace Go.Dx
open Go Go.RowKit

/-- Entries of a map. -/
inductive REs (ρ : Rho) : List (V × V × Nat) → List MapEntry → Prop
  | nil : REs ρ [] []
  | cons {k v : V} {n : Nat} {m : MapEntry} {es : List (V × V × Nat)} {ms : List MapEntry} (hk : RV ρ k m.key) (hv : RV ρ v m.val) (hn : m.born = n) (hs : REs ρ es ms) :
      REs ρ ((k, v, n) :: es) (m :: ms)

theorem REs.mono {ρ ρ' : Rho} (e : Ext' ρ ρ') {es : List (V × V × Nat)} {ms : List MapEntry} (h : REs ρ es ms) : REs ρ' es ms := by
  induction h with
  | nil => exact .nil
  | cons hk hv hn _ ih => exact .cons (hk.mono e) (hv.mono e) hn ih

theorem REs.length {ρ : Rho} {es : List (V × V × Nat)} {ms : List MapEntry} (h : REs ρ es ms) : es.length = ms.length := by
  induction h with
  | nil => rfl
  | cons _ _ _ _ ih => simp [ih]

/-- Cells of a block. -/
def cellAd (b : Blk) (i : Nat) : Addr := ⟨b.block, b.base + i, none⟩

structure CRel (ρ : Rho) (b : Blk) (vs : List V) (e : TypeId) (fz : Nat) (own : Own) (w : World) : Prop where
  shape : w.shape? b.block = some (e, b.total)
  fits : b.base + vs.length ≤ b.total
  cell : ∀ i v, vs[i]? = some v → ∃ x, w.cell? (cellAd b i) = some x ∧ RV ρ v x
  free : own.may = true → ∀ i, b.base + fz ≤ i → i < b.total → w.frozen? ⟨b.block, i, none⟩ = false
  bare : own = .yes → ∃ c lo hi, w.heap[b.block]? = some (.cells c e (lo, hi)) ∧ hi ≤ b.base + fz ∧ lo ≤ hi

def ORel (ρ : Rho) (b : Blk) (w : World) : Obj → Prop
  | .cells vs e fz own => CRel ρ b vs e fz own w
  | .map es clock => ∃ ms : Array MapEntry, w.heap[b.block]? = some (.map ms clock) ∧ REs ρ es ms.toList
  | .strIter s pos => ∃ t : ByteArray, w.heap[b.block]? = some (.stringIter t pos) ∧ s = natsOf t ∧ b.base = 0
  | .mapIter m since seen st => b.base = 0 ∧ ∃ m' : Option Nat, w.heap[b.block]? = some (.mapIter m' since ⟨seen⟩ st) ∧ (match m with
    | none => m' = none
    | some l => ∃ c, ρ l = some c ∧ m' = some c.block)

/-- May it be written? -/
def Obj.writes : Obj → Bool
  | .cells _ _ _ own => own.may
  | _ => true

/-- A letter, a figure, '.', '-' or '_'. -/
def nameC (c : Nat) : Bool := c == 46 || c == 45 || c == 95 || (decide (48 ≤ c) && decide (c ≤ 57)) || (decide (97 ≤ c) && decide (c ≤ 122)) || (decide (65 ≤ c) && decide (c ≤ 90))
/-- Whether a text is somebody's name. -/
def nameB (s : ByteArray) : Bool := (s.data.toList.all fun c => nameC c.toNat) && decide (0 < s.size) && decide (s.size ≤ 24)

/-- A value that came in. A slice: its cells lie ahead of the machine's own blocks. Of the sizes 3, 2: a text that is a name, one that is none. -/
structure ValOk (B : Nat) (w0 : World) (b : Blk) : Prop where
  slice : 3 < b.total → ∀ a n c, b.val = .slice (some a) n c → a.block < B ∧ a.spot = none ∧ n * 80 ≤ 140737488355328 ∧ ∀ j, j < n * b.total → (w0.cell? ⟨a.block, a.off + j, none⟩).isSome = true
  row : b.val ≠ .nilFunc → 3 < b.total → b.val = .slice none 0 0 ∨ ∃ a n c, b.val = .slice (some a) n c
  good : b.val ≠ .nilFunc → b.total = 3 → ∃ s, b.val = .string s ∧ (s.size : Int) ≤ 9223372036854775807 ∧ nameB s = true
  bad : b.val ≠ .nilFunc → b.total = 2 → ∃ s, b.val = .string s ∧ (s.size : Int) ≤ 9223372036854775807 ∧ nameB s = false

theorem ValOk.nil {B : Nat} {w0 : World} {b : Blk} (h : b.val = .nilFunc) : ValOk B w0 b :=
  ⟨(fun _ _ _ _ e => by rw [h] at e; cases e), fun e => absurd h e, fun e => absurd h e, fun e => absurd h e⟩

/-- 'B': from which block number on the machine's own blocks lie; 'w0': the world in which it began. -/
structure HRel (B : Nat) (w0 : World) (ρ : Rho) (h : H) (w : World) : Prop where
  obj : ∀ l b o, ρ l = some b → h.get l = some o → ORel ρ b w o
  lt : ∀ l b, ρ l = some b → val l < val h.next
  base : ∀ l b, ρ l = some b → b.base = 0 ∧ ValOk B w0 b
  inj : ∀ l m b c, ρ l = some b → ρ m = some c → (h.get l).isSome = true → (h.get m).isSome = true → b.block = c.block → l = m
  own : ∀ l b o, ρ l = some b → h.get l = some o → o.writes = true → B ≤ b.block
  size : B ≤ w.heap.size
  below : Below B w0 w

/-! ### what a world's blocks say -/

theorem shape_lt {w : World} {b : Nat} {s : TypeId × Nat} (h : w.shape? b = some s) : b < w.heap.size := by
  rcases Nat.lt_or_ge b w.heap.size with h' | h'
  · exact h'
  · simp [World.shape?, Array.getElem?_eq_none h'] at h

theorem heap_lt {w : World} {b : Nat} {o : Go.Obj} (h : w.heap[b]? = some o) : b < w.heap.size := (Array.getElem?_eq_some_iff.1 h).1

theorem ORel.lt {ρ : Rho} {b : Blk} {w : World} {o : Obj} (h : ORel ρ b w o) : b.block < w.heap.size := by
  cases o with
  | cells vs e fz own => exact shape_lt h.shape
  | map es c => obtain ⟨ms, h, _⟩ := h; exact heap_lt h
  | strIter s p => obtain ⟨t, h, _⟩ := h; exact heap_lt h
  | mapIter m a s t => obtain ⟨_, m', h, _⟩ := h; exact heap_lt h

theorem world_of_block {w w' : World} {b : Nat} (h : w'.heap[b]? = w.heap[b]?) :
    w'.shape? b = w.shape? b ∧ (∀ i, w'.cell? ⟨b, i, none⟩ = w.cell? ⟨b, i, none⟩) ∧ (∀ i, w'.frozen? ⟨b, i, none⟩ = w.frozen? ⟨b, i, none⟩) := by
  refine ⟨?_, fun i => ?_, fun i => ?_⟩
  · simp only [World.shape?, h]
  · simp only [World.cell?, h]
  · simp only [World.frozen?, h]

/-- An object whose block is as it was. -/
theorem ORel.of_block {ρ ρ' : Rho} (e : Ext' ρ ρ') {b : Blk} {w w' : World} {o : Obj} (h : ORel ρ b w o) (hb : w'.heap[b.block]? = w.heap[b.block]?) : ORel ρ' b w' o := by
  obtain ⟨h1, h2, h3⟩ := world_of_block hb
  cases o with
  | cells vs el fz own =>
    refine ⟨by rw [h1]; exact h.shape, h.fits, fun i v hv => ?_, fun ho i hi hl => by rw [h3]; exact h.free ho i hi hl, fun ho => by rw [hb]; exact h.bare ho⟩
    obtain ⟨x, hx, r⟩ := h.cell i v hv
    exact ⟨x, by unfold cellAd; rw [h2]; exact hx, r.mono e⟩
  | map es c => obtain ⟨ms, h, r⟩ := h; exact ⟨ms, by rw [hb]; exact h, r.mono e⟩
  | strIter s p => obtain ⟨t, h, r⟩ := h; exact ⟨t, by rw [hb]; exact h, r⟩
  | mapIter m a s t =>
    obtain ⟨h0, m', h, r⟩ := h
    refine ⟨h0, m', by rw [hb]; exact h, ?_⟩
    cases m with
    | none => exact r
    | some l => obtain ⟨c, hc, r⟩ := r; exact ⟨c, e _ _ hc, r⟩

section
variable {B : Nat} {w0 : World} {ρ : Rho} {h : H} {w : World}

/-- A world that has the same blocks. -/
theorem HRel.same (R : HRel B w0 ρ h w) {w' : World} (hh : w'.heap = w.heap) (hb : Below B w0 w') : HRel B w0 ρ h w' :=
  ⟨fun l b o hl ho => (R.obj l b o hl ho).of_block (Ext'.refl _) (by rw [hh]), R.lt, R.base, R.inj, R.own, by rw [hh]; exact R.size, hb⟩

theorem HRel.drew (R : HRel B w0 ρ h w) : HRel B w0 ρ h { w with drawn := w.drawn + 1 } := R.same rfl R.below.drew

/-- One more label. -/
def upd (ρ : Rho) (l : Lb) (b : Blk) : Rho := fun m => if m = l then some b else ρ m

theorem upd_self (ρ : Rho) (l : Lb) (b : Blk) : upd ρ l b l = some b := by simp [upd]
theorem upd_ne {ρ : Rho} {l m : Lb} {b : Blk} (h : m ≠ l) : upd ρ l b m = ρ m := by simp [upd, h]
theorem upd_ext {ρ : Rho} {l : Lb} {b : Blk} (h : ρ l = none) : Ext' ρ (upd ρ l b) := fun m c hm => by
  by_cases e : m = l
  · subst e; rw [h] at hm; cases hm
  · rw [upd_ne e]; exact hm

theorem HRel.fresh (R : HRel B w0 ρ h w) : ρ h.next = none := by
  cases hn : ρ h.next with
  | none => rfl
  | some b => exact absurd (R.lt _ _ hn) (Nat.lt_irrefl _)

theorem H.get_add_self (h : H) (o : Obj) : (h.add o).get h.next = some o := T.get_set_self _ _ _
theorem H.get_add_ne (h : H) (o : Obj) {l : Lb} (hl : l ≠ h.next) : (h.add o).get l = h.get l := T.get_set_ne _ _ _ _ (Ne.symm hl)
theorem H.get_set_self (h : H) (l : Lb) (o : Obj) : (h.set l o).get l = some o := T.get_set_self _ _ _
theorem H.get_set_ne (h : H) {l m : Lb} (o : Obj) (hm : m ≠ l) : (h.set l o).get m = h.get m := T.get_set_ne _ _ _ _ (Ne.symm hm)
theorem H.get_del_self (h : H) (l : Lb) : (h.del l).get l = none := T.get_set_self _ _ _
theorem H.get_del_ne (h : H) {l m : Lb} (hm : m ≠ l) : (h.del l).get m = h.get m := T.get_set_ne _ _ _ _ (Ne.symm hm)

theorem heap_alloc_old {w : World} (o : Go.Obj) {k : Nat} (hk : k < w.heap.size) : (w.alloc o).heap[k]? = w.heap[k]? := Below.heap_alloc w o k hk
theorem heap_alloc_new {w : World} (o : Go.Obj) : (w.alloc o).heap[w.heap.size]? = some o := by show (w.heap.push o)[w.heap.size]? = _; simp

/-- A new block for a label that has none ('l' is the next one, or one that was made ahead): the heap has the object already, or gets it. -/
theorem HRel.laid (R : HRel B w0 ρ h w) {h' : H} {l : Lb} {o : Obj} {x : Go.Obj} {b : Blk} (hb : b.block = w.heap.size) (hb0 : b.base = 0 ∧ b.val = .nilFunc) (hl : ρ l = none) (hlt : val l < val h'.next) (hnx : val h.next ≤ val h'.next)
    (hget : h'.get l = some o) (hold : ∀ m, m ≠ l → h'.get m = h.get m) (ho : ORel (upd ρ l b) b (w.alloc x) o) :
    HRel B w0 (upd ρ l b) h' (w.alloc x) := by
  have E := upd_ext (b := b) hl
  refine ⟨fun m c p hm hp => ?_, fun m c hm => ?_, fun m c hm => ?_, fun m n c d hm hn im in' e => ?_, fun m c p hm hp hw => ?_, ?_, R.below.alloc R.size _⟩
  · by_cases e : m = l
    · subst e
      rw [upd_self] at hm
      cases hm
      rw [hget] at hp
      cases hp
      exact ho
    · rw [upd_ne e] at hm
      rw [hold m e] at hp
      have q := R.obj m c p hm hp
      exact q.of_block E (heap_alloc_old _ q.lt)
  · by_cases e : m = l
    · subst e; exact hlt
    · rw [upd_ne e] at hm; exact Nat.lt_of_lt_of_le (R.lt m c hm) hnx
  · by_cases e : m = l
    · subst e; rw [upd_self] at hm; cases hm; exact ⟨hb0.1, .nil hb0.2⟩
    · rw [upd_ne e] at hm; exact R.base m c hm
  · by_cases e1 : m = l
    · by_cases e2 : n = l
      · rw [e1, e2]
      · subst e1
        rw [upd_self] at hm
        rw [upd_ne e2] at hn
        cases hm
        rw [hold n e2] at in'
        obtain ⟨p, hp⟩ := Option.isSome_iff_exists.1 in'
        have := (R.obj n d p hn hp).lt
        omega
    · by_cases e2 : n = l
      · subst e2
        rw [upd_self] at hn
        rw [upd_ne e1] at hm
        cases hn
        rw [hold m e1] at im
        obtain ⟨p, hp⟩ := Option.isSome_iff_exists.1 im
        have := (R.obj m c p hm hp).lt
        omega
      · rw [upd_ne e1] at hm
        rw [upd_ne e2] at hn
        rw [hold m e1] at im
        rw [hold n e2] at in'
        exact R.inj m n c d hm hn im in' e
  · by_cases e : m = l
    · subst e
      rw [upd_self] at hm
      cases hm
      rw [hb]; exact R.size
    · rw [upd_ne e] at hm
      rw [hold m e] at hp
      exact R.own m c p hm hp hw
  · show B ≤ (w.heap.push x).size
    simp
    exact Nat.le_succ_of_le R.size

/-- The next label. -/
theorem HRel.add (R : HRel B w0 ρ h w) {o : Obj} {x : Go.Obj} {b : Blk} (hb : b.block = w.heap.size) (hb0 : b.base = 0 ∧ b.val = .nilFunc) (ho : ORel (upd ρ h.next b) b (w.alloc x) o) :
    HRel B w0 (upd ρ h.next b) (h.add o) (w.alloc x) :=
  R.laid hb hb0 R.fresh (by show val h.next < val (inc h.next); rw [val_inc]; omega) (by show val h.next ≤ val (inc h.next); rw [val_inc]; omega) (h.get_add_self o) (fun m e => h.get_add_ne o e) ho

/-- An object changed in place: its block alone. -/
theorem HRel.change (R : HRel B w0 ρ h w) {l : Lb} {b : Blk} {o p : Obj} {w' : World} (hl : ρ l = some b) (ho : h.get l = some o) (hw : o.writes = true)
    (hsz : w'.heap.size = w.heap.size) (hold : ∀ k, k ≠ b.block → w'.heap[k]? = w.heap[k]?) (hos : w'.os = w.os) (htape : w'.tape = w.tape) (hout : w'.output = w.output)
    (hp : ORel ρ b w' p) : HRel B w0 ρ (h.set l p) w' := by
  have hB := R.own l b o hl ho hw
  have hsome : (h.get l).isSome = true := by rw [ho]; rfl
  refine ⟨fun m c q hm hq => ?_, R.lt, R.base, fun m n c d hm hn im in' e => ?_, fun m c q hm hq hw' => ?_, by rw [hsz]; exact R.size, ?_⟩
  · by_cases e : m = l
    · subst e
      rw [H.get_set_self] at hq
      rw [hl] at hm
      cases hm; cases hq
      exact hp
    · rw [H.get_set_ne _ _ e] at hq
      refine (R.obj m c q hm hq).of_block (Ext'.refl _) (hold _ fun e' => e (R.inj m l c b hm hl (by rw [hq]; rfl) hsome e'))
  · have g : ∀ k, ((h.set l p).get k).isSome = true → (h.get k).isSome = true := fun k hk => by
      by_cases e' : k = l
      · rw [e']; exact hsome
      · rwa [H.get_set_ne _ _ e'] at hk
    exact R.inj m n c d hm hn (g m im) (g n in') e
  · by_cases e : m = l
    · subst e; rw [hl] at hm; cases hm; exact hB
    · rw [H.get_set_ne _ _ e] at hq
      exact R.own m c q hm hq hw'
  · exact R.below.trans ⟨hos, htape, hout, by rw [hsz]; exact Nat.le_refl _, fun k hk => hold k (by omega)⟩

/-- A label that is done with. -/
theorem HRel.del (R : HRel B w0 ρ h w) (l : Lb) : HRel B w0 ρ (h.del l) w := by
  have g : ∀ k o, (h.del l).get k = some o → h.get k = some o := fun k o hk => by
    by_cases e : k = l
    · subst e; rw [H.get_del_self] at hk; cases hk
    · rwa [H.get_del_ne _ e] at hk
  refine ⟨fun m c q hm hq => R.obj m c q hm (g m q hq), R.lt, R.base, fun m n c d hm hn im in' e => ?_, fun m c q hm hq => R.own m c q hm (g m q hq), R.size, R.below⟩
  obtain ⟨p, hp⟩ := Option.isSome_iff_exists.1 im
  obtain ⟨q, hq⟩ := Option.isSome_iff_exists.1 in'
  exact R.inj m n c d hm hn (by rw [g m p hp]; rfl) (by rw [g n q hq]; rfl) e

end
end Go.Dx
namespace Go.Dx
open Go Go.RowKit

/-! ### worlds after stores -/

theorem shape_setCell (w : World) (a : Addr) (v : Value) (r : Nat) : (w.setCell a v).shape? r = w.shape? r := by
  unfold World.shape? World.setCell
  simp only [Array.getElem?_modify]
  by_cases h : a.block = r
  · rw [if_pos h]
    cases hh : w.heap[r]? with
    | none => rfl
    | some o => cases o <;> simp <;> split <;> simp
  · rw [if_neg h]

theorem shape_setCells (b : Nat) : ∀ (vs : List Value) (o : Nat) (w : World) (r : Nat), (w.setCells b o vs).shape? r = w.shape? r
  | [], _, _, _ => rfl
  | v :: vs, o, w, r => by rw [World.setCells, shape_setCells b vs, shape_setCell]

theorem heap_setCells_ne (b : Nat) : ∀ (vs : List Value) (o : Nat) (w : World) (k : Nat), k ≠ b → (w.setCells b o vs).heap[k]? = w.heap[k]?
  | [], _, _, _, _ => rfl
  | v :: vs, o, w, k, h => by rw [World.setCells, heap_setCells_ne b vs _ _ k h, Below.heap_setCell _ _ _ _ h]

theorem setCells_frame (b : Nat) : ∀ (vs : List Value) (o : Nat) (w : World), (w.setCells b o vs).heap.size = w.heap.size ∧ (w.setCells b o vs).os = w.os ∧ (w.setCells b o vs).tape = w.tape ∧ (w.setCells b o vs).output = w.output ∧ (w.setCells b o vs).drawn = w.drawn
  | [], _, _ => ⟨rfl, rfl, rfl, rfl, rfl⟩
  | v :: vs, o, w => by
    obtain ⟨h1, h2, h3, h4, h5⟩ := setCells_frame b vs (o + 1) (w.setCell ⟨b, o, none⟩ v)
    rw [World.setCells]
    exact ⟨h1.trans (by simp [World.setCell]), h2, h3, h4, h5⟩

/-- A row's frozen part is the same behind stores. -/
theorem row_setCell (w : World) (a : Addr) (v : Value) {b : Nat} {c : Array Value} {e : TypeId} {fr : Nat × Nat} (h : w.heap[b]? = some (.cells c e fr)) : ∃ c', (w.setCell a v).heap[b]? = some (.cells c' e fr) := by
  unfold World.setCell
  simp only [Array.getElem?_modify, h]
  by_cases h' : a.block = b
  · rw [if_pos h']; exact ⟨_, rfl⟩
  · rw [if_neg h']; exact ⟨_, rfl⟩

theorem row_setCells (r : Nat) : ∀ (vs : List Value) (o : Nat) (w : World) {b : Nat} {c : Array Value} {e : TypeId} {fr : Nat × Nat}, w.heap[b]? = some (.cells c e fr) → ∃ c', (w.setCells r o vs).heap[b]? = some (.cells c' e fr)
  | [], _, _, _, _, _, _, h => ⟨_, h⟩
  | v :: vs, o, w, _, _, _, _, h => by
    obtain ⟨c', h'⟩ := row_setCell w ⟨r, o, none⟩ v h
    rw [World.setCells]
    exact row_setCells r vs (o + 1) _ h'

theorem flat_one {ρ : Rho} {v : V} {x : Value} (h : RV ρ v x) (hf : flatV v = true) : x.oneCell' = true := by
  cases h with
  | sym _ _ hv => exact symOk_one hv
  | any h => exact symOk_one h
  | _ => first | rfl | simp [flatV] at hf

theorem flats_one {ρ : Rho} {vs : List V} {xs : List Value} (h : RVs ρ vs xs) (hf : flats vs = true) : ∀ x ∈ xs, x.oneCell' = true := by
  induction vs generalizing xs with
  | nil => cases h; simp
  | cons v vs ih =>
    cases h with
    | cons h hs =>
      simp only [flats, Bool.and_eq_true] at hf
      intro x hx
      rcases List.mem_cons.1 hx with rfl | hx
      · exact flat_one h hf.1
      · exact ih hs hf.2 x hx

section
variable {B : Nat} {w0 : World} {ρ : Rho} {h : H} {w : World} {P : Program}

theorem CRel.isSome {b : Blk} {vs : List V} {e : TypeId} {fz : Nat} {own : Own} (c : CRel ρ b vs e fz own w) {i : Nat} (hi : i < vs.length) : (w.cell? (cellAd b i)).isSome = true := by
  obtain ⟨x, hx, _⟩ := c.cell i vs[i] (List.getElem?_eq_getElem hi)
  rw [hx]; rfl

/-- The cells of a block that has so many. -/
theorem cell_of_shape {r : Nat} {e : TypeId} {n : Nat} (hs : w.shape? r = some (e, n)) {i : Nat} (hi : i < n) : (w.cell? ⟨r, i, none⟩).isSome = true := by
  unfold World.shape? at hs
  unfold World.cell?
  cases hh : w.heap[r]? with
  | none => simp [hh] at hs
  | some o =>
    cases o <;> simp [hh] at hs ⊢
    omega

theorem cell_lt_shape {r : Nat} {e : TypeId} {n : Nat} (hs : w.shape? r = some (e, n)) {i : Nat} {x : Value} (hx : w.cell? ⟨r, i, none⟩ = some x) : i < n := by
  unfold World.shape? at hs
  unfold World.cell? at hx
  cases hh : w.heap[r]? with
  | none => simp [hh] at hs
  | some o =>
    cases o <;> simp [hh] at hs hx
    have := (Array.getElem?_eq_some_iff.1 hx).1
    omega

/-- Cells put over a row's. -/
theorem CRel.put {b : Blk} {vs vs' cs : List V} {xs : List Value} {e : TypeId} {fz : Nat} {own : Own} (c : CRel ρ b vs e fz own w) {off : Nat} (hp : putFrom vs off cs = some vs') (hr : RVs ρ cs xs) :
    CRel ρ b vs' e fz own (w.setCells b.block (b.base + off) xs) := by
  have hlen := putFrom_length hp
  have hle := putFrom_le hp
  have hx := hr.length
  refine ⟨by rw [shape_setCells]; exact c.shape, by rw [hlen]; exact c.fits, fun i v hv => ?_, fun ho i hi hl => by rw [World.frozen?_setCells]; exact c.free ho i hi hl, fun ho => by
    obtain ⟨c', lo, hi, h1, h2⟩ := c.bare ho
    obtain ⟨c'', h3⟩ := row_setCells b.block xs (b.base + off) w h1
    exact ⟨c'', lo, hi, h3, h2⟩⟩
  rw [putFrom_get hp] at hv
  by_cases hin : off ≤ i ∧ i < off + cs.length
  · rw [if_pos hin] at hv
    obtain ⟨x, hx1, hx2⟩ := hr.get hv
    obtain ⟨hj, hj'⟩ := List.getElem?_eq_some_iff.1 hx1
    refine ⟨x, ?_, hx2⟩
    have := World.cell?_setCells_in b.block xs (b.base + off) w (fun j hj => by
      have := c.isSome (i := off + j) (by omega)
      unfold cellAd at this
      rwa [← Nat.add_assoc] at this) (i - off) hj
    unfold cellAd
    rw [show b.base + i = b.base + off + (i - off) from by omega, this, hj']
  · rw [if_neg hin] at hv
    obtain ⟨x, hx1, hx2⟩ := c.cell i v hv
    refine ⟨x, ?_, hx2⟩
    unfold cellAd at hx1 ⊢
    rw [World.cell?_setCells_out]
    · exact hx1
    · intro _ _
      show b.base + i < b.base + off ∨ b.base + off + xs.length ≤ b.base + i
      omega

theorem storeV_some {l : Lb} {off : Nat} {cs : List V} {h' : H} (hs : storeV h l off cs = some h') :
    ∃ vs e fz own vs', h.get l = some (.cells vs e fz own) ∧ own.may = true ∧ fz ≤ off ∧ flats cs = true ∧ putFrom vs off cs = some vs' ∧ h' = h.set l (.cells vs' e fz own) := by
  unfold storeV at hs
  split at hs
  · rename_i vs e fz own hg
    simp only [chk_some, ob_some, Bool.and_eq_true] at hs
    obtain ⟨⟨⟨h1, h2⟩, h3⟩, vs', h4, h5⟩ := hs
    cases h5
    exact ⟨vs, e, fz, own, vs', hg, h1, Nat.le_of_ble_eq_true h2, h3, h4, rfl⟩
  · cases hs

/-- What a store does. -/
theorem HRel.store (R : HRel B w0 ρ h w) {l : Lb} {b : Blk} {off : Nat} {cs : List V} {xs : List Value} {h' : H} (hl : ρ l = some b) (hs : storeV h l off cs = some h') (hr : RVs ρ cs xs) :
    (∀ P, (storeCells ⟨b.block, b.base + off, none⟩ xs).run P w = .ok () (w.setCells b.block (b.base + off) xs)) ∧ HRel B w0 ρ h' (w.setCells b.block (b.base + off) xs) := by
  obtain ⟨vs, e, fz, own, vs', hg, ho, hf, hfl, hp, rfl⟩ := storeV_some hs
  have c : CRel ρ b vs e fz own w := R.obj l b _ hl hg
  have hle := putFrom_le hp
  have hx := hr.length
  have hfit := c.fits
  refine ⟨fun P => ?_, ?_⟩
  · have := run_storeCells_cells (P := P) b.block (b.base + off) xs 0 w (fun j hj => by
        have := c.isSome (i := off + j) (by omega)
        unfold cellAd at this
        rwa [← Nat.add_assoc] at this) (fun j hj => c.free ho _ (by omega) (by omega)) (flats_one hr hfl)
    simpa using this
  · obtain ⟨f1, f2, f3, f4, _⟩ := setCells_frame b.block xs (b.base + off) w
    exact R.change hl hg ho f1 (fun k hk => heap_setCells_ne _ _ _ _ _ hk) f2 f3 f4 (c.put hp hr)

/-! ### new rows -/

theorem shape_alloc_cells (w : World) (arr : Array Value) (e : TypeId) : (w.alloc (.cells arr e)).shape? w.heap.size = some (e, arr.size) := by
  unfold World.shape?; rw [heap_alloc_new]

theorem cell_alloc_cells (w : World) (arr : Array Value) (e : TypeId) (i : Nat) : (w.alloc (.cells arr e)).cell? ⟨w.heap.size, i, none⟩ = arr[i]? := by
  unfold World.cell?; simp only [heap_alloc_new]; simp

theorem frozen_alloc_cells (w : World) (arr : Array Value) (e : TypeId) (i : Nat) : (w.alloc (.cells arr e)).frozen? ⟨w.heap.size, i, none⟩ = false := by
  unfold World.frozen?; simp only [heap_alloc_new]; simp

theorem CRel.new {vs : List V} {xs rest : List Value} (hr : RVs ρ vs xs) (e : TypeId) (fz : Nat) (own : Own) {w : World} :
    CRel ρ (Blk.mk w.heap.size 0 (xs ++ rest).length .nilFunc) vs e fz own (w.alloc (.cells ⟨xs ++ rest⟩ e)) := by
  refine ⟨shape_alloc_cells _ _ _, by have := hr.length; simp; omega, fun i v hv => ?_, fun _ i _ _ => frozen_alloc_cells _ _ _ _, fun _ => ⟨_, 0, 0, heap_alloc_new _, Nat.zero_le _, Nat.le_refl _⟩⟩
  obtain ⟨x, h1, h2⟩ := hr.get hv
  refine ⟨x, ?_, h2⟩
  unfold cellAd
  rw [cell_alloc_cells]
  have := (List.getElem?_eq_some_iff.1 h1).1
  simp only [Nat.zero_add]
  have e : (⟨xs ++ rest⟩ : Array Value)[i]? = (xs ++ rest)[i]? := by simp
  rw [e, List.getElem?_append_left this, h1]

/-- A new row for the next label. -/
theorem HRel.row (R : HRel B w0 ρ h w) {vs : List V} {xs : List Value} (hr : RVs ρ vs xs) (rest : List Value) (e : TypeId) (fz : Nat) (own : Own) :
    HRel B w0 (upd ρ h.next (Blk.mk w.heap.size 0 (xs ++ rest).length .nilFunc)) (h.add (.cells vs e fz own)) (w.alloc (.cells ⟨xs ++ rest⟩ e)) :=
  R.add rfl ⟨rfl, rfl⟩ (CRel.new (hr.mono (upd_ext R.fresh)) e fz own)

/-- A row whose label goes over to another one, with more cells behind. -/
theorem HRel.move (R : HRel B w0 ρ h w) {l : Lb} {b : Blk} {vs new : List V} {xs : List Value} {e : TypeId} {fz : Nat} {own : Own} (hl : ρ l = some b) (hg : h.get l = some (.cells vs e fz own)) (ho : own.may = true)
    {off : Nat} (hoff : off ≤ vs.length) (hoff0 : off = 0) (hfz : fz ≤ vs.length) (hr : RVs ρ new xs) (hfl : flats new = true) (hroom : b.base + vs.length + new.length ≤ b.total) :
    (∀ P, (storeCells ⟨b.block, b.base + vs.length, none⟩ xs).run P w = .ok () (w.setCells b.block (b.base + vs.length) xs)) ∧
      HRel B w0 (upd ρ h.next (Blk.mk b.block (b.base + off) b.total .nilFunc)) ((h.del l).add (.cells (dropN off vs ++ new) e (fz - off) own)) (w.setCells b.block (b.base + vs.length) xs) := by
  have c : CRel ρ b vs e fz own w := R.obj l b _ hl hg
  have hx := hr.length
  have E : Ext' ρ (upd ρ h.next (Blk.mk b.block (b.base + off) b.total .nilFunc)) := upd_ext R.fresh
  have hsh := c.shape
  obtain ⟨f1, f2, f3, f4, _⟩ := setCells_frame b.block xs (b.base + vs.length) w
  have hB := R.own l b _ hl hg ho
  have hsome : (h.get l).isSome = true := by rw [hg]; rfl
  have hne : l ≠ h.next := fun e => by rw [e, R.fresh] at hl; cases hl
  refine ⟨fun P => ?_, ?_⟩
  · have := run_storeCells_cells (P := P) b.block (b.base + vs.length) xs 0 w (fun j hj => cell_of_shape hsh (by omega)) (fun j hj => c.free ho _ (by omega) (by omega)) (flats_one hr hfl)
    simpa using this
  · have old : ∀ m q, m ≠ h.next → ((h.del l).add (.cells (dropN off vs ++ new) e (fz - off) own)).get m = some q → h.get m = some q ∧ m ≠ l := fun m q hm hq => by
      rw [H.get_add_ne _ _ (show m ≠ (h.del l).next from hm)] at hq
      by_cases e' : m = l
      · subst e'; rw [H.get_del_self] at hq; cases hq
      · rw [H.get_del_ne _ e'] at hq; exact ⟨hq, e'⟩
    have self : ((h.del l).add (.cells (dropN off vs ++ new) e (fz - off) own)).get h.next = some (.cells (dropN off vs ++ new) e (fz - off) own) := H.get_add_self (h.del l) _
    have apart : ∀ m d q, m ≠ h.next → ρ m = some d → ((h.del l).add (.cells (dropN off vs ++ new) e (fz - off) own)).get m = some q → d.block ≠ b.block := fun m d q hm hd hq e' => by
      obtain ⟨h1, h2⟩ := old m q hm hq
      exact h2 (R.inj m l d b hd hl (by rw [h1]; rfl) hsome e')
    refine ⟨fun m d q hm hq => ?_, fun m d hm => ?_, fun m d hm => ?_, fun m n d d' hm hn im in' e' => ?_, fun m d q hm hq hw => ?_, by rw [f1]; exact R.size, ?_⟩
    · by_cases e' : m = h.next
      · subst e'
        rw [upd_self] at hm
        cases hm
        rw [self] at hq
        cases hq
        refine ⟨by rw [shape_setCells]; exact hsh, by simp [dropN_length]; omega, fun i v hv => ?_, fun _ i hi hl' => ?_, fun ho' => ?_⟩
        · by_cases hi : i < vs.length - off
          · rw [List.getElem?_append_left (by rw [dropN_length]; exact hi), dropN_get] at hv
            obtain ⟨x, h1, h2⟩ := c.cell _ v hv
            refine ⟨x, ?_, h2.mono E⟩
            unfold cellAd at h1 ⊢
            rw [World.cell?_setCells_out]
            · rw [← Nat.add_assoc] at h1; exact h1
            · intro _ _; left; show b.base + off + i < b.base + vs.length; omega
          · rw [List.getElem?_append_right (by rw [dropN_length]; omega), dropN_length] at hv
            obtain ⟨x, h1, h2⟩ := hr.get hv
            obtain ⟨hj, hj'⟩ := List.getElem?_eq_some_iff.1 h1
            refine ⟨x, ?_, h2.mono E⟩
            have := World.cell?_setCells_in b.block xs (b.base + vs.length) w (fun j hj => cell_of_shape hsh (by omega)) (i - (vs.length - off)) hj
            unfold cellAd
            show (w.setCells b.block (b.base + vs.length) xs).cell? ⟨b.block, b.base + off + i, none⟩ = some x
            rw [show b.base + off + i = b.base + vs.length + (i - (vs.length - off)) from by omega, this, hj']
        · rw [World.frozen?_setCells]
          have hi' : b.base + off + (fz - off) ≤ i := hi
          exact c.free ho i (by omega) hl'
        · obtain ⟨c', lo, hi, h1, h2⟩ := c.bare ho'
          obtain ⟨c'', h3⟩ := row_setCells b.block xs (b.base + vs.length) w h1
          exact ⟨c'', lo, hi, h3, by show hi ≤ b.base + off + (fz - off) ∧ lo ≤ hi; omega⟩
      · rw [upd_ne e'] at hm
        have := apart m d q e' hm hq
        exact (R.obj m d q hm (old m q e' hq).1).of_block E (heap_setCells_ne _ _ _ _ _ this)
    · by_cases e' : m = h.next
      · subst e'; show val h.next < val (inc h.next); rw [val_inc]; omega
      · rw [upd_ne e'] at hm
        have := R.lt m d hm
        show val m < val (inc h.next)
        rw [val_inc]; omega
    · by_cases e' : m = h.next
      · subst e'; rw [upd_self] at hm; cases hm; have := (R.base l b hl).1; exact ⟨by show b.base + off = 0; omega, .nil rfl⟩
      · rw [upd_ne e'] at hm; exact R.base m d hm
    · obtain ⟨q, hq⟩ := Option.isSome_iff_exists.1 im
      obtain ⟨q', hq'⟩ := Option.isSome_iff_exists.1 in'
      by_cases e1 : m = h.next
      · by_cases e2 : n = h.next
        · rw [e1, e2]
        · rw [upd_ne e2] at hn
          have := apart n d' q' e2 hn hq'
          subst e1
          rw [upd_self] at hm
          cases hm
          exact absurd e'.symm this
      · rw [upd_ne e1] at hm
        by_cases e2 : n = h.next
        · have := apart m d q e1 hm hq
          subst e2
          rw [upd_self] at hn
          cases hn
          exact absurd e' this
        · rw [upd_ne e2] at hn
          exact R.inj m n d d' hm hn (by rw [(old m q e1 hq).1]; rfl) (by rw [(old n q' e2 hq').1]; rfl) e'
    · by_cases e' : m = h.next
      · subst e'; rw [upd_self] at hm; cases hm; exact hB
      · rw [upd_ne e'] at hm
        exact R.own m d q hm (old m q e' hq).1 hw
    · exact R.below.trans ⟨f2, f3, f4, by rw [f1]; exact Nat.le_refl _, fun k hk => heap_setCells_ne _ _ _ _ _ (by omega)⟩

/-! ### maps, iterators -/

theorem setBlock_frame (w : World) (r : Nat) (o : Go.Obj) : ({ w with heap := w.heap.setIfInBounds r o } : World).heap.size = w.heap.size ∧ ∀ k, k ≠ r → ({ w with heap := w.heap.setIfInBounds r o } : World).heap[k]? = w.heap[k]? :=
  ⟨by simp, fun k hk => by simp [Ne.symm hk]⟩

/-- An object that is no row, changed. -/
theorem HRel.setObj (R : HRel B w0 ρ h w) {l : Lb} {b : Blk} {o p : Obj} {x : Go.Obj} (hl : ρ l = some b) (ho : h.get l = some o) (hw : o.writes = true)
    (hp : ∀ w' : World, w'.heap[b.block]? = some x → ORel ρ b w' p) : HRel B w0 ρ (h.set l p) { w with heap := w.heap.setIfInBounds b.block x } := by
  have hlt := (R.obj l b o hl ho).lt
  obtain ⟨f1, f2⟩ := setBlock_frame w b.block x
  exact R.change hl ho hw f1 f2 rfl rfl rfl (hp _ (by simp [hlt]))

end
end Go.Dx
namespace Go.Dx
open Go Go.RowKit

section operands
variable {ρ : Rho} {C : CE} {tm : T V} {a : Act}

/-- The temporaries: each stands for its own. -/
structure TRel (ρ : Rho) (n : Nat) (tm : T V) (tmps : Array Value) : Prop where
  size : tmps.size = n
  small : n ≤ 65536
  get : ∀ t, t < n → RV ρ (getT tm (pathOf t)) (tmps.getD t Go.undef)

/-- The package-level variables' labels. -/
def GRel (ρ : Rho) (G : Nat) : Prop := ∀ g, g < G → ∃ n, ρ (pathOf g) = some (Blk.mk g 0 n .nilFunc)

theorem GRel.mono {ρ ρ' : Rho} (e : Ext' ρ ρ') {G : Nat} (h : GRel ρ G) : GRel ρ' G := fun g hg => let ⟨n, k⟩ := h g hg; ⟨n, e _ _ k⟩

theorem TRel.mono {ρ ρ' : Rho} (e : Ext' ρ ρ') {n : Nat} {tm : T V} {tmps : Array Value} (h : TRel ρ n tm tmps) : TRel ρ' n tm tmps := ⟨h.size, h.small, fun t ht => (h.get t ht).mono e⟩

theorem ofFlat_ok {v : Value} {d : V} (h : ofFlat v = some d) : RV ρ d v := by
  unfold ofFlat at h
  split at h <;> first
    | (cases h; first | exact .bool _ | exact .int _ _ | exact .str _ | exact .nilPtr | exact .nilSlice _ | exact .nilMap | exact .func _ .nil .nil | exact .nilFunc | exact .nilIface | exact .tuple .nil)
    | cases h

theorem ofFlats_ok : ∀ {vs : List Value} {ds : List V}, ofFlats vs = some ds → RVs ρ ds vs
  | [], ds, h => by simp [ofFlats] at h; subst h; exact .nil
  | v :: vs, ds, h => by
    simp only [ofFlats, ob_some] at h
    obtain ⟨d, h1, r, h2, h3⟩ := h
    cases h3
    exact .cons (ofFlat_ok h1) (ofFlats_ok h2)

theorem ofConst_ok {v : Value} {d : V} (h : ofConst v = some d) : RV ρ d v := by
  unfold ofConst at h
  split at h
  · simp only [ob_some] at h
    obtain ⟨ds, h1, h2⟩ := h
    cases h2
    exact .agg (ofFlats_ok h1)
  · exact ofFlat_ok h

theorem compX_ok (hC : TRel ρ C.n tm a.tmps) (hG : GRel ρ C.G) {x : Operand} {d : X} (h : compX C x = some d) : RV ρ (d.ev tm) (a.eval x) := by
  cases x with
  | tmp t =>
    simp only [compX, chk_some] at h
    obtain ⟨h1, h2⟩ := h
    cases h2
    exact hC.get t (by simpa using h1)
  | const v =>
    simp only [compX, ob_some] at h
    obtain ⟨d', h1, h2⟩ := h
    cases h2
    exact ofConst_ok h1
  | global g =>
    simp only [compX, chk_some] at h
    obtain ⟨h1, h2⟩ := h
    cases h2
    obtain ⟨n, hn⟩ := hG g (by simpa using h1)
    have := RV.ptr (ρ := ρ) 0 hn
    show RV ρ (.ptr (pathOf g) 0) (.pointer (some ⟨g, 0, none⟩))
    simpa using this
  | func f =>
    simp only [compX, Option.some.injEq] at h
    cases h
    exact .func f .nil .nil

theorem compXs_ok (hC : TRel ρ C.n tm a.tmps) (hG : GRel ρ C.G) : ∀ {xs : List Operand} {ds : List X}, compXs C xs = some ds → RVs ρ (evs tm ds) (xs.map a.eval)
  | [], ds, h => by simp [compXs] at h; subst h; exact .nil
  | x :: xs, ds, h => by
    simp only [compXs, ob_some] at h
    obtain ⟨d, h1, r, h2, h3⟩ := h
    cases h3
    exact .cons (compX_ok hC hG h1) (compXs_ok hC hG h2)

inductive ROpt (ρ : Rho) : Option V → Option Value → Prop
  | none : ROpt ρ none none
  | some {v : V} {x : Value} (h : RV ρ v x) : ROpt ρ (some v) (some x)

theorem compXo_ok (hC : TRel ρ C.n tm a.tmps) (hG : GRel ρ C.G) {x : Option Operand} {d : Option X} (h : compXo C x = some d) : ROpt ρ (evo tm d) (x.map a.eval) := by
  cases x with
  | none => simp [compXo] at h; subst h; exact .none
  | some x =>
    simp only [compXo, ob_some] at h
    obtain ⟨d', h1, h2⟩ := h
    cases h2
    exact .some (compX_ok hC hG h1)

end operands

/-! ### types -/

section
variable {P : Program} {ρ : Rho} {w : World}

theorem sizeT_ok {t : TypeId} {n : Nat} (h : sizeT P t = some n) : ∃ i, P.info? t = some i ∧ i.size = n := by
  simp only [sizeT, ob_some] at h
  obtain ⟨i, h1, h2⟩ := h
  cases h2
  exact ⟨i, h1, rfl⟩

theorem run_sizeT {t : TypeId} {n : Nat} (h : sizeT P t = some n) (w : World) : (sizeOf t).run P w = .ok n w := by
  obtain ⟨i, h1, rfl⟩ := sizeT_ok h
  simp [sizeOf, typeInfo, h1]

theorem run_bytesT {t : TypeId} {n : Nat} (h : bytesT P t = some n) (w : World) : ∃ i, (typeInfo t).run P w = .ok i w ∧ i.bytes = n := by
  simp only [bytesT, ob_some] at h
  obtain ⟨i, h1, h2⟩ := h
  cases h2
  exact ⟨i, by simp [typeInfo, h1], rfl⟩

theorem run_zeroT {t : TypeId} {v : V} (h : zeroT P t = some v) : ∃ x, RV ρ v x ∧ ∀ w, (zeroValue t).run P w = .ok x w := by
  simp only [zeroT, ob_some] at h
  obtain ⟨i, h1, z, h2, h3⟩ := h
  exact ⟨z, ofConst_ok h3, fun w => by simp [zeroValue, typeInfo, h1, h2]⟩

theorem cells_of_one {x : Value} (h : x.oneCell' = true) : x.cells = #[x] := by
  cases x <;> first | rfl | simp [Value.oneCell'] at h

theorem RV.cells {v : V} {x : Value} (h : RV ρ v x) : RVs ρ v.cells x.cells.toList := by
  cases h with
  | agg h => exact h
  | bool b => exact .cons (.bool b) .nil
  | int k n => exact .cons (.int k n) .nil
  | str t => exact .cons (.str t) .nil
  | nilPtr => exact .cons .nilPtr .nil
  | ptr off h => exact .cons (.ptr off h) .nil
  | nilSlice c => exact .cons (.nilSlice c) .nil
  | slice off len c h => exact .cons (.slice off len c h) .nil
  | sliceEnd off len size c h hl hc => exact .cons (.sliceEnd off len size c h hl hc) .nil
  | nilMap => exact .cons .nilMap .nil
  | map h => exact .cons (.map h) .nil
  | func f ha hb => exact .cons (.func f ha hb) .nil
  | nilFunc => exact .cons .nilFunc .nil
  | iface t h => exact .cons (.iface t h) .nil
  | nilIface => exact .cons .nilIface .nil
  | tuple h => exact .cons (.tuple h) .nil
  | sym h ht hv => rw [cells_of_one (symOk_one hv)]; exact .cons (.sym h ht hv) .nil
  | any h => rw [cells_of_one (symOk_one h)]; exact .cons (.any h) .nil
  | empty a c => exact .cons (.empty a c) .nil
  | rng h1 h2 => exact .cons (.rng h1 h2) .nil

/-- What a part of so many cells is. -/
theorem rdT_ok {t : TypeId} {rd : Rd} (h : rdT P t = some rd) :
    (rd = .one ∧ ∀ w, (isAgg t).run P w = .ok false w) ∨ (∃ n, rd = .many n ∧ sizeT P t = some n ∧ ∀ w, (isAgg t).run P w = .ok true w) := by
  unfold rdT at h
  split at h
  · rename_i fs hu
    simp only [ob_some] at h
    obtain ⟨n, h1, h2⟩ := h
    cases h2
    exact .inr ⟨n, rfl, h1, fun w => by simp [isAgg, run_underlying hu]⟩
  · rename_i n e hu
    simp only [ob_some] at h
    obtain ⟨n, h1, h2⟩ := h
    cases h2
    exact .inr ⟨n, rfl, h1, fun w => by simp [isAgg, run_underlying hu]⟩
  · rename_i d hns hna hu
    cases h
    refine .inl ⟨rfl, fun w => ?_⟩
    cases d with
    | struct fs => exact absurd rfl (hns fs)
    | array n e => exact absurd rfl (hna n e)
    | _ => simp [isAgg, run_underlying hu]
  · cases h

theorem dropN_drop : ∀ (n : Nat) (vs : List V), dropN n vs = vs.drop n
  | 0, vs => by simp [dropN]
  | n + 1, [] => by simp [dropN]
  | n + 1, v :: vs => by simp [dropN, dropN_drop n vs]

theorem part_ok {t : TypeId} {rd : Rd} (ht : rdT P t = some rd) {cs : List V} {xs : List Value} (hr : RVs ρ cs xs) {off : Nat} {v : V} (h : rdPart rd cs off = some v) :
    ∃ x, RV ρ v x ∧ ∀ w, (part t ⟨xs⟩ off).run P w = .ok x w := by
  rcases rdT_ok ht with ⟨rfl, ha⟩ | ⟨n, rfl, hs, ha⟩
  · simp only [rdPart] at h
    rw [dropN_drop, List.head?_drop] at h
    obtain ⟨x, h1, h2⟩ := hr.get h
    exact ⟨x, h2, fun w => by simp [part, ha, h1]⟩
  · simp only [rdPart, ob_some] at h
    obtain ⟨r, h1, h2⟩ := h
    cases h2
    obtain ⟨h3, h4⟩ := hr.rowFrom h1
    refine ⟨_, .agg h3, fun w => ?_⟩
    have hx : (⟨xs⟩ : Array Value).extract off (off + n) = ⟨(xs.drop off).take n⟩ := by
      apply Array.ext'
      simp
    simp [part, ha, run_sizeT hs]

end

/-! ### numbers and texts -/

theorem natsEq_iff : ∀ {a b : List Nat}, natsEq a b = true ↔ a = b
  | [], [] => by simp [natsEq]
  | [], _ :: _ => by simp [natsEq]
  | _ :: _, [] => by simp [natsEq]
  | a :: x, b :: y => by simp [natsEq, natsEq_iff (a := x) (b := y)]

theorem natsEq_eq (a b : List Nat) : natsEq a b = (a == b) := by
  rw [Bool.eq_iff_iff, natsEq_iff, beq_iff_eq]

theorem natsOf_inj {s t : ByteArray} (h : natsOf s = natsOf t) : s = t := by
  unfold natsOf at h
  have h2 : s.data.toList = t.data.toList := by
    have := congrArg (List.map UInt8.ofNat) h
    simpa [List.map_map, Function.comp_def] using this
  cases s with | mk s => cases t with | mk t =>
  cases s with | mk s => cases t with | mk t =>
  simp at h2
  rw [h2]

theorem natsOf_eq (s t : ByteArray) : natsEq (natsOf s) (natsOf t) = (s.data.toList == t.data.toList) := by
  rw [natsEq_eq, Bool.eq_iff_iff, beq_iff_eq, beq_iff_eq]
  refine ⟨fun h => ?_, fun h => by unfold natsOf; rw [h]⟩
  rw [natsOf_inj h]

theorem natsLess_eq : ∀ (a b : List UInt8), natsLess (a.map (·.toNat)) (b.map (·.toNat)) = Op.bytesLess a b
  | _, [] => by simp [natsLess, Op.bytesLess]
  | [], _ :: _ => by simp [natsLess, Op.bytesLess]
  | a :: x, b :: y => by
    simp only [List.map_cons, natsLess, Op.bytesLess, natsLess_eq x y]
    have h1 : Nat.blt a.toNat b.toNat = decide (a < b) := by
      rw [Bool.eq_iff_iff, decide_eq_true_iff, UInt8.lt_iff_toNat_lt]
      simp
    have h2 : Nat.beq a.toNat b.toNat = (a == b) := by
      rw [Bool.eq_iff_iff, beq_iff_eq, Nat.beq_eq]
      exact UInt8.toNat_inj
    rw [h1, h2]

theorem kindEq_iff {j k : IntKind} : kindEq j k = true ↔ j = k := by cases j <;> cases k <;> simp [kindEq]

theorem intEq_eq (a b : Int) : intEq a b = (a == b) := by
  rw [Bool.eq_iff_iff, beq_iff_eq]
  cases a <;> cases b <;> simp [intEq] <;> omega

theorem intLt_eq (a b : Int) : intLt a b = decide (a < b) := by
  rw [Bool.eq_iff_iff, decide_eq_true_iff]
  cases a <;> cases b <;> simp [intLt] <;> omega

theorem lowNat_eq {top : Nat} (ht : 0 < top) : ∀ n : Int, (lowNat top n : Int) = n % (top : Int)
  | .ofNat m => by simp [lowNat]
  | .negSucc m => by
    have h1 := Nat.mod_lt m ht
    show ((top - 1 - m % top : Nat) : Int) = Int.negSucc m % (top : Int)
    rw [Int.negSucc_emod _ (by omega)]
    omega

theorem lowNat_lt {top : Nat} (ht : 0 < top) : ∀ n : Int, lowNat top n < top
  | .ofNat m => Nat.mod_lt _ ht
  | .negSucc m => by have := Nat.mod_lt m ht; simp only [lowNat]; omega

theorem IK.top_eq (k : IntKind) : IK.top k = 2 ^ k.bits := by cases k <;> rfl
theorem IK.half_eq (k : IntKind) : IK.half k = 2 ^ (k.bits - 1) := by cases k <;> rfl
theorem IK.sgn_eq (k : IntKind) : IK.sgn k = k.signed := by cases k <;> rfl
theorem IK.top_pos (k : IntKind) : 0 < IK.top k := by cases k <;> decide
theorem bitsOf_eq (k : IntKind) : bitsOf k = k.bits := by cases k <;> rfl

theorem backInt_eq (k : IntKind) {m : Nat} (hm : m < IK.top k) : backInt (IK.sgn k) (IK.half k) (IK.top k) m = k.wrap (m : Int) := by
  have e : (m : Int) % (2 ^ k.bits : Int) = m := by
    have : (2 ^ k.bits : Int) = ((IK.top k : Nat) : Int) := by rw [IK.top_eq]; simp
    rw [this]; exact Int.emod_eq_of_lt (by omega) (by omega)
  unfold backInt IntKind.wrap
  simp only [e, IK.sgn_eq]
  have hh : (2 ^ (k.bits - 1) : Int) = ((IK.half k : Nat) : Int) := by rw [IK.half_eq]; simp
  have ht : (2 ^ k.bits : Int) = ((IK.top k : Nat) : Int) := by rw [IK.top_eq]; simp
  rw [hh, ht]
  by_cases hs : k.signed = true
  · by_cases hb : IK.half k ≤ m
    · have : Nat.ble (IK.half k) m = true := by rw [Nat.ble_eq]; exact hb
      simp [hs, this]
      rw [if_pos (by omega)]
      omega
    · have : Nat.ble (IK.half k) m = false := by rw [← Bool.not_eq_true, Nat.ble_eq]; exact hb
      simp [hs, this]
      intro h; exact absurd h hb
  · simp [Bool.not_eq_true] at hs
    simp [hs]

theorem wrap_mod (k : IntKind) (n : Int) : k.wrap (n % (2 ^ k.bits : Int)) = k.wrap n := by
  unfold IntKind.wrap
  simp

theorem wrapD_eq (k : IntKind) (n : Int) : wrapD k n = k.wrap n := by
  unfold wrapD
  rw [backInt_eq k (lowNat_lt (IK.top_pos k) n), lowNat_eq (IK.top_pos k)]
  have ht : ((IK.top k : Nat) : Int) = (2 ^ k.bits : Int) := by rw [IK.top_eq]; simp
  rw [ht, wrap_mod]

theorem ofInt_toNat (k : IntKind) (n : Int) : (BitVec.ofInt k.bits n).toNat = lowNat (IK.top k) n := by
  have := lowNat_eq (IK.top_pos k) n
  have ht : ((IK.top k : Nat) : Int) = (2 ^ k.bits : Int) := by rw [IK.top_eq]; simp
  rw [BitVec.toNat_ofInt]
  rw [ht] at this
  have e : ((2 ^ k.bits : Nat) : Int) = (2 ^ k.bits : Int) := by simp
  rw [e, ← this]
  simp

theorem bitsD_eq (k : IntKind) (x y : Int) (f : Nat → Nat → Nat) (g : BitVec k.bits → BitVec k.bits → BitVec k.bits)
    (h : ∀ a b : BitVec k.bits, (g a b).toNat = f a.toNat b.toNat) : bitsD f k x y = .int k (k.wrap (g (BitVec.ofInt k.bits x) (BitVec.ofInt k.bits y)).toNat) := by
  unfold bitsD
  have e := h (BitVec.ofInt k.bits x) (BitVec.ofInt k.bits y)
  rw [ofInt_toNat, ofInt_toNat] at e
  have hlt : f (lowNat (IK.top k) x) (lowNat (IK.top k) y) < IK.top k := by rw [← e, IK.top_eq]; exact BitVec.isLt _
  rw [backInt_eq k hlt, e]

end Go.Dx
namespace Go.Dx
open Go Go.RowKit

section
variable {P : Program} {ρ : Rho}

/-- A value that the model's program comes to, in every world. -/
def Gives (P : Program) (ρ : Rho) (v : V) (s : Sem Value) : Prop := ∃ x, RV ρ v x ∧ ∀ w, s.run P w = .ok x w

theorem Gives.pure {v : V} {x : Value} (h : RV ρ v x) : Gives P ρ v (Pure.pure x) := ⟨x, h, fun _ => rfl⟩

theorem intArith_ok {op : BinOp} {k : IntKind} {a b : Int} {v : V} (h : intOp op k a b = some v) (h1 : op ≠ .shl) (h2 : op ≠ .shr) (t : TypeId) :
    Gives P ρ v (Go.binOp op t (.int k a) (.int k b)) := by
  cases op
  case shl => exact absurd rfl h1
  case shr => exact absurd rfl h2
  case add => simp only [intOp, Option.some.injEq] at h; subst h; refine ⟨_, .int _ _, fun w => ?_⟩; simp [Go.binOp, Op.intArith, wrapD_eq]
  case sub => simp only [intOp, Option.some.injEq] at h; subst h; refine ⟨_, .int _ _, fun w => ?_⟩; simp [Go.binOp, Op.intArith, wrapD_eq]
  case mul => simp only [intOp, Option.some.injEq] at h; subst h; refine ⟨_, .int _ _, fun w => ?_⟩; simp [Go.binOp, Op.intArith, wrapD_eq]
  case quo =>
    simp only [intOp, chk_some, Option.some.injEq, intEq_eq] at h
    obtain ⟨hb, h⟩ := h; subst h; refine ⟨_, .int _ _, fun w => ?_⟩
    have : b ≠ 0 := by simpa using hb
    simp [Go.binOp, Op.intDiv, wrapD_eq, this]
  case rem =>
    simp only [intOp, chk_some, Option.some.injEq, intEq_eq] at h
    obtain ⟨hb, h⟩ := h; subst h; refine ⟨_, .int _ _, fun w => ?_⟩
    have : b ≠ 0 := by simpa using hb
    simp [Go.binOp, Op.intDiv, this]
  case and =>
    simp only [intOp, Option.some.injEq] at h
    rw [bitsD_eq k a b _ (fun a b => a &&& b) (fun a b => by rw [BitVec.toNat_and]; rfl)] at h
    subst h; exact ⟨_, .int _ _, fun w => by simp [Go.binOp, Op.intBits]⟩
  case or =>
    simp only [intOp, Option.some.injEq] at h
    rw [bitsD_eq k a b _ (fun a b => a ||| b) (fun a b => by rw [BitVec.toNat_or]; rfl)] at h
    subst h; exact ⟨_, .int _ _, fun w => by simp [Go.binOp, Op.intBits]⟩
  case xor =>
    simp only [intOp, Option.some.injEq] at h
    rw [bitsD_eq k a b _ (fun a b => a ^^^ b) (fun a b => by rw [BitVec.toNat_xor]; rfl)] at h
    subst h; exact ⟨_, .int _ _, fun w => by simp [Go.binOp, Op.intBits]⟩
  case andNot =>
    simp only [intOp, Option.some.injEq] at h
    rw [bitsD_eq k a b _ (fun a b => a &&& ~~~b) (fun a b => by
      have : a &&& ~~~b = a ^^^ (a &&& b) := by
        apply BitVec.eq_of_getLsbD_eq
        intro i hi
        simp [hi]
        cases a[i] <;> cases b[i] <;> rfl
      rw [this, BitVec.toNat_xor, BitVec.toNat_and]; rfl)] at h
    subst h; exact ⟨_, .int _ _, fun w => by simp [Go.binOp, Op.intBits]⟩
  case eql => simp only [intOp, Option.some.injEq, intEq_eq] at h; subst h; exact ⟨_, .bool _, fun w => by simp [Go.binOp, Op.intCmp]⟩
  case neq => simp only [intOp, Option.some.injEq, intEq_eq] at h; subst h; exact ⟨_, .bool _, fun w => by simp [Go.binOp, Op.intCmp, bne]⟩
  case lss => simp only [intOp, Option.some.injEq, intLt_eq] at h; subst h; exact ⟨_, .bool _, fun w => by simp [Go.binOp, Op.intCmp]⟩
  case leq =>
    simp only [intOp, Option.some.injEq, intLt_eq] at h; subst h; refine ⟨_, .bool _, fun w => ?_⟩
    have : (!decide (b < a)) = decide (a ≤ b) := by rw [Bool.eq_iff_iff]; simp
    simp only [Go.binOp, Op.intCmp, this]; simp
  case gtr => simp only [intOp, Option.some.injEq, intLt_eq] at h; subst h; exact ⟨_, .bool _, fun w => by simp [Go.binOp, Op.intCmp]⟩
  case geq =>
    simp only [intOp, Option.some.injEq, intLt_eq] at h; subst h; refine ⟨_, .bool _, fun w => ?_⟩
    have : (!decide (a < b)) = decide (a ≥ b) := by rw [Bool.eq_iff_iff]; simp
    simp only [Go.binOp, Op.intCmp, this]; simp

theorem shiftOp_ok {op : BinOp} {k j : IntKind} {a b : Int} {v : V} (h : shiftOp op k a b = some v) (t : TypeId) : Gives P ρ v (Go.binOp op t (.int k a) (.int j b)) := by
  unfold shiftOp at h
  cases b with
  | negSucc n => simp at h
  | ofNat n =>
    cases a with
    | negSucc m => cases op <;> simp at h
    | ofNat m =>
      cases op <;> simp only [Option.some.injEq, reduceCtorEq] at h
      case shl =>
        have e : Nat.shiftLeft m (Nat.min n k.bits) = m * 2 ^ (min n k.bits) := by rw [show Nat.shiftLeft m (Nat.min n k.bits) = m <<< (min n k.bits) from rfl, Nat.shiftLeft_eq]
        rw [bitsOf_eq, e, wrapD_eq] at h
        subst h
        refine ⟨_, .int _ _, fun w => ?_⟩
        have hn : ¬ ((n : Nat) : Int) < 0 := by omega
        simp [Go.binOp, Op.shift, hn]
      case shr =>
        have e : Nat.shiftRight m (Nat.min n k.bits) = m / 2 ^ (min n k.bits) := by rw [show Nat.shiftRight m (Nat.min n k.bits) = m >>> (min n k.bits) from rfl, Nat.shiftRight_eq_div_pow]
        rw [bitsOf_eq, e] at h
        subst h
        refine ⟨_, .int _ _, fun w => ?_⟩
        have hn : ¬ ((n : Nat) : Int) < 0 := by omega
        have h2 : (0 : Int) ≤ 2 ^ (min n k.bits) := Int.le_of_lt (Int.pow_pos (by decide))
        simp [Go.binOp, Op.shift, hn, Int.fdiv_eq_ediv_of_nonneg _ h2]

theorem natsOf_length (s : ByteArray) : (natsOf s).length = s.size := by simp [natsOf]

theorem natsOf_append (s t : ByteArray) : natsOf (s ++ t) = natsOf s ++ natsOf t := by
  unfold natsOf; rw [Go.Joins.data_append]; simp

theorem strOp_ok {op : BinOp} {s t : ByteArray} {v : V} (h : strOp op (natsOf s) (natsOf t) = some v) (ty : TypeId) : Gives P ρ v (Go.binOp op ty (.string s) (.string t)) := by
  have e1 : natsEq (natsOf s) (natsOf t) = (s.toList == t.toList) := by rw [natsOf_eq, ByteArray.toList_eq, ByteArray.toList_eq]
  have e2 : natsLess (natsOf s) (natsOf t) = Op.bytesLess s.toList t.toList := by unfold natsOf; rw [natsLess_eq, ByteArray.toList_eq, ByteArray.toList_eq]
  cases op <;> simp only [strOp, Option.some.injEq, reduceCtorEq, e1, e2, chk_some] at h
  case add =>
    obtain ⟨hb, h⟩ := h
    rw [← natsOf_append] at h
    subst h
    refine ⟨_, .str _, fun w => ?_⟩
    have hb' : (natsOf s).length + (natsOf t).length < 9223372036854775807 := by simpa using hb
    rw [natsOf_length, natsOf_length] at hb'
    have : ¬ ((s.size + t.size : Nat) : Int) > IntKind.i64.max := by rw [IntKind.max_i64]; omega
    simp only [Go.binOp, Op.stringOp, if_neg this]; rfl
  all_goals (subst h; exact ⟨_, .bool _, fun w => by simp [Go.binOp, Op.stringOp]⟩)

theorem bytes_beq (s t : ByteArray) : (s == t) = (s.data.toList == t.data.toList) := by
  show ByteArray.beq s t = _
  unfold ByteArray.beq
  rw [Bool.eq_iff_iff, beq_iff_eq, beq_iff_eq]
  exact ⟨fun h => by rw [h], fun h => by
    cases s with | mk s => cases t with | mk t => cases s with | mk s => cases t with | mk t => simp at h; rw [h]⟩

theorem boolEqD_eq (a b : Bool) : boolEqD a b = (a == b) := by cases a <;> cases b <;> rfl

/-- What a plain comparison says of the values. -/
theorem cellEq_ok {pk : PK} {v u : V} {x y : Value} {b : Bool} (hv : RV ρ v x) (hu : RV ρ u y) (h : cellEq pk v u = some b) :
    (pk = .bool ∧ ∃ c d, x = .bool c ∧ y = .bool d ∧ b = (c == d)) ∨ (pk = .int ∧ ∃ k c d, x = .int k c ∧ y = .int k d ∧ b = (c == d)) ∨ (pk = .str ∧ ∃ s t : ByteArray, x = .string s ∧ y = .string t ∧ b = (s == t)) := by
  cases pk with
  | bool =>
    simp only [cellEq] at h
    split at h
    · cases hv; cases hu
      cases h
      exact .inl ⟨rfl, _, _, rfl, rfl, boolEqD_eq _ _⟩
    · cases h
  | int =>
    simp only [cellEq] at h
    split at h
    · cases hv; cases hu
      simp only [chk_some, kindEq_iff, Option.some.injEq] at h
      obtain ⟨rfl, h⟩ := h
      exact .inr (.inl ⟨rfl, _, _, _, rfl, rfl, by rw [← h, intEq_eq]⟩)
    · cases h
  | str =>
    simp only [cellEq] at h
    split at h
    · cases hv with | str s => cases hu with | str t =>
      simp only [Option.some.injEq] at h
      exact .inr (.inr ⟨rfl, s, t, rfl, rfl, by rw [← h, natsOf_eq, bytes_beq]⟩)
    · cases h
  | no => simp [cellEq] at h

end
end Go.Dx
namespace Go.Dx
open Go Go.RowKit

section
variable {P : Program} {ρ : Rho} {w : World}

theorem isNatBeq {a b : Nat} : Nat.beq a b = (a == b) := by rw [Bool.eq_iff_iff, Nat.beq_eq, beq_iff_eq]

theorem eqIn_ptr (d : Nat) {t e : TypeId} {n : Nat} (hu : P.underlying t = some (.pointer e)) (hs : sizeT P e = some (n + 1)) (b o p : Nat) :
    (Op.equalIn (d + 1) t (.pointer (some ⟨b, o, none⟩)) (.pointer (some ⟨b, p, none⟩))).run P w = .ok (o == p) w := by
  have e1 : ((⟨b, o, none⟩ : Addr) == ⟨b, p, none⟩) = (o == p) := by
    rw [Bool.eq_iff_iff, beq_iff_eq, beq_iff_eq]; simp
  simp [Op.equalIn, run_underlying hu, run_sizeT hs, sameAddr, e1]

theorem plainT_ok {t : TypeId} (h : plainT P t ≠ .no) : ∃ i, P.info? t = some i ∧ i.comparable = true ∧
    ((plainT P t = .int ∧ ∃ k, P.underlying t = some (.int k)) ∨ (plainT P t = .str ∧ P.underlying t = some .string) ∨ (plainT P t = .bool ∧ P.underlying t = some .bool)) := by
  unfold plainT at h ⊢
  cases hi : P.info? t with
  | none => simp [hi] at h
  | some i =>
    simp only [hi] at h ⊢
    cases hc : i.comparable with
    | false => simp [hc] at h
    | true =>
      simp only [hc] at h ⊢
      refine ⟨i, rfl, hc, ?_⟩
      cases hu : P.underlying t with
      | none => simp [hu] at h
      | some d => cases d <;> simp [hu] at h ⊢

theorem eqIn_flat (d : Nat) {t : TypeId} {v u : V} {x y : Value} {b : Bool} (hv : RV ρ v x) (hu : RV ρ u y) (h : cellEq (plainT P t) v u = some b) :
    ∃ i, P.info? t = some i ∧ i.comparable = true ∧ (Op.equalIn (d + 1) t x y).run P w = .ok b w := by
  have hp : plainT P t ≠ .no := fun e => by rw [e] at h; simp [cellEq] at h
  obtain ⟨i, hi, hc, hk⟩ := plainT_ok hp
  refine ⟨i, hi, hc, ?_⟩
  rcases cellEq_ok hv hu h with ⟨e, c, d', rfl, rfl, rfl⟩ | ⟨e, k, c, d', rfl, rfl, rfl⟩ | ⟨e, s, t', rfl, rfl, rfl⟩
  · rcases hk with ⟨e', _⟩ | ⟨e', _⟩ | ⟨_, hk⟩
    · rw [e'] at e; cases e
    · rw [e'] at e; cases e
    · simp [Op.equalIn, run_underlying hk]
  · rcases hk with ⟨_, j, hk⟩ | ⟨e', _⟩ | ⟨e', _⟩
    · simp [Op.equalIn, run_underlying hk]
    · rw [e'] at e; cases e
    · rw [e'] at e; cases e
  · rcases hk with ⟨e', _⟩ | ⟨_, hk⟩ | ⟨e', _⟩
    · rw [e'] at e; cases e
    · simp [Op.equalIn, run_underlying hk]
    · rw [e'] at e; cases e

theorem eqIn_iface (n : Nat) {t a : TypeId} {ms : Array (String × TypeId)} {i : TypeInfo} {x y : Value} (ht : P.underlying t = some (.interface ms)) (hi : P.info? a = some i) (hc : i.comparable = true) :
    (Op.equalIn (n + 1) t (.iface a x) (.iface a y)).run P w = (Op.equalIn n a x y).run P w := by
  simp [Op.equalIn, run_underlying ht, typeInfo, hi, hc]

/-- A comparison whose guard says nothing, and what it comes to. -/
def EqRuns (P : Program) (op : BinOp) (t : TypeId) (ox oy : Operand) (x y : Value) (r : Bool) : Prop :=
  ∀ w n, 10 ≤ n → (eqGuard op t ox oy x y).run P w = .ok () w ∧ (Op.equalIn n t x y).run P w = .ok r w

theorem eqBool_ok {t : TypeId} {ox oy : Operand} {v u : V} {x y : Value} {r : Bool} (op : BinOp) (ht : P.underlying t = some .bool) (hv : RV ρ v x) (hu : RV ρ u y) (h : eqBool v u = some r) : EqRuns P op t ox oy x y r := by
  have hU := run_underlying ht
  cases hv <;> first | (simp [eqBool] at h; done) | skip
  cases hu <;> first | (simp [eqBool] at h; done) | skip
  simp only [eqBool, Option.some.injEq] at h
  subst h
  exact fun w n hn => ⟨by unfold eqGuard; cases op <;> simp, by obtain ⟨d, rfl⟩ : ∃ d, n = d + 2 := ⟨n - 2, by omega⟩; rw [boolEqD_eq]; simp only [Op.equalIn, Sem.run_bind, hU, Result.andThen_ok]; rfl⟩

theorem eqPtr_ok {t e : TypeId} {n : Nat} {ox oy : Operand} {v u : V} {x y : Value} {r : Bool} (op : BinOp) (ht : P.underlying t = some (.pointer e)) (hs : sizeT P e = some (n + 1)) (hv : RV ρ v x) (hu : RV ρ u y)
    (h : eqPtr v u = some r) : EqRuns P op t ox oy x y r := by
  have hU := run_underlying ht
  cases hv <;> first | (simp [eqPtr] at h; done) | skip
  · cases hu <;> first | (simp [eqPtr] at h; done) | skip
    · simp only [eqPtr, Option.some.injEq] at h; subst h
      exact fun w n hn => ⟨by unfold eqGuard; cases op <;> simp, by obtain ⟨d, rfl⟩ : ∃ d, n = d + 2 := ⟨n - 2, by omega⟩; simp only [Op.equalIn, Sem.run_bind, hU, Result.andThen_ok]; rfl⟩
    · simp only [eqPtr, Option.some.injEq] at h; subst h
      exact fun w n hn => ⟨by unfold eqGuard; cases op <;> simp, by obtain ⟨d, rfl⟩ : ∃ d, n = d + 2 := ⟨n - 2, by omega⟩; simp only [Op.equalIn, Sem.run_bind, hU, Result.andThen_ok]; rfl⟩
  · cases hu <;> first | (simp [eqPtr] at h; done) | skip
    · simp only [eqPtr, Option.some.injEq] at h; subst h
      exact fun w n hn => ⟨by unfold eqGuard; cases op <;> simp, by obtain ⟨d, rfl⟩ : ∃ d, n = d + 2 := ⟨n - 2, by omega⟩; simp only [Op.equalIn, Sem.run_bind, hU, Result.andThen_ok]; rfl⟩
    · rename_i l b o hb m c p hc
      simp only [eqPtr, chk_some, Option.some.injEq] at h
      obtain ⟨hl, h⟩ := h
      have := lbEq_iff hl
      subst this
      rw [hb] at hc
      cases hc
      refine fun w n hn => ⟨by unfold eqGuard; cases op <;> simp, ?_⟩
      obtain ⟨d, rfl⟩ : ∃ d, n = d + 1 := ⟨n - 1, by omega⟩
      rw [eqIn_ptr d ht hs, ← h, isNatBeq]
      congr 1
      rw [Bool.eq_iff_iff, beq_iff_eq, beq_iff_eq]; omega

theorem eqIface_ok {t : TypeId} {ms : Array (String × TypeId)} {ox oy : Operand} {v u : V} {x y : Value} {r : Bool} (op : BinOp) (ht : P.underlying t = some (.interface ms)) (hv : RV ρ v x) (hu : RV ρ u y)
    (h : eqIface (plainT P) (isLitNil ox || isLitNil oy) v u = some r) : EqRuns P op t ox oy x y r := by
  have hU := run_underlying ht
  cases hv <;> first | (simp [eqIface] at h; done) | skip
  · cases hu <;> first | (simp [eqIface] at h; done) | skip
    · rename_i a v x hx b u y hy
      simp only [eqIface] at h
      refine fun w n hn => ⟨by unfold eqGuard; cases op <;> simp, ?_⟩
      obtain ⟨d, rfl⟩ : ∃ d, n = d + 2 := ⟨n - 2, by omega⟩
      split at h
      · rename_i hb
        have : a ≠ b := by intro e; subst e; rw [Nat.beq_refl] at hb; cases hb
        cases h
        simp only [Op.equalIn, Sem.run_bind, hU, Result.andThen_ok, if_pos this]; rfl
      · rename_i hb
        have : a = b := Nat.eq_of_beq_eq_true hb
        subst this
        obtain ⟨i, hi, hc, hk⟩ := eqIn_flat (w := w) d hx hy h
        rw [eqIn_iface (d + 1) ht hi hc]
        exact hk
    · simp only [eqIface, Option.some.injEq] at h; subst h
      exact fun w n hn => ⟨by unfold eqGuard; cases op <;> simp, by obtain ⟨d, rfl⟩ : ∃ d, n = d + 2 := ⟨n - 2, by omega⟩; simp only [Op.equalIn, Sem.run_bind, hU, Result.andThen_ok]; rfl⟩
  · cases hu <;> first | (simp [eqIface] at h; done) | skip
    · simp only [eqIface, Option.some.injEq] at h; subst h
      exact fun w n hn => ⟨by unfold eqGuard; cases op <;> simp, by obtain ⟨d, rfl⟩ : ∃ d, n = d + 2 := ⟨n - 2, by omega⟩; simp only [Op.equalIn, Sem.run_bind, hU, Result.andThen_ok]; rfl⟩
    · simp only [eqIface, chk_some, Option.some.injEq] at h
      obtain ⟨hl, h⟩ := h; subst h
      refine fun w n hn => ⟨?_, by obtain ⟨d, rfl⟩ : ∃ d, n = d + 2 := ⟨n - 2, by omega⟩; simp only [Op.equalIn, Sem.run_bind, hU, Result.andThen_ok]; rfl⟩
      unfold eqGuard
      cases ox <;> cases oy <;> cases op <;> simp [isLitNil] at hl ⊢

theorem eqIn_slice_nn {t e : TypeId} (d : Nat) (ht : P.underlying t = some (.slice e)) (n m n' m' : Nat) (w : World) : (Op.equalIn (d + 2) t (.slice none n m) (.slice none n' m')).run P w = .ok true w := by
  simp only [Op.equalIn, Sem.run_bind, run_underlying ht, Result.andThen_ok]; rfl
theorem eqIn_slice_ns {t e : TypeId} (d : Nat) (ht : P.underlying t = some (.slice e)) (a : Addr) (n m n' m' : Nat) (w : World) : (Op.equalIn (d + 2) t (.slice none n m) (.slice (some a) n' m')).run P w = .ok false w := by
  simp only [Op.equalIn, Sem.run_bind, run_underlying ht, Result.andThen_ok]; rfl
theorem eqIn_slice_sn {t e : TypeId} (d : Nat) (ht : P.underlying t = some (.slice e)) (a : Addr) (n m n' m' : Nat) (w : World) : (Op.equalIn (d + 2) t (.slice (some a) n m) (.slice none n' m')).run P w = .ok false w := by
  simp only [Op.equalIn, Sem.run_bind, run_underlying ht, Result.andThen_ok]; rfl

theorem eqSlice_ok {t e : TypeId} {ox oy : Operand} {v u : V} {x y : Value} {r : Bool} (op : BinOp) (ht : P.underlying t = some (.slice e)) (hv : RV ρ v x) (hu : RV ρ u y) (h : eqSlice v u = some r) : EqRuns P op t ox oy x y r := by
  have key : ∀ {a a' : Option Addr} {n m n' m' : Nat} {r : Bool}, (∀ w d, (Op.equalIn (d + 2) t (.slice a n m) (.slice a' n' m')).run P w = .ok r w) → EqRuns P op t ox oy (.slice a n m) (.slice a' n' m') r := fun hk w n hn =>
    ⟨by unfold eqGuard; cases op <;> simp, by obtain ⟨d, rfl⟩ : ∃ d, n = d + 2 := ⟨n - 2, by omega⟩; exact hk w d⟩
  have nn : ∀ {n m n' m' : Nat}, EqRuns P op t ox oy (.slice none n m) (.slice none n' m') true := key fun w d => eqIn_slice_nn d ht _ _ _ _ w
  have ns : ∀ {a : Addr} {n m n' m' : Nat}, EqRuns P op t ox oy (.slice none n m) (.slice (some a) n' m') false := key fun w d => eqIn_slice_ns d ht _ _ _ _ _ w
  have sn : ∀ {a : Addr} {n m n' m' : Nat}, EqRuns P op t ox oy (.slice (some a) n m) (.slice none n' m') false := key fun w d => eqIn_slice_sn d ht _ _ _ _ _ w
  unfold eqSlice at h
  split at h <;> first | (cases h; done) | skip
  all_goals (cases h; cases hv <;> (cases hu <;> first | exact nn | exact ns | exact sn))

theorem eqMap_ok {t k e : TypeId} {ox oy : Operand} {v u : V} {x y : Value} {r : Bool} (op : BinOp) (ht : P.underlying t = some (.map k e)) (hv : RV ρ v x) (hu : RV ρ u y) (h : eqMap v u = some r) : EqRuns P op t ox oy x y r := by
  have hU := run_underlying ht
  cases hv <;> first | (simp [eqMap] at h; done) | skip
  all_goals (cases hu <;> first | (simp [eqMap] at h; done) | skip)
  all_goals (simp only [eqMap, Option.some.injEq] at h; subst h; exact fun w n hn => ⟨by unfold eqGuard; cases op <;> simp, by obtain ⟨d, rfl⟩ : ∃ d, n = d + 2 := ⟨n - 2, by omega⟩; simp only [Op.equalIn, Sem.run_bind, hU, Result.andThen_ok]; rfl⟩)

theorem eqFunc_ok {t : TypeId} {a b : Array TypeId} {c : Bool} {ox oy : Operand} {v u : V} {x y : Value} {r : Bool} (op : BinOp) (ht : P.underlying t = some (.func a b c)) (hv : RV ρ v x) (hu : RV ρ u y) (h : eqFunc v u = some r) :
    EqRuns P op t ox oy x y r := by
  have hU := run_underlying ht
  cases hv <;> first | (simp [eqFunc] at h; done) | skip
  all_goals (cases hu <;> first | (simp [eqFunc] at h; done) | skip)
  all_goals (simp only [eqFunc, Option.some.injEq] at h; subst h; exact fun w n hn => ⟨by unfold eqGuard; cases op <;> simp, by obtain ⟨d, rfl⟩ : ∃ d, n = d + 2 := ⟨n - 2, by omega⟩; simp only [Op.equalIn, Sem.run_bind, hU, Result.andThen_ok]; rfl⟩)

theorem eqCells_append : ∀ {a b : List PK} {x y : List V} {r : Bool}, eqCells (a ++ b) x y = some r → ∃ x1 x2 y1 y2 p q, x = x1 ++ x2 ∧ y = y1 ++ y2 ∧ x1.length = a.length ∧ y1.length = a.length ∧ eqCells a x1 y1 = some p ∧ eqCells b x2 y2 = some q ∧ r = (p && q)
  | [], b, x, y, r, h => ⟨[], x, [], y, true, r, rfl, rfl, rfl, rfl, rfl, h, rfl⟩
  | k :: a, b, [], y, r, h => by cases y <;> simp [eqCells] at h
  | k :: a, b, u :: x, [], r, h => by simp [eqCells] at h
  | k :: a, b, u :: x, v :: y, r, h => by
    simp only [List.cons_append, eqCells, ob_some, Option.some.injEq] at h
    obtain ⟨p, hp, q, hq, rfl⟩ := h
    obtain ⟨x1, x2, y1, y2, p', q', rfl, rfl, l1, l2, h1, h2, rfl⟩ := eqCells_append hq
    refine ⟨u :: x1, x2, v :: y1, y2, (match p with | true => p' | false => false), q', rfl, rfl, by simp [l1], by simp [l2], by simp only [eqCells, hp, h1, ob]; cases p <;> rfl, h2, ?_⟩
    cases p <;> rfl

theorem takeN_app : ∀ (a b : List V), takeN a.length (a ++ b) = some a
  | [], b => by cases b <;> rfl
  | x :: a, b => by simp only [List.length_cons, List.cons_append, takeN, takeN_app a b, ob]

/-- What the comparison of a type's cells says of the model's. -/
def AggProp (P : Program) (ρ : Rho) (d : Nat) (t : TypeId) (ks : List PK) : Prop := ∃ rd, rdT P t = some rd ∧
  ((rd = .one ∧ ∀ {v u : V} {x y : Value} {r : Bool} (n : Nat) (w : World), RV ρ v x → RV ρ u y → eqCells ks [v] [u] = some r → (Op.equalIn (n + d) t x y).run P w = .ok r w) ∨
   (rd ≠ .one ∧ ∀ {cs es : List V} {xs ys : List Value} {r : Bool} (n : Nat) (w : World), RVs ρ cs xs → RVs ρ es ys → eqCells ks cs es = some r → (Op.equalIn (n + d) t (.agg ⟨xs⟩) (.agg ⟨ys⟩)).run P w = .ok r w))

theorem eqFields_ok {d : Nat} (ih : ∀ {t ks}, aggKinds P d t = some ks → AggProp P ρ d t ks) : ∀ {fs : List Field} {at_ : Nat} {ks : List PK}, aggKinds.fieldKinds P (aggKinds P d) at_ fs = some ks → ∀ {cs es : List V} {xs ys : List Value} {r : Bool} (n : Nat) (w : World),
    RVs ρ cs xs → RVs ρ es ys → eqCells ks (dropN at_ cs) (dropN at_ es) = some r → (Op.eqFields (n + d) ⟨xs⟩ ⟨ys⟩ fs).run P w = .ok r w
  | [], at_, ks, hk, cs, es, xs, ys, r, n, w, hx, hy, h => by
    simp only [aggKinds.fieldKinds, Option.some.injEq] at hk
    subst hk
    have : r = true := by
      cases h1 : dropN at_ cs with
      | nil => cases h2 : dropN at_ es with
        | nil => rw [h1, h2] at h; simp only [eqCells, Option.some.injEq] at h; exact h.symm
        | cons _ _ => rw [h1, h2] at h; simp [eqCells] at h
      | cons _ _ => rw [h1] at h; simp [eqCells] at h
    subst this
    simp [Op.eqFields]
  | f :: fs, at_, ks, hk, cs, es, xs, ys, r, n, w, hx, hy, h => by
    simp only [aggKinds.fieldKinds, ob_some, chk_some, Option.some.injEq, Bool.and_eq_true] at hk
    obtain ⟨a, ha, m, hm, ⟨⟨ho, hl⟩, hnm⟩, rest, hr, rfl⟩ := hk
    have ho := Nat.eq_of_beq_eq_true ho
    have hl := Nat.eq_of_beq_eq_true hl
    have hnm : f.name ≠ "_" := by simpa using hnm
    subst ho; subst hl
    obtain ⟨x1, x2, y1, y2, p, q, e1, e2, l1, l2, h1, h2, rfl⟩ := eqCells_append h
    have d1 : dropN (f.offset + a.length) cs = x2 := by rw [dropN_drop] at e1 ⊢; rw [← List.drop_drop, e1, ← l1, List.drop_left]
    have d2 : dropN (f.offset + a.length) es = y2 := by rw [dropN_drop] at e2 ⊢; rw [← List.drop_drop, e2, ← l2, List.drop_left]
    have tail := eqFields_ok ih hr n w hx hy (by rw [d1, d2]; exact h2)
    obtain ⟨rd, hrd, hp⟩ := ih ha
    have key : ∃ x y, (part f.type ⟨xs⟩ f.offset).run P w = .ok x w ∧ (part f.type ⟨ys⟩ f.offset).run P w = .ok y w ∧ (Op.equalIn (n + d) f.type x y).run P w = .ok p w := by
      rcases hp with ⟨rfl, hp⟩ | ⟨hne, hp⟩
      · have a1 : a.length = 1 := by
          rcases rdT_ok hrd with ⟨_, _⟩ | ⟨n, e, _⟩
          · rw [aggKinds.eq_def] at ha
            cases d with
            | zero => simp at ha
            | succ d =>
              simp only at ha
              split at ha
              · cases ha; rfl
              · cases ha; rfl
              · cases ha; rfl
              · rename_i fs' hu
                simp only [rdT, hu, ob_some] at hrd
                obtain ⟨_, _, e⟩ := hrd
                cases e
              · cases ha
          · cases e
        obtain ⟨v, rfl⟩ : ∃ v, x1 = [v] := List.length_eq_one_iff.1 (by omega)
        obtain ⟨u, rfl⟩ : ∃ u, y1 = [u] := List.length_eq_one_iff.1 (by omega)
        obtain ⟨x, r1, p1⟩ := part_ok hrd hx (off := f.offset) (v := v) (by simp [rdPart, e1])
        obtain ⟨y, r2, p2⟩ := part_ok hrd hy (off := f.offset) (v := u) (by simp [rdPart, e2])
        exact ⟨x, y, p1 w, p2 w, hp n w r1 r2 h1⟩
      · rcases rdT_ok hrd with ⟨e, _⟩ | ⟨m, rfl, hm', _⟩
        · exact absurd e hne
        · rw [hm] at hm'; cases hm'
          have t1 : rowFrom cs f.offset a.length = some x1 := by unfold rowFrom; rw [e1, ← l1]; exact takeN_app x1 x2
          have t2 : rowFrom es f.offset a.length = some y1 := by unfold rowFrom; rw [e2, ← l2]; exact takeN_app y1 y2
          obtain ⟨x, r1, p1⟩ := part_ok hrd hx (off := f.offset) (v := .agg x1) (by simp only [rdPart, t1, ob])
          obtain ⟨y, r2, p2⟩ := part_ok hrd hy (off := f.offset) (v := .agg y1) (by simp only [rdPart, t2, ob])
          cases r1 with | agg r1 => cases r2 with | agg r2 =>
          exact ⟨_, _, p1 w, p2 w, hp n w r1 r2 h1⟩
    obtain ⟨x, y, p1, p2, p3⟩ := key
    simp only [Op.eqFields, if_pos hnm, Sem.run_bind, p1, p2, p3, Result.andThen_ok]
    cases p
    · simp
    · simpa using tail

theorem aggKinds_ok : ∀ {d : Nat} {t : TypeId} {ks : List PK}, aggKinds P d t = some ks → AggProp P ρ d t ks
  | 0, t, ks, h => by simp [aggKinds] at h
  | d + 1, t, ks, h => by
    have flat : ∀ {pk : PK}, ks = [pk] → rdT P t = some .one → (∀ v u x y b n w, RV ρ v x → RV ρ u y → cellEq pk v u = some b → (Op.equalIn (n + 1) t x y).run P w = .ok b w) → AggProp P ρ (d + 1) t ks := fun {pk} e hrd hk => by
      subst e
      refine ⟨.one, hrd, .inl ⟨rfl, fun {v u x y r} n w r1 r2 he => ?_⟩⟩
      simp only [eqCells, ob_some, Option.some.injEq] at he
      obtain ⟨b, hb, q, rfl, rfl⟩ := he
      have := hk v u x y b (n + d) w r1 r2 hb
      cases b <;> exact this
    unfold aggKinds at h
    split at h
    · rename_i hu
      cases h
      refine flat rfl (by simp [rdT, hu]) fun v u x y b n w r1 r2 hb => ?_
      rcases cellEq_ok r1 r2 hb with ⟨_, c, c', rfl, rfl, rfl⟩ | ⟨e, _⟩ | ⟨e, _⟩
      · simp [Op.equalIn, run_underlying hu]
      · cases e
      · cases e
    · rename_i k hu
      cases h
      refine flat rfl (by simp [rdT, hu]) fun v u x y b n w r1 r2 hb => ?_
      rcases cellEq_ok r1 r2 hb with ⟨e, _⟩ | ⟨_, k, c, c', rfl, rfl, rfl⟩ | ⟨e, _⟩
      · cases e
      · simp [Op.equalIn, run_underlying hu]
      · cases e
    · rename_i hu
      cases h
      refine flat rfl (by simp [rdT, hu]) fun v u x y b n w r1 r2 hb => ?_
      rcases cellEq_ok r1 r2 hb with ⟨e, _⟩ | ⟨e, _⟩ | ⟨_, s, s', rfl, rfl, rfl⟩
      · cases e
      · cases e
      · simp [Op.equalIn, run_underlying hu]
    · rename_i fs hu
      simp only [chk_some] at h
      obtain ⟨hst, h⟩ := h
      simp only [Bool.and_eq_true, Bool.not_eq_true'] at hst
      obtain ⟨hst, hsz⟩ := hst
      have hfo : P.fieldsOf t = fs := by simp [Program.fieldsOf, hu]
      have hrd : ∃ n, rdT P t = some (.many n) ∨ True := ⟨0, .inr trivial⟩
      cases hz : sizeT P t with
      | none => rw [hz] at hsz; cases hsz
      | some m =>
        refine ⟨.many m, by simp [rdT, hu, hz, ob], .inr ⟨by simp, fun {cs es xs ys r} n w r1 r2 he => ?_⟩⟩
        rw [show n + (d + 1) = (n + d) + 1 from rfl, run_equalIn_struct (P := P) w (n + d) t ⟨xs⟩ ⟨ys⟩ (by rw [hfo]; exact hu) (by simpa using hst), hfo]
        exact eqFields_ok (fun h => aggKinds_ok h) h n w r1 r2 (by simpa [dropN] using he)
    · cases h

theorem eqAgg_ok {t : TypeId} {fs : Array Field} {ks : List PK} {ox oy : Operand} {v u : V} {x y : Value} {r : Bool} (op : BinOp) (ht : P.underlying t = some (.struct fs)) (hk : aggKinds P 8 t = some ks) (hm : P.eqGuardType P.depth t = false)
    (hv : RV ρ v x) (hu : RV ρ u y) (h : eqAgg ks v u = some r) : EqRuns P op t ox oy x y r := by
  unfold eqAgg at h
  split at h
  · cases hv with | agg r1 => cases hu with | agg r2 =>
    obtain ⟨rd, hrd, hp⟩ := aggKinds_ok (ρ := ρ) hk
    have hne : rd ≠ .one := by
      intro e; subst e
      simp only [rdT, ht, ob_some] at hrd
      obtain ⟨_, _, e⟩ := hrd
      cases e
    rcases hp with ⟨e, _⟩ | ⟨_, hp⟩
    · exact absurd e hne
    · exact fun w n hn => ⟨run_eqGuard_agg w op t ox oy _ _ hm, by
        obtain ⟨d, rfl⟩ : ∃ d, n = d + 8 := ⟨n - 8, by omega⟩
        exact hp d w r1 r2 h⟩
  · cases h

theorem eqOp_ok {t : TypeId} {ox oy : Operand} {v u : V} {x y : Value} {r : Bool} (op : BinOp) (hv : RV ρ v x) (hu : RV ρ u y) (h : eqOp (plainT P) (eqKind P t ox oy) v u = some r) : EqRuns P op t ox oy x y r := by
  unfold eqKind at h
  split at h
  · rename_i ht; exact eqBool_ok op ht hv hu h
  · rename_i e ht
    split at h
    · simp [eqOp] at h
    · rename_i n hne hs
      cases n with
      | zero => exact absurd rfl hne
      | succ n => exact eqPtr_ok op ht hs hv hu h
    · simp [eqOp] at h
  · rename_i ht; exact eqIface_ok op ht hv hu h
  · rename_i ht; exact eqSlice_ok op ht hv hu h
  · rename_i ht; exact eqMap_ok op ht hv hu h
  · rename_i ht; exact eqFunc_ok op ht hv hu h
  · rename_i fs ht
    split at h
    · rename_i ks hk
      simp only [chk_some] at hk
      exact eqAgg_ok op ht hk.2 (by simpa using hk.1) hv hu h
    · simp [eqOp] at h
  · simp [eqOp] at h

theorem eqOp_plain {pl : TypeId → PK} {k : EK} {v u : V} {b : Bool} (h : eqOp pl k v u = some b) : plainV v = true ∧ plainV u = true := by
  unfold eqOp at h
  split at h
  · unfold eqBool at h; split at h <;> first | exact ⟨rfl, rfl⟩ | cases h
  · unfold eqPtr at h; split at h <;> first | exact ⟨rfl, rfl⟩ | cases h
  · unfold eqIface at h; split at h <;> first | exact ⟨rfl, rfl⟩ | cases h
  · unfold eqSlice at h; split at h <;> first | exact ⟨rfl, rfl⟩ | cases h
  · unfold eqMap at h; split at h <;> first | exact ⟨rfl, rfl⟩ | cases h
  · unfold eqFunc at h; split at h <;> first | exact ⟨rfl, rfl⟩ | cases h
  · unfold eqAgg at h; split at h <;> first | exact ⟨rfl, rfl⟩ | cases h
  · cases h

theorem rngOp_ok {op : BinOp} {a lo hi m : Int} {r : V} (h1 : lo ≤ m) (h2 : m ≤ hi) (h : rngOp op a lo hi = some r) : intOp op .i64 a m = some r := by
  unfold rngOp at h
  cases op <;> simp only [reduceCtorEq] at h
  all_goals
    simp only [intOp]
    split at h
    · rename_i hc
      cases h
      rw [intLt_eq] at hc
      simp only [intLt_eq, Option.some.injEq, V.bool.injEq]
      simp at hc ⊢
      omega
    · rename_i hc
      simp only [chk_some, Option.some.injEq] at h
      obtain ⟨h3, rfl⟩ := h
      rw [intLt_eq] at h3
      simp only [intLt_eq, Option.some.injEq, V.bool.injEq]
      simp at h3 ⊢
      omega

/-- The operation whole. -/
theorem binOp_ok {t : TypeId} {ox oy : Operand} {v u r : V} {x y : Value} {op : BinOp} (hv : RV ρ v x) (hu : RV ρ u y) (h : binOp (plainT P) op (eqKind P t ox oy) v u = some r) :
    Gives P ρ r (do eqGuard op t ox oy x y; Go.binOp op t x y) := by
  have ints : ∀ k a j b, x = .int k a → y = .int j b → ∀ w, (eqGuard op t ox oy x y).run P w = .ok () w := fun k a j b e e' w => by
    subst e; subst e'; unfold eqGuard; cases op <;> simp
  have strs : ∀ a b, x = .string a → y = .string b → ∀ w, (eqGuard op t ox oy x y).run P w = .ok () w := fun a b e e' w => by
    subst e; subst e'; unfold eqGuard; cases op <;> simp
  have fin : ∀ {s : Sem Value}, Gives P ρ r s → (∀ w, (eqGuard op t ox oy x y).run P w = .ok () w) → s = Go.binOp op t x y → Gives P ρ r (do eqGuard op t ox oy x y; Go.binOp op t x y) := fun ⟨z, hz, hr⟩ hg e =>
    ⟨z, hz, fun w => by rw [Sem.run_bind, hg w, Result.andThen_ok, ← e]; exact hr w⟩
  unfold binOp at h
  split at h
  · rename_i j a k b
    cases hv; cases hu
    have hg := ints _ _ _ _ rfl rfl
    cases op
    case shl => exact fin (shiftOp_ok h t) hg rfl
    case shr => exact fin (shiftOp_ok h t) hg rfl
    all_goals
      simp only [chk_some, kindEq_iff] at h
      obtain ⟨rfl, h⟩ := h
      exact fin (intArith_ok h (by simp) (by simp) t) hg rfl
  · rename_i a b
    cases hv with | str s => cases hu with | str u =>
    exact fin (strOp_ok h t) (strs _ _ rfl rfl) rfl
  · rename_i a lo hi
    cases hv; cases hu with | rng g1 g2 =>
    have hg := ints _ _ _ _ rfl rfl
    have h := rngOp_ok g1 g2 h
    cases op <;> first | (cases h; done) | exact fin (intArith_ok h (by simp) (by simp) t) hg rfl
  · rename_i lo hi a
    cases hu; cases hv with | rng g1 g2 =>
    have hg := ints _ _ _ _ rfl rfl
    cases op <;> simp only [reduceCtorEq] at h
    all_goals
      have h := rngOp_ok g1 g2 h
      exact fin (intArith_ok (by rw [← h]; rfl) (by simp) (by simp) t) hg rfl
  · rename_i hni hns _ _
    have big : ∀ a b, Op.equal t a b = Op.equalIn 10000 t a b := fun _ _ => rfl
    have hp : plainV v = true ∧ plainV u = true := by
      cases op <;> simp only [ob_some, reduceCtorEq] at h <;> (obtain ⟨b, h, _⟩ := h; exact eqOp_plain h)
    have shape : (∀ k a j b, ¬ (x = .int k a ∧ y = .int j b)) ∧ (∀ a b, ¬ (x = .string a ∧ y = .string b)) := by
      refine ⟨fun k a j b ⟨e, e'⟩ => ?_, fun a b ⟨e, e'⟩ => ?_⟩
      · subst e; subst e'; exact hni _ _ _ _ (rv_int hv hp.1) (rv_int hu hp.2)
      · subst e; subst e'; exact hns _ _ (rv_string hv hp.1) (rv_string hu hp.2)
    have nofl : (∀ k a, x ≠ .float k a) ∧ (∀ k a b, x ≠ .complex k a b) := ⟨fun k a e => (by subst e; exact rv_float hv hp.1), fun k a b e => (by subst e; exact rv_complex hv hp.1)⟩
    cases op <;> simp only [ob_some, reduceCtorEq] at h
    case eql =>
      obtain ⟨b, h, h2⟩ := h
      cases h2
      refine ⟨_, .bool b, fun w => ?_⟩
      obtain ⟨h1, h2⟩ := eqOp_ok .eql hv hu h w 10000 (by omega)
      have e : Go.binOp .eql t x y = (do pure (.bool (← Op.equal t x y))) := by
        cases x <;> cases y <;> first | rfl | (exact absurd ⟨rfl, rfl⟩ (shape.1 _ _ _ _)) | (exact absurd ⟨rfl, rfl⟩ (shape.2 _ _)) | (exact absurd rfl (nofl.1 _ _)) | (exact absurd rfl (nofl.2 _ _ _))
      rw [e, big]
      simp only [Sem.run_bind, h1, Result.andThen_ok, h2]; rfl
    case neq =>
      obtain ⟨b, h, h2⟩ := h
      cases h2
      refine ⟨_, .bool (!b), fun w => ?_⟩
      obtain ⟨h1, h2⟩ := eqOp_ok .neq hv hu h w 10000 (by omega)
      have e : Go.binOp .neq t x y = (do pure (.bool (!(← Op.equal t x y)))) := by
        cases x <;> cases y <;> first | rfl | (exact absurd ⟨rfl, rfl⟩ (shape.1 _ _ _ _)) | (exact absurd ⟨rfl, rfl⟩ (shape.2 _ _)) | (exact absurd rfl (nofl.1 _ _)) | (exact absurd rfl (nofl.2 _ _ _))
      rw [e, big]
      simp only [Sem.run_bind, h1, Result.andThen_ok, h2]; rfl

end
end Go.Dx
