/-
  The deterministic machine over labels: a region whose order is open, as it was run: what each operation yielded, and the heaps between the effects.
-/
import Derived.Test.YtkbjonoiecljiaaGreatDoorDxSame
namespace Go.Dx
open Go Go.RowKit

mutual
theorem vEq_eq : ∀ {a b : V}, vEq a b = true → a = b
  | .bool a, .bool b, h => by cases a <;> cases b <;> simp [vEq] at h ⊢
  | .int j a, .int k b, h => by
    simp only [vEq, Bool.and_eq_true] at h
    have h1 := kindEq_iff.1 h.1
    have h2 : a = b := by have := h.2; rw [intEq_eq] at this; simpa using this
    rw [h1, h2]
  | .str a, .str b, h => by simp only [vEq] at h; rw [natsEq_iff.1 h]
  | .nilPtr, .nilPtr, _ => rfl
  | .ptr l a, .ptr m b, h => by
    simp only [vEq, Bool.and_eq_true] at h
    rw [lbEq_iff h.1, Nat.eq_of_beq_eq_true h.2]
  | .nilSlice a, .nilSlice b, h => by simp only [vEq] at h; rw [Nat.eq_of_beq_eq_true h]
  | .slice l a n c, .slice m b k d, h => by
    simp only [vEq, Bool.and_eq_true] at h
    obtain ⟨⟨⟨h1, h2⟩, h3⟩, h4⟩ := h
    have e : c = d := by
      cases c <;> cases d <;> simp only [Bool.false_eq_true] at h4
      · rw [Nat.eq_of_beq_eq_true h4]
      · rw [Nat.eq_of_beq_eq_true h4]
    rw [lbEq_iff h1, Nat.eq_of_beq_eq_true h2, Nat.eq_of_beq_eq_true h3, e]
  | .nilMap, .nilMap, _ => rfl
  | .map a, .map b, h => by simp only [vEq] at h; rw [lbEq_iff h]
  | .func f a b, .func g c d, h => by
    simp only [vEq, Bool.and_eq_true] at h
    rw [Nat.eq_of_beq_eq_true h.1.1, vsEq_eq h.1.2, vsEq_eq h.2]
  | .nilFunc, .nilFunc, _ => rfl
  | .iface t a, .iface u b, h => by
    simp only [vEq, Bool.and_eq_true] at h
    rw [Nat.eq_of_beq_eq_true h.1, vEq_eq h.2]
  | .nilIface, .nilIface, _ => rfl
  | .agg a, .agg b, h => by simp only [vEq] at h; rw [vsEq_eq h]
  | .tuple a, .tuple b, h => by simp only [vEq] at h; rw [vsEq_eq h]
  | .sym a n, .sym b m, h => by
    simp only [vEq, Bool.and_eq_true] at h
    rw [lbEq_iff h.1, Nat.eq_of_beq_eq_true h.2]
  | .bool _, .int .., h | .bool _, .str _, h | .bool _, .nilPtr, h | .bool _, .ptr .., h | .bool _, .nilSlice _, h | .bool _, .slice .., h | .bool _, .nilMap, h | .bool _, .map _, h | .bool _, .func .., h | .bool _, .nilFunc, h | .bool _, .iface .., h | .bool _, .nilIface, h | .bool _, .agg _, h | .bool _, .tuple _, h => by simp [vEq] at h
  | .int .., .bool _, h | .int .., .str _, h | .int .., .nilPtr, h | .int .., .ptr .., h | .int .., .nilSlice _, h | .int .., .slice .., h | .int .., .nilMap, h | .int .., .map _, h | .int .., .func .., h | .int .., .nilFunc, h | .int .., .iface .., h | .int .., .nilIface, h | .int .., .agg _, h | .int .., .tuple _, h => by simp [vEq] at h
  | .str _, .bool _, h | .str _, .int .., h | .str _, .nilPtr, h | .str _, .ptr .., h | .str _, .nilSlice _, h | .str _, .slice .., h | .str _, .nilMap, h | .str _, .map _, h | .str _, .func .., h | .str _, .nilFunc, h | .str _, .iface .., h | .str _, .nilIface, h | .str _, .agg _, h | .str _, .tuple _, h => by simp [vEq] at h
  | .nilPtr, .bool _, h | .nilPtr, .int .., h | .nilPtr, .str _, h | .nilPtr, .ptr .., h | .nilPtr, .nilSlice _, h | .nilPtr, .slice .., h | .nilPtr, .nilMap, h | .nilPtr, .map _, h | .nilPtr, .func .., h | .nilPtr, .nilFunc, h | .nilPtr, .iface .., h | .nilPtr, .nilIface, h | .nilPtr, .agg _, h | .nilPtr, .tuple _, h => by simp [vEq] at h
  | .ptr .., .bool _, h | .ptr .., .int .., h | .ptr .., .nilPtr, h | .ptr .., .str _, h | .ptr .., .nilSlice _, h | .ptr .., .slice .., h | .ptr .., .nilMap, h | .ptr .., .map _, h | .ptr .., .func .., h | .ptr .., .nilFunc, h | .ptr .., .iface .., h | .ptr .., .nilIface, h | .ptr .., .agg _, h | .ptr .., .tuple _, h => by simp [vEq] at h
  | .nilSlice _, .bool _, h | .nilSlice _, .int .., h | .nilSlice _, .nilPtr, h | .nilSlice _, .ptr .., h | .nilSlice _, .str _, h | .nilSlice _, .slice .., h | .nilSlice _, .nilMap, h | .nilSlice _, .map _, h | .nilSlice _, .func .., h | .nilSlice _, .nilFunc, h | .nilSlice _, .iface .., h | .nilSlice _, .nilIface, h | .nilSlice _, .agg _, h | .nilSlice _, .tuple _, h => by simp [vEq] at h
  | .slice .., .bool _, h | .slice .., .int .., h | .slice .., .nilPtr, h | .slice .., .ptr .., h | .slice .., .nilSlice _, h | .slice .., .str _, h | .slice .., .nilMap, h | .slice .., .map _, h | .slice .., .func .., h | .slice .., .nilFunc, h | .slice .., .iface .., h | .slice .., .nilIface, h | .slice .., .agg _, h | .slice .., .tuple _, h => by simp [vEq] at h
  | .nilMap, .bool _, h | .nilMap, .int .., h | .nilMap, .nilPtr, h | .nilMap, .ptr .., h | .nilMap, .nilSlice _, h | .nilMap, .slice .., h | .nilMap, .str _, h | .nilMap, .map _, h | .nilMap, .func .., h | .nilMap, .nilFunc, h | .nilMap, .iface .., h | .nilMap, .nilIface, h | .nilMap, .agg _, h | .nilMap, .tuple _, h => by simp [vEq] at h
  | .map _, .bool _, h | .map _, .int .., h | .map _, .nilPtr, h | .map _, .ptr .., h | .map _, .nilSlice _, h | .map _, .slice .., h | .map _, .nilMap, h | .map _, .str _, h | .map _, .func .., h | .map _, .nilFunc, h | .map _, .iface .., h | .map _, .nilIface, h | .map _, .agg _, h | .map _, .tuple _, h => by simp [vEq] at h
  | .func .., .bool _, h | .func .., .int .., h | .func .., .nilPtr, h | .func .., .ptr .., h | .func .., .nilSlice _, h | .func .., .slice .., h | .func .., .nilMap, h | .func .., .map _, h | .func .., .str _, h | .func .., .nilFunc, h | .func .., .iface .., h | .func .., .nilIface, h | .func .., .agg _, h | .func .., .tuple _, h => by simp [vEq] at h
  | .nilFunc, .bool _, h | .nilFunc, .int .., h | .nilFunc, .nilPtr, h | .nilFunc, .ptr .., h | .nilFunc, .nilSlice _, h | .nilFunc, .slice .., h | .nilFunc, .nilMap, h | .nilFunc, .map _, h | .nilFunc, .func .., h | .nilFunc, .str _, h | .nilFunc, .iface .., h | .nilFunc, .nilIface, h | .nilFunc, .agg _, h | .nilFunc, .tuple _, h => by simp [vEq] at h
  | .iface .., .bool _, h | .iface .., .int .., h | .iface .., .nilPtr, h | .iface .., .ptr .., h | .iface .., .nilSlice _, h | .iface .., .slice .., h | .iface .., .nilMap, h | .iface .., .map _, h | .iface .., .func .., h | .iface .., .nilFunc, h | .iface .., .str _, h | .iface .., .nilIface, h | .iface .., .agg _, h | .iface .., .tuple _, h => by simp [vEq] at h
  | .nilIface, .bool _, h | .nilIface, .int .., h | .nilIface, .nilPtr, h | .nilIface, .ptr .., h | .nilIface, .nilSlice _, h | .nilIface, .slice .., h | .nilIface, .nilMap, h | .nilIface, .map _, h | .nilIface, .func .., h | .nilIface, .nilFunc, h | .nilIface, .iface .., h | .nilIface, .str _, h | .nilIface, .agg _, h | .nilIface, .tuple _, h => by simp [vEq] at h
  | .agg _, .bool _, h | .agg _, .int .., h | .agg _, .nilPtr, h | .agg _, .ptr .., h | .agg _, .nilSlice _, h | .agg _, .slice .., h | .agg _, .nilMap, h | .agg _, .map _, h | .agg _, .func .., h | .agg _, .nilFunc, h | .agg _, .iface .., h | .agg _, .nilIface, h | .agg _, .str _, h | .agg _, .tuple _, h => by simp [vEq] at h
  | .tuple _, .bool _, h | .tuple _, .int .., h | .tuple _, .nilPtr, h | .tuple _, .ptr .., h | .tuple _, .nilSlice _, h | .tuple _, .slice .., h | .tuple _, .nilMap, h | .tuple _, .map _, h | .tuple _, .func .., h | .tuple _, .nilFunc, h | .tuple _, .iface .., h | .tuple _, .nilIface, h | .tuple _, .agg _, h | .tuple _, .str _, h => by simp [vEq] at h
  | .sym .., .bool _, h | .sym .., .int .., h | .sym .., .str _, h | .sym .., .nilPtr, h | .sym .., .ptr .., h | .sym .., .nilSlice _, h | .sym .., .slice .., h | .sym .., .nilMap, h | .sym .., .map _, h | .sym .., .func .., h | .sym .., .nilFunc, h | .sym .., .iface .., h | .sym .., .nilIface, h | .sym .., .agg _, h | .sym .., .tuple _, h | .sym .., .any, h => by simp [vEq] at h
  | .any, .bool _, h | .any, .int .., h | .any, .str _, h | .any, .nilPtr, h | .any, .ptr .., h | .any, .nilSlice _, h | .any, .slice .., h | .any, .nilMap, h | .any, .map _, h | .any, .func .., h | .any, .nilFunc, h | .any, .iface .., h | .any, .nilIface, h | .any, .agg _, h | .any, .tuple _, h | .any, .any, h | .any, .sym .., h => by simp [vEq] at h
  | .bool _, .sym .., h | .int .., .sym .., h | .str _, .sym .., h | .nilPtr, .sym .., h | .ptr .., .sym .., h | .nilSlice _, .sym .., h | .slice .., .sym .., h | .nilMap, .sym .., h | .map _, .sym .., h | .func .., .sym .., h | .nilFunc, .sym .., h | .iface .., .sym .., h | .nilIface, .sym .., h | .agg _, .sym .., h | .tuple _, .sym .., h => by simp [vEq] at h
  | .bool _, .any, h | .int .., .any, h | .str _, .any, h | .nilPtr, .any, h | .ptr .., .any, h | .nilSlice _, .any, h | .slice .., .any, h | .nilMap, .any, h | .map _, .any, h | .func .., .any, h | .nilFunc, .any, h | .iface .., .any, h | .nilIface, .any, h | .agg _, .any, h | .tuple _, .any, h => by simp [vEq] at h
theorem vsEq_eq : ∀ {a b : List V}, vsEq a b = true → a = b
  | [], [], _ => rfl
  | a :: x, b :: y, h => by
    simp only [vsEq, Bool.and_eq_true] at h
    rw [vEq_eq h.1, vsEq_eq h.2]
  | [], _ :: _, h => by simp [vsEq] at h
  | _ :: _, [], h => by simp [vsEq] at h
end

/-- How many effects there are among the first so many. -/
def effCount : List (DO × Nat × Nat) → Nat → Nat
  | _, 0 => 0
  | [], _ + 1 => 0
  | d :: r, j + 1 => (if isEff d.1 then 1 else 0) + effCount r j

def putT (tm : T V) : Option Lb → V → T V
  | some d, v => tm.set d (some v)
  | none, _ => tm

theorem put_tmps (a : A) (d : Option Lb) (v : V) : (a.put d v).tmps = putT a.tmps d v ∧ (a.put d v).defers = a.defers := by cases d <;> exact ⟨rfl, rfl⟩

/-- What is known of an operation. 'hp': the heap behind so many effects; 'c': how many effects come ahead of it in the text; 'e': how many there are. -/
def OpFact (E : Env) (call : Orc) (d : DO) (lo hi : Nat) (tm : T V) (v : V) (hp : Nat → H) (c e : Nat) : Prop :=
  (wants tm d.guard = false ∧ v = undef ∧ (isEff d = true → hp (c + 1) = hp c)) ∨ (wants tm d.guard = true ∧ match d.op with
    | .mov x => v = x.ev tm
    | .p q => q.eval E tm = some v
    | .r q => ∃ Q : Q, q.req tm = some Q ∧ ∀ k, lo ≤ k → k ≤ hi → k ≤ e → Q.ask (hp k) = some v
    | .e q => q.run tm (hp c) = some (v, hp (c + 1))
    | .c q => ∃ f, q.args E tm = some f ∧ call f.1 f.2 (hp c) = some (v, hp (c + 1))
    | _ => False)

theorem stood_all {q : Q} {v : V} : ∀ {k : Nat} {hs : List H}, stoodBefore q v k hs = true → ∀ j, j < k → ∃ g, hs[j]? = some g ∧ q.ask g = some v
  | 0, _, _, j, hj => by omega
  | k + 1, [], h, j, hj => by simp [stoodBefore] at h
  | k + 1, g :: hs, h, j, hj => by
    simp only [stoodBefore, Bool.and_eq_true] at h
    cases j with
    | zero =>
      refine ⟨g, rfl, ?_⟩
      have := h.1
      split at this
      · rename_i u hu; rw [hu, vEq_eq this]
      · cases this
    | succ j => simpa using stood_all h.2 j (by omega)

theorem still_all {h : H} {n : Nat} : ∀ {ps : List Pend}, stillStand h n ps = true → ∀ q v hi, (q, v, hi) ∈ ps → n ≤ hi → q.ask h = some v
  | [], _, q, v, hi, hm, _ => by cases hm
  | (q', v', hi') :: ps, hs, q, v, hi, hm, hn => by
    simp only [stillStand, Bool.and_eq_true] at hs
    rcases List.mem_cons.1 hm with e | hm
    · cases e
      have := hs.1
      rw [show Nat.ble n hi' = true from Nat.ble_eq_true_of_le hn] at this
      simp only at this
      split at this
      · rename_i u hu; rw [hu, vEq_eq this]
      · cases this
    · exact still_all hs.2 q v hi hm hn

structure Trace (E : Env) (call : Orc) (r : List (DO × Nat × Nat)) (n : Nat) (a : A) (hs : List H) (h : H) (ps : List Pend) (a' : A) (h' : H) (v : Nat → V) (tm : Nat → T V) (hp : Nat → H) : Prop where
  tm0 : tm 0 = a.tmps
  now : hp n = h
  before : ∀ j, j < n → hs[n - 1 - j]? = some (hp j)
  ops : ∀ j d lo hi, r[j]? = some (d, lo, hi) → OpFact E call d lo hi (tm j) (v j) hp (n + effCount r j) (n + effCount r r.length) ∧ tm (j + 1) = putT (tm j) d.dst (v j)
  pend : ∀ q u hi, (q, u, hi) ∈ ps → ∀ k, n < k → k ≤ hi → k ≤ n + effCount r r.length → q.ask (hp k) = some u
  last : a'.tmps = tm r.length ∧ h' = hp (n + effCount r r.length) ∧ a'.defers = a.defers

def shift {α : Type} (x : α) (f : Nat → α) : Nat → α
  | 0 => x
  | j + 1 => f j

/-- One operation more in front. -/
theorem Trace.cons {E : Env} {call : Orc} {r : List (DO × Nat × Nat)} {d : DO} {lo hi : Nat} {n n' : Nat} {a : A} {hs hs' : List H} {h h1 : H} {ps ps' : List Pend} {a' : A} {h' : H} {u : V} {v : Nat → V} {tm : Nat → T V} {hp : Nat → H}
    (t : Trace E call r n' (a.put d.dst u) hs' h1 ps' a' h' v tm hp) (hn : n' = n + (if isEff d then 1 else 0)) (now : hp n = h) (before : ∀ j, j < n → hs[n - 1 - j]? = some (hp j))
    (op : OpFact E call d lo hi a.tmps u hp n (n + effCount ((d, lo, hi) :: r) (r.length + 1)))
    (pend : ∀ q u b, (q, u, b) ∈ ps → ∀ k, n < k → k ≤ b → k ≤ n + effCount ((d, lo, hi) :: r) (r.length + 1) → q.ask (hp k) = some u) :
    Trace E call ((d, lo, hi) :: r) n a hs h ps a' h' (shift u v) (shift a.tmps tm) hp := by
  have e : ∀ j, n' + effCount r j = n + effCount ((d, lo, hi) :: r) (j + 1) := fun j => by simp only [effCount]; omega
  refine ⟨rfl, now, before, fun j d' lo' hi' hj => ?_, pend, ?_⟩
  · cases j with
    | zero =>
      simp only [List.getElem?_cons_zero, Option.some.injEq, Prod.mk.injEq] at hj
      obtain ⟨rfl, rfl, rfl⟩ := hj
      have op' : OpFact E call d lo hi (shift a.tmps tm 0) (shift u v 0) hp (n + 0) (n + effCount ((d, lo, hi) :: r) (r.length + 1)) := op
      refine ⟨op', ?_⟩
      show tm 0 = putT a.tmps d.dst u
      rw [t.tm0, (put_tmps a d.dst u).1]
    | succ j =>
      have := t.ops j d' lo' hi' (by simpa using hj)
      rw [e, e] at this
      exact this
  · obtain ⟨l1, l2, l3⟩ := t.last
    refine ⟨l1, ?_, l3.trans (put_tmps a d.dst u).2⟩
    rw [l2, e]; rfl

theorem trace_of {E : Env} {call : Orc} : ∀ {r : List (DO × Nat × Nat)} {n : Nat} {a : A} {hs : List H} {h : H} {ps : List Pend} {a' : A} {h' : H}, hs.length = n → (∀ q v b, (q, v, b) ∈ ps → n ≤ b → q.ask h = some v) → runDraw E call r a h n hs ps = some (a', h') → ∃ v tm hp, Trace E call r n a hs h ps a' h' v tm hp
  | [], n, a, hs, h, ps, a', h', hl, hps, hr => by
    simp only [runDraw, Option.some.injEq, Prod.mk.injEq] at hr
    obtain ⟨rfl, rfl⟩ := hr
    refine ⟨fun _ => undef, fun _ => a.tmps, fun j => if j < n then (hs[n - 1 - j]?).getD h else h, rfl, by simp, fun j hj => ?_, fun j d lo hi hj => by simp at hj, fun q u hi hm k h1 h2 h3 => ?_, rfl, by simp [effCount], rfl⟩
    · rw [if_pos hj]
      have : n - 1 - j < hs.length := by omega
      rw [List.getElem?_eq_getElem this]; rfl
    · simp [effCount] at h3; omega
  | (d, lo, hi) :: r, n, a, hs, h, ps, a', h', hl, hps, hr => by
    have pure : ∀ {u : V}, isEff d = false → (∀ hp : Nat → H, hp n = h → (∀ j, j < n → hs[n - 1 - j]? = some (hp j)) → ∀ e, OpFact E call d lo hi a.tmps u hp n e) → runDraw E call r (a.put d.dst u) h n hs ps = some (a', h') → ∃ v tm hp, Trace E call ((d, lo, hi) :: r) n a hs h ps a' h' v tm hp := fun {u} he hf hr' => by
      obtain ⟨v, tm, hp, t⟩ := trace_of hl hps hr'
      have ec : ∀ j, effCount ((d, lo, hi) :: r) (j + 1) = effCount r j := fun j => by simp [effCount, he]
      exact ⟨_, _, hp, t.cons (lo := lo) (hi := hi) (by simp [he]) t.now t.before (hf hp t.now t.before _) (by rw [ec]; exact t.pend)⟩
    have eff : ∀ {u : V} {h1 : H}, isEff d = true → (∀ hp : Nat → H, hp n = h → hp (n + 1) = h1 → ∀ e, OpFact E call d lo hi a.tmps u hp n e) → (∀ q v b, (q, v, b) ∈ ps → n + 1 ≤ b → q.ask h1 = some v) → runDraw E call r (a.put d.dst u) h1 (n + 1) (h :: hs) ps = some (a', h') →
        ∃ v tm hp, Trace E call ((d, lo, hi) :: r) n a hs h ps a' h' v tm hp := fun {u h1} he hf hst hr' => by
      obtain ⟨v, tm, hp, t⟩ := trace_of (n := n + 1) (by simp [hl]) hst hr'
      have b0 : hp n = h := by have := t.before n (by omega); simpa using this.symm
      have bj : ∀ j, j < n → hs[n - 1 - j]? = some (hp j) := fun j hj => by
        have := t.before j (by omega)
        rw [show n + 1 - 1 - j = (n - 1 - j) + 1 from by omega] at this
        simpa using this
      have ec : ∀ j, n + effCount ((d, lo, hi) :: r) (j + 1) = n + 1 + effCount r j := fun j => by simp [effCount, he]; omega
      refine ⟨_, _, hp, t.cons (lo := lo) (hi := hi) (by simp [he]) b0 bj (hf hp b0 t.now _) fun q u' hi' hm k h1' h2 h3 => ?_⟩
      rw [ec] at h3
      rcases Nat.lt_or_ge (n + 1) k with hk | hk
      · exact t.pend q u' hi' hm k hk h2 h3
      · have : k = n + 1 := by omega
        subst this
        rw [t.now]; exact hst q u' hi' hm h2
    simp only [runDraw] at hr
    split at hr
    · rename_i hw
      split at hr
      · rename_i he
        refine eff he (fun hp p0 p1 e => .inl ⟨hw, rfl, fun _ => ?_⟩) (fun q v hi' hm hn => ?_) hr
        · rw [p0, p1]
        · exact hps q v hi' hm (by omega)
      · rename_i he
        exact pure he (fun hp p0 pb e => .inl ⟨hw, rfl, fun h => by rw [he] at h; cases h⟩) hr
    · rename_i hw
      split at hr
      · rename_i x hop
        exact pure (by obtain ⟨dst, op, g⟩ := d; simp only at hop; subst hop; rfl) (fun hp p0 pb e => .inr ⟨hw, by rw [hop]⟩) hr
      · rename_i q hop
        simp only [ob_some] at hr
        obtain ⟨u, hu, hr⟩ := hr
        exact pure (by obtain ⟨dst, op, g⟩ := d; simp only at hop; subst hop; rfl) (fun hp p0 pb e => .inr ⟨hw, by rw [hop]; exact hu⟩) hr
      · rename_i q hop
        simp only [ob_some, chk_some] at hr
        obtain ⟨Q', hq, u, hu, hst, hr⟩ := hr
        have he : isEff d = false := by obtain ⟨dst, op, g⟩ := d; simp only at hop; subst hop; rfl
        obtain ⟨v, tm, hp, t⟩ := trace_of hl (fun q v b hm hb => by
          rcases List.mem_cons.1 hm with e | hm
          · cases e; exact hu
          · exact hps q v b hm hb) hr
        have ec : ∀ j, effCount ((d, lo, hi) :: r) (j + 1) = effCount r j := fun j => by simp [effCount, he]
        refine ⟨_, _, hp, t.cons (lo := lo) (hi := hi) (by simp [he]) t.now t.before (.inr ⟨hw, ?_⟩) ?_⟩
        · rw [hop]
          refine ⟨Q', hq, fun k h1 h2 h3 => ?_⟩
          rw [ec] at h3
          rcases Nat.lt_trichotomy k n with hk | hk | hk
          · obtain ⟨g, g1, g2⟩ := stood_all hst (n - 1 - k) (by omega)
            have := t.before k hk
            rw [g1] at this
            cases this; exact g2
          · subst hk; rw [t.now]; exact hu
          · exact t.pend _ _ _ (List.mem_cons_self ..) k hk h2 h3
        · rw [ec]
          exact fun q u hi' hm => t.pend q u hi' (List.mem_cons_of_mem _ hm)
      · rename_i q hop
        simp only [ob_some, chk_some] at hr
        obtain ⟨⟨u, h1⟩, hu, hst, hr⟩ := hr
        exact eff (by obtain ⟨dst, op, g⟩ := d; simp only at hop; subst hop; rfl) (fun hp p0 p1 e => .inr ⟨hw, by rw [hop]; show q.run a.tmps (hp n) = _; rw [p0, p1]; exact hu⟩) (fun q v hi' hm hn => still_all hst q v hi' hm hn) hr
      · rename_i q hop
        simp only [ob_some, chk_some] at hr
        obtain ⟨f, hf, ⟨u, h1⟩, hu, hst, hr⟩ := hr
        exact eff (by obtain ⟨dst, op, g⟩ := d; simp only at hop; subst hop; rfl) (fun hp p0 p1 e => .inr ⟨hw, by rw [hop]; exact ⟨f, hf, by rw [p0, p1]; exact hu⟩⟩) (fun q v hi' hm hn => still_all hst q v hi' hm hn) hr
      · cases hr
      · cases hr

end Go.Dx
