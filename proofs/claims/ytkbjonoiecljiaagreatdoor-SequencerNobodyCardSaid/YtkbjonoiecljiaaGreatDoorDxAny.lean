/-
  The deterministic machine over labels against the model: a region whose order is open, whole; the main theorem.
-/
import Derived.Test.YtkbjonoiecljiaaGreatDoorDxRegion
namespace Go.Dx
open Go Go.RowKit

section
variable {P : Program} {G n : Nat} {ops : Array Oper} {l : List DO} {call : Orc} {a a' : A} {h h0 h' : H} {tm0 : T V} {v : Nat → V} {tm : Nat → T V} {hp : Nat → H} {B : Nat} {w0 : World} {ρ ρ0 : Rho} {w : World}

theorem HRel.more (R : HRel B w0 ρ h w) (hold : ∀ m, val m < val h.next → h0.get m = h.get m) (hn : val h.next ≤ val h0.next) : HRel B w0 ρ h0 w := by
  have g : ∀ m b, ρ m = some b → h0.get m = h.get m := fun m b hm => hold m (R.lt m b hm)
  refine ⟨fun m b o hm ho => R.obj m b o hm (by rw [← g m b hm]; exact ho), fun m b hm => Nat.lt_of_lt_of_le (R.lt m b hm) hn, R.base, fun m k b c hm hk h1 h2 => R.inj m k b c hm hk (by rw [← g m b hm]; exact h1) (by rw [← g k c hk]; exact h2), fun m b o hm ho => R.own m b o hm (by rw [← g m b hm]; exact ho), R.size, R.below⟩

/-- How many are still to come. -/
def unl (m : Nat) (S : Nat → Bool) : Nat := (List.range m).countP fun i => !S i

theorem unl_set {m j : Nat} {S : Nat → Bool} (hj : j < m) (hs : S j = false) : unl m (fun i => S i || i == j) + 1 ≤ unl m S := by
  unfold unl
  have h1 : (List.range m).countP (fun i => !(S i || i == j)) = ((List.range m).filter fun i => !S i).countP fun i => !(i == j) := by
    rw [List.countP_filter]
    refine List.countP_congr fun i _ => ?_
    cases S i <;> simp
  rw [h1]
  have h2 : (List.range m).countP (fun i => !S i) = ((List.range m).filter fun i => !S i).length := List.countP_eq_length_filter
  rw [h2]
  have hmem : j ∈ (List.range m).filter fun i => !S i := List.mem_filter.2 ⟨List.mem_range.2 hj, by simp [hs]⟩
  have h3 := List.length_eq_countP_add_countP (fun i => i == j) (l := (List.range m).filter fun i => !S i)
  have h4 : 0 < ((List.range m).filter fun i => !S i).countP (fun i => i == j) := List.countP_pos_iff.2 ⟨j, hmem, by simp⟩
  have h5 : ((List.range m).filter fun i => !S i).countP (fun i => !(i == j)) = ((List.range m).filter fun i => !S i).countP (fun i => decide ¬((i == j) = true)) := by
    refine List.countP_congr fun i _ => ?_
    cases (i == j) <;> simp
  omega

theorem unl_zero {m : Nat} {S : Nat → Bool} (h : unl m S = 0) : ∀ i, i < m → S i = true := fun i hi => by
  have := (List.countP_eq_zero.1 h) i (List.mem_range.2 hi)
  simpa using this

theorem any_ok (hcall : OrcOk P G call) (r : Reg P G n ops l call a a' h h0 h' tm0 v tm hp) {Q : Exit → Act → World → Prop} (hfin : ∀ S x w, Inv P G n ops l a h h0 tm0 v hp B w0 ρ0 S x w → (∀ i, i < ops.size → S i = true) → Q .normal x w) :
    ∀ (fuel : Nat) (listed : Array Bool) (x : Act) (w : World), listed.size = ops.size → Inv P G n ops l a h h0 tm0 v hp B w0 ρ0 (fun i => listed.getD i false) x w → unl ops.size (fun i => listed.getD i false) ≤ fuel → wpAny P .any ops Q fuel listed x w := by
  have done : ∀ (listed : Array Bool) (x : Act) (w : World), listed.size = ops.size → Inv P G n ops l a h h0 tm0 v hp B w0 ρ0 (fun i => listed.getD i false) x w → Region.ready .any ops listed = [] → Q .normal x w := fun listed x w hsz inv hr => by
    refine hfin _ x w inv fun i hi => ?_
    induction i using Nat.strongRecOn with
    | _ i ih =>
      cases hs : listed.getD i false with
      | true => rfl
      | false =>
        exfalso
        have : i ∈ Region.ready .any ops listed := by
          rw [mem_ready]
          refine ⟨?_, ops[i], by simp [hi], fun e he hb => ?_⟩
          · have hlt : i < listed.size := by omega
            simp only [Array.getD_eq_getD_getElem?, Array.getElem?_eq_getElem hlt, Option.getD_some] at hs ⊢
            exact hs
          · have hlt := edges_lt r.facts.edges (j := i) (o := ops[i]) (by simp [hi]) he hb
            exact ih e.on hlt (by omega)
        rw [hr] at this
        cases this
  intro fuel
  induction fuel with
  | zero =>
    intro listed x w hsz inv hu
    have hall := unl_zero (Nat.le_zero.1 hu)
    have hnil : Region.ready .any ops listed = [] := by
      cases hr : Region.ready .any ops listed with
      | nil => rfl
      | cons i rs =>
        exfalso
        have hm : i ∈ Region.ready .any ops listed := by rw [hr]; exact List.mem_cons_self ..
        rw [mem_ready] at hm
        obtain ⟨h1, o, ho, _⟩ := hm
        have hlt : i < ops.size := (Array.getElem?_eq_some_iff.1 ho).1
        have h2 := hall i hlt
        have hlt' : i < listed.size := by omega
        simp only [Array.getD_eq_getD_getElem?, Array.getElem?_eq_getElem hlt', Option.getD_some] at h1 h2
        rw [h1] at h2; cases h2
    exact ⟨hnil, done listed x w hsz inv hnil⟩
  | succ fuel ih =>
    intro listed x w hsz inv hu
    refine ⟨fun hr => done listed x w hsz inv hr, fun j hj => ?_⟩
    obtain ⟨h1, o, ho, hall⟩ := mem_ready.1 hj
    have hlt : j < ops.size := (Array.getElem?_eq_some_iff.1 ho).1
    have hlt' : j < listed.size := by omega
    have hs : listed.getD j false = false := by
      simp only [Array.getD_eq_getD_getElem?, Array.getElem?_eq_getElem hlt', Option.getD_some] at h1 ⊢
      exact h1
    have hS : (fun i => (listed.setIfInBounds j true).getD i false) = fun i => listed.getD i false || i == j := by
      funext i
      by_cases e : i = j
      · subst e; simp [hlt']
      · have hne : (i == j) = false := by simpa using e
        rw [hne, Bool.or_false]
        exact getD_set_ne false (Ne.symm e)
    refine reg_step hcall r inv ho hs (fun e he hb => hall e he hb) fun x' w' inv' => ?_
    refine ih _ x' w' (by simp [hsz]) (by rw [hS]; exact inv') ?_
    rw [hS]
    have := unl_set (S := fun i => listed.getD i false) hlt hs
    omega

theorem draw_ok (hm : P.follows .mixedOrders = true) (hcall : OrcOk P G call) : DrawOk P G call := by
  intro n id ops l m dl hl hd a a' x ρ h h' w B w0 hA hG R hrun Q hQ
  unfold compDraw at hd
  simp only at hd
  split at hd
  · rename_i hchk
    simp only [Bool.and_eq_true] at hchk
    obtain ⟨⟨⟨⟨k1, k2⟩, k3⟩, k4⟩, k5⟩ := hchk
    have k5 := Nat.le_of_ble_eq_true k5
    simp only [DC.draw.injEq] at hd
    obtain ⟨rfl, rfl⟩ := hd
    have hsm : n ≤ 65536 := hA.tmps.small
    have hlen : l.length = ops.size := by have := (compDOs_get hl 0).2; simpa using this
    obtain ⟨m1, m2, m3, m4⟩ := makeAll_ok (reserve l n).2 n a.tmps h (fun p y hp => reserve_slot hp) (by have := reserve_le l n; omega)
    obtain ⟨v, tm, hp, t⟩ := trace_of (n := 0) (hs := []) (ps := []) rfl (fun q v b hm => by simp at hm) hrun
    have r : Reg P G n ops l call a a' h (makeAll (reserve l n).2 a.tmps h).2 h' (makeAll (reserve l n).2 a.tmps h).1 v tm hp := ⟨⟨hl, hsm, k3, k2⟩, k1, k5, t, m2, m4⟩
    have h0 : hp 0 = (makeAll (reserve l n).2 a.tmps h).2 := t.now
    refine wp_region_any hm (any_ok (B := B) (w0 := w0) (ρ0 := ρ) hcall r (fun S y w1 inv hall => ?_) ops.size (Array.replicate ops.size false) x _ (by simp) ?_ ?_)
    · -- the end
      obtain ⟨ρ1, i1, i2, i3, i4, i5, i6, i7⟩ := inv.rel
      obtain ⟨l1, l2, l3⟩ := t.last
      have htl : (tagged ops l n).length = ops.size := by unfold tagged; rw [tagAll_length, reserve_length, hlen]
      have hcnt : (effsOf l n).countP S = effCount (tagged ops l n) (tagged ops l n).length := by
        have e1 := effCount_tag (ah := aheads ops.toList []) (effs := effsOf l n) (reserve l n).1 0 (tagged ops l n).length
        have e1 : effCount (tagged ops l n) (tagged ops l n).length = (effsOf l n).countP fun e => decide (e < 0 + (tagged ops l n).length) := e1
        rw [e1]
        refine List.countP_congr fun e he => ?_
        obtain ⟨p, q, h1, _, rfl⟩ := effsAt_mem.1 he
        have hlt := (List.getElem?_eq_some_iff.1 h1).1
        rw [reserve_length, hlen] at hlt
        have hp' : S (0 + p) = true := hall (0 + p) (by omega)
        have hq' : 0 + p < 0 + (tagged ops l n).length := by rw [htl]; omega
        simp only [hp', decide_eq_true hq']
      have l2' : h' = hp ((effsOf l n).countP S) := by rw [hcnt, l2]; congr 1; exact Nat.zero_add _
      have hmask : mask l (makeAll (reserve l n).2 a.tmps h).1 v S ops.size = a'.tmps := by
        rw [mask_congr (S' := fun _ => true) ops.size (fun k hk => hall k hk), ← r.tms ops.size (Nat.le_refl _)]
        have l1 : a'.tmps = tm (tagged ops l n).length := l1
        rw [l1, htl]
      refine hQ ρ1 y w1 ⟨i1, ?_⟩ ⟨?_, ?_⟩ ?_
      · rw [l2']; have := r.next; omega
      · rw [← hmask]; exact i5
      · rw [l3]; exact i6
      · rw [l2']; exact i2
    · -- the beginning
      have hS : (fun i => (Array.replicate ops.size false).getD i false) = fun _ => false := by
        funext i
        simp [Array.getD_eq_getD_getElem?, Array.getElem?_replicate]
        split <;> rfl
      rw [hS]
      have hc0 : (effsOf l n).countP (fun _ => false) = 0 := by rw [List.countP_eq_zero]; simp
      refine ⟨fun j o _ hj => (by cases hj), ρ, fun _ _ => rfl, ?_, ?_, fun i d L h1 h2 _ h4 => ?_, ?_, hA.defers, hG⟩
      · rw [hc0, h0]
        exact (R.drew).more m3 (by rw [m4]; omega)
      · rw [hc0, h0]; exact Nat.le_refl _
      · cases hr : ρ L with
        | none => rfl
        | some b => have := R.lt L b hr; omega
      · have : mask l (makeAll (reserve l n).2 a.tmps h).1 v (fun _ => false) ops.size = (makeAll (reserve l n).2 a.tmps h).1 := by
          generalize ops.size = k
          induction k with
          | zero => rfl
          | succ k ih => simp only [mask, ih]; rfl
        rw [this]
        exact ⟨hA.tmps.size, hsm, fun t ht => by rw [m1 t ht]; exact hA.tmps.get t ht⟩
    · unfold unl
      have := List.countP_le_length (p := fun i => !(Array.replicate ops.size false).getD i false) (l := List.range ops.size)
      simpa using this
  · cases hd

/-- The main theorem: what the machine runs, the model does. -/
theorem machine_ok {orc : Orc} {dorc : FuncId → List V → H → Option H} {fns : T DFn} (hm : P.follows .mixedOrders = true) (horc : OrcOk P G orc) (hd : LateOk P G dorc) (hfns : FnsOk P G fns) (n : Nat) : OrcOk P G (turn (envOf P) fns orc dorc n).call :=
  (turn_ok (fun hc => draw_ok hm hc) horc hd hfns n).2

end
end Go.Dx
