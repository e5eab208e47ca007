/-
  A copy of a slice that came in.
-/
import Derived.Test.YtkbjonoiecljiaaGreatDoorDxSeq
import Derived.Test.YtkbjonoiecljiaaGreatDoorProg
import Derived.KernelRfl
import Derived.WalkKit
import Derived.Handy
import Derived.OwnWalkIn
import Derived.TacticsInMore
import Derived.RegionIn
import Derived.Sort.MapsRangeIn
import Derived.LoopNIn
import Derived.LoopIn
namespace Go.Proofs
open Go Go.RowKit Go.Dx

theorem Tz.infoLogged : ∃ i z, Tryz.prog.info? 65 = some i ∧ i.zero = some z ∧ i.size = 6 ∧ 0 < i.bytes ∧ i.bytes ≤ 80 := by
  have h : ((Tryz.prog.info? 65).bind fun i => i.zero.map fun _ => (i.size, decide (0 < i.bytes), decide (i.bytes ≤ 80))) = some (6, true, true) := by kernel_rfl
  cases hi : Tryz.prog.info? 65 with
  | none => rw [hi] at h; cases h
  | some i =>
    cases hz : i.zero with
    | none => simp [hi, hz] at h
    | some z =>
      simp [hi, hz] at h
      exact ⟨i, z, rfl, hz, h.1, h.2.1, h.2.2⟩

set_option maxRecDepth 100000 in
theorem Tz.clone30_nil (w : World) : Calls Tryz.prog 21 #[.slice none 0 0] w fun e w' => e = .returned (.slice none 0 0) ∧ w' = w := by
  have h1 : ∀ w, (eqGuard BinOp.eql 22 (.tmp 3) (.const (.slice none 0 0)) (.slice none 0 0) (.slice none 0 0)).run Tryz.prog w = .ok () w := fun w => by kernel_rfl
  have h2 : ∀ w, (Go.binOp .eql 22 (.slice none 0 0) (.slice none 0 0)).run Tryz.prog w = .ok (.bool true) w := fun w => by kernel_rfl
  go_enter Tryz.func21, Tryz.ntmps21
  go_wp2
  go_ret
  exact ⟨rfl, rfl⟩

set_option maxRecDepth 100000 in
theorem Tz.clone30 (a : Addr) (n cap : Nat) (w : World) (ha : a.block < w.heap.size) (hs : a.spot = none) (hb : n * 80 ≤ 140737488355328) (hc : ∀ j, j < n * 6 → (w.cell? ⟨a.block, a.off + j, none⟩).isSome = true) :
    Calls Tryz.prog 21 #[.slice (some a) n cap] w fun e w' => ∃ y, e = .returned y ∧ symOk y = true ∧ Below w.heap.size w w' := by
  have h1 : ∀ w, (eqGuard BinOp.eql 22 (.tmp 3) (.const (.slice none 0 0)) (.slice (some a) n cap) (.slice none 0 0)).run Tryz.prog w = .ok () w := fun w => by kernel_rfl
  have h2 : ∀ w, (Go.binOp .eql 22 (.slice (some a) n cap) (.slice none 0 0)).run Tryz.prog w = .ok (.bool false) w := fun w => by kernel_rfl
  obtain ⟨i, z, hi, hz, hsz, h0, h80⟩ := Tz.infoLogged
  have hc' : ∀ j, j < n * i.size → ((w.alloc (.cells #[] 65)).cell? (a.add j)).isSome = true := fun j hj => by
    rw [hsz] at hj
    have e : a.add j = ⟨a.block, a.off + j, none⟩ := by cases a; simp only at hs; subst hs; simp [Addr.add]
    rw [e, World.cell?_alloc_lt _ _ ⟨a.block, a.off + j, none⟩ ha]
    exact hc j hj
  have hbb : n * i.bytes ≤ 140737488355328 := Nat.le_trans (Nat.mul_le_mul_left _ h80) hb
  obtain ⟨y, w2, happ, hy, hB⟩ := run_append_all (P := Tryz.prog) (w := w.alloc (.cells #[] 65)) Tryz.underlying22 hi hz h0 (src := a) (b0 := ⟨w.heap.size, 0, none⟩) (n := n) (cap := cap) hbb hc' 22
  have hB2 : Below w.heap.size w w2 := ((Below.refl _ w).alloc (Nat.le_refl _) _).trans (hB.mono (by simp))
  clear hc hc' hB ha hs
  refine (callsIn_wide (n := 0)).1 ?_
  refine callsIn_of_wp Tryz.func21 rfl trivial ?_ rfl
  simp only [Tryz.ntmps21, List.size_toArray, List.length_cons, List.length_nil, Nat.reduceAdd, Nat.reduceSub, Array.replicate_succ, Array.replicate_zero, List.push_toArray, List.append_toArray, List.nil_append, List.cons_append]
  gi_wp2_with (first
    | (gi_at_builtin; refine wpListIn_append_run rfl (.tmp 5) (.tmp 6) 22 22 rfl (sx := .slice (some ⟨w.heap.size, 0, none⟩) 0 0) (xx := .slice (some a) n cap) rfl rfl happ ?_; go_frame))
  go_ret
  exact ⟨_, rfl, hy, hB2⟩

end Go.Proofs
