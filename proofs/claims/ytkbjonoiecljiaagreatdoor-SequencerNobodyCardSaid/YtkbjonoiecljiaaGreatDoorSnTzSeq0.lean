/-
  slices.AppendSeq(nil, the keys of a map that holds nothing).
-/
import Derived.Test.YtkbjonoiecljiaaGreatDoorDxSeq
import Derived.Test.YtkbjonoiecljiaaGreatDoorProg
import Derived.KernelRfl
import Derived.Sort.MapsRangeIn
import Derived.WalkKit
import Derived.OwnWalkIn
import Derived.TacticsInMore
import Derived.RegionIn
import Derived.LoopNIn
import Derived.LoopIn
namespace Go.Proofs
open Go Go.RowKit Go.Dx

/-- A map that holds nothing. -/
def NoMap (w : World) (mb : Option Nat) : Prop := mb = none ∨ ∃ b c, mb = some b ∧ w.heap[b]? = some (.map #[] c)

set_option maxRecDepth 100000 in
set_option maxHeartbeats 1000000 in
theorem Tz.it180 (F : Fence) (n : Nat) (h180 : F.fn 252) (hro : F.round = none) (l Bm : Nat) (w : World) (mb : Option Nat) (hm : w.cell? ⟨Bm, 0, none⟩ = some (.map mb)) (hmb : NoMap w mb) :
    CallsIn F n Tryz.prog 252 #[.func (.yield l) #[] #[], .pointer (some ⟨Bm, 0, none⟩)] w fun e W' => (∃ v, e = .returned v) ∧ ∃ o, W' = w.alloc o := by
  rcases hmb with rfl | ⟨b, c, rfl, hb⟩
  · have h1 := @run_range_nil Tryz.prog w 123 _ _ Tryz.underlying123
    have h2 := @run_next_nil Tryz.prog (w.alloc (.mapIter none 0 #[] 0)) w.heap.size 0 0 #[] (Go.Dx.heap_alloc_new _)
    refine callsIn_of_wp Tryz.func252 rfl h180 ?_ hro
    simp only [Tryz.ntmps252, List.size_toArray, List.length_cons, List.length_nil, Nat.reduceAdd, Nat.reduceSub, Array.replicate_succ, Array.replicate_zero, List.push_toArray, List.append_toArray, List.nil_append, List.cons_append]
    gi_wp2
    refine wpIn_loop_rounds 1 ?_
    rw [roundsIn_succ]
    gi_wp2
    go_end0
    exact ⟨⟨_, rfl⟩, _, rfl⟩
  · have h1 := Go.Dx.run_range_map (P := Tryz.prog) Tryz.underlying123 hb
    have hlt := Go.Dx.heap_lt hb
    have h2 := @run_next_empty Tryz.prog (w.alloc (.mapIter (some b) c #[] c)) w.heap.size b c c c #[] (Go.Dx.heap_alloc_new _) ((Go.Dx.heap_alloc_old _ hlt).trans hb)
    refine callsIn_of_wp Tryz.func252 rfl h180 ?_ hro
    simp only [Tryz.ntmps252, List.size_toArray, List.length_cons, List.length_nil, Nat.reduceAdd, Nat.reduceSub, Array.replicate_succ, Array.replicate_zero, List.push_toArray, List.append_toArray, List.nil_append, List.cons_append]
    gi_wp2
    refine wpIn_loop_rounds 1 ?_
    rw [roundsIn_succ]
    gi_wp2
    go_end0
    exact ⟨⟨_, rfl⟩, _, rfl⟩

set_option maxRecDepth 100000 in
set_option maxHeartbeats 1000000 in
theorem Tz.it215 (F : Fence) (n : Nat) (h215 : F.fn 288) (hro : F.round = none) (l Bm : Nat) (w : World) (mb : Option Nat) (hm : w.cell? ⟨Bm, 0, none⟩ = some (.map mb)) (hmb : NoMap w mb) :
    CallsIn F n Tryz.prog 288 #[.func (.yield l) #[] #[], .pointer (some ⟨Bm, 0, none⟩)] w fun e W' => (∃ v, e = .returned v) ∧ ∃ o, W' = w.alloc o := by
  rcases hmb with rfl | ⟨b, c, rfl, hb⟩
  · have h1 := @run_range_nil Tryz.prog w 52 _ _ Tryz.underlying52
    have h2 := @run_next_nil Tryz.prog (w.alloc (.mapIter none 0 #[] 0)) w.heap.size 0 0 #[] (Go.Dx.heap_alloc_new _)
    refine callsIn_of_wp Tryz.func288 rfl h215 ?_ hro
    simp only [Tryz.ntmps288, List.size_toArray, List.length_cons, List.length_nil, Nat.reduceAdd, Nat.reduceSub, Array.replicate_succ, Array.replicate_zero, List.push_toArray, List.append_toArray, List.nil_append, List.cons_append]
    gi_wp2
    refine wpIn_loop_rounds 1 ?_
    rw [roundsIn_succ]
    gi_wp2
    go_end0
    exact ⟨⟨_, rfl⟩, _, rfl⟩
  · have h1 := Go.Dx.run_range_map (P := Tryz.prog) Tryz.underlying52 hb
    have hlt := Go.Dx.heap_lt hb
    have h2 := @run_next_empty Tryz.prog (w.alloc (.mapIter (some b) c #[] c)) w.heap.size b c c c #[] (Go.Dx.heap_alloc_new _) ((Go.Dx.heap_alloc_old _ hlt).trans hb)
    refine callsIn_of_wp Tryz.func288 rfl h215 ?_ hro
    simp only [Tryz.ntmps288, List.size_toArray, List.length_cons, List.length_nil, Nat.reduceAdd, Nat.reduceSub, Array.replicate_succ, Array.replicate_zero, List.push_toArray, List.append_toArray, List.nil_append, List.cons_append]
    gi_wp2
    refine wpIn_loop_rounds 1 ?_
    rw [roundsIn_succ]
    gi_wp2
    go_end0
    exact ⟨⟨_, rfl⟩, _, rfl⟩

set_option maxRecDepth 100000 in
set_option maxHeartbeats 1000000 in
/-- Whatever function value that asks for nothing. -/
theorem Tz.seq221 (g : Nat) (lb : Array Value) (eg : ∀ args w, (callFunc g args).run Tryz.prog w = .ok (.enter g args) w) (w : World)
    (hg : ∀ l W, Below w.heap.size w W → CallsIn Fence.wide 0 Tryz.prog g (#[.func (.yield l) #[] #[]] ++ lb) W fun e W' => (∃ v, e = .returned v) ∧ ∃ o, W' = W.alloc o) :
    Calls Tryz.prog 307 #[.slice none 0 0, .func (.func g) #[] lb] w fun e w' => e = .returned (.slice none 0 0) ∧ Below w.heap.size w w' := by
  refine (callsIn_wide (n := 0)).1 ?_
  refine callsIn_of_wp_marks Tryz.func307 rfl trivial ?_ rfl
  simp only [Tryz.ntmps307, List.size_toArray, List.length_cons, List.length_nil, Nat.reduceAdd, Nat.reduceSub, Array.replicate_succ, Array.replicate_zero, List.push_toArray, List.append_toArray, List.nil_append, List.cons_append]
  gi_wp2
  refine wpIn_rangeFunc_flat rfl eg fun fn L hL => ?_
  have hb0 : Below w.heap.size w (w.alloc (.cells #[.slice none 0 0] 150)) := (Below.refl _ w).alloc (Nat.le_refl _) _
  have hb1 := (hb0.alloc hb0.size (.deferred (some [])))
  have hb2 := hb1.alloc hb1.size (.loop L)
  refine (hg _ _ hb2).mono ?_
  rintro e W2 ⟨⟨v, rfl⟩, o, rfl⟩
  have hb3 := hb2.alloc hb2.size o
  obtain ⟨W3, hW3⟩ : ∃ W3, W3 = (((w.alloc (.cells #[.slice none 0 0] 150)).alloc (.deferred (some []))).alloc (.loop L)).alloc o := ⟨_, rfl⟩
  have q0 : W3.heap[w.heap.size]? = some (.cells #[.slice none 0 0] 150) := by
    rw [hW3, Go.Dx.heap_alloc_old _ (by simp <;> omega), Go.Dx.heap_alloc_old _ (by simp <;> omega), Go.Dx.heap_alloc_old _ (by simp <;> omega)]; exact Go.Dx.heap_alloc_new _
  have q1 : W3.heap[w.heap.size + 1]? = some (.deferred (some [])) := by
    rw [hW3, Go.Dx.heap_alloc_old _ (by simp <;> omega), Go.Dx.heap_alloc_old _ (by simp <;> omega)]
    have := Go.Dx.heap_alloc_new (w := w.alloc (.cells #[.slice none 0 0] 150)) (.deferred (some []))
    rwa [World.size_alloc] at this
  have q2 : W3.heap[w.heap.size + 2]? = some (.loop L) := by
    rw [hW3, Go.Dx.heap_alloc_old _ (by simp <;> omega)]
    have := Go.Dx.heap_alloc_new (w := (w.alloc (.cells #[.slice none 0 0] 150)).alloc (.deferred (some []))) (.loop L)
    rwa [World.size_alloc, World.size_alloc] at this
  rw [← hW3] at hb3 ⊢
  rw [World.size_alloc]
  refine ⟨⟨_, rfl⟩, q2, ?_⟩
  obtain ⟨W4, hW4⟩ : ∃ W4, W4 = W3.putObj (w.heap.size + 2) (.loop { L with state := .exhausted }) := ⟨_, rfl⟩
  rw [← hW4]
  have r0 : W4.heap[w.heap.size]? = some (.cells #[.slice none 0 0] 150) := by rw [hW4]; exact (World.putObj_heap_other (by omega)).trans q0
  have r1 : W4.heap[w.heap.size + 1]? = some (.deferred (some [])) := by rw [hW4]; exact (World.putObj_heap_other (by omega)).trans q1
  have hb4 : Below w.heap.size w W4 := by rw [hW4]; exact hb3.grown (Go.Dx.grownBy_put _ _ _) hb3.size (fun k e => by cases e; omega)
  obtain ⟨hc3, hf3⟩ := Go.Dx.cell_of_box r0
  clear hW4 hW3 q0 q1 q2 hb3 hL hb2 hb1 hb0 hg eg
  gi_wp2
  refine ⟨by simp, .inl ⟨_, _, rfl, run_takeDeferred r1, ?_⟩⟩
  exact ⟨_, results_tmp rfl _ _ _, rfl, hb4.grown (Go.Dx.grownBy_put _ _ _) hb4.size (fun k e => by cases e; omega)⟩
end Go.Proofs
