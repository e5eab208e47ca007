/-
  slices.AppendSeq(nil, the keys of a map that holds nothing).
  slices.AppendSeq(nil, the values of a map of one entry).
  slices.AppendSeq as the machine takes it: of a map's keys, where it holds nothing; of a map's values, where it holds one entry.
  slices.AppendSeq(nil, the keys of a map of one entry), where they are numbers.
  slices.AppendSeq of a map's keys as the machine takes it, where it holds one entry, and its key is a number.
  What the machine takes by contract is so of the program: the functions without a body, errors.As, slices.AppendSeq.
-/
import Derived.Test.YtkaoagmdhlpfoaaGreatDoorXG
import Derived.Test.YtkaoagmdhlpfoaaGreatDoorProg
import Derived.KernelRfl
import Derived.Sort.MapsRangeIn
import Derived.WalkKit
import Derived.OwnWalkIn
import Derived.TacticsInMore
import Derived.RegionIn
import Derived.LoopNIn
import Derived.LoopIn
import Derived.Test.YtkaoagmdhlpfoaaGreatDoorYA
import Derived.Test.YtkaoagmdhlpfoaaGreatDoorYB
import Derived.Test.YtkaoagmdhlpfoaaGreatDoorXI
namespace Go.Proofs
open Go Go.RowKit Go.Dx

/-- A map that holds nothing. -/
def NoMap (w : World) (mb : Option Nat) : Prop := mb = none ∨ ∃ b c, mb = some b ∧ w.heap[b]? = some (.map #[] c)

set_option maxRecDepth 100000 in
set_option maxHeartbeats 1000000 in
theorem Tz.it180 (F : Fence) (n : Nat) (h180 : F.fn 375) (hro : F.round = none) (l Bm : Nat) (w : World) (mb : Option Nat) (hm : w.cell? ⟨Bm, 0, none⟩ = some (.map mb)) (hmb : NoMap w mb) :
    CallsIn F n Tryz.prog 375 #[.func (.yield l) #[] #[], .pointer (some ⟨Bm, 0, none⟩)] w fun e W' => (∃ v, e = .returned v) ∧ ∃ o, W' = w.alloc o := by
  rcases hmb with rfl | ⟨b, c, rfl, hb⟩
  · have h1 := @run_range_nil Tryz.prog w 128 _ _ Tryz.underlying128
    have h2 := @run_next_nil Tryz.prog (w.alloc (.mapIter none 0 #[] 0)) w.heap.size 0 0 #[] (Go.Dx.heap_alloc_new _)
    refine callsIn_of_wp Tryz.func375 rfl h180 ?_ hro
    simp only [Tryz.ntmps375, List.size_toArray, List.length_cons, List.length_nil, Nat.reduceAdd, Nat.reduceSub, Array.replicate_succ, Array.replicate_zero, List.push_toArray, List.append_toArray, List.nil_append, List.cons_append]
    gi_wp2
    refine wpIn_loop_rounds 1 ?_
    rw [roundsIn_succ]
    gi_wp2
    go_end0
    exact ⟨⟨_, rfl⟩, _, rfl⟩
  · have h1 := Go.Dx.run_range_map (P := Tryz.prog) Tryz.underlying128 hb
    have hlt := Go.Dx.heap_lt hb
    have h2 := @run_next_empty Tryz.prog (w.alloc (.mapIter (some b) c #[] c)) w.heap.size b c c c #[] (Go.Dx.heap_alloc_new _) ((Go.Dx.heap_alloc_old _ hlt).trans hb)
    refine callsIn_of_wp Tryz.func375 rfl h180 ?_ hro
    simp only [Tryz.ntmps375, List.size_toArray, List.length_cons, List.length_nil, Nat.reduceAdd, Nat.reduceSub, Array.replicate_succ, Array.replicate_zero, List.push_toArray, List.append_toArray, List.nil_append, List.cons_append]
    gi_wp2
    refine wpIn_loop_rounds 1 ?_
    rw [roundsIn_succ]
    gi_wp2
    go_end0
    exact ⟨⟨_, rfl⟩, _, rfl⟩

set_option maxRecDepth 100000 in
set_option maxHeartbeats 1000000 in
theorem Tz.it215 (F : Fence) (n : Nat) (h215 : F.fn 292) (hro : F.round = none) (l Bm : Nat) (w : World) (mb : Option Nat) (hm : w.cell? ⟨Bm, 0, none⟩ = some (.map mb)) (hmb : NoMap w mb) :
    CallsIn F n Tryz.prog 292 #[.func (.yield l) #[] #[], .pointer (some ⟨Bm, 0, none⟩)] w fun e W' => (∃ v, e = .returned v) ∧ ∃ o, W' = w.alloc o := by
  rcases hmb with rfl | ⟨b, c, rfl, hb⟩
  · have h1 := @run_range_nil Tryz.prog w 211 _ _ Tryz.underlying211
    have h2 := @run_next_nil Tryz.prog (w.alloc (.mapIter none 0 #[] 0)) w.heap.size 0 0 #[] (Go.Dx.heap_alloc_new _)
    refine callsIn_of_wp Tryz.func292 rfl h215 ?_ hro
    simp only [Tryz.ntmps292, List.size_toArray, List.length_cons, List.length_nil, Nat.reduceAdd, Nat.reduceSub, Array.replicate_succ, Array.replicate_zero, List.push_toArray, List.append_toArray, List.nil_append, List.cons_append]
    gi_wp2
    refine wpIn_loop_rounds 1 ?_
    rw [roundsIn_succ]
    gi_wp2
    go_end0
    exact ⟨⟨_, rfl⟩, _, rfl⟩
  · have h1 := Go.Dx.run_range_map (P := Tryz.prog) Tryz.underlying211 hb
    have hlt := Go.Dx.heap_lt hb
    have h2 := @run_next_empty Tryz.prog (w.alloc (.mapIter (some b) c #[] c)) w.heap.size b c c c #[] (Go.Dx.heap_alloc_new _) ((Go.Dx.heap_alloc_old _ hlt).trans hb)
    refine callsIn_of_wp Tryz.func292 rfl h215 ?_ hro
    simp only [Tryz.ntmps292, List.size_toArray, List.length_cons, List.length_nil, Nat.reduceAdd, Nat.reduceSub, Array.replicate_succ, Array.replicate_zero, List.push_toArray, List.append_toArray, List.nil_append, List.cons_append]
    gi_wp2
    refine wpIn_loop_rounds 1 ?_
    rw [roundsIn_succ]
    gi_wp2
    go_end0
    exact ⟨⟨_, rfl⟩, _, rfl⟩

set_option maxRecDepth 100000 in
set_option maxHeartbeats 1000000 in
/-- Whatever function value that asks for nothing. -/
theorem Tz.seq221 (g : Nat) (lb : Array Value) (eg : ∀ args w, (callFunc g args).run Tryz.prog w = .ok (.enter g args) w) (w : World)
    (hg : ∀ l W, Below w.heap.size w W → CallsIn Fence.wide 0 Tryz.prog g (#[.func (.yield l) #[] #[]] ++ lb) W fun e W' => (∃ v, e = .returned v) ∧ ∃ o, W' = W.alloc o) :
    Calls Tryz.prog 396 #[.slice none 0 0, .func (.func g) #[] lb] w fun e w' => e = .returned (.slice none 0 0) ∧ Below w.heap.size w w' := by
  refine (callsIn_wide (n := 0)).1 ?_
  refine callsIn_of_wp_marks Tryz.func396 rfl trivial ?_ rfl
  simp only [Tryz.ntmps396, List.size_toArray, List.length_cons, List.length_nil, Nat.reduceAdd, Nat.reduceSub, Array.replicate_succ, Array.replicate_zero, List.push_toArray, List.append_toArray, List.nil_append, List.cons_append]
  gi_wp2
  refine wpIn_rangeFunc_flat rfl eg fun fn L hL => ?_
  have hb0 : Below w.heap.size w (w.alloc (.cells #[.slice none 0 0] 223)) := (Below.refl _ w).alloc (Nat.le_refl _) _
  have hb1 := (hb0.alloc hb0.size (.deferred (some [])))
  have hb2 := hb1.alloc hb1.size (.loop L)
  refine (hg _ _ hb2).mono ?_
  rintro e W2 ⟨⟨v, rfl⟩, o, rfl⟩
  have hb3 := hb2.alloc hb2.size o
  obtain ⟨W3, hW3⟩ : ∃ W3, W3 = (((w.alloc (.cells #[.slice none 0 0] 223)).alloc (.deferred (some []))).alloc (.loop L)).alloc o := ⟨_, rfl⟩
  have q0 : W3.heap[w.heap.size]? = some (.cells #[.slice none 0 0] 223) := by
    rw [hW3, Go.Dx.heap_alloc_old _ (by simp <;> omega), Go.Dx.heap_alloc_old _ (by simp <;> omega), Go.Dx.heap_alloc_old _ (by simp <;> omega)]; exact Go.Dx.heap_alloc_new _
  have q1 : W3.heap[w.heap.size + 1]? = some (.deferred (some [])) := by
    rw [hW3, Go.Dx.heap_alloc_old _ (by simp <;> omega), Go.Dx.heap_alloc_old _ (by simp <;> omega)]
    have := Go.Dx.heap_alloc_new (w := w.alloc (.cells #[.slice none 0 0] 223)) (.deferred (some []))
    rwa [World.size_alloc] at this
  have q2 : W3.heap[w.heap.size + 2]? = some (.loop L) := by
    rw [hW3, Go.Dx.heap_alloc_old _ (by simp <;> omega)]
    have := Go.Dx.heap_alloc_new (w := (w.alloc (.cells #[.slice none 0 0] 223)).alloc (.deferred (some []))) (.loop L)
    rwa [World.size_alloc, World.size_alloc] at this
  rw [← hW3] at hb3 ⊢
  rw [World.size_alloc]
  refine ⟨⟨_, rfl⟩, q2, ?_⟩
  obtain ⟨W4, hW4⟩ : ∃ W4, W4 = W3.putObj (w.heap.size + 2) (.loop { L with state := .exhausted }) := ⟨_, rfl⟩
  rw [← hW4]
  have r0 : W4.heap[w.heap.size]? = some (.cells #[.slice none 0 0] 223) := by rw [hW4]; exact (World.putObj_heap_other (by omega)).trans q0
  have r1 : W4.heap[w.heap.size + 1]? = some (.deferred (some [])) := by rw [hW4]; exact (World.putObj_heap_other (by omega)).trans q1
  have hb4 : Below w.heap.size w W4 := by rw [hW4]; exact hb3.grown (Go.Dx.grownBy_put _ _ _) hb3.size (fun k e => by cases e; omega)
  obtain ⟨hc3, hf3⟩ := Go.Dx.cell_of_box r0
  clear hW4 hW3 q0 q1 q2 hb3 hL hb2 hb1 hb0 hg eg
  gi_wp2
  refine ⟨by simp, .inl ⟨_, _, rfl, run_takeDeferred r1, ?_⟩⟩
  exact ⟨_, results_tmp rfl _ _ _, rfl, hb4.grown (Go.Dx.grownBy_put _ _ _) hb4.size (fun k e => by cases e; omega)⟩
end Go.Proofs
namespace Go.Proofs
open Go Go.RowKit Go.Dx

theorem Tz.zero73 (w : World) : (zeroValue 152).run Tryz.prog w = .ok (.agg #[.string ⟨#[]⟩, .string ⟨#[]⟩]) w := by kernel_rfl
theorem Tz.info73 : ∃ i z, Tryz.prog.info? 152 = some i ∧ i.zero = some z ∧ i.size = 2 ∧ z.cells.size = 2 ∧ i.bytes ≤ 1048576 := by
  have h : ((Tryz.prog.info? 152).bind fun i => i.zero.map fun z => (i.size, z.cells.size, decide (i.bytes ≤ 1048576))) = some (2, 2, true) := by kernel_rfl
  cases hi : Tryz.prog.info? 152 with
  | none => rw [hi] at h; cases h
  | some i =>
    cases hz : i.zero with
    | none => simp [hi, hz] at h
    | some z =>
      simp [hi, hz] at h
      exact ⟨i, z, rfl, hz, h.1, h.2.1, h.2.2⟩
theorem Tz.size73 (w : World) : (sizeOf 152).run Tryz.prog w = .ok 2 w := by kernel_rfl

/-- A new block of two cells, and both stored. -/
theorem fill2 {P : Program} (W : World) (z1 z2 y1 y2 : Value) (t : TypeId) (o1 : y1.oneCell' = true) (o2 : y2.oneCell' = true) :
    ∃ W1 W2, (store ⟨W.heap.size, 0, none⟩ y1).run P (W.alloc (.cells #[z1, z2] t)) = .ok () W1 ∧ (store ⟨W.heap.size, 1, none⟩ y2).run P W1 = .ok () W2 ∧ W2.heap[W.heap.size]? = some (.cells #[y1, y2] t (0, 0)) ∧
      Below W.heap.size W W2 ∧ KeepsWalks W W2 ∧ W2.heap.size = W.heap.size + 1 ∧ W2.cell? ⟨W.heap.size, 0, none⟩ = some y1 ∧ W2.cell? ⟨W.heap.size, 1, none⟩ = some y2 ∧ W2.frozen? ⟨W.heap.size, 0, none⟩ = false := by
  have h0 : (W.alloc (.cells #[z1, z2] t)).heap[W.heap.size]? = some (.cells #[z1, z2] t (0, 0)) := Go.Dx.heap_alloc_new _
  have e1 : ((W.alloc (.cells #[z1, z2] t)).setCell ⟨W.heap.size, 0, none⟩ y1).heap[W.heap.size]? = some (.cells #[y1, z2] t (0, 0)) := by
    show ((W.alloc (.cells #[z1, z2] t)).heap.modify W.heap.size _)[W.heap.size]? = _
    rw [Array.getElem?_modify, if_pos rfl, h0]; rfl
  have e2 : (((W.alloc (.cells #[z1, z2] t)).setCell ⟨W.heap.size, 0, none⟩ y1).setCell ⟨W.heap.size, 1, none⟩ y2).heap[W.heap.size]? = some (.cells #[y1, y2] t (0, 0)) := by
    show (((W.alloc (.cells #[z1, z2] t)).setCell ⟨W.heap.size, 0, none⟩ y1).heap.modify W.heap.size _)[W.heap.size]? = _
    rw [Array.getElem?_modify, if_pos rfl, e1]; rfl
  refine ⟨(W.alloc (.cells #[z1, z2] t)).setCell ⟨W.heap.size, 0, none⟩ y1, ((W.alloc (.cells #[z1, z2] t)).setCell ⟨W.heap.size, 0, none⟩ y1).setCell ⟨W.heap.size, 1, none⟩ y2, ?_, ?_, e2, ?_, ?_, ?_, ?_, ?_, ?_⟩
  · rw [run_store P _ _ y1 .plain o1]
    have c1 : (W.alloc (.cells #[z1, z2] t)).cell? ⟨W.heap.size, 0, none⟩ = some z1 := by unfold World.cell?; simp only [h0]; rfl
    have c2 : (W.alloc (.cells #[z1, z2] t)).frozen? ⟨W.heap.size, 0, none⟩ = false := by unfold World.frozen?; simp only [h0]; rfl
    simp [c1, c2]
  · rw [run_store P _ _ y2 .plain o2]
    have c1 : ((W.alloc (.cells #[z1, z2] t)).setCell ⟨W.heap.size, 0, none⟩ y1).cell? ⟨W.heap.size, 1, none⟩ = some z2 := by unfold World.cell?; simp only [e1]; rfl
    have c2 : ((W.alloc (.cells #[z1, z2] t)).setCell ⟨W.heap.size, 0, none⟩ y1).frozen? ⟨W.heap.size, 1, none⟩ = false := by unfold World.frozen?; simp only [e1]; rfl
    simp [c1, c2]
  · exact ((((Below.refl _ W).alloc (Nat.le_refl _) _).setCell (Nat.le_refl _) _).setCell (Nat.le_refl _) _)
  · exact ((KeepsWalks.alloc _ _).trans (KeepsWalks.setCell _ _ _)).trans (KeepsWalks.setCell _ _ _)
  · simp [World.setCell]
  · unfold World.cell?; simp only [e2]; rfl
  · unfold World.cell?; simp only [e2]; rfl
  · unfold World.frozen?; simp only [e2]; rfl

/-- What a round is to do, whatever world it is asked in. -/
def RoundAt (l : Nat) (x : Value) (w : World) (R : World → Prop) : Prop :=
  ∀ W1, Below w.heap.size w W1 → YieldAt Fence.wide 0 Tryz.prog l #[x] W1 fun e W' => e = .returned (.bool true) ∧ KeepsWalks W1 W' ∧ R W'

set_option maxRecDepth 100000 in
set_option maxHeartbeats 1000000 in
theorem Tz.it251 (l Bm b c : Nat) (en : MapEntry) (y1 y2 : Value) (w : World) (hm : w.cell? ⟨Bm, 0, none⟩ = some (.map (some b))) (hb : w.heap[b]? = some (.map #[en] c)) (hbn : en.born < c) (hv : en.val = .agg #[y1, y2]) (o1 : y1.oneCell' = true) (o2 : y2.oneCell' = true)
    (R : World → Prop) (hY : RoundAt l (.agg #[y1, y2]) w R) :
    CallsIn Fence.wide 0 Tryz.prog 460 #[.func (.yield l) #[] #[], .pointer (some ⟨Bm, 0, none⟩)] w fun e W' => (∃ v, e = .returned v) ∧ R W' := by
  have h1 := Go.Dx.run_range_map (P := Tryz.prog) Tryz.underlying346 hb
  have hlt := Go.Dx.heap_lt hb
  obtain ⟨W1, hW1⟩ : ∃ W1, W1 = w.alloc (.mapIter (some b) c #[] c) := ⟨_, rfl⟩
  have b1 : W1.heap[b]? = some (.map #[en] c) := by rw [hW1]; exact (Go.Dx.heap_alloc_old _ hlt).trans hb
  have i1 : W1.heap[w.heap.size]? = some (.mapIter (some b) c #[] c) := by rw [hW1]; exact Go.Dx.heap_alloc_new _
  have B1 : Below w.heap.size w W1 := by rw [hW1]; exact (Below.refl _ w).alloc (Nat.le_refl _) _
  have s1 : W1.heap.size = w.heap.size + 1 := by rw [hW1]; simp
  rw [← hW1] at h1
  clear hW1
  have h2 := run_next_first (P := Tryz.prog) i1 b1 hbn
  rw [hv] at h2
  obtain ⟨W2, hW2⟩ : ∃ W2, W2 = W1.putObj w.heap.size (.mapIter (some b) c #[en.born] c) := ⟨_, rfl⟩
  rw [← hW2] at h2
  have b2 : W2.heap[b]? = some (.map #[en] c) := by rw [hW2]; exact (World.putObj_heap_other (by omega)).trans b1
  have i2 : W2.heap[w.heap.size]? = some (.mapIter (some b) c #[en.born] c) := by rw [hW2]; exact World.putObj_heap_same (by omega)
  have B2 : Below w.heap.size w W2 := by rw [hW2]; exact B1.grown (Go.Dx.grownBy_put _ _ _) B1.size (fun k e => by cases e; omega)
  have s2 : W2.heap.size = w.heap.size + 1 := by rw [hW2]; simp [s1]
  clear hW2
  have h3 := run_entry_one (P := Tryz.prog) i2 b2
  rw [hv] at h3
  have hz := Tz.zero73
  have hsz := Tz.size73
  obtain ⟨W3, W4, f1, f2, f3, f4, f5, f6, f7, f8, f9⟩ := fill2 (P := Tryz.prog) W2 (.string ⟨#[]⟩) (.string ⟨#[]⟩) y1 y2 152 o1 o2
  rw [s2] at f1 f2 f3 f7 f8 f9
  refine callsIn_of_wp Tryz.func460 rfl trivial ?_ rfl
  simp only [Tryz.ntmps460, List.size_toArray, List.length_cons, List.length_nil, Nat.reduceAdd, Nat.reduceSub, Array.replicate_succ, Array.replicate_zero, List.push_toArray, List.append_toArray, List.nil_append, List.cons_append]
  clear B1 b1 i1 hb
  gi_wp2
  refine wpIn_loop_rounds 2 ?_
  rw [roundsIn_succ]
  obtain ⟨fn, tmps, assign, body, hy, hR⟩ := hY W4 (B2.trans (f4.mono (by omega)))
  have k4 : W4.heap[b]? = some (.map #[en] c) := f5.same b _ b2 rfl
  have k5 : W4.heap[w.heap.size]? = some (.mapIter (some b) c #[en.born] c) := f5.same _ _ i2 rfl
  gi_wp2
  refine ⟨rfl, hR.mono ?_⟩
  rintro e W5 ⟨rfl, g1, g2⟩
  have h4 := run_next_last (P := Tryz.prog) (g1.same _ _ k5 rfl) (g1.same _ _ k4 rfl) hbn
  gi_wp2
  rw [roundsIn_succ]
  gi_wp2
  go_end0
  exact ⟨⟨_, rfl⟩, g2⟩

/-- What AppendSeq hands back: a new row, whose first two cells are those. -/
def RowAt (w w' : World) (e : TypeId) (y1 y2 : Value) (v : Value) : Prop :=
  ∃ g cap cur, v = .slice (some ⟨g, 0, none⟩) 1 cap ∧ w.heap.size ≤ g ∧ w'.heap[g]? = some (.cells cur e (0, 0)) ∧ cur.toList.take 2 = [y1, y2] ∧ cur.size = cap * 2 ∧ 1 ≤ cap

set_option maxRecDepth 100000 in
set_option maxHeartbeats 2000000 in
theorem Tz.seq281 (g : Nat) (lb : Array Value) (eg : ∀ args w, (callFunc g args).run Tryz.prog w = .ok (.enter g args) w) (w : World) (y1 y2 : Value) (o1 : y1.oneCell' = true) (o2 : y2.oneCell' = true)
    (hg : ∀ l W (R : World → Prop), Below w.heap.size w W → RoundAt l (.agg #[y1, y2]) W R → CallsIn Fence.wide 0 Tryz.prog g (#[.func (.yield l) #[] #[]] ++ lb) W fun e W' => (∃ v, e = .returned v) ∧ R W') :
    Calls Tryz.prog 510 #[.slice none 0 0, .func (.func g) #[] lb] w fun e w' => ∃ v, e = .returned v ∧ RowAt w w' 152 y1 y2 v ∧ Below w.heap.size w w' := by
  refine (callsIn_wide (n := 0)).1 ?_
  refine callsIn_of_wp_marks Tryz.func510 rfl trivial ?_ rfl
  simp only [Tryz.ntmps510, List.size_toArray, List.length_cons, List.length_nil, Nat.reduceAdd, Nat.reduceSub, Array.replicate_succ, Array.replicate_zero, List.push_toArray, List.append_toArray, List.nil_append, List.cons_append]
  gi_wp2
  refine wpIn_rangeFunc_flat rfl eg fun fn L hL => ?_
  have hb0 : Below w.heap.size w (w.alloc (.cells #[.slice none 0 0] 91)) := (Below.refl _ w).alloc (Nat.le_refl _) _
  have hb1 := (hb0.alloc hb0.size (.deferred (some [])))
  have hb2 := hb1.alloc hb1.size (.loop L)
  obtain ⟨W3, hW3⟩ : ∃ W3, W3 = (((w.alloc (.cells #[.slice none 0 0] 91)).alloc (.deferred (some []))).alloc (.loop L)) := ⟨_, rfl⟩
  have q0 : W3.heap[w.heap.size]? = some (.cells #[.slice none 0 0] 91 (0, 0)) := by
    rw [hW3, Go.Dx.heap_alloc_old _ (by simp <;> omega), Go.Dx.heap_alloc_old _ (by simp <;> omega)]; exact Go.Dx.heap_alloc_new _
  have q1 : W3.heap[w.heap.size + 1]? = some (.deferred (some [])) := by
    rw [hW3, Go.Dx.heap_alloc_old _ (by simp <;> omega)]
    have := Go.Dx.heap_alloc_new (w := w.alloc (.cells #[.slice none 0 0] 91)) (.deferred (some []))
    rwa [World.size_alloc] at this
  have q2 : W3.heap[w.heap.size + 2]? = some (.loop L) := by
    rw [hW3]
    have := Go.Dx.heap_alloc_new (w := (w.alloc (.cells #[.slice none 0 0] 91)).alloc (.deferred (some []))) (.loop L)
    rwa [World.size_alloc, World.size_alloc] at this
  have s3 : W3.heap.size = w.heap.size + 3 := by rw [hW3]; simp
  rw [← hW3] at hb2 ⊢
  clear hW3 hb1 hb0
  rw [World.size_alloc]
  -- the round
  have hround : RoundAt (w.heap.size + 2) (.agg #[y1, y2]) W3 fun W' => W'.heap[w.heap.size + 2]? = some (.loop L) ∧ W'.heap[w.heap.size + 1]? = some (.deferred (some [])) ∧
      (∃ v, W'.heap[w.heap.size]? = some (.cells #[v] 91 (0, 0)) ∧ RowAt w W' 152 y1 y2 v) ∧ Below w.heap.size w W' := by
    intro W1 B1
    have p0 : W1.heap[w.heap.size]? = some (.cells #[.slice none 0 0] 91 (0, 0)) := (B1.block _ (by omega)).trans q0
    have p1 : W1.heap[w.heap.size + 1]? = some (.deferred (some [])) := (B1.block _ (by omega)).trans q1
    have p2 : W1.heap[w.heap.size + 2]? = some (.loop L) := (B1.block _ (by omega)).trans q2
    have Bw : Below w.heap.size w W1 := hb2.trans (B1.mono (by omega))
    have z1 : w.heap.size + 3 ≤ W1.heap.size := by have := B1.size; omega
    clear B1 q0 q1 q2 hb2 hg
    have hy := run_yield (P := Tryz.prog) (args := #[.agg #[y1, y2]]) p2 (by rw [hL.params]; rfl)
    rw [hL.fn, hL.assign, hL.params, hL.tmps, hL.body] at hy
    simp at hy
    refine ⟨_, _, _, _, hy, roundIn_of_wpIn trivial ?_⟩
    have hz := Tz.zero73
    have hsz := Tz.size73
    obtain ⟨W4, W5, f1, f2, f3, f4, f5, f6, f7, f8, f9⟩ := fill2 (P := Tryz.prog) W1 (.string ⟨#[]⟩) (.string ⟨#[]⟩) y1 y2 152 o1 o2
    have r0 : W5.heap[w.heap.size]? = some (.cells #[.slice none 0 0] 91 (0, 0)) := (f4.block _ (by omega)).trans p0
    have r1 : W5.heap[w.heap.size + 1]? = some (.deferred (some [])) := (f4.block _ (by omega)).trans p1
    have r2 : W5.heap[w.heap.size + 2]? = some (.loop L) := (f4.block _ (by omega)).trans p2
    have Bw5 : Below w.heap.size w W5 := Bw.trans (f4.mono (by omega))
    clear hy
    gi_wp2_with (rw [Oper.semAt_eq _ _ _ (fun c h => by cases h)]; go_simp; try go_bits)
    clear f1 f2
    have hbr := run_beginRound (P := Tryz.prog) r2 hL.state
    obtain ⟨W6, hW6⟩ : ∃ W6, W6 = W5.putObj (w.heap.size + 2) (.loop { L with state := .busy }) := ⟨_, rfl⟩
    rw [← hW6] at hbr
    have t0 : W6.heap[w.heap.size]? = some (.cells #[.slice none 0 0] 91 (0, 0)) := by rw [hW6]; exact (World.putObj_heap_other (by omega)).trans r0
    have t1 : W6.heap[w.heap.size + 1]? = some (.deferred (some [])) := by rw [hW6]; exact (World.putObj_heap_other (by omega)).trans r1
    have t2 : W6.heap[w.heap.size + 2]? = some (.loop { L with state := .busy }) := by rw [hW6]; exact World.putObj_heap_same (by omega)
    have t3 : W6.heap[W1.heap.size]? = some (.cells #[y1, y2] 152 (0, 0)) := by rw [hW6]; exact (World.putObj_heap_other (by omega)).trans f3
    have Bw6 : Below w.heap.size w W6 := by rw [hW6]; exact Bw5.grown (Go.Dx.grownBy_put _ _ _) Bw5.size (fun k e => by cases e; omega)
    have z6 : W6.heap.size = W1.heap.size + 1 := by rw [hW6]; simp [f6]
    have k6 : KeepsWalks W1 W6 := by rw [hW6]; exact f5.trans (KeepsWalks.putObj _ r2 rfl)
    clear hW6 f3 f7 f8 f9
    obtain ⟨c6, d6⟩ := Go.Dx.cell_of_box t0
    have c61 : W6.cell? ⟨W1.heap.size, 0, none⟩ = some y1 := by unfold World.cell?; simp only [t3]; rfl
    have c62 : W6.cell? ⟨W1.heap.size, 1, none⟩ = some y2 := by unfold World.cell?; simp only [t3]; rfl
    obtain ⟨i73, zz, hi, hz73, hs73, hzs, hb73⟩ := Tz.info73
    have hcc : ∀ j v, ([y1, y2] : List Value)[j]? = some v → (W6.alloc (.cells #[y1, y2] 152)).cell? ((⟨W1.heap.size + 1, 0, none⟩ : Addr).add j) = some v := fun j v hv => by
      rw [← z6]
      have hn := Go.Dx.heap_alloc_new (w := W6) (.cells #[y1, y2] 152)
      rw [addr_add]
      show (W6.alloc (.cells #[y1, y2] 152)).cell? ⟨W6.heap.size, 0 + j, none⟩ = some v
      unfold World.cell?
      simp only [hn]
      rw [Nat.zero_add]
      simpa using hv
    obtain ⟨g', cap, cur, happ, hg', htake, hcur, hcap⟩ := run_append_one (P := Tryz.prog) (w := W6.alloc (.cells #[y1, y2] 152)) Tryz.underlying91 hi hz73 (by rw [hzs, hs73]) hb73 (src := ⟨W1.heap.size + 1, 0, none⟩) (news := [y1, y2]) (by rw [hs73]; rfl) hcc 91
    rw [World.size_alloc] at hg'
    rw [hs73] at htake hcur
    obtain ⟨W7, hW7⟩ : ∃ W7, W7 = (W6.alloc (.cells #[y1, y2] 152)).drew.alloc (.cells cur 152) := ⟨_, rfl⟩
    rw [← hW7] at happ
    have u0 : W7.heap[w.heap.size]? = some (.cells #[.slice none 0 0] 91 (0, 0)) := by rw [hW7]; exact (Go.Dx.heap_alloc_old _ (by simp <;> omega)).trans ((Go.Dx.heap_alloc_old _ (by omega)).trans t0)
    have u1 : W7.heap[w.heap.size + 1]? = some (.deferred (some [])) := by rw [hW7]; exact (Go.Dx.heap_alloc_old _ (by simp <;> omega)).trans ((Go.Dx.heap_alloc_old _ (by omega)).trans t1)
    have u2 : W7.heap[w.heap.size + 2]? = some (.loop { L with state := .busy }) := by rw [hW7]; exact (Go.Dx.heap_alloc_old _ (by simp <;> omega)).trans ((Go.Dx.heap_alloc_old _ (by omega)).trans t2)
    have u3 : W7.heap[g']? = some (.cells cur 152 (0, 0)) := by
      rw [hW7, hg']
      have := Go.Dx.heap_alloc_new (w := (W6.alloc (.cells #[y1, y2] 152)).drew) (.cells cur 152)
      have e : (W6.alloc (.cells #[y1, y2] 152)).drew.heap.size = W6.heap.size + 1 := World.size_alloc _ _
      rwa [e] at this
    have Bw7 : Below w.heap.size w W7 := by
      rw [hW7]
      have a1 := Bw6.alloc Bw6.size (.cells #[y1, y2] 152)
      exact a1.drew.alloc a1.size _
    have k7 : KeepsWalks W1 W7 := by
      rw [hW7]
      have a1 : KeepsWalks W1 (W6.alloc (.cells #[y1, y2] 152)) := k6.trans (KeepsWalks.alloc _ _)
      have a2 : KeepsWalks (W6.alloc (.cells #[y1, y2] 152)) (W6.alloc (.cells #[y1, y2] 152)).drew := ⟨Nat.le_refl _, fun _ _ h _ => h⟩
      exact (a1.trans a2).trans (KeepsWalks.alloc _ _)
    have z7 : W7.heap.size = W6.heap.size + 2 := by
      rw [hW7, World.size_alloc]
      show (W6.alloc (.cells #[y1, y2] 152)).heap.size + 1 = _
      rw [World.size_alloc]
    clear hW7
    have hg1 : W1.heap.size + 2 ≤ g' := by omega
    have hg2 : g' < W7.heap.size := by omega
    clear hg'
    obtain ⟨c7, d7⟩ := Go.Dx.cell_of_box u0
    refine ⟨W6, hbr, ?_⟩
    gi_wp2_with (first
      | (gi_at_builtin; refine wpListIn_append_run rfl (.tmp 8) (.tmp 10) 91 91 rfl (sx := .slice none 0 0) (xx := .slice (some ⟨W1.heap.size + 1, 0, none⟩) 1 1) rfl rfl happ ?_; go_frame)
      | (rw [Oper.semAt_eq _ _ _ (fun c h => by cases h)]; go_simp; try go_bits))
    obtain ⟨W8, hW8⟩ : ∃ W8, W8 = W7.setCell ⟨w.heap.size, 0, none⟩ (.slice (some ⟨g', 0, none⟩) 1 cap) := ⟨_, rfl⟩
    rw [← hW8]
    have v0 : W8.heap[w.heap.size]? = some (.cells #[.slice (some ⟨g', 0, none⟩) 1 cap] 91 (0, 0)) := by
      rw [hW8]
      show (W7.heap.modify w.heap.size _)[w.heap.size]? = _
      rw [Array.getElem?_modify, if_pos rfl, u0]; rfl
    have v1 : W8.heap[w.heap.size + 1]? = some (.deferred (some [])) := by rw [hW8]; exact (Below.heap_setCell _ _ _ _ (by show w.heap.size + 1 ≠ w.heap.size; omega)).trans u1
    have v2 : W8.heap[w.heap.size + 2]? = some (.loop { L with state := .busy }) := by rw [hW8]; exact (Below.heap_setCell _ _ _ _ (by show w.heap.size + 2 ≠ w.heap.size; omega)).trans u2
    have v3 : W8.heap[g']? = some (.cells cur 152 (0, 0)) := by rw [hW8]; exact (Below.heap_setCell _ _ _ _ (by show g' ≠ w.heap.size; omega)).trans u3
    have Bw8 : Below w.heap.size w W8 := by rw [hW8]; exact Bw7.setCell (Nat.le_refl _) _
    have k8 : KeepsWalks W1 W8 := by rw [hW8]; exact k7.trans (KeepsWalks.setCell _ _ _)
    have z8 : W8.heap.size = W7.heap.size := by rw [hW8]; simp [World.setCell]
    clear hW8
    have hend := run_endRound (P := Tryz.prog) none v2
    have hLL : ({ ({ L with state := .busy } : Loop) with state := if (none : Option Code).isNone then .ready else .done, pending := none } : Loop) = L := by
      have e1 := hL.state
      have e2 := hL.pending
      cases L
      simp only at e1 e2
      subst e1; subst e2; rfl
    rw [hLL] at hend
    refine ⟨_, _, hend, rfl, k8.trans (KeepsWalks.putObj _ v2 rfl), World.putObj_heap_same (by omega), (World.putObj_heap_other (by omega)).trans v1, ⟨_, (World.putObj_heap_other (by omega)).trans v0, ?_⟩,
      Bw8.grown (Go.Dx.grownBy_put _ _ _) Bw8.size (fun k e => by cases e; omega)⟩
    exact ⟨g', cap, cur, rfl, by omega, (World.putObj_heap_other (by omega)).trans v3, htake, hcur, hcap⟩
  refine (hg _ W3 _ hb2 hround).mono ?_
  rintro e W9 ⟨⟨v, rfl⟩, q2, q1, ⟨rv, q0, g', cap, cur, rfl, m1, m2, m3, m4, m5⟩, Bw9⟩
  refine ⟨⟨_, rfl⟩, q2, ?_⟩
  obtain ⟨W4, hW4⟩ : ∃ W4, W4 = W9.putObj (w.heap.size + 2) (.loop { L with state := .exhausted }) := ⟨_, rfl⟩
  rw [← hW4]
  have hne : g' ≠ w.heap.size + 2 := fun e => by rw [e] at m2; rw [m2] at q2; cases q2
  have hne1 : g' ≠ w.heap.size + 1 := fun e => by rw [e] at m2; rw [m2] at q1; cases q1
  have r0 : W4.heap[w.heap.size]? = some (.cells #[.slice (some ⟨g', 0, none⟩) 1 cap] 91 (0, 0)) := by rw [hW4]; exact (World.putObj_heap_other (by omega)).trans q0
  have r1 : W4.heap[w.heap.size + 1]? = some (.deferred (some [])) := by rw [hW4]; exact (World.putObj_heap_other (by omega)).trans q1
  have r3 : W4.heap[g']? = some (.cells cur 152 (0, 0)) := by rw [hW4]; exact (World.putObj_heap_other hne).trans m2
  have hb4 : Below w.heap.size w W4 := by rw [hW4]; exact Bw9.grown (Go.Dx.grownBy_put _ _ _) Bw9.size (fun k e => by cases e; omega)
  obtain ⟨hc3, hf3⟩ := Go.Dx.cell_of_box r0
  clear hW4 q0 q1 q2 hL hb2 hg eg hround m2
  gi_wp2
  refine ⟨by simp, .inl ⟨_, _, rfl, run_takeDeferred r1, ?_⟩⟩
  exact ⟨_, results_tmp rfl _ _ _, _, rfl, ⟨g', cap, cur, rfl, m1, (World.putObj_heap_other hne1).trans r3, m3, m4, m5⟩, hb4.grown (Go.Dx.grownBy_put _ _ _) hb4.size (fun k e => by cases e; omega)⟩
end Go.Proofs
namespace Go.Dx
open Go Go.RowKit Go.Proofs

section
variable {B : Nat} {w0 : World} {ρ : Rho} {h : H} {w : World}

/-- What stands in a cell of a label. -/
theorem HRel.cellAt (R : HRel B w0 ρ h w) {l : Lb} {b : Blk} {v : V} (hb : ρ l = some b) (hc : cellAt h l 0 = some v) : ∃ x, w.cell? ⟨b.block, 0, none⟩ = some x ∧ RV ρ v x := by
  simp only [Dx.cellAt, Q.ask] at hc
  split at hc
  · rename_i vs el fz own hg
    have c0 : CRel ρ b vs el fz own w := R.obj _ _ _ hb hg
    simp only [rdPart, dropN] at hc
    obtain ⟨q, q1, q2⟩ := c0.cell 0 _ (by rw [← List.head?_eq_getElem?]; exact hc)
    refine ⟨q, ?_, q2⟩
    unfold cellAd at q1
    rw [(R.base _ _ hb).1] at q1
    exact q1
  · cases hc

theorem seqMap_nil (R : HRel B w0 ρ h w) {l : Lb} {b : Blk} (hb : ρ l = some b) (hs : seqMap h l = some []) : ∃ mb, w.cell? ⟨b.block, 0, none⟩ = some (.map mb) ∧ NoMap w mb := by
  unfold seqMap at hs
  split at hs
  · rename_i r hc
    obtain ⟨x, hx, rx⟩ := R.cellAt hb hc
    obtain ⟨c, hcr, rfl⟩ := map_inv rx
    split at hs
    · rename_i clock hg
      obtain ⟨ms, hm, he⟩ : ∃ ms : Array MapEntry, w.heap[c.block]? = some (.map ms clock) ∧ REs ρ [] ms.toList := R.obj _ _ _ hcr hg
      have : ms = #[] := by
        cases ms with | mk ml =>
        have : RV ρ .nilPtr (.pointer none) := .nilPtr
        have he : REs ρ [] ml := he
        cases he; rfl
      subst this
      exact ⟨_, hx, .inr ⟨_, _, rfl, hm⟩⟩
    · simp [chk_some] at hs
    · cases hs
  · rename_i hc
    obtain ⟨x, hx, rx⟩ := R.cellAt hb hc
    cases rx
    exact ⟨_, hx, .inl rfl⟩
  · cases hs

theorem seqMap_one (R : HRel B w0 ρ h w) {l : Lb} {b : Blk} {e : V × V × Nat} (hb : ρ l = some b) (hs : seqMap h l = some [e]) :
    ∃ m en c, w.cell? ⟨b.block, 0, none⟩ = some (.map (some m)) ∧ w.heap[m]? = some (.map #[en] c) ∧ en.born < c ∧ RV ρ e.1 en.key ∧ RV ρ e.2.1 en.val := by
  unfold seqMap at hs
  split at hs
  · rename_i r hc
    obtain ⟨x, hx, rx⟩ := R.cellAt hb hc
    obtain ⟨c, hcr, rfl⟩ := map_inv rx
    split at hs
    · cases hs
    · rename_i y clock hg
      simp only [chk_some, Option.some.injEq, List.cons.injEq, and_true] at hs
      obtain ⟨hlt, rfl⟩ := hs
      have hlt : y.2.2 < clock := by simpa using hlt
      obtain ⟨ms, hm, he⟩ : ∃ ms : Array MapEntry, w.heap[c.block]? = some (.map ms clock) ∧ REs ρ [y] ms.toList := R.obj _ _ _ hcr hg
      cases ms with | mk ml =>
      have he : REs ρ [y] ml := he
      cases he with
      | cons hk hv hn hs =>
        cases hs
        exact ⟨_, _, _, hx, hm, by rw [hn]; exact hlt, hk, hv⟩
    · cases hs
  · cases hs
  · cases hs

theorem enters {P : Program} {f : FuncId} {func : Func} {c : Code} (hf : P.funcs[f]? = some func) (hb : func.body = some c) (hn : (func.name == "runtime.NumGoroutine") = false) (args : Array Value) (w : World) : (callFunc f args).run P w = .ok (.enter f args) w := by
  have hn : ¬ func.name = "runtime.NumGoroutine" := fun e => by rw [e] at hn; simp at hn
  unfold callFunc
  simp [hf, hn, hb]

theorem ext_seq221 {G : Nat} : ExtOk Tryz.prog G 396 (.seq true 9 1 16 [375, 292] []) := by
  intro args h v h' hr B w0 ρ w xs R hG hx
  simp only [extRun] at hr
  split at hr
  · rename_i g l
    obtain ⟨x1, x2, rfl, r1, r2⟩ := hx.two
    cases r1
    obtain ⟨a', b', rfl, ra, rb⟩ := func_inv r2
    cases ra
    obtain ⟨y, rfl, ry⟩ := rb.one
    obtain ⟨b, hb, rfl⟩ := ptr_inv ry
    rw [(R.base _ _ hb).1]
    split at hr
    · rename_i hs
      simp only [chk_some, Option.some.injEq, Prod.mk.injEq] at hr
      obtain ⟨hg, rfl, rfl⟩ := hr
      obtain ⟨mb, hm, hn⟩ := seqMap_nil R hb hs
      have hmlt : b.block < w.heap.size := by
        rcases Nat.lt_or_ge b.block w.heap.size with h | h
        · exact h
        · simp [World.cell?, Array.getElem?_eq_none h] at hm
      have hkeep : ∀ W, Below w.heap.size w W → W.cell? ⟨b.block, 0, none⟩ = some (.map mb) ∧ NoMap W mb := fun W hW => by
        refine ⟨(hW.cell (p := ⟨b.block, 0, none⟩) hmlt).trans hm, ?_⟩
        rcases hn with rfl | ⟨m, c, rfl, hmb⟩
        · exact .inl rfl
        · exact .inr ⟨m, c, rfl, (hW.block _ (heap_lt hmb)).trans hmb⟩
      have fin : (∀ args w, (callFunc g args).run Tryz.prog w = .ok (.enter g args) w) → (∀ l W, Below w.heap.size w W → CallsIn Fence.wide 0 Tryz.prog g (#[.func (.yield l) #[] #[]] ++ #[.pointer (some ⟨b.block, 0, none⟩)]) W fun e W' => (∃ v, e = .returned v) ∧ ∃ o, W' = W.alloc o) →
          Good Tryz.prog 396 [.slice none 0 0, .func (.func g) #[] #[.pointer (some ⟨b.block, 0 + 0, none⟩)]] w fun x w' => ∃ ρ', Step ρ ρ' h h ∧ RV ρ' (.nilSlice 0) x ∧ HRel B w0 ρ' h w' := fun eg hit =>
        Good.of_calls Tryz.func396 rfl (by kernel_rfl) ((Tz.seq221 g _ eg w hit).mono fun e w' ⟨h1, h2⟩ => ⟨_, h1, ρ, Step.refl _ _, .nilSlice 0, R.below_ok h2⟩)
      simp only [hasNat, Bool.or_false, Bool.or_eq_true] at hg
      rcases hg with hg | hg
      · have := Nat.eq_of_beq_eq_true hg
        subst this
        exact fin (enters Tryz.func375 rfl (by kernel_rfl)) fun l W hW => Tz.it180 _ _ trivial rfl l b.block W mb (hkeep W hW).1 (hkeep W hW).2
      · have := Nat.eq_of_beq_eq_true hg
        subst this
        exact fin (enters Tryz.func292 rfl (by kernel_rfl)) fun l W hW => Tz.it215 _ _ trivial rfl l b.block W mb (hkeep W hW).1 (hkeep W hW).2
    · simp [hasNat, chk] at hr
    · cases hr
  · cases hr

theorem ext_seq281 {G : Nat} : ExtOk Tryz.prog G 510 (.seq false 152 2 32 [] [460]) := by
  intro args h v h' hr B w0 ρ w xs R hG hx
  simp only [extRun] at hr
  split at hr
  · rename_i g l
    obtain ⟨x1, x2, rfl, r1, r2⟩ := hx.two
    cases r1
    obtain ⟨a', b', rfl, ra, rb⟩ := func_inv r2
    cases ra
    obtain ⟨y, rfl, ry⟩ := rb.one
    obtain ⟨b, hb, rfl⟩ := ptr_inv ry
    rw [(R.base _ _ hb).1]
    split at hr
    · simp [hasNat, chk] at hr
    · rename_i e hs
      simp only [chk_some, hasNat, Bool.or_false, Bool.and_true] at hr
      obtain ⟨hg, hr⟩ := hr
      have := Nat.eq_of_beq_eq_true hg
      subst this
      obtain ⟨m, en, c, hm, hmb, hborn, -, hval⟩ := seqMap_one R hb hs
      unfold push1 at hr
      simp only [chk_some, Bool.and_eq_true] at hr
      obtain ⟨⟨⟨⟨hl, -⟩, -⟩, hfl⟩, hr⟩ := hr
      have hl := Nat.eq_of_beq_eq_true hl
      obtain ⟨v1, v2, hv⟩ : ∃ v1 v2, e.2.1 = .agg [v1, v2] := by
        generalize e.2.1 = u at hl
        cases u with
        | agg cs =>
          match cs, hl with
          | [v1, v2], _ => exact ⟨v1, v2, rfl⟩
        | _ => simp [V.cells] at hl
      rw [hv] at hval hr hfl
      obtain ⟨ys, henv, hval⟩ : ∃ ys, en.val = .agg ⟨ys⟩ ∧ RVs ρ [v1, v2] ys := by
        generalize en.val = ev at hval
        cases hval with | agg q => exact ⟨_, rfl, q⟩
      obtain ⟨y1, y2, rfl, s1, s2⟩ := hval.two
      have hone := flats_one hval hfl
      have hr : v = .slice h.next 0 1 (.toEnd 2) ∧ h' = h.add (.cells [v1, v2] 152 0 .yes) := by
        unfold appendV at hr
        simp only [chk_some, Option.some.injEq, Prod.mk.injEq, V.cells] at hr
        exact ⟨hr.2.1.symm, hr.2.2.symm⟩
      obtain ⟨rfl, rfl⟩ := hr
      have hmlt : b.block < w.heap.size := by
        rcases Nat.lt_or_ge b.block w.heap.size with h | h
        · exact h
        · simp [World.cell?, Array.getElem?_eq_none h] at hm
      have key := Tz.seq281 460 #[.pointer (some ⟨b.block, 0, none⟩)] (enters Tryz.func460 rfl (by kernel_rfl)) w y1 y2 (hone y1 (by simp)) (hone y2 (by simp)) fun l W Q hW hY =>
        Tz.it251 l b.block m c en y1 y2 W ((hW.cell (p := ⟨b.block, 0, none⟩) hmlt).trans hm) ((hW.block _ (heap_lt hmb)).trans hmb) hborn henv (hone y1 (by simp)) (hone y2 (by simp)) Q hY
      refine Good.of_calls Tryz.func510 rfl (by kernel_rfl) (key.mono fun e w' hh => ?_)
      obtain ⟨rv, he, ⟨g', cap, cur, rfl, hge, hcur, htake, hsz, hcap⟩, hbel⟩ := hh
      refine ⟨_, he, upd ρ h.next (Blk.mk g' 0 (cap * 2) .nilFunc), Step.add _ _ _ _, ?_, R.named hbel hge ⟨rfl, rfl⟩ ?_⟩
      · have := RV.sliceEnd (ρ := upd ρ h.next (Blk.mk g' 0 (cap * 2) .nilFunc)) (l := h.next) 0 1 2 cap (upd_self _ _ _) hcap (by simp)
        simpa using this
      · have E := upd_ext (b := (Blk.mk g' 0 (cap * 2) .nilFunc)) R.fresh
        refine ⟨?_, ?_, fun i v hv => ?_, fun _ i hi hl => ?_, fun _ => ⟨cur, 0, 0, hcur, Nat.zero_le _, Nat.le_refl _⟩⟩
        · simp [World.shape?, hcur, hsz]
        · show 0 + 2 ≤ cap * 2; omega
        · have hlen : i < 2 := by
            have := (List.getElem?_eq_some_iff.1 hv).1
            simpa using this
          obtain ⟨x, hx1, hx2⟩ := (hval.mono E).get hv
          refine ⟨x, ?_, hx2⟩
          unfold cellAd World.cell?
          simp only [hcur, Nat.zero_add]
          have : cur.toList[i]? = some x := by
            rw [← htake, List.getElem?_take, if_pos hlen] at hx1
            exact hx1
          simpa using this
        · simp [World.frozen?, hcur]
    · cases hr
  · cases hr
end
end Go.Dx
namespace Go.Proofs
open Go Go.RowKit Go.Dx

theorem Tz.info3 : ∃ i z, Tryz.prog.info? 3 = some i ∧ i.zero = some z ∧ i.size = 1 ∧ z.cells.size = 1 ∧ i.bytes ≤ 1048576 := by
  have h : ((Tryz.prog.info? 3).bind fun i => i.zero.map fun z => (i.size, z.cells.size, decide (i.bytes ≤ 1048576))) = some (1, 1, true) := by kernel_rfl
  cases hi : Tryz.prog.info? 3 with
  | none => rw [hi] at h; cases h
  | some i =>
    cases hz : i.zero with
    | none => simp [hi, hz] at h
    | some z =>
      simp [hi, hz] at h
      exact ⟨i, z, rfl, hz, h.1, h.2.1, h.2.2⟩

set_option maxRecDepth 100000 in
set_option maxHeartbeats 1000000 in
theorem Tz.it86 (l Bm b c : Nat) (en : MapEntry) (y : Value) (w : World) (hm : w.cell? ⟨Bm, 0, none⟩ = some (.map (some b))) (hb : w.heap[b]? = some (.map #[en] c)) (hbn : en.born < c) (hv : en.key = y)
    (R : World → Prop) (hY : RoundAt l y w R) :
    CallsIn Fence.wide 0 Tryz.prog 86 #[.func (.yield l) #[] #[], .pointer (some ⟨Bm, 0, none⟩)] w fun e W' => (∃ v, e = .returned v) ∧ R W' := by
  have h1 := Go.Dx.run_range_map (P := Tryz.prog) Tryz.underlying100 hb
  have hlt := Go.Dx.heap_lt hb
  obtain ⟨W1, hW1⟩ : ∃ W1, W1 = w.alloc (.mapIter (some b) c #[] c) := ⟨_, rfl⟩
  have b1 : W1.heap[b]? = some (.map #[en] c) := by rw [hW1]; exact (Go.Dx.heap_alloc_old _ hlt).trans hb
  have i1 : W1.heap[w.heap.size]? = some (.mapIter (some b) c #[] c) := by rw [hW1]; exact Go.Dx.heap_alloc_new _
  have B1 : Below w.heap.size w W1 := by rw [hW1]; exact (Below.refl _ w).alloc (Nat.le_refl _) _
  have s1 : W1.heap.size = w.heap.size + 1 := by rw [hW1]; simp
  rw [← hW1] at h1
  clear hW1
  have h2 := run_next_first (P := Tryz.prog) i1 b1 hbn
  rw [hv] at h2
  obtain ⟨W2, hW2⟩ : ∃ W2, W2 = W1.putObj w.heap.size (.mapIter (some b) c #[en.born] c) := ⟨_, rfl⟩
  rw [← hW2] at h2
  have b2 : W2.heap[b]? = some (.map #[en] c) := by rw [hW2]; exact (World.putObj_heap_other (by omega)).trans b1
  have i2 : W2.heap[w.heap.size]? = some (.mapIter (some b) c #[en.born] c) := by rw [hW2]; exact World.putObj_heap_same (by omega)
  have B2 : Below w.heap.size w W2 := by rw [hW2]; exact B1.grown (Go.Dx.grownBy_put _ _ _) B1.size (fun k e => by cases e; omega)
  have s2 : W2.heap.size = w.heap.size + 1 := by rw [hW2]; simp [s1]
  clear hW2
  have h3 := run_entry_one (P := Tryz.prog) i2 b2
  rw [hv] at h3
  refine callsIn_of_wp Tryz.func86 rfl trivial ?_ rfl
  simp only [Tryz.ntmps86, List.size_toArray, List.length_cons, List.length_nil, Nat.reduceAdd, Nat.reduceSub, Array.replicate_succ, Array.replicate_zero, List.push_toArray, List.append_toArray, List.nil_append, List.cons_append]
  clear B1 b1 i1 hb
  gi_wp2
  refine wpIn_loop_rounds 2 ?_
  rw [roundsIn_succ]
  obtain ⟨fn, tmps, assign, body, hy, hR⟩ := hY W2 B2
  gi_wp2
  refine ⟨rfl, hR.mono ?_⟩
  rintro e W5 ⟨rfl, g1, g2⟩
  have h4 := run_next_last (P := Tryz.prog) (g1.same _ _ i2 rfl) (g1.same _ _ b2 rfl) hbn
  gi_wp2
  rw [roundsIn_succ]
  gi_wp2
  go_end0
  exact ⟨⟨_, rfl⟩, g2⟩

/-- What AppendSeq hands back: a new row, whose first cell is that. -/
def RowOne (w w' : World) (e : TypeId) (y : Value) (v : Value) : Prop :=
  ∃ g cap cur, v = .slice (some ⟨g, 0, none⟩) 1 cap ∧ w.heap.size ≤ g ∧ w'.heap[g]? = some (.cells cur e (0, 0)) ∧ cur.toList.take 1 = [y] ∧ cur.size = cap * 1 ∧ 1 ≤ cap

set_option maxRecDepth 100000 in
set_option maxHeartbeats 2000000 in
theorem Tz.seq147 (g : Nat) (lb : Array Value) (eg : ∀ args w, (callFunc g args).run Tryz.prog w = .ok (.enter g args) w) (w : World) (y : Int)
    (hg : ∀ l W (R : World → Prop), Below w.heap.size w W → RoundAt l (.int .i64 y) W R → CallsIn Fence.wide 0 Tryz.prog g (#[.func (.yield l) #[] #[]] ++ lb) W fun e W' => (∃ v, e = .returned v) ∧ R W') :
    Calls Tryz.prog 147 #[.slice none 0 0, .func (.func g) #[] lb] w fun e w' => ∃ v, e = .returned v ∧ RowOne w w' 3 (.int .i64 y) v ∧ Below w.heap.size w w' := by
  refine (callsIn_wide (n := 0)).1 ?_
  refine callsIn_of_wp_marks Tryz.func147 rfl trivial ?_ rfl
  simp only [Tryz.ntmps147, List.size_toArray, List.length_cons, List.length_nil, Nat.reduceAdd, Nat.reduceSub, Array.replicate_succ, Array.replicate_zero, List.push_toArray, List.append_toArray, List.nil_append, List.cons_append]
  gi_wp2
  refine wpIn_rangeFunc_flat rfl eg fun fn L hL => ?_
  have hb0 : Below w.heap.size w (w.alloc (.cells #[.slice none 0 0] 45)) := (Below.refl _ w).alloc (Nat.le_refl _) _
  have hb1 := (hb0.alloc hb0.size (.deferred (some [])))
  have hb2 := hb1.alloc hb1.size (.loop L)
  obtain ⟨W3, hW3⟩ : ∃ W3, W3 = (((w.alloc (.cells #[.slice none 0 0] 45)).alloc (.deferred (some []))).alloc (.loop L)) := ⟨_, rfl⟩
  have q0 : W3.heap[w.heap.size]? = some (.cells #[.slice none 0 0] 45 (0, 0)) := by
    rw [hW3, Go.Dx.heap_alloc_old _ (by simp <;> omega), Go.Dx.heap_alloc_old _ (by simp <;> omega)]; exact Go.Dx.heap_alloc_new _
  have q1 : W3.heap[w.heap.size + 1]? = some (.deferred (some [])) := by
    rw [hW3, Go.Dx.heap_alloc_old _ (by simp <;> omega)]
    have := Go.Dx.heap_alloc_new (w := w.alloc (.cells #[.slice none 0 0] 45)) (.deferred (some []))
    rwa [World.size_alloc] at this
  have q2 : W3.heap[w.heap.size + 2]? = some (.loop L) := by
    rw [hW3]
    have := Go.Dx.heap_alloc_new (w := (w.alloc (.cells #[.slice none 0 0] 45)).alloc (.deferred (some []))) (.loop L)
    rwa [World.size_alloc, World.size_alloc] at this
  have s3 : W3.heap.size = w.heap.size + 3 := by rw [hW3]; simp
  rw [← hW3] at hb2 ⊢
  clear hW3 hb1 hb0
  rw [World.size_alloc]
  -- the round
  have hround : RoundAt (w.heap.size + 2) (.int .i64 y) W3 fun W' => W'.heap[w.heap.size + 2]? = some (.loop L) ∧ W'.heap[w.heap.size + 1]? = some (.deferred (some [])) ∧
      (∃ v, W'.heap[w.heap.size]? = some (.cells #[v] 45 (0, 0)) ∧ RowOne w W' 3 (.int .i64 y) v) ∧ Below w.heap.size w W' := by
    intro W1 B1
    have p0 : W1.heap[w.heap.size]? = some (.cells #[.slice none 0 0] 45 (0, 0)) := (B1.block _ (by omega)).trans q0
    have p1 : W1.heap[w.heap.size + 1]? = some (.deferred (some [])) := (B1.block _ (by omega)).trans q1
    have p2 : W1.heap[w.heap.size + 2]? = some (.loop L) := (B1.block _ (by omega)).trans q2
    have Bw : Below w.heap.size w W1 := hb2.trans (B1.mono (by omega))
    have z1 : w.heap.size + 3 ≤ W1.heap.size := by have := B1.size; omega
    clear B1 q0 q1 q2 hb2 hg
    have hy := run_yield (P := Tryz.prog) (args := #[.int .i64 y]) p2 (by rw [hL.params]; rfl)
    rw [hL.fn, hL.assign, hL.params, hL.tmps, hL.body] at hy
    simp at hy
    refine ⟨_, _, _, _, hy, roundIn_of_wpIn trivial ?_⟩
    clear hy
    gi_wp2_with (rw [Oper.semAt_eq _ _ _ (fun c h => by cases h)]; go_simp; try go_bits)
    have hbr := run_beginRound (P := Tryz.prog) p2 hL.state
    obtain ⟨W6, hW6⟩ : ∃ W6, W6 = W1.putObj (w.heap.size + 2) (.loop { L with state := .busy }) := ⟨_, rfl⟩
    rw [← hW6] at hbr
    have t0 : W6.heap[w.heap.size]? = some (.cells #[.slice none 0 0] 45 (0, 0)) := by rw [hW6]; exact (World.putObj_heap_other (by omega)).trans p0
    have t1 : W6.heap[w.heap.size + 1]? = some (.deferred (some [])) := by rw [hW6]; exact (World.putObj_heap_other (by omega)).trans p1
    have t2 : W6.heap[w.heap.size + 2]? = some (.loop { L with state := .busy }) := by rw [hW6]; exact World.putObj_heap_same (by omega)
    have Bw6 : Below w.heap.size w W6 := by rw [hW6]; exact Bw.grown (Go.Dx.grownBy_put _ _ _) Bw.size (fun k e => by cases e; omega)
    have z6 : W6.heap.size = W1.heap.size := by rw [hW6]; simp
    have k6 : KeepsWalks W1 W6 := by rw [hW6]; exact KeepsWalks.putObj _ p2 rfl
    clear hW6
    obtain ⟨c6, d6⟩ := Go.Dx.cell_of_box t0
    obtain ⟨i73, zz, hi, hz73, hs73, hzs, hb73⟩ := Tz.info3
    have hcc : ∀ j v, ([.int .i64 y] : List Value)[j]? = some v → (W6.alloc (.cells #[.int .i64 y] 3)).cell? ((⟨W1.heap.size, 0, none⟩ : Addr).add j) = some v := fun j v hv => by
      rw [← z6]
      have hn := Go.Dx.heap_alloc_new (w := W6) (.cells #[.int .i64 y] 3)
      rw [addr_add]
      show (W6.alloc (.cells #[.int .i64 y] 3)).cell? ⟨W6.heap.size, 0 + j, none⟩ = some v
      unfold World.cell?
      simp only [hn]
      rw [Nat.zero_add]
      simpa using hv
    obtain ⟨g', cap, cur, happ, hg', htake, hcur, hcap⟩ := run_append_one (P := Tryz.prog) (w := W6.alloc (.cells #[.int .i64 y] 3)) Tryz.underlying45 hi hz73 (by rw [hzs, hs73]) hb73 (src := ⟨W1.heap.size, 0, none⟩) (news := [.int .i64 y]) (by rw [hs73]; rfl) hcc 45
    rw [World.size_alloc] at hg'
    rw [hs73] at htake hcur
    obtain ⟨W7, hW7⟩ : ∃ W7, W7 = (W6.alloc (.cells #[.int .i64 y] 3)).drew.alloc (.cells cur 3) := ⟨_, rfl⟩
    rw [← hW7] at happ
    have u0 : W7.heap[w.heap.size]? = some (.cells #[.slice none 0 0] 45 (0, 0)) := by rw [hW7]; exact (Go.Dx.heap_alloc_old _ (by simp <;> omega)).trans ((Go.Dx.heap_alloc_old _ (by omega)).trans t0)
    have u1 : W7.heap[w.heap.size + 1]? = some (.deferred (some [])) := by rw [hW7]; exact (Go.Dx.heap_alloc_old _ (by simp <;> omega)).trans ((Go.Dx.heap_alloc_old _ (by omega)).trans t1)
    have u2 : W7.heap[w.heap.size + 2]? = some (.loop { L with state := .busy }) := by rw [hW7]; exact (Go.Dx.heap_alloc_old _ (by simp <;> omega)).trans ((Go.Dx.heap_alloc_old _ (by omega)).trans t2)
    have u3 : W7.heap[g']? = some (.cells cur 3 (0, 0)) := by
      rw [hW7, hg']
      have := Go.Dx.heap_alloc_new (w := (W6.alloc (.cells #[.int .i64 y] 3)).drew) (.cells cur 3)
      have e : (W6.alloc (.cells #[.int .i64 y] 3)).drew.heap.size = W6.heap.size + 1 := World.size_alloc _ _
      rwa [e] at this
    have Bw7 : Below w.heap.size w W7 := by
      rw [hW7]
      have a1 := Bw6.alloc Bw6.size (.cells #[.int .i64 y] 3)
      exact a1.drew.alloc a1.size _
    have k7 : KeepsWalks W1 W7 := by
      rw [hW7]
      have a1 : KeepsWalks W1 (W6.alloc (.cells #[.int .i64 y] 3)) := k6.trans (KeepsWalks.alloc _ _)
      have a2 : KeepsWalks (W6.alloc (.cells #[.int .i64 y] 3)) (W6.alloc (.cells #[.int .i64 y] 3)).drew := ⟨Nat.le_refl _, fun _ _ h _ => h⟩
      exact (a1.trans a2).trans (KeepsWalks.alloc _ _)
    have z7 : W7.heap.size = W6.heap.size + 2 := by
      rw [hW7, World.size_alloc]
      show (W6.alloc (.cells #[.int .i64 y] 3)).heap.size + 1 = _
      rw [World.size_alloc]
    clear hW7
    have hg1 : W1.heap.size + 1 ≤ g' := by omega
    have hg2 : g' < W7.heap.size := by omega
    clear hg'
    obtain ⟨c7, d7⟩ := Go.Dx.cell_of_box u0
    refine ⟨W6, hbr, ?_⟩
    gi_wp2_with (first
      | (gi_at_builtin; refine wpListIn_append_run rfl (.tmp 8) (.tmp 10) 45 45 rfl (sx := .slice none 0 0) (xx := .slice (some ⟨W1.heap.size, 0, none⟩) 1 1) rfl rfl happ ?_; go_frame)
      | (rw [Oper.semAt_eq _ _ _ (fun c h => by cases h)]; go_simp; try go_bits))
    obtain ⟨W8, hW8⟩ : ∃ W8, W8 = W7.setCell ⟨w.heap.size, 0, none⟩ (.slice (some ⟨g', 0, none⟩) 1 cap) := ⟨_, rfl⟩
    rw [← hW8]
    have v0 : W8.heap[w.heap.size]? = some (.cells #[.slice (some ⟨g', 0, none⟩) 1 cap] 45 (0, 0)) := by
      rw [hW8]
      show (W7.heap.modify w.heap.size _)[w.heap.size]? = _
      rw [Array.getElem?_modify, if_pos rfl, u0]; rfl
    have v1 : W8.heap[w.heap.size + 1]? = some (.deferred (some [])) := by rw [hW8]; exact (Below.heap_setCell _ _ _ _ (by show w.heap.size + 1 ≠ w.heap.size; omega)).trans u1
    have v2 : W8.heap[w.heap.size + 2]? = some (.loop { L with state := .busy }) := by rw [hW8]; exact (Below.heap_setCell _ _ _ _ (by show w.heap.size + 2 ≠ w.heap.size; omega)).trans u2
    have v3 : W8.heap[g']? = some (.cells cur 3 (0, 0)) := by rw [hW8]; exact (Below.heap_setCell _ _ _ _ (by show g' ≠ w.heap.size; omega)).trans u3
    have Bw8 : Below w.heap.size w W8 := by rw [hW8]; exact Bw7.setCell (Nat.le_refl _) _
    have k8 : KeepsWalks W1 W8 := by rw [hW8]; exact k7.trans (KeepsWalks.setCell _ _ _)
    have z8 : W8.heap.size = W7.heap.size := by rw [hW8]; simp [World.setCell]
    clear hW8
    have hend := run_endRound (P := Tryz.prog) none v2
    have hLL : ({ ({ L with state := .busy } : Loop) with state := if (none : Option Code).isNone then .ready else .done, pending := none } : Loop) = L := by
      have e1 := hL.state
      have e2 := hL.pending
      cases L
      simp only at e1 e2
      subst e1; subst e2; rfl
    rw [hLL] at hend
    refine ⟨_, _, hend, rfl, k8.trans (KeepsWalks.putObj _ v2 rfl), World.putObj_heap_same (by omega), (World.putObj_heap_other (by omega)).trans v1, ⟨_, (World.putObj_heap_other (by omega)).trans v0, ?_⟩,
      Bw8.grown (Go.Dx.grownBy_put _ _ _) Bw8.size (fun k e => by cases e; omega)⟩
    exact ⟨g', cap, cur, rfl, by omega, (World.putObj_heap_other (by omega)).trans v3, htake, hcur, hcap⟩
  refine (hg _ W3 _ hb2 hround).mono ?_
  rintro e W9 ⟨⟨v, rfl⟩, q2, q1, ⟨rv, q0, g', cap, cur, rfl, m1, m2, m3, m4, m5⟩, Bw9⟩
  refine ⟨⟨_, rfl⟩, q2, ?_⟩
  obtain ⟨W4, hW4⟩ : ∃ W4, W4 = W9.putObj (w.heap.size + 2) (.loop { L with state := .exhausted }) := ⟨_, rfl⟩
  rw [← hW4]
  have hne : g' ≠ w.heap.size + 2 := fun e => by rw [e] at m2; rw [m2] at q2; cases q2
  have hne1 : g' ≠ w.heap.size + 1 := fun e => by rw [e] at m2; rw [m2] at q1; cases q1
  have r0 : W4.heap[w.heap.size]? = some (.cells #[.slice (some ⟨g', 0, none⟩) 1 cap] 45 (0, 0)) := by rw [hW4]; exact (World.putObj_heap_other (by omega)).trans q0
  have r1 : W4.heap[w.heap.size + 1]? = some (.deferred (some [])) := by rw [hW4]; exact (World.putObj_heap_other (by omega)).trans q1
  have r3 : W4.heap[g']? = some (.cells cur 3 (0, 0)) := by rw [hW4]; exact (World.putObj_heap_other hne).trans m2
  have hb4 : Below w.heap.size w W4 := by rw [hW4]; exact Bw9.grown (Go.Dx.grownBy_put _ _ _) Bw9.size (fun k e => by cases e; omega)
  obtain ⟨hc3, hf3⟩ := Go.Dx.cell_of_box r0
  clear hW4 q0 q1 q2 hL hb2 hg eg hround m2
  gi_wp2
  refine ⟨by simp, .inl ⟨_, _, rfl, run_takeDeferred r1, ?_⟩⟩
  exact ⟨_, results_tmp rfl _ _ _, _, rfl, ⟨g', cap, cur, rfl, m1, (World.putObj_heap_other hne1).trans r3, m3, m4, m5⟩, hb4.grown (Go.Dx.grownBy_put _ _ _) hb4.size (fun k e => by cases e; omega)⟩
end Go.Proofs
namespace Go.Dx
open Go Go.RowKit Go.Proofs

section
variable {B : Nat} {w0 : World} {ρ : Rho} {h : H} {w : World}

theorem ext_seq147 {G : Nat} : ExtOk Tryz.prog G 147 (.seq true 3 1 8 [] [86]) := by
  intro args h v h' hr B w0 ρ w xs R hG hx
  simp only [extRun] at hr
  split at hr
  · rename_i g l
    obtain ⟨x1, x2, rfl, r1, r2⟩ := hx.two
    cases r1
    obtain ⟨a', b', rfl, ra, rb⟩ := func_inv r2
    cases ra
    obtain ⟨y, rfl, ry⟩ := rb.one
    obtain ⟨b, hb, rfl⟩ := ptr_inv ry
    rw [(R.base _ _ hb).1]
    split at hr
    · simp [hasNat, chk] at hr
    · rename_i e hs
      simp only [chk_some, hasNat, Bool.or_false, Bool.and_eq_true] at hr
      obtain ⟨⟨hg, hint⟩, hr⟩ := hr
      have := Nat.eq_of_beq_eq_true hg
      subst this
      obtain ⟨m, en, c, hm, hmb, hborn, hval, -⟩ := seqMap_one R hb hs
      obtain ⟨y, hv⟩ : ∃ y, e.1 = .int .i64 y := by
        unfold isIntV at hint
        split at hint
        · rename_i y he; exact ⟨y, he⟩
        · cases hint
      rw [hv] at hval hr
      obtain ⟨henv⟩ : en.key = .int .i64 y ∧ True := by
        generalize en.key = ev at hval
        cases hval; exact ⟨rfl, trivial⟩
      have hr : v = .slice h.next 0 1 (.toEnd 1) ∧ h' = h.add (.cells [.int .i64 y] 3 0 .yes) := by
        unfold push1 at hr
        simp only [chk_some, Bool.and_eq_true] at hr
        obtain ⟨-, hr⟩ := hr
        unfold appendV at hr
        simp only [chk_some, Option.some.injEq, Prod.mk.injEq, V.cells] at hr
        exact ⟨hr.2.1.symm, hr.2.2.symm⟩
      obtain ⟨rfl, rfl⟩ := hr
      have hmlt : b.block < w.heap.size := by
        rcases Nat.lt_or_ge b.block w.heap.size with h | h
        · exact h
        · simp [World.cell?, Array.getElem?_eq_none h] at hm
      have key := Tz.seq147 86 #[.pointer (some ⟨b.block, 0, none⟩)] (enters Tryz.func86 rfl (by kernel_rfl)) w y fun l W Q hW hY =>
        Tz.it86 l b.block m c en (.int .i64 y) W ((hW.cell (p := ⟨b.block, 0, none⟩) hmlt).trans hm) ((hW.block _ (heap_lt hmb)).trans hmb) hborn henv Q hY
      refine Good.of_calls Tryz.func147 rfl (by kernel_rfl) (key.mono fun e w' hh => ?_)
      obtain ⟨rv, he, ⟨g', cap, cur, rfl, hge, hcur, htake, hsz, hcap⟩, hbel⟩ := hh
      refine ⟨_, he, upd ρ h.next (Blk.mk g' 0 (cap * 1) .nilFunc), Step.add _ _ _ _, ?_, R.named hbel hge ⟨rfl, rfl⟩ ?_⟩
      · have := RV.sliceEnd (ρ := upd ρ h.next (Blk.mk g' 0 (cap * 1) .nilFunc)) (l := h.next) 0 1 1 cap (upd_self _ _ _) hcap (by simp)
        simpa using this
      · have E := upd_ext (b := (Blk.mk g' 0 (cap * 1) .nilFunc)) R.fresh
        refine ⟨?_, ?_, fun i v hv => ?_, fun _ i hi hl => ?_, fun _ => ⟨cur, 0, 0, hcur, Nat.zero_le _, Nat.le_refl _⟩⟩
        · simp [World.shape?, hcur, hsz]
        · show 0 + 1 ≤ cap * 1; omega
        · have hlen : i < 1 := by
            have := (List.getElem?_eq_some_iff.1 hv).1
            simpa using this
          obtain ⟨x, hx1, hx2⟩ := ((RVs.cons (RV.int .i64 y) .nil : RVs ρ [.int .i64 y] [.int .i64 y]).mono E).get hv
          refine ⟨x, ?_, hx2⟩
          unfold cellAd World.cell?
          simp only [hcur, Nat.zero_add]
          have : cur.toList[i]? = some x := by
            rw [← htake, List.getElem?_take, if_pos hlen] at hx1
            exact hx1
          simpa using this
        · simp [World.frozen?, hcur]
    · cases hr
  · cases hr
end
end Go.Dx
namespace PK
open Go Go.Dx Go.RowKit Go.Proofs

theorem e344 : EntryAt Tryz.prog 344 Extern.BytealgIndex.index := ⟨⟨_, Tryz.func344, by kernel_rfl, by kernel_rfl, by kernel_rfl, by kernel_rfl⟩⟩
theorem e374 : EntryAt Tryz.prog 374 Extern.MapsClone.clone := ⟨⟨_, Tryz.func374, by kernel_rfl, by kernel_rfl, by kernel_rfl, by kernel_rfl⟩⟩
theorem e384 : EntryAt Tryz.prog 384 Extern.AbiNoEscape.same := ⟨⟨_, Tryz.func384, by kernel_rfl, by kernel_rfl, by kernel_rfl, by kernel_rfl⟩⟩
theorem e385 : EntryAt Tryz.prog 385 (Extern.BytealgMakeNoZero.makeNoZero Tryz.f385.params #[24]) := ⟨⟨_, Tryz.func385, by kernel_rfl, by kernel_rfl, by kernel_rfl, by kernel_rfl⟩⟩
theorem e404 : EntryAt Tryz.prog 404 (fun _ => do mark .disable; pure Extern.Race.none_) := ⟨⟨_, Tryz.func404, by kernel_rfl, by kernel_rfl, by kernel_rfl, by kernel_rfl⟩⟩
theorem e405 : EntryAt Tryz.prog 405 (Extern.Atomic.casT (.int .i32)) := ⟨⟨_, Tryz.func405, by kernel_rfl, by kernel_rfl, by kernel_rfl, by kernel_rfl⟩⟩
theorem e406 : EntryAt Tryz.prog 406 (fun _ => do mark .enable; pure Extern.Race.none_) := ⟨⟨_, Tryz.func406, by kernel_rfl, by kernel_rfl, by kernel_rfl, by kernel_rfl⟩⟩
theorem e407 : EntryAt Tryz.prog 407 (Extern.Race.marked .acquire) := ⟨⟨_, Tryz.func407, by kernel_rfl, by kernel_rfl, by kernel_rfl, by kernel_rfl⟩⟩
theorem e409 : EntryAt Tryz.prog 409 (Extern.Race.marked .releaseMerge) := ⟨⟨_, Tryz.func409, by kernel_rfl, by kernel_rfl, by kernel_rfl, by kernel_rfl⟩⟩
theorem e410 : EntryAt Tryz.prog 410 (Extern.Atomic.update (Op.intArith .add) .i32 true) := ⟨⟨_, Tryz.func410, by kernel_rfl, by kernel_rfl, by kernel_rfl, by kernel_rfl⟩⟩
theorem e438 : EntryAt Tryz.prog 438 Extern.BytealgIndexByte.indexByte := ⟨⟨_, Tryz.func438, by kernel_rfl, by kernel_rfl, by kernel_rfl, by kernel_rfl⟩⟩
theorem e504 : EntryAt Tryz.prog 504 Extern.BytealgIndexByte.indexByte := ⟨⟨_, Tryz.func504, by kernel_rfl, by kernel_rfl, by kernel_rfl, by kernel_rfl⟩⟩
theorem e512 : EntryAt Tryz.prog 512 Extern.BytealgCompare.compare := ⟨⟨_, Tryz.func512, by kernel_rfl, by kernel_rfl, by kernel_rfl, by kernel_rfl⟩⟩
theorem e538 : EntryAt Tryz.prog 538 Extern.BytealgIndex.index := ⟨⟨_, Tryz.func538, by kernel_rfl, by kernel_rfl, by kernel_rfl, by kernel_rfl⟩⟩
theorem maxAt : Tryz.prog.globals.findIdx? (·.name == "internal/bytealg.MaxLen") = some 2 := by kernel_rfl
theorem ids0_ok : ∀ p ∈ ids0, ExtOk Tryz.prog 11 p.1 p.2 := by
  intro p hp
  simp only [ids0, List.mem_cons, List.not_mem_nil, or_false] at hp
  rcases hp with rfl | rfl | rfl | rfl | rfl | rfl | rfl | rfl | rfl | rfl | rfl | rfl | rfl | rfl | rfl | rfl | rfl | rfl
  · exact ext_as_Tz (by decide)
  · exact ext_seq147
  · exact ext_index (g := 2) (by decide) maxAt e344
  · exact ext_clone e374
  · exact ext_same e384
  · exact ext_noZero (t := 24) (by kernel_rfl) e385
  · exact ext_seq221
  · exact ext_nop e404
  · exact ext_cas32 e405
  · exact ext_nop e406
  · exact ext_mark e407
  · exact ext_mark e409
  · exact ext_add32 e410
  · exact ext_indexByteB e438
  · exact ext_indexByte e504
  · exact ext_seq281
  · exact ext_compare e512
  · exact ext_index (g := 2) (by decide) maxAt e538
theorem orc0_ok : OrcOk Tryz.prog 11 orc0 := orc_ok ids0_ok
theorem mixed : Tryz.prog.follows .mixedOrders = true := by kernel_rfl
theorem fns0_ok : FnsOk Tryz.prog 11 fns0 := fnsOk_all (by decide) _
theorem fns1_ok : FnsOk Tryz.prog 11 fns1 := fnsOk_all (by decide) _
theorem fns2_ok : FnsOk Tryz.prog 11 fns2 := fnsOk_all (by decide) _
theorem call0_ok (n : Nat) : OrcOk Tryz.prog 11 (K.turnK (envOf Tryz.prog) fns0 orc0 dorc15 n).call := by
  rw [K.turnK_eq]; exact machine_ok mixed orc0_ok dorc15_ok fns0_ok n
end PK
