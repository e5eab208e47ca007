/-
  slices.AppendSeq(nil, the values of a map of one entry).
-/
import Derived.Test.YtkbjonoiecljiaaGreatDoorSnTzSeq0
namespace Go.Proofs
open Go Go.RowKit Go.Dx

theorem Tz.zero73 (w : World) : (zeroValue 95).run Tryz.prog w = .ok (.agg #[.string ⟨#[]⟩, .string ⟨#[]⟩]) w := by kernel_rfl
theorem Tz.info73 : ∃ i z, Tryz.prog.info? 95 = some i ∧ i.zero = some z ∧ i.size = 2 ∧ z.cells.size = 2 ∧ i.bytes ≤ 1048576 := by
  have h : ((Tryz.prog.info? 95).bind fun i => i.zero.map fun z => (i.size, z.cells.size, decide (i.bytes ≤ 1048576))) = some (2, 2, true) := by kernel_rfl
  cases hi : Tryz.prog.info? 95 with
  | none => rw [hi] at h; cases h
  | some i =>
    cases hz : i.zero with
    | none => simp [hi, hz] at h
    | some z =>
      simp [hi, hz] at h
      exact ⟨i, z, rfl, hz, h.1, h.2.1, h.2.2⟩
theorem Tz.size73 (w : World) : (sizeOf 95).run Tryz.prog w = .ok 2 w := by kernel_rfl

/-- A new block of two cells, and both stored. -/
theorem fill2 {P : Program} (W : World) (z1 z2 y1 y2 : Value) (t : TypeId) (o1 : y1.oneCell' = true) (o2 : y2.oneCell' = true) :
    ∃ W1 W2, (store ⟨W.heap.size, 0, none⟩ y1).run P (W.alloc (.cells #[z1, z2] t)) = .ok () W1 ∧ (store ⟨W.heap.size, 1, none⟩ y2).run P W1 = .ok () W2 ∧ W2.heap[W.heap.size]? = some (.cells #[y1, y2] t (0, 0)) ∧
      Below W.heap.size W W2 ∧ KeepsWalks W W2 ∧ W2.heap.size = W.heap.size + 1 ∧ W2.cell? ⟨W.heap.size, 0, none⟩ = some y1 ∧ W2.cell? ⟨W.heap.size, 1, none⟩ = some y2 ∧ W2.frozen? ⟨W.heap.size, 0, none⟩ = false := by
  have h0 : (W.alloc (.cells #[z1, z2] t)).heap[W.heap.size]? = some (.cells #[z1, z2] t (0, 0)) := Go.Dx.heap_alloc_new _
  have e1 : ((W.alloc (.cells #[z1, z2] t)).setCell ⟨W.heap.size, 0, none⟩ y1).heap[W.heap.size]? = some (.cells #[y1, z2] t (0, 0)) := by
    show ((W.alloc (.cells #[z1, z2] t)).heap.modify W.heap.size _)[W.heap.size]? = _
    rw [Array.getElem?_modify, if_pos rfl, h0]; rfl
  have e2 : (((W.alloc (.cells #[z1, z2] t)).setCell ⟨W.heap.size, 0, none⟩ y1).setCell ⟨W.heap.size, 1, none⟩ y2).heap[W.heap.size]? = some (.cells #[y1, y2] t (0, 0)) := by
    show (((W.alloc (.cells #[z1, z2] t)).setCell ⟨W.heap.size, 0, none⟩ y1).heap.modify W.heap.size _)[W.heap.size]? = _
    rw [Array.getElem?_modify, if_pos rfl, e1]; rfl
  refine ⟨(W.alloc (.cells #[z1, z2] t)).setCell ⟨W.heap.size, 0, none⟩ y1, ((W.alloc (.cells #[z1, z2] t)).setCell ⟨W.heap.size, 0, none⟩ y1).setCell ⟨W.heap.size, 1, none⟩ y2, ?_, ?_, e2, ?_, ?_, ?_, ?_, ?_, ?_⟩
  · rw [run_store P _ _ y1 .plain o1]
    have c1 : (W.alloc (.cells #[z1, z2] t)).cell? ⟨W.heap.size, 0, none⟩ = some z1 := by unfold World.cell?; simp only [h0]; rfl
    have c2 : (W.alloc (.cells #[z1, z2] t)).frozen? ⟨W.heap.size, 0, none⟩ = false := by unfold World.frozen?; simp only [h0]; rfl
    simp [c1, c2]
  · rw [run_store P _ _ y2 .plain o2]
    have c1 : ((W.alloc (.cells #[z1, z2] t)).setCell ⟨W.heap.size, 0, none⟩ y1).cell? ⟨W.heap.size, 1, none⟩ = some z2 := by unfold World.cell?; simp only [e1]; rfl
    have c2 : ((W.alloc (.cells #[z1, z2] t)).setCell ⟨W.heap.size, 0, none⟩ y1).frozen? ⟨W.heap.size, 1, none⟩ = false := by unfold World.frozen?; simp only [e1]; rfl
    simp [c1, c2]
  · exact ((((Below.refl _ W).alloc (Nat.le_refl _) _).setCell (Nat.le_refl _) _).setCell (Nat.le_refl _) _)
  · exact ((KeepsWalks.alloc _ _).trans (KeepsWalks.setCell _ _ _)).trans (KeepsWalks.setCell _ _ _)
  · simp [World.setCell]
  · unfold World.cell?; simp only [e2]; rfl
  · unfold World.cell?; simp only [e2]; rfl
  · unfold World.frozen?; simp only [e2]; rfl

/-- What a round is to do, whatever world it is asked in. -/
def RoundAt (l : Nat) (x : Value) (w : World) (R : World → Prop) : Prop :=
  ∀ W1, Below w.heap.size w W1 → YieldAt Fence.wide 0 Tryz.prog l #[x] W1 fun e W' => e = .returned (.bool true) ∧ KeepsWalks W1 W' ∧ R W'

set_option maxRecDepth 100000 in
set_option maxHeartbeats 1000000 in
theorem Tz.it251 (l Bm b c : Nat) (en : MapEntry) (y1 y2 : Value) (w : World) (hm : w.cell? ⟨Bm, 0, none⟩ = some (.map (some b))) (hb : w.heap[b]? = some (.map #[en] c)) (hbn : en.born < c) (hv : en.val = .agg #[y1, y2]) (o1 : y1.oneCell' = true) (o2 : y2.oneCell' = true)
    (R : World → Prop) (hY : RoundAt l (.agg #[y1, y2]) w R) :
    CallsIn Fence.wide 0 Tryz.prog 331 #[.func (.yield l) #[] #[], .pointer (some ⟨Bm, 0, none⟩)] w fun e W' => (∃ v, e = .returned v) ∧ R W' := by
  have h1 := Go.Dx.run_range_map (P := Tryz.prog) Tryz.underlying186 hb
  have hlt := Go.Dx.heap_lt hb
  obtain ⟨W1, hW1⟩ : ∃ W1, W1 = w.alloc (.mapIter (some b) c #[] c) := ⟨_, rfl⟩
  have b1 : W1.heap[b]? = some (.map #[en] c) := by rw [hW1]; exact (Go.Dx.heap_alloc_old _ hlt).trans hb
  have i1 : W1.heap[w.heap.size]? = some (.mapIter (some b) c #[] c) := by rw [hW1]; exact Go.Dx.heap_alloc_new _
  have B1 : Below w.heap.size w W1 := by rw [hW1]; exact (Below.refl _ w).alloc (Nat.le_refl _) _
  have s1 : W1.heap.size = w.heap.size + 1 := by rw [hW1]; simp
  rw [← hW1] at h1
  clear hW1
  have h2 := run_next_first (P := Tryz.prog) i1 b1 hbn
  rw [hv] at h2
  obtain ⟨W2, hW2⟩ : ∃ W2, W2 = W1.putObj w.heap.size (.mapIter (some b) c #[en.born] c) := ⟨_, rfl⟩
  rw [← hW2] at h2
  have b2 : W2.heap[b]? = some (.map #[en] c) := by rw [hW2]; exact (World.putObj_heap_other (by omega)).trans b1
  have i2 : W2.heap[w.heap.size]? = some (.mapIter (some b) c #[en.born] c) := by rw [hW2]; exact World.putObj_heap_same (by omega)
  have B2 : Below w.heap.size w W2 := by rw [hW2]; exact B1.grown (Go.Dx.grownBy_put _ _ _) B1.size (fun k e => by cases e; omega)
  have s2 : W2.heap.size = w.heap.size + 1 := by rw [hW2]; simp [s1]
  clear hW2
  have h3 := run_entry_one (P := Tryz.prog) i2 b2
  rw [hv] at h3
  have hz := Tz.zero73
  have hsz := Tz.size73
  obtain ⟨W3, W4, f1, f2, f3, f4, f5, f6, f7, f8, f9⟩ := fill2 (P := Tryz.prog) W2 (.string ⟨#[]⟩) (.string ⟨#[]⟩) y1 y2 95 o1 o2
  rw [s2] at f1 f2 f3 f7 f8 f9
  refine callsIn_of_wp Tryz.func331 rfl trivial ?_ rfl
  simp only [Tryz.ntmps331, List.size_toArray, List.length_cons, List.length_nil, Nat.reduceAdd, Nat.reduceSub, Array.replicate_succ, Array.replicate_zero, List.push_toArray, List.append_toArray, List.nil_append, List.cons_append]
  clear B1 b1 i1 hb
  gi_wp2
  refine wpIn_loop_rounds 2 ?_
  rw [roundsIn_succ]
  obtain ⟨fn, tmps, assign, body, hy, hR⟩ := hY W4 (B2.trans (f4.mono (by omega)))
  have k4 : W4.heap[b]? = some (.map #[en] c) := f5.same b _ b2 rfl
  have k5 : W4.heap[w.heap.size]? = some (.mapIter (some b) c #[en.born] c) := f5.same _ _ i2 rfl
  gi_wp2
  refine ⟨rfl, hR.mono ?_⟩
  rintro e W5 ⟨rfl, g1, g2⟩
  have h4 := run_next_last (P := Tryz.prog) (g1.same _ _ k5 rfl) (g1.same _ _ k4 rfl) hbn
  gi_wp2
  rw [roundsIn_succ]
  gi_wp2
  go_end0
  exact ⟨⟨_, rfl⟩, g2⟩

/-- What AppendSeq hands back: a new row, whose first two cells are those. -/
def RowAt (w w' : World) (e : TypeId) (y1 y2 : Value) (v : Value) : Prop :=
  ∃ g cap cur, v = .slice (some ⟨g, 0, none⟩) 1 cap ∧ w.heap.size ≤ g ∧ w'.heap[g]? = some (.cells cur e (0, 0)) ∧ cur.toList.take 2 = [y1, y2] ∧ cur.size = cap * 2 ∧ 1 ≤ cap

set_option maxRecDepth 100000 in
set_option maxHeartbeats 2000000 in
theorem Tz.seq281 (g : Nat) (lb : Array Value) (eg : ∀ args w, (callFunc g args).run Tryz.prog w = .ok (.enter g args) w) (w : World) (y1 y2 : Value) (o1 : y1.oneCell' = true) (o2 : y2.oneCell' = true)
    (hg : ∀ l W (R : World → Prop), Below w.heap.size w W → RoundAt l (.agg #[y1, y2]) W R → CallsIn Fence.wide 0 Tryz.prog g (#[.func (.yield l) #[] #[]] ++ lb) W fun e W' => (∃ v, e = .returned v) ∧ R W') :
    Calls Tryz.prog 352 #[.slice none 0 0, .func (.func g) #[] lb] w fun e w' => ∃ v, e = .returned v ∧ RowAt w w' 95 y1 y2 v ∧ Below w.heap.size w w' := by
  refine (callsIn_wide (n := 0)).1 ?_
  refine callsIn_of_wp_marks Tryz.func352 rfl trivial ?_ rfl
  simp only [Tryz.ntmps352, List.size_toArray, List.length_cons, List.length_nil, Nat.reduceAdd, Nat.reduceSub, Array.replicate_succ, Array.replicate_zero, List.push_toArray, List.append_toArray, List.nil_append, List.cons_append]
  gi_wp2
  refine wpIn_rangeFunc_flat rfl eg fun fn L hL => ?_
  have hb0 : Below w.heap.size w (w.alloc (.cells #[.slice none 0 0] 31)) := (Below.refl _ w).alloc (Nat.le_refl _) _
  have hb1 := (hb0.alloc hb0.size (.deferred (some [])))
  have hb2 := hb1.alloc hb1.size (.loop L)
  obtain ⟨W3, hW3⟩ : ∃ W3, W3 = (((w.alloc (.cells #[.slice none 0 0] 31)).alloc (.deferred (some []))).alloc (.loop L)) := ⟨_, rfl⟩
  have q0 : W3.heap[w.heap.size]? = some (.cells #[.slice none 0 0] 31 (0, 0)) := by
    rw [hW3, Go.Dx.heap_alloc_old _ (by simp <;> omega), Go.Dx.heap_alloc_old _ (by simp <;> omega)]; exact Go.Dx.heap_alloc_new _
  have q1 : W3.heap[w.heap.size + 1]? = some (.deferred (some [])) := by
    rw [hW3, Go.Dx.heap_alloc_old _ (by simp <;> omega)]
    have := Go.Dx.heap_alloc_new (w := w.alloc (.cells #[.slice none 0 0] 31)) (.deferred (some []))
    rwa [World.size_alloc] at this
  have q2 : W3.heap[w.heap.size + 2]? = some (.loop L) := by
    rw [hW3]
    have := Go.Dx.heap_alloc_new (w := (w.alloc (.cells #[.slice none 0 0] 31)).alloc (.deferred (some []))) (.loop L)
    rwa [World.size_alloc, World.size_alloc] at this
  have s3 : W3.heap.size = w.heap.size + 3 := by rw [hW3]; simp
  rw [← hW3] at hb2 ⊢
  clear hW3 hb1 hb0
  rw [World.size_alloc]
  -- the round
  have hround : RoundAt (w.heap.size + 2) (.agg #[y1, y2]) W3 fun W' => W'.heap[w.heap.size + 2]? = some (.loop L) ∧ W'.heap[w.heap.size + 1]? = some (.deferred (some [])) ∧
      (∃ v, W'.heap[w.heap.size]? = some (.cells #[v] 31 (0, 0)) ∧ RowAt w W' 95 y1 y2 v) ∧ Below w.heap.size w W' := by
    intro W1 B1
    have p0 : W1.heap[w.heap.size]? = some (.cells #[.slice none 0 0] 31 (0, 0)) := (B1.block _ (by omega)).trans q0
    have p1 : W1.heap[w.heap.size + 1]? = some (.deferred (some [])) := (B1.block _ (by omega)).trans q1
    have p2 : W1.heap[w.heap.size + 2]? = some (.loop L) := (B1.block _ (by omega)).trans q2
    have Bw : Below w.heap.size w W1 := hb2.trans (B1.mono (by omega))
    have z1 : w.heap.size + 3 ≤ W1.heap.size := by have := B1.size; omega
    clear B1 q0 q1 q2 hb2 hg
    have hy := run_yield (P := Tryz.prog) (args := #[.agg #[y1, y2]]) p2 (by rw [hL.params]; rfl)
    rw [hL.fn, hL.assign, hL.params, hL.tmps, hL.body] at hy
    simp at hy
    refine ⟨_, _, _, _, hy, roundIn_of_wpIn trivial ?_⟩
    have hz := Tz.zero73
    have hsz := Tz.size73
    obtain ⟨W4, W5, f1, f2, f3, f4, f5, f6, f7, f8, f9⟩ := fill2 (P := Tryz.prog) W1 (.string ⟨#[]⟩) (.string ⟨#[]⟩) y1 y2 95 o1 o2
    have r0 : W5.heap[w.heap.size]? = some (.cells #[.slice none 0 0] 31 (0, 0)) := (f4.block _ (by omega)).trans p0
    have r1 : W5.heap[w.heap.size + 1]? = some (.deferred (some [])) := (f4.block _ (by omega)).trans p1
    have r2 : W5.heap[w.heap.size + 2]? = some (.loop L) := (f4.block _ (by omega)).trans p2
    have Bw5 : Below w.heap.size w W5 := Bw.trans (f4.mono (by omega))
    clear hy
    gi_wp2_with (rw [Oper.semAt_eq _ _ _ (fun c h => by cases h)]; go_simp; try go_bits)
    clear f1 f2
    have hbr := run_beginRound (P := Tryz.prog) r2 hL.state
    obtain ⟨W6, hW6⟩ : ∃ W6, W6 = W5.putObj (w.heap.size + 2) (.loop { L with state := .busy }) := ⟨_, rfl⟩
    rw [← hW6] at hbr
    have t0 : W6.heap[w.heap.size]? = some (.cells #[.slice none 0 0] 31 (0, 0)) := by rw [hW6]; exact (World.putObj_heap_other (by omega)).trans r0
    have t1 : W6.heap[w.heap.size + 1]? = some (.deferred (some [])) := by rw [hW6]; exact (World.putObj_heap_other (by omega)).trans r1
    have t2 : W6.heap[w.heap.size + 2]? = some (.loop { L with state := .busy }) := by rw [hW6]; exact World.putObj_heap_same (by omega)
    have t3 : W6.heap[W1.heap.size]? = some (.cells #[y1, y2] 95 (0, 0)) := by rw [hW6]; exact (World.putObj_heap_other (by omega)).trans f3
    have Bw6 : Below w.heap.size w W6 := by rw [hW6]; exact Bw5.grown (Go.Dx.grownBy_put _ _ _) Bw5.size (fun k e => by cases e; omega)
    have z6 : W6.heap.size = W1.heap.size + 1 := by rw [hW6]; simp [f6]
    have k6 : KeepsWalks W1 W6 := by rw [hW6]; exact f5.trans (KeepsWalks.putObj _ r2 rfl)
    clear hW6 f3 f7 f8 f9
    obtain ⟨c6, d6⟩ := Go.Dx.cell_of_box t0
    have c61 : W6.cell? ⟨W1.heap.size, 0, none⟩ = some y1 := by unfold World.cell?; simp only [t3]; rfl
    have c62 : W6.cell? ⟨W1.heap.size, 1, none⟩ = some y2 := by unfold World.cell?; simp only [t3]; rfl
    obtain ⟨i73, zz, hi, hz73, hs73, hzs, hb73⟩ := Tz.info73
    have hcc : ∀ j v, ([y1, y2] : List Value)[j]? = some v → (W6.alloc (.cells #[y1, y2] 95)).cell? ((⟨W1.heap.size + 1, 0, none⟩ : Addr).add j) = some v := fun j v hv => by
      rw [← z6]
      have hn := Go.Dx.heap_alloc_new (w := W6) (.cells #[y1, y2] 95)
      rw [addr_add]
      show (W6.alloc (.cells #[y1, y2] 95)).cell? ⟨W6.heap.size, 0 + j, none⟩ = some v
      unfold World.cell?
      simp only [hn]
      rw [Nat.zero_add]
      simpa using hv
    obtain ⟨g', cap, cur, happ, hg', htake, hcur, hcap⟩ := run_append_one (P := Tryz.prog) (w := W6.alloc (.cells #[y1, y2] 95)) Tryz.underlying31 hi hz73 (by rw [hzs, hs73]) hb73 (src := ⟨W1.heap.size + 1, 0, none⟩) (news := [y1, y2]) (by rw [hs73]; rfl) hcc 31
    rw [World.size_alloc] at hg'
    rw [hs73] at htake hcur
    obtain ⟨W7, hW7⟩ : ∃ W7, W7 = (W6.alloc (.cells #[y1, y2] 95)).drew.alloc (.cells cur 95) := ⟨_, rfl⟩
    rw [← hW7] at happ
    have u0 : W7.heap[w.heap.size]? = some (.cells #[.slice none 0 0] 31 (0, 0)) := by rw [hW7]; exact (Go.Dx.heap_alloc_old _ (by simp <;> omega)).trans ((Go.Dx.heap_alloc_old _ (by omega)).trans t0)
    have u1 : W7.heap[w.heap.size + 1]? = some (.deferred (some [])) := by rw [hW7]; exact (Go.Dx.heap_alloc_old _ (by simp <;> omega)).trans ((Go.Dx.heap_alloc_old _ (by omega)).trans t1)
    have u2 : W7.heap[w.heap.size + 2]? = some (.loop { L with state := .busy }) := by rw [hW7]; exact (Go.Dx.heap_alloc_old _ (by simp <;> omega)).trans ((Go.Dx.heap_alloc_old _ (by omega)).trans t2)
    have u3 : W7.heap[g']? = some (.cells cur 95 (0, 0)) := by
      rw [hW7, hg']
      have := Go.Dx.heap_alloc_new (w := (W6.alloc (.cells #[y1, y2] 95)).drew) (.cells cur 95)
      have e : (W6.alloc (.cells #[y1, y2] 95)).drew.heap.size = W6.heap.size + 1 := World.size_alloc _ _
      rwa [e] at this
    have Bw7 : Below w.heap.size w W7 := by
      rw [hW7]
      have a1 := Bw6.alloc Bw6.size (.cells #[y1, y2] 95)
      exact a1.drew.alloc a1.size _
    have k7 : KeepsWalks W1 W7 := by
      rw [hW7]
      have a1 : KeepsWalks W1 (W6.alloc (.cells #[y1, y2] 95)) := k6.trans (KeepsWalks.alloc _ _)
      have a2 : KeepsWalks (W6.alloc (.cells #[y1, y2] 95)) (W6.alloc (.cells #[y1, y2] 95)).drew := ⟨Nat.le_refl _, fun _ _ h _ => h⟩
      exact (a1.trans a2).trans (KeepsWalks.alloc _ _)
    have z7 : W7.heap.size = W6.heap.size + 2 := by
      rw [hW7, World.size_alloc]
      show (W6.alloc (.cells #[y1, y2] 95)).heap.size + 1 = _
      rw [World.size_alloc]
    clear hW7
    have hg1 : W1.heap.size + 2 ≤ g' := by omega
    have hg2 : g' < W7.heap.size := by omega
    clear hg'
    obtain ⟨c7, d7⟩ := Go.Dx.cell_of_box u0
    refine ⟨W6, hbr, ?_⟩
    gi_wp2_with (first
      | (gi_at_builtin; refine wpListIn_append_run rfl (.tmp 8) (.tmp 10) 31 31 rfl (sx := .slice none 0 0) (xx := .slice (some ⟨W1.heap.size + 1, 0, none⟩) 1 1) rfl rfl happ ?_; go_frame)
      | (rw [Oper.semAt_eq _ _ _ (fun c h => by cases h)]; go_simp; try go_bits))
    obtain ⟨W8, hW8⟩ : ∃ W8, W8 = W7.setCell ⟨w.heap.size, 0, none⟩ (.slice (some ⟨g', 0, none⟩) 1 cap) := ⟨_, rfl⟩
    rw [← hW8]
    have v0 : W8.heap[w.heap.size]? = some (.cells #[.slice (some ⟨g', 0, none⟩) 1 cap] 31 (0, 0)) := by
      rw [hW8]
      show (W7.heap.modify w.heap.size _)[w.heap.size]? = _
      rw [Array.getElem?_modify, if_pos rfl, u0]; rfl
    have v1 : W8.heap[w.heap.size + 1]? = some (.deferred (some [])) := by rw [hW8]; exact (Below.heap_setCell _ _ _ _ (by show w.heap.size + 1 ≠ w.heap.size; omega)).trans u1
    have v2 : W8.heap[w.heap.size + 2]? = some (.loop { L with state := .busy }) := by rw [hW8]; exact (Below.heap_setCell _ _ _ _ (by show w.heap.size + 2 ≠ w.heap.size; omega)).trans u2
    have v3 : W8.heap[g']? = some (.cells cur 95 (0, 0)) := by rw [hW8]; exact (Below.heap_setCell _ _ _ _ (by show g' ≠ w.heap.size; omega)).trans u3
    have Bw8 : Below w.heap.size w W8 := by rw [hW8]; exact Bw7.setCell (Nat.le_refl _) _
    have k8 : KeepsWalks W1 W8 := by rw [hW8]; exact k7.trans (KeepsWalks.setCell _ _ _)
    have z8 : W8.heap.size = W7.heap.size := by rw [hW8]; simp [World.setCell]
    clear hW8
    have hend := run_endRound (P := Tryz.prog) none v2
    have hLL : ({ ({ L with state := .busy } : Loop) with state := if (none : Option Code).isNone then .ready else .done, pending := none } : Loop) = L := by
      have e1 := hL.state
      have e2 := hL.pending
      cases L
      simp only at e1 e2
      subst e1; subst e2; rfl
    rw [hLL] at hend
    refine ⟨_, _, hend, rfl, k8.trans (KeepsWalks.putObj _ v2 rfl), World.putObj_heap_same (by omega), (World.putObj_heap_other (by omega)).trans v1, ⟨_, (World.putObj_heap_other (by omega)).trans v0, ?_⟩,
      Bw8.grown (Go.Dx.grownBy_put _ _ _) Bw8.size (fun k e => by cases e; omega)⟩
    exact ⟨g', cap, cur, rfl, by omega, (World.putObj_heap_other (by omega)).trans v3, htake, hcur, hcap⟩
  refine (hg _ W3 _ hb2 hround).mono ?_
  rintro e W9 ⟨⟨v, rfl⟩, q2, q1, ⟨rv, q0, g', cap, cur, rfl, m1, m2, m3, m4, m5⟩, Bw9⟩
  refine ⟨⟨_, rfl⟩, q2, ?_⟩
  obtain ⟨W4, hW4⟩ : ∃ W4, W4 = W9.putObj (w.heap.size + 2) (.loop { L with state := .exhausted }) := ⟨_, rfl⟩
  rw [← hW4]
  have hne : g' ≠ w.heap.size + 2 := fun e => by rw [e] at m2; rw [m2] at q2; cases q2
  have hne1 : g' ≠ w.heap.size + 1 := fun e => by rw [e] at m2; rw [m2] at q1; cases q1
  have r0 : W4.heap[w.heap.size]? = some (.cells #[.slice (some ⟨g', 0, none⟩) 1 cap] 31 (0, 0)) := by rw [hW4]; exact (World.putObj_heap_other (by omega)).trans q0
  have r1 : W4.heap[w.heap.size + 1]? = some (.deferred (some [])) := by rw [hW4]; exact (World.putObj_heap_other (by omega)).trans q1
  have r3 : W4.heap[g']? = some (.cells cur 95 (0, 0)) := by rw [hW4]; exact (World.putObj_heap_other hne).trans m2
  have hb4 : Below w.heap.size w W4 := by rw [hW4]; exact Bw9.grown (Go.Dx.grownBy_put _ _ _) Bw9.size (fun k e => by cases e; omega)
  obtain ⟨hc3, hf3⟩ := Go.Dx.cell_of_box r0
  clear hW4 q0 q1 q2 hL hb2 hg eg hround m2
  gi_wp2
  refine ⟨by simp, .inl ⟨_, _, rfl, run_takeDeferred r1, ?_⟩⟩
  exact ⟨_, results_tmp rfl _ _ _, _, rfl, ⟨g', cap, cur, rfl, m1, (World.putObj_heap_other hne1).trans r3, m3, m4, m5⟩, hb4.grown (Go.Dx.grownBy_put _ _ _) hb4.size (fun k e => by cases e; omega)⟩
end Go.Proofs
