/-
  SequencerNobody: the contract in the row's form.
-/
import Derived.Test.YtkbjonoiecljiaaGreatDoorSnRow
namespace Go.Proofs.YtkbjonoiecljiaaGreatDoor
open Go.ChangeShapes Go.WideShapes Go.ChangeAt Go.RowKit

set_option maxRecDepth 100000 in
theorem open28 {W : World} {base : Nat} {v : Value} (hv : Value.okWide Tryz.prog W .any base 28 v) : ∃ m0 m1 m2 m3, v = .agg #[m0, m1, m2, m3] ∧ ∀ x ∈ [m0, m1, m2, m3], Dx.symOk x = true := by
  obtain ⟨cs, rfl, hsz, hr⟩ := row_of Tryz.underlying28 hv
  rw [cells28] at hsz
  obtain ⟨m0, m1, m2, m3, rfl⟩ : ∃ m0 m1 m2 m3, cs = #[m0, m1, m2, m3] := by
    cases cs with | mk l =>
    match l, hsz with
    | [m0, m1, m2, m3], _ => exact ⟨_, _, _, _, rfl⟩
  obtain ⟨s0, rfl, _⟩ := cell_str Tryz.underlying9 (cell_at hr types28 (i := 0) rfl rfl)
  obtain ⟨s1, rfl, _⟩ := cell_str Tryz.underlying9 (cell_at hr types28 (i := 1) rfl rfl)
  have t2 : Dx.symOk m2 = true := by
    rcases cell_slice Tryz.underlying25 (cell_at hr types28 (i := 2) (v := m2) rfl rfl) with rfl | ⟨a, n, c, rfl, _⟩ <;> rfl
  have t3 : Dx.symOk m3 = true := by
    rcases cell_slice Tryz.underlying26 (cell_at hr types28 (i := 3) (v := m3) rfl rfl) with rfl | ⟨a, n, c, rfl, _⟩ <;> rfl
  refine ⟨_, _, _, _, rfl, fun x hx => ?_⟩
  simp only [List.mem_cons, List.not_mem_nil, or_false] at hx
  rcases hx with rfl | rfl | rfl | rfl
  · rfl
  · rfl
  · exact t2
  · exact t3

set_option maxRecDepth 100000 in
theorem open24 {H : Type} {enc : TypeId × Value → H} {W : World} {base : Nat} {v : Value} {d : DataW H} {p : List MemPlace} (hv : Value.okWide Tryz.prog W .any base 24 v) (h : DataW.Trod enc Tryz.prog W 0 (fun _ => true) true 24 v d p)
    (hw : ∀ n ∈ d.weights Tryz.prog 24, n ≤ reachBytes) :
    ∃ x0 x1 x2 x3 x4 x5 x6, v = .agg #[x0, x1, x2, x3, x4, x5, x6] ∧ (∀ x ∈ [x0, x1, x2, x3, x4, x5], Dx.numOrText x = true) ∧ KD.ListOk W x6 := by
  obtain ⟨cs, rfl, hsz, hr⟩ := row_of Tryz.underlying24 hv
  rw [cells24] at hsz
  obtain ⟨x0, x1, x2, x3, x4, x5, x6, rfl⟩ : ∃ x0 x1 x2 x3 x4 x5 x6, cs = #[x0, x1, x2, x3, x4, x5, x6] := by
    cases cs with | mk l =>
    match l, hsz with
    | [x0, x1, x2, x3, x4, x5, x6], _ => exact ⟨_, _, _, _, _, _, _, rfl⟩
  have t0 := cell_int Tryz.underlying3 (cell_at hr types24 (i := 0) rfl rfl)
  obtain ⟨s1, rfl, _⟩ := cell_str Tryz.underlying9 (cell_at hr types24 (i := 1) rfl rfl)
  have t2 := cell_int Tryz.underlying3 (cell_at hr types24 (i := 2) rfl rfl)
  have t3 := cell_int Tryz.underlying3 (cell_at hr types24 (i := 3) rfl rfl)
  have t4 := cell_int Tryz.underlying3 (cell_at hr types24 (i := 4) rfl rfl)
  have t5 := cell_int Tryz.underlying3 (cell_at hr types24 (i := 5) rfl rfl)
  refine ⟨_, _, _, _, _, _, _, rfl, fun x hx => ?_, ?_⟩
  · simp only [List.mem_cons, List.not_mem_nil, or_false] at hx
    rcases hx with rfl | rfl | rfl | rfl | rfl | rfl
    · exact t0
    · rfl
    · exact t2
    · exact t3
    · exact t4
    · exact t5
  · rcases cell_slice Tryz.underlying22 (cell_at hr types24 (i := 6) rfl rfl) with rfl | ⟨a, n, c, rfl, hnc, hhas⟩
    · exact .inl rfl
    · obtain ⟨fuel, hf⟩ := h
      obtain ⟨xs, k, _, hx, hl, hlen, hfs⟩ := DataW.trod_struct Tryz.underlying24 hf
      have h6 : DataW.trod enc Tryz.prog W 0 (fun _ => true) true k 22 (List.take (Tryz.prog.cellsOf 22) (List.drop 6 [x0, .string s1, x2, x3, x4, x5, .slice (some a) n c])) = xs[6]? := hfs 6 _ rfl
      rw [show Tryz.prog.cellsOf 22 = 1 by kernel_rfl] at h6
      have hlen6 : 6 < xs.length := by rw [hlen]; exact (by decide : 6 < 7)
      rw [List.getElem?_eq_getElem hlen6] at h6
      have h6' : DataW.trod enc Tryz.prog W 0 (fun _ => true) true k 22 [.slice (some a) n c] = some (xs[6]'hlen6) := h6
      rcases Go.Deep.open_slice Tryz.underlying22 h6' with ⟨e, _⟩ | ⟨a', n', c', m, nn, D, Pl, e, hb, hle, hcap, hm, hxx, hcell⟩
      · simp at e
      · simp only [List.cons.injEq, Value.slice.injEq, Option.some.injEq, and_true] at e
        obtain ⟨rfl, rfl, rfl⟩ := e
        have hm : m = c := by simpa using hm
        subst hm
        rw [cells65] at hcell
        obtain ⟨hsp, ⟨row, cells, hshape, _⟩⟩ := hhas.2
        have hcells : ∀ j, j < n * 6 → (W.cell? ⟨a.block, a.off + j, none⟩).isSome = true := fun j hj => by
          obtain ⟨cs', h1, _⟩ := hcell (j / 6) (by omega)
          obtain ⟨_, hl', hg⟩ := World.cells?_some h1
          have := hg (j % 6) (by omega)
          have ea : (a.add (j / 6 * 6)).add (j % 6) = ⟨a.block, a.off + j, none⟩ := by
            cases a with | mk ab ao asp =>
            simp only at hsp
            subst hsp
            rw [Dx.addr_add, Dx.addr_add]
            show (⟨ab, ao + j / 6 * 6 + j % 6, none⟩ : Addr) = ⟨ab, ao + j, none⟩
            rw [show ao + j / 6 * 6 + j % 6 = ao + j by omega]
          rw [ea] at this
          rw [this, List.getElem?_eq_getElem (by omega)]; rfl
        refine .inr ⟨a, n, m, rfl, Dx.shape_lt hshape, hsp, ?_, hcells⟩
        simp only [Prod.mk.injEq] at hx
        obtain ⟨rfl, rfl⟩ := hx
        have hwt : ((n + (m - n)) * 80) ∈ DataW.weights Tryz.prog 24 (.agg (xs.map (·.1))) := by
          have : DataW.weights Tryz.prog 24 (.agg (xs.map (·.1)) : DataW H) = DataW.weightsEach Tryz.prog ([3, 9, 3, 3, 3, 3, 22]) (xs.map (·.1)) := by
            unfold DataW.weights
            rw [Tryz.underlying24]
            rfl
          rw [this]
          refine DataW.weights_mem_each (j := 6) (t := 22) (d := (xs[6]'hlen6).1) rfl (by simp [List.getElem?_eq_getElem hlen6]) _ ?_
          rw [hxx]
          unfold DataW.weights
          rw [Tryz.underlying22]
          simp [bytes65]
        have := hw _ hwt
        have e : reachBytes = 140737488351232 := rfl
        rw [e] at this
        omega


set_option maxRecDepth 100000 in
theorem law_lifted (os : Os) (started : os.Started) (H : Type) (enc : TypeId × Value → H) :
    ReturnsInHanded {} Tryz.checked os 3 .any (fun w args => (Rows.sequencerNobodySpec.pre enc Tryz.prog Tryz.f3 [] false w args ∧ laidMetH Tryz.prog Rows.sequencerNobodyRow.laid w) ∧ sizedMet enc Tryz.prog Tryz.f3 (OpenSpec.ofChange Rows.sequencerNobodySpec) false w args)
      (Rows.sequencerNobodySpec.post enc Tryz.prog Tryz.f3 false true false false) := by
  refine returnsInHanded_of_change_and (C := Tryz.checked) (X := fun w _ => laidMetH Tryz.prog Rows.sequencerNobodyRow.laid w) (fun _ _ _ hh h => h.of_heap hh) own started (by kernel_rfl) Tryz.func3
    (ChangeSpec.witness_shaped (enc := enc) (C := Tryz.checked) (os := os) (X := fun w _ => laidMetH Tryz.prog Rows.sequencerNobodyRow.laid w) false (start os)
      #[.agg #[.int .i64 0, .string ⟨#[]⟩, .int .i64 0, .int .i64 0, .int .i64 0, .int .i64 0, .slice none 0 0], .agg #[.string ⟨#[]⟩, .string ⟨#[]⟩, .slice none 0 0, .slice none 0 0]] 8 (World.layVars_os _ _ _) (World.shaped_of_ZipB (by kernel_rfl) (by kernel_rfl)) (by kernel_rfl) (by kernel_rfl) (by kernel_rfl) (door_met os _)) ?_
  intro W base args ds gs before hval0 hW hcnd hsz hL _
  have hval : ∀ (j : Nat) t v, Tryz.f3.params[j]? = some t → args[j]? = some v → Value.okWide Tryz.prog W .any base t v := hval0
  have hW' := hW
  obtain ⟨p, q, hA0, hV, rfl, hfz, hnd⟩ := hW
  have hA : DataW.TrodAll enc Tryz.prog W 0 (fun _ => true) true Tryz.f3.params.toList args.toList ds p := hA0
  rw [Tryz.params3] at hA hval
  obtain ⟨v0, v1, d0, d1, p0, p1, rfl, rfl, rfl, h0, h1⟩ := trodAll_two hA
  obtain ⟨rfl, rfl⟩ := trodVars_none hV
  have hw0 : ∀ n ∈ d0.weights Tryz.prog 24, n ≤ reachBytes := fun n hn => by
    have := List.all_eq_true.1 hsz n (DataW.weights_mem_each (j := 0) (t := 24) (d := d0) rfl rfl n hn)
    simpa using this
  have hlt : ∀ x ∈ p0 ++ p1, x.block < W.heap.size := fun x hx => hW'.lt x (by simpa using hx)
  have h0k := h0
  obtain ⟨x0, x1, x2, x3, x4, x5, x6, rfl, hx, hl⟩ := open24 (hval 0 24 v0 rfl rfl) h0 hw0
  obtain ⟨r0, r1, r2, r3, rfl, hr⟩ := open28 (hval 1 28 v1 rfl rfl)
  have e1 : Rows.sequencerNobodySpec.fn H ([d0, d1] ++ []) = { results := [.lit (.bool true)], args := [d0, d1] } := by simp [Rows.sequencerNobodySpec]
  refine (KD.law_ok W x0 x1 x2 x3 x4 x5 x6 r0 r1 r2 r3 (fun x hxx => ?_) hl).mono fun e W' ⟨he, hb⟩ => ?_
  · rw [show [x0, x1, x2, x3, x4, x5, r0, r1, r2, r3] = [x0, x1, x2, x3, x4, x5] ++ [r0, r1, r2, r3] from rfl, List.mem_append] at hxx
    rcases hxx with h | h
    · exact Dx.numOrText_sym (hx x h)
    · exact hr x h
  · subst he
    refine ⟨_, rfl, _, _, _, [], p0 ++ p1, [], hW', ?_, ?_, ?_, hb.frame _, fun h => by cases h⟩
    · rw [e1]; exact trodAll_mk1 (shut_bool Tryz.underlying4 true)
    · rw [e1]
      exact trodAll_mk2 (Below.trod laidOut (by kernel_rfl) (of_decide_eq_true (by kernel_rfl)) h0k hb (fun x hx => hlt x (by simp [hx])))
        (Below.trod laidOut (by kernel_rfl) (of_decide_eq_true (by kernel_rfl)) h1 hb (fun x hx => hlt x (by simp [hx])))
    · rw [e1]; rfl

end Go.Proofs.YtkbjonoiecljiaaGreatDoor
