/-
  What the listed variables hold, in a world of the program's form where they read as they are listed.
  PlatformNobody: the contract in the row's form.
-/
import Derived.Test.YtkaoagmdhlpfoaaGreatDoorRD
namespace Go.Proofs.YtkaoagmdhlpfoaaGreatDoor
open Go.ChangeShapes Go.WideShapes Go.ChangeAt Go.RowKit
theorem ok_int {P : Program} {w : World} {base : Nat} {t : TypeId} {v : Value} (ht : P.underlying t = some (.int .i64)) (h : Cell.ok P w .any base t v) : ∃ n : Int, v = .int .i64 n ∧ -9223372036854775808 ≤ n ∧ n ≤ 9223372036854775807 := by
  unfold Cell.ok at h
  rw [ht] at h
  cases v with
  | int k n =>
    obtain ⟨rfl, h1, h2⟩ := (show k = .i64 ∧ IntKind.i64.has n from h)
    exact ⟨n, rfl, h1, h2⟩
  | _ => simp at h

set_option maxRecDepth 100000 in
theorem mem_rounds : ("blotter/digest.rounds", (Lib.tabData .u32 PK.roundsZ : DataW Unit)) ∈ Rows.platformNobodyRow.laid.filter fun x => x.2.handleName?.isNone :=
  List.mem_of_getElem? (i := 5) (show (Rows.platformNobodyRow.laid.filter fun x => x.2.handleName?.isNone)[5]? = some ("blotter/digest.rounds", Lib.tabData .u32 PK.roundsZ) by kernel_rfl)
set_option maxRecDepth 100000 in
theorem mem_pow : ("internal/strconv.uint64pow10", (Lib.tabData .u64 PK.powZ : DataW Unit)) ∈ Rows.platformNobodyRow.laid.filter fun x => x.2.handleName?.isNone :=
  List.mem_of_getElem? (i := 2) (show (Rows.platformNobodyRow.laid.filter fun x => x.2.handleName?.isNone)[2]? = some ("internal/strconv.uint64pow10", Lib.tabData .u64 PK.powZ) by kernel_rfl)

set_option maxRecDepth 100000 in
/-- The variables' blocks, of a world of the program's form. -/
theorem worldOk {W : World} (hs : W.ShapedOpen Tryz.prog) (hl : laidMetH Tryz.prog Rows.platformNobodyRow.laid W) : PK.WorldOk W := by
  have row : ∀ (g : Nat) (t : TypeId) (n : Nat), g < Tryz.prog.globals.size → (((begin Tryz.prog (fun _ _ => 0) default).world.heap[g]?).bind Obj.row?).map (fun x => (x.2, x.1.size)) = some (t, n) → ∃ cs, W.heap[g]? = some (.cells cs t (0, 0)) ∧ cs.size = n ∧ (Tryz.prog.buildable t = true → Row.ok Tryz.prog W .any 0 t cs) := fun g t n hg ht => by
    obtain ⟨⟨zero, t'⟩, hz, hh⟩ := Option.map_eq_some_iff.1 ht
    simp only [Prod.mk.injEq] at hh
    obtain ⟨rfl, rfl⟩ := hh
    obtain ⟨cs, h1, h3, h2⟩ := hs.1 g zero t' hg hz
    exact ⟨cs, h1, h3, h2⟩
  refine ⟨?_, ?_, ?_, ?_⟩
  · obtain ⟨cs, h1, _, _⟩ := row 0 118 1 (of_decide_eq_true (by kernel_rfl)) (by kernel_rfl)
    refine ⟨cs, _, h1, ?_⟩
    have := handle_of_laid hl
    unfold World.cell? at this
    rw [h1] at this
    simpa using this
  · obtain ⟨cs, h1, _, _⟩ := row 1 202 64 (of_decide_eq_true (by kernel_rfl)) (by kernel_rfl)
    have hr : Lib.VarReads Tryz.prog W "blotter/digest.rounds" (Lib.tabData .u32 PK.roundsZ) := reads_of_laid hl mem_rounds
    exact ⟨cs, _, h1, nums_of_reads hr gRounds (by kernel_rfl) Tryz.underlying202 (by kernel_rfl) (by kernel_rfl) (by kernel_rfl) h1⟩
  · obtain ⟨cs, h1, h3, h2⟩ := row 2 3 1 (of_decide_eq_true (by kernel_rfl)) (by kernel_rfl)
    obtain ⟨ts, t1, _, t2⟩ := h2 build3
    rw [types3] at t1
    cases t1
    obtain ⟨v, hv⟩ : ∃ v, cs[0]? = some v := ⟨cs[0]'(by omega), Array.getElem?_eq_getElem (by omega)⟩
    obtain ⟨u, u1, u2⟩ := t2 0 v hv
    simp at u1
    subst u1
    obtain ⟨n, rfl, k1, k2⟩ := ok_int Tryz.underlying3 u2
    exact ⟨cs, _, n, h1, hv, k1, k2⟩
  · obtain ⟨cs, h1, _, _⟩ := row 3 521 20 (of_decide_eq_true (by kernel_rfl)) (by kernel_rfl)
    have hr : Lib.VarReads Tryz.prog W "internal/strconv.uint64pow10" (Lib.tabData .u64 PK.powZ) := reads_of_laid hl mem_pow
    exact ⟨cs, _, h1, nums_of_reads hr gPow (by kernel_rfl) Tryz.underlying521 (by kernel_rfl) (by kernel_rfl) (by kernel_rfl) h1⟩

end Go.Proofs.YtkaoagmdhlpfoaaGreatDoor
namespace Go.Proofs.YtkaoagmdhlpfoaaGreatDoor
open Go.ChangeShapes Go.WideShapes Go.ChangeAt Go.RowKit

set_option maxRecDepth 100000 in
theorem open27 {W : World} {base : Nat} {v : Value} (hv : Value.okWide Tryz.prog W .any base 27 v) : ∃ x0 x1 x2 x3 x4 x5 x6 x7 x8 x9 x10, v = .agg #[x0, x1, x2, x3, x4, x5, x6, x7, x8, x9, x10] ∧ ∀ x ∈ [x0, x1, x2, x3, x4, x5, x6, x7, x8, x9, x10], Dx.symOk x = true := by
  obtain ⟨cs, rfl, hsz, hr⟩ := row_of Tryz.underlying27 hv
  rw [cells27] at hsz
  obtain ⟨x0, x1, x2, x3, x4, x5, x6, x7, x8, x9, x10, rfl⟩ : ∃ x0 x1 x2 x3 x4 x5 x6 x7 x8 x9 x10, cs = #[x0, x1, x2, x3, x4, x5, x6, x7, x8, x9, x10] := by
    cases cs with | mk l =>
    match l, hsz with
    | [x0, x1, x2, x3, x4, x5, x6, x7, x8, x9, x10], _ => exact ⟨_, _, _, _, _, _, _, _, _, _, _, rfl⟩
  have t0 : Dx.symOk x0 = true := Dx.numOrText_sym (cell_int Tryz.underlying3 (cell_at hr types27 (i := 0) rfl rfl))
  have t1 : Dx.symOk x1 = true := Dx.numOrText_sym (cell_int Tryz.underlying3 (cell_at hr types27 (i := 1) rfl rfl))
  have t2 : Dx.symOk x2 = true := Dx.numOrText_sym (cell_int Tryz.underlying3 (cell_at hr types27 (i := 2) rfl rfl))
  have t3 : Dx.symOk x3 = true := Dx.numOrText_sym (cell_int Tryz.underlying3 (cell_at hr types27 (i := 3) rfl rfl))
  have t4 : Dx.symOk x4 = true := Dx.numOrText_sym (cell_int Tryz.underlying3 (cell_at hr types27 (i := 4) rfl rfl))
  have t5 : Dx.symOk x5 = true := by obtain ⟨s, rfl, _⟩ := cell_str Tryz.underlying9 (cell_at hr types27 (i := 5) (v := x5) rfl rfl); rfl
  have t6 : Dx.symOk x6 = true := by obtain ⟨s, rfl, _⟩ := cell_str Tryz.underlying9 (cell_at hr types27 (i := 6) (v := x6) rfl rfl); rfl
  have t7 : Dx.symOk x7 = true := by obtain ⟨s, rfl, _⟩ := cell_str Tryz.underlying9 (cell_at hr types27 (i := 7) (v := x7) rfl rfl); rfl
  have t8 : Dx.symOk x8 = true := by
    rcases cell_slice Tryz.underlying24 (cell_at hr types27 (i := 8) (v := x8) rfl rfl) with rfl | ⟨a, n, c, rfl, _⟩ <;> rfl
  have t9 : Dx.symOk x9 = true := by
    rcases cell_slice Tryz.underlying25 (cell_at hr types27 (i := 9) (v := x9) rfl rfl) with rfl | ⟨a, n, c, rfl, _⟩ <;> rfl
  have t10 : Dx.symOk x10 = true := Dx.numOrText_sym (cell_int Tryz.underlying3 (cell_at hr types27 (i := 10) rfl rfl))
  refine ⟨_, _, _, _, _, _, _, _, _, _, _, rfl, fun x hx => ?_⟩
  simp only [List.mem_cons, List.not_mem_nil, or_false] at hx
  rcases hx with rfl | rfl | rfl | rfl | rfl | rfl | rfl | rfl | rfl | rfl | rfl
  · exact t0
  · exact t1
  · exact t2
  · exact t3
  · exact t4
  · exact t5
  · exact t6
  · exact t7
  · exact t8
  · exact t9
  · exact t10

set_option maxRecDepth 100000 in
theorem law_contract {H : Type} {enc : TypeId × Value → H} (W : World) (base : Nat) (args : Array Value) (ds gs : List (DataW H)) (before : List MemPlace)
    (hval0 : ∀ (j : Nat) t v, Tryz.f3.params[j]? = some t → args[j]? = some v → Value.okWide Tryz.prog W .any base t v) (hW : DataW.Whole enc Tryz.prog Tryz.f3.params.toList Rows.platformNobodySpec.vars false W args.toList ds gs before)
    (hL : laidMetH Tryz.prog Rows.platformNobodyRow.laid W) (hS : W.ShapedOpen Tryz.prog) :
    Calls Tryz.prog 3 args W fun e W' => ∃ v, e = .returned v ∧ Rows.platformNobodySpec.post enc Tryz.prog Tryz.f3 false true false false W args v W' := by
  have hval : ∀ (j : Nat) t v, Tryz.f3.params[j]? = some t → args[j]? = some v → Value.okWide Tryz.prog W .any base t v := hval0
  have hW' := hW
  obtain ⟨p, q, hA0, hV, rfl, hfz, hnd⟩ := hW
  have hA : DataW.TrodAll enc Tryz.prog W 0 (fun _ => true) true Tryz.f3.params.toList args.toList ds p := hA0
  rw [Tryz.params3] at hA hval
  obtain ⟨v0, v1, v2, d0, d1, d2, p0, p1, p2, rfl, rfl, rfl, h0, h1, h2⟩ := trodAll_three hA
  obtain ⟨rfl, rfl⟩ := trodVars_none hV
  have hlt : ∀ x ∈ p0 ++ p1 ++ p2, x.block < W.heap.size := fun x hx => hW'.lt x (by simpa using hx)
  obtain ⟨x0, x1, x2, x3, x4, x5, x6, x7, x8, x9, x10, rfl, hx⟩ := open27 (hval 0 27 v0 rfl rfl)
  obtain ⟨c, rfl, c1, c2⟩ := val_int Tryz.underlying3 (hval 1 3 v1 rfl rfl)
  obtain ⟨r, rfl, r1, r2⟩ := val_int Tryz.underlying3 (hval 2 3 v2 rfl rfl)
  have e1 : Rows.platformNobodySpec.fn H ([d0, d1, d2] ++ []) = { results := [.lit (.bool true)], args := [d0, d1, d2] } := by simp [Rows.platformNobodySpec]
  refine (PK.law_ok W (worldOk hS hL) x0 x1 x2 x3 x4 x5 x6 x7 x8 x9 x10 hx c r c1 c2 r1 r2).mono fun e W' ⟨he, hb⟩ => ?_
  subst he
  refine ⟨_, rfl, _, _, _, [], p0 ++ (p1 ++ p2), [], hW', ?_, ?_, ?_, hb.frame _, fun h => by cases h⟩
  · rw [e1]; exact trodAll_mk1 (shut_bool Tryz.underlying4 true)
  · rw [e1]
    exact trodAll_mk3 (Below.trod laidOut (by kernel_rfl) (of_decide_eq_true (by kernel_rfl)) h0 hb (fun x hx => hlt x (by simp [hx])))
      (Below.trod laidOut (by kernel_rfl) (of_decide_eq_true (by kernel_rfl)) h1 hb (fun x hx => hlt x (by simp [hx])))
      (Below.trod laidOut (by kernel_rfl) (of_decide_eq_true (by kernel_rfl)) h2 hb (fun x hx => hlt x (by simp [hx])))
  · rw [e1]; rfl

end Go.Proofs.YtkaoagmdhlpfoaaGreatDoor
