/-
  slices.AppendSeq as the machine takes it: of a map's keys, where it holds nothing; of a map's values, where it holds one entry.
-/
import Derived.Test.YtkbjonoiecljiaaGreatDoorSnTzSeq1
namespace Go.Dx
open Go Go.RowKit Go.Proofs

section
variable {B : Nat} {w0 : World} {ρ : Rho} {h : H} {w : World}

/-- What stands in a cell of a label. -/
theorem HRel.cellAt (R : HRel B w0 ρ h w) {l : Lb} {b : Blk} {v : V} (hb : ρ l = some b) (hc : cellAt h l 0 = some v) : ∃ x, w.cell? ⟨b.block, 0, none⟩ = some x ∧ RV ρ v x := by
  simp only [Dx.cellAt, Q.ask] at hc
  split at hc
  · rename_i vs el fz own hg
    have c0 : CRel ρ b vs el fz own w := R.obj _ _ _ hb hg
    simp only [rdPart, dropN] at hc
    obtain ⟨q, q1, q2⟩ := c0.cell 0 _ (by rw [← List.head?_eq_getElem?]; exact hc)
    refine ⟨q, ?_, q2⟩
    unfold cellAd at q1
    rw [(R.base _ _ hb).1] at q1
    exact q1
  · cases hc

theorem seqMap_nil (R : HRel B w0 ρ h w) {l : Lb} {b : Blk} (hb : ρ l = some b) (hs : seqMap h l = some []) : ∃ mb, w.cell? ⟨b.block, 0, none⟩ = some (.map mb) ∧ NoMap w mb := by
  unfold seqMap at hs
  split at hs
  · rename_i r hc
    obtain ⟨x, hx, rx⟩ := R.cellAt hb hc
    obtain ⟨c, hcr, rfl⟩ := map_inv rx
    split at hs
    · rename_i clock hg
      obtain ⟨ms, hm, he⟩ : ∃ ms : Array MapEntry, w.heap[c.block]? = some (.map ms clock) ∧ REs ρ [] ms.toList := R.obj _ _ _ hcr hg
      have : ms = #[] := by
        cases ms with | mk ml =>
        have : RV ρ .nilPtr (.pointer none) := .nilPtr
        have he : REs ρ [] ml := he
        cases he; rfl
      subst this
      exact ⟨_, hx, .inr ⟨_, _, rfl, hm⟩⟩
    · simp [chk_some] at hs
    · cases hs
  · rename_i hc
    obtain ⟨x, hx, rx⟩ := R.cellAt hb hc
    cases rx
    exact ⟨_, hx, .inl rfl⟩
  · cases hs

theorem seqMap_one (R : HRel B w0 ρ h w) {l : Lb} {b : Blk} {e : V × V × Nat} (hb : ρ l = some b) (hs : seqMap h l = some [e]) :
    ∃ m en c, w.cell? ⟨b.block, 0, none⟩ = some (.map (some m)) ∧ w.heap[m]? = some (.map #[en] c) ∧ en.born < c ∧ RV ρ e.1 en.key ∧ RV ρ e.2.1 en.val := by
  unfold seqMap at hs
  split at hs
  · rename_i r hc
    obtain ⟨x, hx, rx⟩ := R.cellAt hb hc
    obtain ⟨c, hcr, rfl⟩ := map_inv rx
    split at hs
    · cases hs
    · rename_i y clock hg
      simp only [chk_some, Option.some.injEq, List.cons.injEq, and_true] at hs
      obtain ⟨hlt, rfl⟩ := hs
      have hlt : y.2.2 < clock := by simpa using hlt
      obtain ⟨ms, hm, he⟩ : ∃ ms : Array MapEntry, w.heap[c.block]? = some (.map ms clock) ∧ REs ρ [y] ms.toList := R.obj _ _ _ hcr hg
      cases ms with | mk ml =>
      have he : REs ρ [y] ml := he
      cases he with
      | cons hk hv hn hs =>
        cases hs
        exact ⟨_, _, _, hx, hm, by rw [hn]; exact hlt, hk, hv⟩
    · cases hs
  · cases hs
  · cases hs

theorem enters {P : Program} {f : FuncId} {func : Func} {c : Code} (hf : P.funcs[f]? = some func) (hb : func.body = some c) (hn : (func.name == "runtime.NumGoroutine") = false) (args : Array Value) (w : World) : (callFunc f args).run P w = .ok (.enter f args) w := by
  have hn : ¬ func.name = "runtime.NumGoroutine" := fun e => by rw [e] at hn; simp at hn
  unfold callFunc
  simp [hf, hn, hb]

theorem ext_seq221 {G : Nat} : ExtOk Tryz.prog G 307 (.seq true 9 1 16 [252, 288] []) := by
  intro args h v h' hr B w0 ρ w xs R hG hx
  simp only [extRun] at hr
  split at hr
  · rename_i g l
    obtain ⟨x1, x2, rfl, r1, r2⟩ := hx.two
    cases r1
    obtain ⟨a', b', rfl, ra, rb⟩ := func_inv r2
    cases ra
    obtain ⟨y, rfl, ry⟩ := rb.one
    obtain ⟨b, hb, rfl⟩ := ptr_inv ry
    rw [(R.base _ _ hb).1]
    split at hr
    · rename_i hs
      simp only [chk_some, Option.some.injEq, Prod.mk.injEq] at hr
      obtain ⟨hg, rfl, rfl⟩ := hr
      obtain ⟨mb, hm, hn⟩ := seqMap_nil R hb hs
      have hmlt : b.block < w.heap.size := by
        rcases Nat.lt_or_ge b.block w.heap.size with h | h
        · exact h
        · simp [World.cell?, Array.getElem?_eq_none h] at hm
      have hkeep : ∀ W, Below w.heap.size w W → W.cell? ⟨b.block, 0, none⟩ = some (.map mb) ∧ NoMap W mb := fun W hW => by
        refine ⟨(hW.cell (p := ⟨b.block, 0, none⟩) hmlt).trans hm, ?_⟩
        rcases hn with rfl | ⟨m, c, rfl, hmb⟩
        · exact .inl rfl
        · exact .inr ⟨m, c, rfl, (hW.block _ (heap_lt hmb)).trans hmb⟩
      have fin : (∀ args w, (callFunc g args).run Tryz.prog w = .ok (.enter g args) w) → (∀ l W, Below w.heap.size w W → CallsIn Fence.wide 0 Tryz.prog g (#[.func (.yield l) #[] #[]] ++ #[.pointer (some ⟨b.block, 0, none⟩)]) W fun e W' => (∃ v, e = .returned v) ∧ ∃ o, W' = W.alloc o) →
          Good Tryz.prog 307 [.slice none 0 0, .func (.func g) #[] #[.pointer (some ⟨b.block, 0 + 0, none⟩)]] w fun x w' => ∃ ρ', Step ρ ρ' h h ∧ RV ρ' (.nilSlice 0) x ∧ HRel B w0 ρ' h w' := fun eg hit =>
        Good.of_calls Tryz.func307 rfl (by kernel_rfl) ((Tz.seq221 g _ eg w hit).mono fun e w' ⟨h1, h2⟩ => ⟨_, h1, ρ, Step.refl _ _, .nilSlice 0, R.below_ok h2⟩)
      simp only [hasNat, Bool.or_false, Bool.or_eq_true] at hg
      rcases hg with hg | hg
      · have := Nat.eq_of_beq_eq_true hg
        subst this
        exact fin (enters Tryz.func252 rfl (by kernel_rfl)) fun l W hW => Tz.it180 _ _ trivial rfl l b.block W mb (hkeep W hW).1 (hkeep W hW).2
      · have := Nat.eq_of_beq_eq_true hg
        subst this
        exact fin (enters Tryz.func288 rfl (by kernel_rfl)) fun l W hW => Tz.it215 _ _ trivial rfl l b.block W mb (hkeep W hW).1 (hkeep W hW).2
    · simp [hasNat, chk] at hr
    · cases hr
  · cases hr

theorem ext_seq281 {G : Nat} : ExtOk Tryz.prog G 352 (.seq false 95 2 32 [] [331]) := by
  intro args h v h' hr B w0 ρ w xs R hG hx
  simp only [extRun] at hr
  split at hr
  · rename_i g l
    obtain ⟨x1, x2, rfl, r1, r2⟩ := hx.two
    cases r1
    obtain ⟨a', b', rfl, ra, rb⟩ := func_inv r2
    cases ra
    obtain ⟨y, rfl, ry⟩ := rb.one
    obtain ⟨b, hb, rfl⟩ := ptr_inv ry
    rw [(R.base _ _ hb).1]
    split at hr
    · simp [hasNat, chk] at hr
    · rename_i e hs
      simp only [chk_some, hasNat, Bool.or_false] at hr
      obtain ⟨hg, hr⟩ := hr
      have := Nat.eq_of_beq_eq_true hg
      subst this
      obtain ⟨m, en, c, hm, hmb, hborn, -, hval⟩ := seqMap_one R hb hs
      unfold push1 at hr
      simp only [chk_some, Bool.and_eq_true] at hr
      obtain ⟨⟨⟨⟨hl, -⟩, -⟩, hfl⟩, hr⟩ := hr
      have hl := Nat.eq_of_beq_eq_true hl
      obtain ⟨v1, v2, hv⟩ : ∃ v1 v2, e.2.1 = .agg [v1, v2] := by
        generalize e.2.1 = u at hl
        cases u with
        | agg cs =>
          match cs, hl with
          | [v1, v2], _ => exact ⟨v1, v2, rfl⟩
        | _ => simp [V.cells] at hl
      rw [hv] at hval hr hfl
      obtain ⟨ys, henv, hval⟩ : ∃ ys, en.val = .agg ⟨ys⟩ ∧ RVs ρ [v1, v2] ys := by
        generalize en.val = ev at hval
        cases hval with | agg q => exact ⟨_, rfl, q⟩
      obtain ⟨y1, y2, rfl, s1, s2⟩ := hval.two
      have hone := flats_one hval hfl
      have hr : v = .slice h.next 0 1 (.toEnd 2) ∧ h' = h.add (.cells [v1, v2] 95 0 .yes) := by
        unfold appendV at hr
        simp only [show Nat.ble 1 0 = false from rfl, chk_some, Option.some.injEq, Prod.mk.injEq, V.cells] at hr
        exact ⟨hr.2.1.symm, hr.2.2.symm⟩
      obtain ⟨rfl, rfl⟩ := hr
      have hmlt : b.block < w.heap.size := by
        rcases Nat.lt_or_ge b.block w.heap.size with h | h
        · exact h
        · simp [World.cell?, Array.getElem?_eq_none h] at hm
      have key := Tz.seq281 331 #[.pointer (some ⟨b.block, 0, none⟩)] (enters Tryz.func331 rfl (by kernel_rfl)) w y1 y2 (hone y1 (by simp)) (hone y2 (by simp)) fun l W Q hW hY =>
        Tz.it251 l b.block m c en y1 y2 W ((hW.cell (p := ⟨b.block, 0, none⟩) hmlt).trans hm) ((hW.block _ (heap_lt hmb)).trans hmb) hborn henv (hone y1 (by simp)) (hone y2 (by simp)) Q hY
      refine Good.of_calls Tryz.func352 rfl (by kernel_rfl) (key.mono fun e w' hh => ?_)
      obtain ⟨rv, he, ⟨g', cap, cur, rfl, hge, hcur, htake, hsz, hcap⟩, hbel⟩ := hh
      refine ⟨_, he, upd ρ h.next (Blk.mk g' 0 (cap * 2) .nilFunc), Step.add _ _ _ _, ?_, R.named hbel hge ⟨rfl, rfl⟩ ?_⟩
      · have := RV.sliceEnd (ρ := upd ρ h.next (Blk.mk g' 0 (cap * 2) .nilFunc)) (l := h.next) 0 1 2 cap (upd_self _ _ _) hcap (by simp)
        simpa using this
      · have E := upd_ext (b := (Blk.mk g' 0 (cap * 2) .nilFunc)) R.fresh
        refine ⟨?_, ?_, fun i v hv => ?_, fun _ i hi hl => ?_, fun _ => ⟨cur, 0, 0, hcur, Nat.le_refl _⟩⟩
        · simp [World.shape?, hcur, hsz]
        · show 0 + 2 ≤ cap * 2; omega
        · have hlen : i < 2 := by
            have := (List.getElem?_eq_some_iff.1 hv).1
            simpa using this
          obtain ⟨x, hx1, hx2⟩ := (hval.mono E).get hv
          refine ⟨x, ?_, hx2⟩
          unfold cellAd World.cell?
          simp only [hcur, Nat.zero_add]
          have : cur.toList[i]? = some x := by
            rw [← htake, List.getElem?_take, if_pos hlen] at hx1
            exact hx1
          simpa using this
        · simp [World.frozen?, hcur]
    · cases hr
  · cases hr
end
end Go.Dx
