/-
  SequencerNobody's function returns true, at every message and request, whatever world it is called in.
-/
import Derived.Test.YtkbjonoiecljiaaGreatDoorSnKDc
import Derived.Test.YtkbjonoiecljiaaGreatDoorSnKDr
import Derived.Test.YtkbjonoiecljiaaGreatDoorSnTzSeqOk
import Derived.Test.YtkbjonoiecljiaaGreatDoorSnClone
namespace KD
open Go Go.Dx Go.RowKit Go.Proofs

theorem e185 : EntryAt Tryz.prog 185 (fun _ => do mark .disable; pure Extern.Race.none_) := ⟨⟨_, Tryz.func185, by kernel_rfl, by kernel_rfl, by kernel_rfl, by kernel_rfl⟩⟩
theorem e186 : EntryAt Tryz.prog 186 (Extern.Atomic.casT (.int .i32)) := ⟨⟨_, Tryz.func186, by kernel_rfl, by kernel_rfl, by kernel_rfl, by kernel_rfl⟩⟩
theorem e187 : EntryAt Tryz.prog 187 (fun _ => do mark .enable; pure Extern.Race.none_) := ⟨⟨_, Tryz.func187, by kernel_rfl, by kernel_rfl, by kernel_rfl, by kernel_rfl⟩⟩
theorem e188 : EntryAt Tryz.prog 188 (Extern.Race.marked .acquire) := ⟨⟨_, Tryz.func188, by kernel_rfl, by kernel_rfl, by kernel_rfl, by kernel_rfl⟩⟩
theorem e190 : EntryAt Tryz.prog 190 (Extern.Race.marked .releaseMerge) := ⟨⟨_, Tryz.func190, by kernel_rfl, by kernel_rfl, by kernel_rfl, by kernel_rfl⟩⟩
theorem e191 : EntryAt Tryz.prog 191 (Extern.Atomic.update (Op.intArith .add) .i32 true) := ⟨⟨_, Tryz.func191, by kernel_rfl, by kernel_rfl, by kernel_rfl, by kernel_rfl⟩⟩
theorem e292 : EntryAt Tryz.prog 292 Extern.AbiNoEscape.same := ⟨⟨_, Tryz.func292, by kernel_rfl, by kernel_rfl, by kernel_rfl, by kernel_rfl⟩⟩
theorem e293 : EntryAt Tryz.prog 293 (Extern.BytealgMakeNoZero.makeNoZero Tryz.f293.params #[26]) := ⟨⟨_, Tryz.func293, by kernel_rfl, by kernel_rfl, by kernel_rfl, by kernel_rfl⟩⟩
theorem e287 : EntryAt Tryz.prog 287 Extern.MapsClone.clone := ⟨⟨_, Tryz.func287, by kernel_rfl, by kernel_rfl, by kernel_rfl, by kernel_rfl⟩⟩
theorem e354 : EntryAt Tryz.prog 354 Extern.BytealgCompare.compare := ⟨⟨_, Tryz.func354, by kernel_rfl, by kernel_rfl, by kernel_rfl, by kernel_rfl⟩⟩
/-- slices.Clone, of a slice that came in. -/
theorem ext_clone21 : ExtOk Tryz.prog 11 21 (.cloneAny 6) := by
  intro args h v h' hr B w0 ρ w xs R hG hx
  simp only [extRun] at hr
  split at hr
  · rename_i n
    simp only [chk_some, Option.some.injEq, Prod.mk.injEq] at hr
    obtain ⟨hn, rfl, rfl⟩ := hr
    have hn := Nat.eq_of_beq_eq_true hn
    subst hn
    obtain ⟨x, rfl, rx⟩ := hx.one
    cases rx with
    | sym hl ht hv =>
      rename_i b
      have hne : b.val ≠ .nilFunc := fun e => by rw [e] at hv; simp [symOk] at hv
      have V := (R.base _ _ hl).2
      rcases V.row hne (by omega) with hs | ⟨a, n, c, hs⟩
      · rw [hs]
        exact Good.of_calls Tryz.func21 rfl (by kernel_rfl) ((Tz.clone30_nil w).mono fun e w' ⟨h1, h2⟩ => ⟨_, h1, ρ, Step.refl _ _, .any rfl, by rw [h2]; exact R⟩)
      · rw [hs]
        obtain ⟨k1, k2, k3, k4⟩ := V.slice (by omega) a n c hs
        have hlt : a.block < w.heap.size := Nat.lt_of_lt_of_le k1 R.size
        refine Good.of_calls Tryz.func21 rfl (by kernel_rfl) ((Tz.clone30 a n c w hlt k2 k3 fun j hj => ?_).mono fun e w' hh => ?_)
        · have := R.below.cell (p := ⟨a.block, a.off + j, none⟩) k1
          rw [this]
          exact k4 j (by rw [ht]; exact hj)
        · obtain ⟨y, h1, h2, h3⟩ := hh
          exact ⟨_, h1, ρ, Step.refl _ _, .any h2, R.below_ok h3⟩
  · cases hr

theorem orc_ids : OrcOk Tryz.prog 11 (orcOf Tryz.prog ids) := by
  refine orc_ok fun p hp => ?_
  simp only [ids, List.mem_cons, List.not_mem_nil, or_false] at hp
  rcases hp with rfl | rfl | rfl | rfl | rfl | rfl | rfl | rfl | rfl | rfl | rfl | rfl | rfl
  · exact ext_clone21
  · exact ext_nop e185
  · exact ext_cas32 e186
  · exact ext_nop e187
  · exact ext_mark e188
  · exact ext_mark e190
  · exact ext_add32 e191
  · exact ext_clone e287
  · exact ext_same e292
  · exact ext_noZero (t := 26) (by kernel_rfl) e293
  · exact ext_seq221
  · exact ext_seq281
  · exact ext_compare e354

theorem run_some {r : Option (V × H)} (h : isTrue r = true) : ∃ h', r = some (.bool true, h') := by
  unfold isTrue at h
  split at h
  · exact ⟨_, rfl⟩
  · cases h

/-- What may come in as the message's list. -/
def ListOk (w : World) (x : Value) : Prop := x = .slice none 0 0 ∨ ∃ a n c, x = .slice (some a) n c ∧ a.block < w.heap.size ∧ a.spot = none ∧ n * 80 ≤ 140737488355328 ∧ ∀ j, j < n * 6 → (w.cell? ⟨a.block, a.off + j, none⟩).isSome = true

theorem ListOk.val {w : World} {x : Value} (h : ListOk w x) : symOk x = true ∧ ValOk w.heap.size w (Blk.mk 0 0 6 x) := by
  rcases h with rfl | ⟨a, n, c, rfl, h1, h2, h3, h4⟩
  · exact ⟨rfl, ⟨(fun _ a n c e => by cases e), (fun _ _ => .inl rfl), (fun _ h => by simp at h), (fun _ h => by simp at h)⟩⟩
  · refine ⟨rfl, ⟨fun _ a' n' c' e => ?_, (fun _ _ => .inr ⟨_, _, _, rfl⟩), (fun _ h => by simp at h), (fun _ h => by simp at h)⟩⟩
    cases e
    exact ⟨h1, h2, h3, h4⟩

theorem law_ok (w : World) (x0 x1 x2 x3 x4 x5 x6 r0 r1 r2 r3 : Value) (hm : ∀ x ∈ [x0, x1, x2, x3, x4, x5, r0, r1, r2, r3], symOk x = true) (hl : ListOk w x6) :
    Calls Tryz.prog 3 #[.agg #[x0, x1, x2, x3, x4, x5, x6], .agg #[r0, r1, r2, r3]] w fun e w' => e = .returned (.bool true) ∧ Below w.heap.size w w' := by
  obtain ⟨h', hcall⟩ := run_some law_run
  unfold runK at hcall
  rw [K.turnK_eq] at hcall
  obtain ⟨vs, hvs⟩ : ∃ vs : List (Nat × Value), vs = [(1, x0), (1, x1), (1, x2), (1, x3), (1, x4), (1, x5), (6, x6), (1, r0), (1, r1), (1, r2), (1, r3)] := ⟨_, rfl⟩
  have R := rel1 (w := w) (G := 11) (vs := vs) (nx := p22) (by rw [hvs]; rfl) (fun p hp => by
    rw [hvs] at hp
    simp only [List.mem_cons, List.not_mem_nil, or_false] at hp
    rcases hp with rfl | rfl | rfl | rfl | rfl | rfl | rfl | rfl | rfl | rfl | rfl
    all_goals first
      | exact ValOk.cell
      | exact hl.val.2)
  have sy : ∀ (i k : Nat) (x : Value), vs[i]? = some (k, x) → i < 11 → symOk x = true → RV (rho1 w 11 vs) (.sym (pathOf (11 + i)) k) x := fun i k x hi hlt hx => by
    have := RV.sym (ρ := rho1 w 11 vs) (n := k) (rho1_sym w hi (by omega)) rfl hx
    exact this
  have key := machine_ok (P := Tryz.prog) (G := 11) (by kernel_rfl) orc_ids dorc15_ok fns_ok 3000 hcall R (rho1_rel w vs (by decide))
    (xs := [.agg #[x0, x1, x2, x3, x4, x5, x6], .agg #[r0, r1, r2, r3]])
    (.cons (.agg (.cons (sy 0 1 x0 (by rw [hvs]; rfl) (by decide) (hm _ (by simp))) (.cons (sy 1 1 x1 (by rw [hvs]; rfl) (by decide) (hm _ (by simp))) (.cons (sy 2 1 x2 (by rw [hvs]; rfl) (by decide) (hm _ (by simp))) (.cons (sy 3 1 x3 (by rw [hvs]; rfl) (by decide) (hm _ (by simp)))
        (.cons (sy 4 1 x4 (by rw [hvs]; rfl) (by decide) (hm _ (by simp))) (.cons (sy 5 1 x5 (by rw [hvs]; rfl) (by decide) (hm _ (by simp))) (.cons (sy 6 6 x6 (by rw [hvs]; rfl) (by decide) hl.val.1) .nil))))))))
      (.cons (.agg (.cons (sy 7 1 r0 (by rw [hvs]; rfl) (by decide) (hm _ (by simp))) (.cons (sy 8 1 r1 (by rw [hvs]; rfl) (by decide) (hm _ (by simp))) (.cons (sy 9 1 r2 (by rw [hvs]; rfl) (by decide) (hm _ (by simp))) (.cons (sy 10 1 r3 (by rw [hvs]; rfl) (by decide) (hm _ (by simp))) .nil))))) .nil))
  refine (key.calls Tryz.func3 rfl (by kernel_rfl)).mono fun e w' hh => ?_
  obtain ⟨v, rfl, ρ', -, hv, R'⟩ := hh
  cases hv
  exact ⟨rfl, R'.below⟩
end KD
