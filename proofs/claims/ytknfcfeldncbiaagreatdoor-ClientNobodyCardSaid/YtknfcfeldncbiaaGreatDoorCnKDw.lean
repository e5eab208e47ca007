/-
  ClientNobody's function returns true, at every mutation, message and text, whatever world it is called in where 'error's handle stands in its variable.
-/
import Derived.Test.YtknfcfeldncbiaaGreatDoorCnKDc
import Derived.Test.YtknfcfeldncbiaaGreatDoorCnKDs
import Derived.Test.YtknfcfeldncbiaaGreatDoorCnTzAsOk
import Derived.Test.YtknfcfeldncbiaaGreatDoorCnTzSeqOk
import Derived.Test.YtknfcfeldncbiaaGreatDoorCnName
import Derived.Test.YtknfcfeldncbiaaGreatDoorCnClone
namespace KD
open Go Go.Dx Go.RowKit Go.Proofs

theorem e160 : EntryAt Tryz.prog 160 (fun _ => do mark .disable; pure Extern.Race.none_) := ⟨⟨_, Tryz.func160, by kernel_rfl, by kernel_rfl, by kernel_rfl, by kernel_rfl⟩⟩
theorem e161 : EntryAt Tryz.prog 161 (Extern.Atomic.casT (.int .i32)) := ⟨⟨_, Tryz.func161, by kernel_rfl, by kernel_rfl, by kernel_rfl, by kernel_rfl⟩⟩
theorem e162 : EntryAt Tryz.prog 162 (fun _ => do mark .enable; pure Extern.Race.none_) := ⟨⟨_, Tryz.func162, by kernel_rfl, by kernel_rfl, by kernel_rfl, by kernel_rfl⟩⟩
theorem e163 : EntryAt Tryz.prog 163 (Extern.Race.marked .acquire) := ⟨⟨_, Tryz.func163, by kernel_rfl, by kernel_rfl, by kernel_rfl, by kernel_rfl⟩⟩
theorem e165 : EntryAt Tryz.prog 165 (Extern.Race.marked .releaseMerge) := ⟨⟨_, Tryz.func165, by kernel_rfl, by kernel_rfl, by kernel_rfl, by kernel_rfl⟩⟩
theorem e166 : EntryAt Tryz.prog 166 (Extern.Atomic.update (Op.intArith .add) .i32 true) := ⟨⟨_, Tryz.func166, by kernel_rfl, by kernel_rfl, by kernel_rfl, by kernel_rfl⟩⟩
theorem e227 : EntryAt Tryz.prog 227 Extern.AbiNoEscape.same := ⟨⟨_, Tryz.func227, by kernel_rfl, by kernel_rfl, by kernel_rfl, by kernel_rfl⟩⟩
theorem e228 : EntryAt Tryz.prog 228 (Extern.BytealgMakeNoZero.makeNoZero Tryz.f228.params #[95]) := ⟨⟨_, Tryz.func228, by kernel_rfl, by kernel_rfl, by kernel_rfl, by kernel_rfl⟩⟩
theorem e232 : EntryAt Tryz.prog 232 Extern.MapsClone.clone := ⟨⟨_, Tryz.func232, by kernel_rfl, by kernel_rfl, by kernel_rfl, by kernel_rfl⟩⟩
theorem e296 : EntryAt Tryz.prog 296 Extern.BytealgCompare.compare := ⟨⟨_, Tryz.func296, by kernel_rfl, by kernel_rfl, by kernel_rfl, by kernel_rfl⟩⟩
theorem e305 : EntryAt Tryz.prog 305 Extern.BytealgIndexByte.indexByte := ⟨⟨_, Tryz.func305, by kernel_rfl, by kernel_rfl, by kernel_rfl, by kernel_rfl⟩⟩
theorem e70 : EntryAt Tryz.prog 70 Extern.ReflectliteType.typeOf := ⟨⟨_, Tryz.func70, by kernel_rfl, by kernel_rfl, by kernel_rfl, by kernel_rfl⟩⟩
theorem e355 : EntryAt Tryz.prog 355 (Extern.ReflectliteType.method fun t => do Extern.Rtype.noPackHeld "Comparable" t; pure (.bool (← typeInfo t).comparable)) := ⟨⟨_, Tryz.func355, by kernel_rfl, by kernel_rfl, by kernel_rfl, by kernel_rfl⟩⟩


theorem rtype (w : World) : (cutType "internal/reflectlite.rtype").run Tryz.prog w = .ok 214 w := by kernel_rfl
theorem comparable38 (i : TypeInfo) (hi : Tryz.prog.info? 38 = some i) (w : World) :
    (Extern.ReflectliteType.method (fun t => do Extern.Rtype.noPackHeld "Comparable" t; pure (.bool (← typeInfo t).comparable)) #[.agg #[.pointer (some ⟨7, 38, none⟩)]]).run Tryz.prog w = .ok (.bool i.comparable) w := by
  have h : (Extern.ReflectliteType.method (fun t => do Extern.Rtype.noPackHeld "Comparable" t; pure (.bool (← typeInfo t).comparable)) #[.agg #[.pointer (some ⟨7, 38, none⟩)]]).run Tryz.prog w = .ok (.bool true) w := by kernel_rfl
  have h2 : (Tryz.prog.info? 38).map (·.comparable) = some true := by kernel_rfl
  rw [hi] at h2
  have h3 : i.comparable = true := Option.some.inj h2
  rw [h, h3]

/-- authtok.Name, as the machine takes it. -/
theorem ext_name : ExtOk Tryz.prog 8 17 .nameIs := by
  intro args h v h' hr B w0 ρ w xs R hG hx
  simp only [extRun] at hr
  split at hr
  · cases hr
    obtain ⟨x, rfl, rx⟩ := hx.one
    cases rx with
    | sym hl ht hv =>
      rename_i b
      have hne : b.val ≠ .nilFunc := fun e => by rw [e] at hv; simp [symOk] at hv
      obtain ⟨s, hs, hsz, hn⟩ := (R.base _ _ hl).2.good hne ht
      rw [hs]
      exact Good.of_calls Tryz.func17 rfl (by kernel_rfl) ((Tz.name17 s hsz w).mono fun e w' ⟨h1, h2⟩ => ⟨_, h1, ρ, Step.refl _ _, by rw [hn]; exact .bool true, R.below_ok h2⟩)
  · cases hr
    obtain ⟨x, rfl, rx⟩ := hx.one
    cases rx with
    | sym hl ht hv =>
      rename_i b
      have hne : b.val ≠ .nilFunc := fun e => by rw [e] at hv; simp [symOk] at hv
      obtain ⟨s, hs, hsz, hn⟩ := (R.base _ _ hl).2.bad hne ht
      rw [hs]
      exact Good.of_calls Tryz.func17 rfl (by kernel_rfl) ((Tz.name17 s hsz w).mono fun e w' ⟨h1, h2⟩ => ⟨_, h1, ρ, Step.refl _ _, by rw [hn]; exact .bool false, R.below_ok h2⟩)
  · cases hr

/-- slices.Clone, of a slice that came in. -/
theorem ext_clone30 : ExtOk Tryz.prog 8 30 (.cloneAny 6) := by
  intro args h v h' hr B w0 ρ w xs R hG hx
  simp only [extRun] at hr
  split at hr
  · rename_i n
    simp only [chk_some, Option.some.injEq, Prod.mk.injEq] at hr
    obtain ⟨hn, rfl, rfl⟩ := hr
    have hn := Nat.eq_of_beq_eq_true hn
    subst hn
    obtain ⟨x, rfl, rx⟩ := hx.one
    cases rx with
    | sym hl ht hv =>
      rename_i b
      have hne : b.val ≠ .nilFunc := fun e => by rw [e] at hv; simp [symOk] at hv
      have V := (R.base _ _ hl).2
      rcases V.row hne (by omega) with hs | ⟨a, n, c, hs⟩
      · rw [hs]
        exact Good.of_calls Tryz.func30 rfl (by kernel_rfl) ((Tz.clone30_nil w).mono fun e w' ⟨h1, h2⟩ => ⟨_, h1, ρ, Step.refl _ _, .any rfl, by rw [h2]; exact R⟩)
      · rw [hs]
        obtain ⟨k1, k2, k3, k4⟩ := V.slice a n c hs
        have hlt : a.block < w.heap.size := Nat.lt_of_lt_of_le k1 R.size
        refine Good.of_calls Tryz.func30 rfl (by kernel_rfl) ((Tz.clone30 a n c w hlt k2 k3 fun j hj => ?_).mono fun e w' hh => ?_)
        · have := R.below.cell (p := ⟨a.block, a.off + j, none⟩) k1
          rw [this]
          exact k4 j (by rw [ht]; exact hj)
        · obtain ⟨y, h1, h2, h3⟩ := hh
          exact ⟨_, h1, ρ, Step.refl _ _, .any h2, R.below_ok h3⟩
  · cases hr

theorem orc_ids : OrcOk Tryz.prog 8 (orcOf Tryz.prog ids) := by
  refine orc_ok fun p hp => ?_
  simp only [ids, List.mem_cons, List.not_mem_nil, or_false] at hp
  rcases hp with rfl | rfl | rfl | rfl | rfl | rfl | rfl | rfl | rfl | rfl | rfl | rfl | rfl | rfl | rfl | rfl | rfl | rfl
  · exact ext_name
  · exact ext_as_Tz (by decide)
  · exact ext_clone30
  · exact ext_typeOf (g := 7) (G := 8) (by decide) (by kernel_rfl) e70 rtype
  · exact ext_nop e160
  · exact ext_cas32 e161
  · exact ext_nop e162
  · exact ext_mark e163
  · exact ext_mark e165
  · exact ext_add32 e166
  · exact ext_same e227
  · exact ext_noZero (t := 95) (by kernel_rfl) e228
  · exact ext_clone e232
  · exact ext_seq221
  · exact ext_compare e296
  · exact ext_seq281
  · exact ext_indexByte e305
  · exact ext_comparable (g := 7) (G := 8) (ts := [38]) (by decide) (by decide) e355 fun t ht i hi w => by
      rw [List.mem_singleton] at ht; subst ht; exact comparable38 i hi w

theorem run_some {r : Option (V × H)} (h : isTrue r = true) : ∃ h', r = some (.bool true, h') := by
  unfold isTrue at h
  split at h
  · exact ⟨_, rfl⟩
  · cases h

/-- What may come in as the message's list. -/
def ListOk (w : World) (x : Value) : Prop := x = .slice none 0 0 ∨ ∃ a n c, x = .slice (some a) n c ∧ a.block < w.heap.size ∧ a.spot = none ∧ n * 80 ≤ 140737488355328 ∧ ∀ j, j < n * 6 → (w.cell? ⟨a.block, a.off + j, none⟩).isSome = true

theorem ListOk.val {w : World} {x : Value} (h : ListOk w x) : symOk x = true ∧ ValOk w.heap.size w (Blk.mk 0 0 6 x) := by
  rcases h with rfl | ⟨a, n, c, rfl, h1, h2, h3, h4⟩
  · exact ⟨rfl, ⟨(fun a n c e => by cases e), (fun _ _ => .inl rfl), (fun _ h => by simp at h), (fun _ h => by simp at h)⟩⟩
  · refine ⟨rfl, ⟨fun a' n' c' e => ?_, (fun _ _ => .inr ⟨_, _, _, rfl⟩), (fun _ h => by simp at h), (fun _ h => by simp at h)⟩⟩
    cases e
    exact ⟨h1, h2, h3, h4⟩

theorem name_val {w : World} {s : ByteArray} {n : Nat} (hs : (s.size : Int) ≤ 9223372036854775807) (hn : n = 3 ∧ nameB s = true ∨ n = 2 ∧ nameB s = false) : ValOk w.heap.size w (Blk.mk 0 0 n (.string s)) := by
  rcases hn with ⟨rfl, hb⟩ | ⟨rfl, hb⟩
  · exact ⟨(fun a n c e => by cases e), (fun _ h => by simp at h), (fun _ _ => ⟨s, rfl, hs, hb⟩), (fun _ h => by simp at h)⟩
  · exact ⟨(fun a n c e => by cases e), (fun _ h => by simp at h), (fun _ h => by simp at h), (fun _ _ => ⟨s, rfl, hs, hb⟩)⟩

theorem law_ok (w : World) (m0 m1 m2 m3 x0 x1 x2 x3 x4 x5 x6 : Value) (s : ByteArray) (hg : w.cell? ⟨0, 0, none⟩ = some (.iface 214 (.agg #[.pointer (some ⟨7, 35, none⟩)])))
    (hm : ∀ x ∈ [m0, m1, m2, m3, x0, x1, x2, x3, x4, x5], numOrText x = true) (hl : ListOk w x6) (hs : (s.size : Int) ≤ 9223372036854775807) :
    Calls Tryz.prog 3 #[.agg #[m0, m1, m2, m3], .agg #[x0, x1, x2, x3, x4, x5, x6], .string s] w fun e w' => e = .returned (.bool true) ∧ Below w.heap.size w w' := by
  obtain ⟨c, e, fr, hc⟩ : ∃ c e fr, w.heap[0]? = some (.cells c e fr) := by
    unfold World.cell? at hg
    split at hg
    · rename_i c t fr hc; exact ⟨_, _, _, hc⟩
    · cases hg
  have hcell : c[0]? = some (.iface 214 (.agg #[.pointer (some ⟨7, 35, none⟩)])) := by
    unfold World.cell? at hg
    rw [hc] at hg
    simpa using hg
  obtain ⟨n, h', hn, hcall⟩ : ∃ n h', (n = 3 ∧ nameB s = true ∨ n = 2 ∧ nameB s = false) ∧ runK e 3000 3 (inp n) = some (.bool true, h') := by
    cases hb : nameB s with
    | true => obtain ⟨h', hr⟩ := run_some (law_run_good e); exact ⟨3, h', .inl ⟨rfl, rfl⟩, hr⟩
    | false => obtain ⟨h', hr⟩ := run_some (law_run_bad e); exact ⟨2, h', .inr ⟨rfl, rfl⟩, hr⟩
  unfold runK at hcall
  rw [K.turnK_eq] at hcall
  obtain ⟨vs, hvs⟩ : ∃ vs : List (Nat × Value), vs = [(1, m0), (1, m1), (1, m2), (1, m3), (1, x0), (1, x1), (1, x2), (1, x3), (1, x4), (1, x5), (6, x6), (n, .string s)] := ⟨_, rfl⟩
  have R := rel0 (G := 8) (vs := vs) (nx := p20) (by decide) (by decide) (by decide) hc hcell (by rw [hvs]; rfl) (fun p hp => by
    rw [hvs] at hp
    simp only [List.mem_cons, List.not_mem_nil, or_false] at hp
    rcases hp with rfl | rfl | rfl | rfl | rfl | rfl | rfl | rfl | rfl | rfl | rfl | rfl
    all_goals first
      | exact ValOk.plain (hm _ (by simp))
      | exact hl.val.2
      | exact name_val hs hn)
  have sy : ∀ (i k : Nat) (x : Value), vs[i]? = some (k, x) → i < 12 → symOk x = true → RV (rho1 w 8 vs) (.sym (pathOf (8 + i)) k) x := fun i k x hi hlt hx => by
    have := RV.sym (ρ := rho1 w 8 vs) (n := k) (rho1_sym w hi (by omega)) rfl hx
    exact this
  have st : ∀ x ∈ [m0, m1, m2, m3, x0, x1, x2, x3, x4, x5], symOk x = true := fun x hx => numOrText_sym (hm x hx)
  have key := machine_ok (P := Tryz.prog) (G := 8) (by kernel_rfl) orc_ids dorc15_ok fns_ok 3000 hcall R (rho1_rel w vs (by decide))
    (xs := [.agg #[m0, m1, m2, m3], .agg #[x0, x1, x2, x3, x4, x5, x6], .string s])
    (.cons (.agg (.cons (sy 0 1 m0 (by rw [hvs]; rfl) (by decide) (st _ (by simp))) (.cons (sy 1 1 m1 (by rw [hvs]; rfl) (by decide) (st _ (by simp))) (.cons (sy 2 1 m2 (by rw [hvs]; rfl) (by decide) (st _ (by simp))) (.cons (sy 3 1 m3 (by rw [hvs]; rfl) (by decide) (st _ (by simp))) .nil)))))
      (.cons (.agg (.cons (sy 4 1 x0 (by rw [hvs]; rfl) (by decide) (st _ (by simp))) (.cons (sy 5 1 x1 (by rw [hvs]; rfl) (by decide) (st _ (by simp))) (.cons (sy 6 1 x2 (by rw [hvs]; rfl) (by decide) (st _ (by simp))) (.cons (sy 7 1 x3 (by rw [hvs]; rfl) (by decide) (st _ (by simp)))
        (.cons (sy 8 1 x4 (by rw [hvs]; rfl) (by decide) (st _ (by simp))) (.cons (sy 9 1 x5 (by rw [hvs]; rfl) (by decide) (st _ (by simp))) (.cons (sy 10 6 x6 (by rw [hvs]; rfl) (by decide) hl.val.1) .nil))))))))
        (.cons (sy 11 n (.string s) (by rw [hvs]; rfl) (by decide) rfl) .nil)))
  refine (key.calls Tryz.func3 rfl (by kernel_rfl)).mono fun e w' hh => ?_
  obtain ⟨v, rfl, ρ', -, hv, R'⟩ := hh
  cases hv
  exact ⟨rfl, R'.below⟩
end KD
