/-
  'awake' returns true, whatever world it is called in where 'error's handle stands in its variable.
-/
import Derived.Test.YtlfbedifolcjcaaGreatDoorKDc
import Derived.Test.YtlfbedifolcjcaaGreatDoorKDr
import Derived.Test.YtlfbedifolcjcaaGreatDoorTzAsOk
import Derived.Test.YtlfbedifolcjcaaGreatDoorTzSeqOk
namespace KD
open Go Go.Dx Go.RowKit Go.Proofs

theorem e142 : EntryAt Tryz.prog 142 (fun _ => do mark .disable; pure Extern.Race.none_) := ⟨⟨_, Tryz.func142, by kernel_rfl, by kernel_rfl, by kernel_rfl, by kernel_rfl⟩⟩
theorem e143 : EntryAt Tryz.prog 143 (Extern.Atomic.casT (.int .i32)) := ⟨⟨_, Tryz.func143, by kernel_rfl, by kernel_rfl, by kernel_rfl, by kernel_rfl⟩⟩
theorem e144 : EntryAt Tryz.prog 144 (fun _ => do mark .enable; pure Extern.Race.none_) := ⟨⟨_, Tryz.func144, by kernel_rfl, by kernel_rfl, by kernel_rfl, by kernel_rfl⟩⟩
theorem e145 : EntryAt Tryz.prog 145 (Extern.Race.marked .acquire) := ⟨⟨_, Tryz.func145, by kernel_rfl, by kernel_rfl, by kernel_rfl, by kernel_rfl⟩⟩
theorem e147 : EntryAt Tryz.prog 147 (Extern.Race.marked .releaseMerge) := ⟨⟨_, Tryz.func147, by kernel_rfl, by kernel_rfl, by kernel_rfl, by kernel_rfl⟩⟩
theorem e148 : EntryAt Tryz.prog 148 (Extern.Atomic.update (Op.intArith .add) .i32 true) := ⟨⟨_, Tryz.func148, by kernel_rfl, by kernel_rfl, by kernel_rfl, by kernel_rfl⟩⟩
theorem e209 : EntryAt Tryz.prog 209 Extern.AbiNoEscape.same := ⟨⟨_, Tryz.func209, by kernel_rfl, by kernel_rfl, by kernel_rfl, by kernel_rfl⟩⟩
theorem e210 : EntryAt Tryz.prog 210 (Extern.BytealgMakeNoZero.makeNoZero Tryz.f210.params #[119]) := ⟨⟨_, Tryz.func210, by kernel_rfl, by kernel_rfl, by kernel_rfl, by kernel_rfl⟩⟩
theorem e214 : EntryAt Tryz.prog 214 Extern.MapsClone.clone := ⟨⟨_, Tryz.func214, by kernel_rfl, by kernel_rfl, by kernel_rfl, by kernel_rfl⟩⟩
theorem e278 : EntryAt Tryz.prog 278 Extern.BytealgCompare.compare := ⟨⟨_, Tryz.func278, by kernel_rfl, by kernel_rfl, by kernel_rfl, by kernel_rfl⟩⟩
theorem e287 : EntryAt Tryz.prog 287 Extern.BytealgIndexByte.indexByte := ⟨⟨_, Tryz.func287, by kernel_rfl, by kernel_rfl, by kernel_rfl, by kernel_rfl⟩⟩
theorem e62 : EntryAt Tryz.prog 62 Extern.ReflectliteType.typeOf := ⟨⟨_, Tryz.func62, by kernel_rfl, by kernel_rfl, by kernel_rfl, by kernel_rfl⟩⟩
theorem e337 : EntryAt Tryz.prog 337 (Extern.ReflectliteType.method fun t => do Extern.Rtype.noPackHeld "Comparable" t; pure (.bool (← typeInfo t).comparable)) := ⟨⟨_, Tryz.func337, by kernel_rfl, by kernel_rfl, by kernel_rfl, by kernel_rfl⟩⟩


theorem rtype (w : World) : (cutType "internal/reflectlite.rtype").run Tryz.prog w = .ok 200 w := by kernel_rfl
theorem comparable36 (i : TypeInfo) (hi : Tryz.prog.info? 36 = some i) (w : World) :
    (Extern.ReflectliteType.method (fun t => do Extern.Rtype.noPackHeld "Comparable" t; pure (.bool (← typeInfo t).comparable)) #[.agg #[.pointer (some ⟨7, 36, none⟩)]]).run Tryz.prog w = .ok (.bool i.comparable) w := by
  have h : (Extern.ReflectliteType.method (fun t => do Extern.Rtype.noPackHeld "Comparable" t; pure (.bool (← typeInfo t).comparable)) #[.agg #[.pointer (some ⟨7, 36, none⟩)]]).run Tryz.prog w = .ok (.bool true) w := by kernel_rfl
  have h2 : (Tryz.prog.info? 36).map (·.comparable) = some true := by kernel_rfl
  rw [hi] at h2
  have h3 : i.comparable = true := Option.some.inj h2
  rw [h, h3]

theorem orc_ids : OrcOk Tryz.prog 8 (orcOf Tryz.prog ids) := by
  refine orc_ok fun p hp => ?_
  simp only [ids, List.mem_cons, List.not_mem_nil, or_false] at hp
  rcases hp with rfl | rfl | rfl | rfl | rfl | rfl | rfl | rfl | rfl | rfl | rfl | rfl | rfl | rfl | rfl | rfl
  · exact ext_as_Tz (by decide)
  · exact ext_typeOf (g := 7) (G := 8) (by decide) (by kernel_rfl) e62 rtype
  · exact ext_nop e142
  · exact ext_cas32 e143
  · exact ext_nop e144
  · exact ext_mark e145
  · exact ext_mark e147
  · exact ext_add32 e148
  · exact ext_same e209
  · exact ext_noZero (t := 119) (by kernel_rfl) e210
  · exact ext_clone e214
  · exact ext_seq221
  · exact ext_compare e278
  · exact ext_seq281
  · exact ext_indexByte e287
  · exact ext_comparable (g := 7) (G := 8) (ts := [36]) (by decide) (by decide) e337 fun t ht i hi w => by
      rw [List.mem_singleton] at ht; subst ht; exact comparable36 i hi w

theorem awake_ok (w : World) (hg : w.cell? ⟨0, 0, none⟩ = some (.iface 200 (.agg #[.pointer (some ⟨7, 30, none⟩)]))) :
    Calls Tryz.prog 6 #[] w fun e w' => e = .returned (.bool true) ∧ Below w.heap.size w w' := by
  obtain ⟨c, e, fr, hc⟩ : ∃ c e fr, w.heap[0]? = some (.cells c e fr) := by
    unfold World.cell? at hg
    split at hg
    · rename_i c t fr hc; exact ⟨_, _, _, hc⟩
    · cases hg
  have hsh : w.shape? 0 = some (e, c.size) := by unfold World.shape?; rw [hc]
  have hcell : c[0]? = some (.iface 200 (.agg #[.pointer (some ⟨7, 30, none⟩)])) := by
    unfold World.cell? at hg
    rw [hc] at hg
    simpa using hg
  have h0lt : 0 < c.size := (Array.getElem?_eq_some_iff.1 hcell).1
  have hrun := awake_run e
  obtain ⟨h', hcall⟩ : ∃ h', runK e 3000 6 [] = some (.bool true, h') := by
    generalize runK e 3000 6 [] = r at hrun
    unfold isTrue at hrun
    split at hrun
    · exact ⟨_, rfl⟩
    · cases hrun
  unfold runK at hcall
  rw [K.turnK_eq] at hcall
  have R : HRel w.heap.size w (rho0 w 8) (h0 e) w := by
    have hget : ∀ l o, (h0 e).get l = some o → l = p0 ∧ o = .cells [.iface 200 (.agg [.ptr p7 30])] e 0 .no := fun l o hl => by
      have hl : (T.set .leaf p0 (some (Obj.cells [.iface 200 (.agg [.ptr p7 30])] e 0 .no))).get l = some o := hl
      by_cases hp : p0 = l
      · subst hp; rw [T.get_set_self] at hl; exact ⟨rfl, (Option.some.inj hl).symm⟩
      · rw [T.get_set_ne _ _ _ _ hp, T.get_leaf] at hl; cases hl
    have hrho : ∀ l b, rho0 w 8 l = some b → val l < 8 ∧ b.base = 0 := fun l b hl => by
      unfold rho0 at hl
      split at hl
      · rename_i hh; cases hl; exact ⟨hh.1, rfl⟩
      · cases hl
    refine ⟨fun l b o hl ho => ?_, fun l b hl => ?_, fun l b hl => (hrho l b hl).2, fun l m b d hl hm il im _ => ?_, fun l b o hl ho hw => ?_, Nat.le_refl _, Below.refl _ _⟩
    · obtain ⟨rfl, rfl⟩ := hget l o ho
      have hb := rho0_at w (G := 8) (g := 0) (by decide) (by decide)
      have h00 : rho0 w 8 p0 = some ⟨0, 0, c.size⟩ := by rw [hsh] at hb; exact hb
      rw [h00] at hl; cases hl
      have h77 := rho0_at w (G := 8) (g := 7) (by decide) (by decide)
      refine ⟨hsh, h0lt, fun i v hv => ?_, (fun h => by cases h), (fun h => by cases h)⟩
      cases i with
      | succ i => simp at hv
      | zero =>
        simp only [List.getElem?_cons_zero, Option.some.injEq] at hv
        subst hv
        refine ⟨_, hg, .iface 200 (.agg (.cons ?_ .nil))⟩
        have := RV.ptr (ρ := rho0 w 8) (l := p7) 30 h77
        simpa using this
    · have := (hrho l b hl).1
      exact this
    · obtain ⟨o1, h1⟩ := Option.isSome_iff_exists.1 il
      obtain ⟨o2, h2⟩ := Option.isSome_iff_exists.1 im
      rw [(hget l o1 h1).1, (hget m o2 h2).1]
    · obtain ⟨rfl, rfl⟩ := hget l o ho
      cases hw
  have key := machine_ok (P := Tryz.prog) (G := 8) (by kernel_rfl) orc_ids dorc15_ok fns_ok 3000 hcall R (rho0_rel w (by decide)) .nil
  refine (key.calls Tryz.func6 rfl (by kernel_rfl)).mono fun e w' hh => ?_
  obtain ⟨v, rfl, ρ', -, hv, R'⟩ := hh
  cases hv
  exact ⟨rfl, R'.below⟩
end KD
