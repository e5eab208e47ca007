/-
  errors.As as the machine takes it.
-/
import Derived.Test.YtknfcfeldncbiaaGreatDoorCnTzAs
namespace Go.Dx
open Go Go.RowKit Go.Proofs

theorem ext_as_Tz {G : Nat} (hG0 : 7 < G) : ExtOk Tryz.prog G 28 (.as (pathOf 0) 214 (pathOf 7) 35 [(77, 79, 2)]) := by
  intro args h v h' hr B w0 ρ w xs R hG hx
  simp only [extRun] at hr
  split at hr
  · cases hr
    obtain ⟨x1, x2, rfl, r1, r2⟩ := hx.two
    cases r1
    exact Good.of_calls Tryz.func28 rfl (by kernel_rfl) ((Tz.as_nil x2 w).mono fun e w' ⟨h1, h2⟩ => ⟨_, h1, ρ, Step.refl _ _, .bool false, by rw [h2]; exact R⟩)
  · rename_i t cs tp l off
    split at hr
    · rename_i r l2 e hc
      simp only [chk_some, ob_some, Option.some.injEq, Prod.mk.injEq, Bool.and_eq_true, hasPair, Bool.or_false] at hr
      obtain ⟨⟨⟨⟨k1, k2⟩, k3⟩, ⟨k4, k5⟩, k6⟩, h1, hs, rfl, rfl⟩ := hr
      have k1 := Nat.eq_of_beq_eq_true k1
      have k2 := lbEq_iff k2
      have k3 := Nat.eq_of_beq_eq_true k3
      have k4 := Nat.eq_of_beq_eq_true k4
      have k5 := Nat.eq_of_beq_eq_true k5
      have k6 := Nat.eq_of_beq_eq_true k6
      subst k1; subst k2; subst k3; subst k4; subst k5
      obtain ⟨x1, x2, rfl, r1, r2⟩ := hx.two
      obtain ⟨y1, rfl, t1⟩ := iface_inv r1
      obtain ⟨y2, rfl, t2⟩ := iface_inv r2
      obtain ⟨b, hb, rfl⟩ := ptr_inv t2
      cases t1 with | agg q1 =>
      rename_i ys
      obtain ⟨vs, el, fz, own, vs', hg, ho, hf, hfl, hp, rfl⟩ := storeV_some hs
      obtain ⟨a1, a2, rfl⟩ : ∃ a1 a2, cs = [a1, a2] := by
        match cs, k6 with
        | [a1, a2], _ => exact ⟨a1, a2, rfl⟩
      obtain ⟨z1, z2, rfl, s1, s2⟩ := q1.two
      have hone := flats_one q1 hfl
      -- the handle
      obtain ⟨n0, hn0⟩ := hG 0 (by omega)
      obtain ⟨n7, hn7⟩ := hG 7 hG0
      have hcell : w.cell? ⟨0, 0, none⟩ = some (.iface 214 (.agg #[.pointer (some ⟨7, 35, none⟩)])) := by
        simp only [cellAt, Q.ask] at hc
        split at hc
        · rename_i vs0 el0 fz0 own0 hg0
          have c0 : CRel ρ _ vs0 el0 fz0 own0 w := R.obj _ _ _ hn0 hg0
          simp only [rdPart, dropN] at hc
          obtain ⟨q, q1, q2⟩ := c0.cell 0 _ (by rw [← List.head?_eq_getElem?]; exact hc)
          obtain ⟨q', rfl, q3⟩ := iface_inv q2
          cases q3 with | agg q4 =>
          obtain ⟨q'', rfl, q5⟩ := q4.one
          obtain ⟨b7, hb7, rfl⟩ := ptr_inv q5
          rw [hn7] at hb7; cases hb7
          unfold cellAd at q1
          simpa using q1
        · cases hc
      have cr : CRel ρ b vs el fz own w := R.obj l b _ hb hg
      have hle := putFrom_le hp
      simp only [List.length_cons, List.length_nil] at hle
      have hfit := cr.fits
      have hit := Tz.as_hit z1 z2 (hone z1 (by simp)) (hone z2 (by simp)) b.block (b.base + off) w hcell
        (fun j hj => by
          have := cr.isSome (i := off + j) (by omega)
          unfold cellAd at this
          rwa [← Nat.add_assoc] at this) (fun j hj => cr.free ho _ (by omega) (by omega))
      have R4 := (((R.junk (.cells #[.pointer (some ⟨b.block, b.base + off, none⟩)] 79)).junk (Tz.VV w.heap.size)).junk (Tz.VV w.heap.size)).junk (.cells #[z1, z2] 77)
      have R5 := (R4.store hb hs q1).2
      exact Good.of_calls Tryz.func28 rfl (by kernel_rfl) (hit.mono fun e w' ⟨h1, h2⟩ => ⟨_, h1, ρ, Step.same rfl, .bool true, by rw [h2]; exact R5⟩)
    · cases hr
  · cases hr

end Go.Dx
