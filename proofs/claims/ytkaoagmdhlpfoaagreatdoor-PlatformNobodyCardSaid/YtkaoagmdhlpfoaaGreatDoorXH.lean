/-
  The deterministic machine over labels: what it does with few objects, it does with more, and leaves the others as they were.
  The deterministic machine over labels, with more objects: operations, code, calls.
  The deterministic machine over labels: calls that were run once are remembered, each with the few objects that it looked at.
  The deterministic machine over labels, with more objects: functions that are taken by what they do.
-/
import Derived.Test.YtkaoagmdhlpfoaaGreatDoorXE
import Derived.Test.YtkaoagmdhlpfoaaGreatDoorXA
namespace Go.Dx
open Go

/-- The second heap holds all that the first does. -/
structure Sub (h k : H) : Prop where
  next : h.next = k.next
  get : ∀ l o, h.get l = some o → k.get l = some o
  old : ∀ l o, h.get l = some o → val l < val h.next

structure Aft (h k h' k' : H) : Prop where
  sub : Sub h' k'
  le : val h.next ≤ val h'.next
  keep : ∀ l, val l < val h.next → h.get l = none → h'.get l = none ∧ k'.get l = k.get l

theorem Sub.refl {h : H} (ho : ∀ l o, h.get l = some o → val l < val h.next) : Sub h h := ⟨rfl, fun _ _ h => h, ho⟩

section
variable {h k h' k' h1 k1 h2 k2 : H}

theorem Aft.refl (S : Sub h k) : Aft h k h k := ⟨S, Nat.le_refl _, fun _ _ h => ⟨h, rfl⟩⟩

theorem Aft.trans (a : Aft h k h1 k1) (b : Aft h1 k1 h2 k2) : Aft h k h2 k2 := by
  refine ⟨b.sub, Nat.le_trans a.le b.le, fun l hl hn => ?_⟩
  obtain ⟨p, q⟩ := a.keep l hl hn
  obtain ⟨r, s⟩ := b.keep l (Nat.lt_of_lt_of_le hl a.le) p
  exact ⟨r, s.trans q⟩

theorem H.get_set (h : H) (l m : Lb) (o : Obj) : (h.set l o).get m = if l = m then some o else h.get m := by
  by_cases e : l = m
  · subst e; rw [if_pos rfl]; exact T.get_set_self _ _ _
  · rw [if_neg e]; exact T.get_set_ne _ _ _ _ e
theorem H.get_del (h : H) (l m : Lb) : (h.del l).get m = if l = m then none else h.get m := by
  by_cases e : l = m
  · subst e; rw [if_pos rfl]; exact T.get_set_self _ _ _
  · rw [if_neg e]; exact T.get_set_ne _ _ _ _ e
theorem H.get_add (h : H) (m : Lb) (o : Obj) : (h.add o).get m = if h.next = m then some o else h.get m := by
  by_cases e : h.next = m
  · subst e; rw [if_pos rfl]; exact T.get_set_self _ _ _
  · rw [if_neg e]; exact T.get_set_ne _ _ _ _ e

theorem Aft.set (S : Sub h k) {l : Lb} {o : Obj} (hl : h.get l = some o) (o' : Obj) : Aft h k (h.set l o') (k.set l o') := by
  refine ⟨⟨S.next, fun m x hm => ?_, fun m x hm => ?_⟩, Nat.le_refl _, fun m _ hn => ?_⟩
  · rw [H.get_set] at hm ⊢
    split at hm
    · rename_i e; rw [if_pos e]; exact hm
    · rename_i e; rw [if_neg e]; exact S.get m x hm
  · rw [H.get_set] at hm
    split at hm
    · rename_i e; exact e ▸ S.old l o hl
    · exact S.old m x hm
  · have e : ¬ l = m := fun e => by rw [e, hn] at hl; cases hl
    rw [H.get_set, H.get_set, if_neg e, if_neg e]; exact ⟨hn, rfl⟩

theorem Aft.del (S : Sub h k) {l : Lb} {o : Obj} (hl : h.get l = some o) : Aft h k (h.del l) (k.del l) := by
  refine ⟨⟨S.next, fun m x hm => ?_, fun m x hm => ?_⟩, Nat.le_refl _, fun m _ hn => ?_⟩
  · rw [H.get_del] at hm ⊢
    split at hm
    · cases hm
    · rename_i e; rw [if_neg e]; exact S.get m x hm
  · rw [H.get_del] at hm
    split at hm
    · cases hm
    · exact S.old m x hm
  · have e : ¬ l = m := fun e => by rw [e, hn] at hl; cases hl
    rw [H.get_del, H.get_del, if_neg e, if_neg e]; exact ⟨hn, rfl⟩

theorem Aft.add (S : Sub h k) (o : Obj) : Aft h k (h.add o) (k.add o) := by
  refine ⟨⟨by show inc _ = inc _; rw [S.next], fun m x hm => ?_, fun m x hm => ?_⟩, ?_, fun m hlt hn => ?_⟩
  · rw [H.get_add] at hm ⊢
    rw [← S.next]
    split at hm
    · rename_i e; rw [if_pos e]; exact hm
    · rename_i e; rw [if_neg e]; exact S.get m x hm
  · show val m < val (inc h.next)
    rw [val_inc]
    rw [H.get_add] at hm
    split at hm
    · rename_i e; rw [← e]; omega
    · have := S.old m x hm; omega
  · show val h.next ≤ val (inc h.next); rw [val_inc]; omega
  · have e : ¬ h.next = m := fun e => by rw [e] at hlt; omega
    rw [H.get_add, H.get_add, ← S.next, if_neg e, if_neg e]; exact ⟨hn, rfl⟩

theorem ask_sub (S : Sub h k) {q : Q} {v : V} (ha : q.ask h = some v) : q.ask k = some v := by
  cases q with
  | load rd l off =>
    simp only [Q.ask] at ha ⊢
    cases hg : h.get l with
    | none => simp [hg] at ha
    | some o => rw [S.get _ _ hg]; rw [hg] at ha; exact ha
  | lookup pk z ok m key =>
    simp only [Q.ask] at ha ⊢
    cases m <;> try exact ha
    rename_i r
    simp only at ha ⊢
    cases hg : h.get r with
    | none => simp [hg] at ha
    | some o => rw [S.get _ _ hg]; rw [hg] at ha; exact ha
  | bytes x =>
    simp only [Q.ask] at ha ⊢
    cases x <;> try exact ha
    rename_i l off n c
    simp only at ha ⊢
    cases hg : h.get l with
    | none => simp [hg] at ha
    | some o => rw [S.get _ _ hg]; rw [hg] at ha; exact ha
  | row l off =>
    simp only [Q.ask] at ha ⊢
    cases hg : h.get l with
    | none => simp [hg] at ha
    | some o => rw [S.get _ _ hg]; rw [hg] at ha; exact ha
  | whole u n l off =>
    simp only [Q.ask] at ha ⊢
    cases hg : h.get l with
    | none => simp [hg] at ha
    | some o => rw [S.get _ _ hg]; rw [hg] at ha; exact ha
  | mapLen m =>
    simp only [Q.ask] at ha ⊢
    cases m <;> try exact ha
    rename_i r
    simp only at ha ⊢
    cases hg : h.get r with
    | none => simp [hg] at ha
    | some o => rw [S.get _ _ hg]; rw [hg] at ha; exact ha
  | fresh t cs l off =>
    simp only [Q.ask] at ha ⊢
    cases hg : h.get l with
    | none => simp [hg] at ha
    | some o => rw [S.get _ _ hg]; rw [hg] at ha; exact ha
  | freshS t cs n l off =>
    simp only [Q.ask] at ha ⊢
    cases hg : h.get l with
    | none => simp [hg] at ha
    | some o => rw [S.get _ _ hg]; rw [hg] at ha; exact ha
  | freshB t cs n l =>
    simp only [Q.ask] at ha ⊢
    cases hg : h.get l with
    | none => simp [hg] at ha
    | some o => rw [S.get _ _ hg]; rw [hg] at ha; exact ha
  | entry l off =>
    simp only [Q.ask] at ha ⊢
    cases hg : h.get l with
    | none => simp [hg] at ha
    | some o =>
      rw [S.get _ _ hg]; rw [hg] at ha
      cases o <;> try exact ha
      rename_i m since seen last
      cases m with
      | none => exact ha
      | some m =>
        simp only at ha ⊢
        cases hm : h.get m with
        | none => simp [hm] at ha
        | some o => rw [S.get _ _ hm]; rw [hm] at ha; exact ha

/-- What an operation with memory does, it does beside more. -/
def Loc (F : H → Option (V × H)) : Prop := ∀ {h k : H} {v : V} {h' : H}, F h = some (v, h') → Sub h k → ∃ k', F k = some (v, k') ∧ Aft h k h' k'

theorem store_loc (S : Sub h k) {l : Lb} {off : Nat} {cs : List V} (hs : storeV h l off cs = some h') : ∃ k', storeV k l off cs = some k' ∧ Aft h k h' k' := by
  unfold storeV at hs ⊢
  cases hg : h.get l with
  | none => simp [hg] at hs
  | some o =>
    rw [S.get _ _ hg]; rw [hg] at hs
    cases o <;> try (cases hs; done)
    simp only [chk_some, ob_some, Option.some.injEq] at hs ⊢
    obtain ⟨h1, vs, h2, rfl⟩ := hs
    exact ⟨_, ⟨h1, vs, h2, rfl⟩, Aft.set S hg _⟩

theorem elems_sub (S : Sub h k) {size : Nat} {x : V} {r : Nat × List V} (hs : elemsV h size x = some r) : elemsV k size x = some r := by
  unfold elemsV at hs ⊢
  cases x <;> try exact hs
  rename_i l off n c
  simp only at hs ⊢
  cases hg : h.get l with
  | none => simp [hg] at hs
  | some o => rw [S.get _ _ hg]; rw [hg] at hs; exact hs

theorem append_loc (e : TypeId) (size bytes : Nat) (s : V) (n : Nat) (new : List V) : Loc (fun h => appendV h e size bytes s n new) := by
  intro h k v h' ha S
  simp only [appendV] at ha ⊢
  cases s <;> try (cases ha; done)
  · rename_i c
    simp only at ha ⊢
    cases hb : Nat.ble n c with
    | true =>
      simp only [hb, chk_some, Option.some.injEq, Prod.mk.injEq] at ha ⊢
      obtain ⟨h1, rfl, rfl⟩ := ha
      exact ⟨k, ⟨h1, rfl, rfl⟩, Aft.refl S⟩
    | false =>
      simp only [hb, chk_some, Option.some.injEq, Prod.mk.injEq] at ha ⊢
      obtain ⟨h1, rfl, rfl⟩ := ha
      exact ⟨_, ⟨h1, by rw [S.next], rfl⟩, Aft.add S _⟩
  · rename_i l off len cap
    simp only [chk_some] at ha ⊢
    obtain ⟨h0, ha⟩ := ha
    cases cap with
    | exact c =>
      simp only at ha ⊢
      cases hb : Nat.ble (len + n) c with
      | true =>
        simp only [hb, ob_some, Option.some.injEq, Prod.mk.injEq] at ha ⊢
        obtain ⟨q, h1, rfl, rfl⟩ := ha
        obtain ⟨k', k1, A⟩ := store_loc S h1
        exact ⟨k', ⟨h0, k', k1, rfl, rfl⟩, A⟩
      | false =>
        simp only [hb] at ha ⊢
        cases hg : h.get l with
        | none => simp [hg] at ha
        | some o =>
          rw [S.get _ _ hg]; rw [hg] at ha
          cases o <;> try (cases ha; done)
          simp only [chk_some, ob_some, Option.some.injEq, Prod.mk.injEq] at ha ⊢
          obtain ⟨h1, old, h2, rfl, rfl⟩ := ha
          exact ⟨_, ⟨h0, h1, old, h2, by rw [S.next], rfl⟩, Aft.add S _⟩
    | toEnd es =>
      simp only [chk_some] at ha ⊢
      obtain ⟨h1, ha⟩ := ha
      cases hg : h.get l with
      | none => simp [hg] at ha
      | some o =>
        rw [S.get _ _ hg]; rw [hg] at ha
        cases o <;> try (cases ha; done)
        rename_i vs el fz own
        simp only [chk_some] at ha ⊢
        obtain ⟨h2, ha⟩ := ha
        cases hb : Nat.ble (off + (len + n) * size) vs.length with
        | true =>
          simp only [hb, ob_some, Option.some.injEq, Prod.mk.injEq] at ha ⊢
          obtain ⟨q, h3, rfl, rfl⟩ := ha
          obtain ⟨k', k1, A⟩ := store_loc S h3
          exact ⟨k', ⟨h0, h1, h2, k', k1, rfl, rfl⟩, A⟩
        | false =>
          simp only [hb, chk_some, Option.some.injEq, Prod.mk.injEq] at ha ⊢
          obtain ⟨h3, rfl, rfl⟩ := ha
          have A := Aft.del S hg
          exact ⟨_, ⟨h0, h1, h2, h3, by rw [S.next], rfl⟩, A.trans (Aft.add A.sub _)⟩

theorem withMap_loc {m : V} {f g : Lb → List (V × V × Nat) → Nat → Option (V × H)} {v : V} (S : Sub h k) (ha : withMap h m f = some (v, h')) (hf : ∀ r es c, h.get r = some (.map es c) → f r es c = some (v, h') → ∃ k', g r es c = some (v, k') ∧ Aft h k h' k') :
    ∃ k', withMap k m g = some (v, k') ∧ Aft h k h' k' := by
  unfold withMap at ha ⊢
  cases m <;> try (cases ha; done)
  rename_i r
  simp only at ha ⊢
  cases hg : h.get r with
  | none => simp [hg] at ha
  | some o =>
    rw [S.get _ _ hg]; rw [hg] at ha
    cases o <;> try (cases ha; done)
    exact hf _ _ _ hg ha

theorem copy_loc (size : Nat) (d s : V) : Loc (fun h => copyV h size d s) := by
  intro h k v h' ha S
  simp only [copyV, ob_some] at ha ⊢
  obtain ⟨r, hr, ha⟩ := ha
  have hr' := elems_sub S hr
  cases d <;> try (cases ha; done)
  · simp only [Option.some.injEq, Prod.mk.injEq] at ha
    obtain ⟨rfl, rfl⟩ := ha
    exact ⟨k, ⟨r, hr', rfl⟩, Aft.refl S⟩
  · simp only [ob_some] at ha
    obtain ⟨cs, hcs, ha⟩ := ha
    cases cs with
    | nil =>
      simp only [Option.some.injEq, Prod.mk.injEq] at ha
      obtain ⟨rfl, rfl⟩ := ha
      exact ⟨k, ⟨r, hr', by simp only [ob_some]; exact ⟨[], hcs, rfl⟩⟩, Aft.refl S⟩
    | cons c cs =>
      simp only [ob_some, Option.some.injEq, Prod.mk.injEq] at ha
      obtain ⟨q, hq, rfl, rfl⟩ := ha
      obtain ⟨k', k1, A⟩ := store_loc S hq
      exact ⟨k', ⟨r, hr', by simp only [ob_some]; exact ⟨_, hcs, by simp only [ob_some]; exact ⟨_, k1, rfl⟩⟩⟩, A⟩

theorem next_loc (l : Lb) : Loc (fun h => nextV h l) := by
  intro h k v h' ha S
  simp only [nextV] at ha ⊢
  cases hg : h.get l with
  | none => simp [hg] at ha
  | some o =>
    rw [S.get _ _ hg]; rw [hg] at ha
    cases o <;> try (cases ha; done)
    · rename_i m since seen last
      cases m with
      | none =>
        simp only [Option.some.injEq, Prod.mk.injEq] at ha ⊢
        obtain ⟨rfl, rfl⟩ := ha
        exact ⟨k, ⟨rfl, rfl⟩, Aft.refl S⟩
      | some m =>
        simp only at ha ⊢
        cases hm : h.get m with
        | none => simp [hm] at ha
        | some o =>
          rw [S.get _ _ hm]; rw [hm] at ha
          cases o <;> try (cases ha; done)
          simp only [chk_some] at ha ⊢
          obtain ⟨h1, ha⟩ := ha
          split at ha
          · rename_i he
            simp only [Option.some.injEq, Prod.mk.injEq] at ha
            obtain ⟨rfl, rfl⟩ := ha
            exact ⟨k, ⟨h1, rfl⟩, Aft.refl S⟩
          · rename_i k0 v0 b he
            simp only [chk_some, Option.some.injEq, Prod.mk.injEq] at ha
            obtain ⟨h2, rfl, rfl⟩ := ha
            exact ⟨_, ⟨h1, by simp [h2, chk]⟩, Aft.set S hg _⟩
          · cases ha

theorem unsafeStr_loc (e : TypeId) (x n : V) : Loc (fun h => unsafeStrV h e x n) := by
  intro h k v h' ha S
  simp only [unsafeStrV] at ha ⊢
  split at ha
  · simp only [Option.some.injEq, Prod.mk.injEq] at ha
    obtain ⟨rfl, rfl⟩ := ha
    exact ⟨k, rfl, Aft.refl S⟩
  · simp only [Option.some.injEq, Prod.mk.injEq] at ha
    obtain ⟨rfl, rfl⟩ := ha
    exact ⟨k, rfl, Aft.refl S⟩
  · rename_i l n
    cases hg : h.get l with
    | none => simp [hg] at ha
    | some o =>
      rw [hg] at ha
      cases o <;> try (cases ha; done)
      rename_i vs el fz own
      cases own <;> try (cases ha; done)
      simp only [chk_some, ob_some, Option.some.injEq, Prod.mk.injEq] at ha
      obtain ⟨h1, r, h2, b, h3, rfl, rfl⟩ := ha
      refine ⟨_, ?_, Aft.set S hg _⟩
      simp only [S.get _ _ hg, chk_some, ob_some, Option.some.injEq, Prod.mk.injEq]
      exact ⟨h1, r, h2, b, h3, by simp⟩
  · cases ha

theorem makeSlice_loc (e : TypeId) (size bytes : Nat) (z : List V) (n c : V) : Loc (fun h => makeSliceV h e size bytes z n c) := by
  intro h k v h' ha S
  simp only [makeSliceV] at ha ⊢
  split at ha
  · simp only [chk_some, Option.some.injEq, Prod.mk.injEq] at ha
    obtain ⟨h1, rfl, rfl⟩ := ha
    refine ⟨_, ?_, Aft.add S _⟩
    simp only [chk_some, Option.some.injEq, Prod.mk.injEq]
    exact ⟨h1, by simp [S.next]⟩
  · cases ha

end
end Go.Dx
namespace Go.Dx
open Go

section
variable {h k h' k' h1 k1 h2 k2 : H}

theorem eff_loc (tm : T V) (d : ED) : Loc (fun h => d.run tm h) := by
  intro h k v h' ha S
  cases d with
  | store n a x =>
    simp only [ED.run] at ha ⊢
    generalize a.ev tm = av at ha ⊢
    cases av <;> try (cases ha; done)
    simp only [chk_some, ob_some, Option.some.injEq, Prod.mk.injEq] at ha ⊢
    obtain ⟨h1, q, hq, rfl, rfl⟩ := ha
    obtain ⟨k', k1, A⟩ := store_loc S hq
    exact ⟨k', ⟨h1, k', k1, rfl, rfl⟩, A⟩
  | alloc t cs =>
    simp only [ED.run, Option.some.injEq, Prod.mk.injEq] at ha ⊢
    obtain ⟨rfl, rfl⟩ := ha
    exact ⟨_, ⟨by rw [S.next], rfl⟩, Aft.add S _⟩
  | box t x =>
    simp only [ED.run, Option.some.injEq, Prod.mk.injEq] at ha ⊢
    obtain ⟨rfl, rfl⟩ := ha
    exact ⟨_, ⟨by rw [S.next], rfl⟩, Aft.add S _⟩
  | buildSlice e size n cs ps =>
    simp only [ED.run, ob_some, Option.some.injEq, Prod.mk.injEq] at ha ⊢
    obtain ⟨q, hq, rfl, rfl⟩ := ha
    exact ⟨_, ⟨q, hq, by rw [S.next], rfl⟩, Aft.add S _⟩
  | allocRow e cs n =>
    simp only [ED.run, Option.some.injEq, Prod.mk.injEq] at ha ⊢
    obtain ⟨rfl, rfl⟩ := ha
    exact ⟨_, ⟨by rw [S.next], rfl⟩, Aft.add S _⟩
  | strBytes e x =>
    simp only [ED.run] at ha ⊢
    generalize x.ev tm = xv at ha ⊢
    cases xv <;> try (cases ha; done)
    simp only [chk_some, Option.some.injEq, Prod.mk.injEq] at ha ⊢
    obtain ⟨h1, rfl, rfl⟩ := ha
    exact ⟨_, ⟨h1, by rw [S.next], rfl⟩, Aft.add S _⟩
  | sameBytes x =>
    simp only [ED.run] at ha ⊢
    generalize x.ev tm = xv at ha ⊢
    cases xv <;> try (cases ha; done)
    rename_i l off n c
    simp only at ha ⊢
    cases hg : h.get l with
    | none => simp [hg] at ha
    | some o =>
      rw [S.get _ _ hg]; rw [hg] at ha
      cases o <;> try (cases ha; done)
      rename_i vs e fz own
      cases fz <;> cases own <;> try (cases ha; done)
      simp only [Option.some.injEq, Prod.mk.injEq] at ha ⊢
      obtain ⟨rfl, rfl⟩ := ha
      exact ⟨_, ⟨rfl, rfl⟩, Aft.set S hg _⟩
  | unsafeStr e x n => exact unsafeStr_loc e _ _ ha S
  | makeMap =>
    simp only [ED.run, Option.some.injEq, Prod.mk.injEq] at ha ⊢
    obtain ⟨rfl, rfl⟩ := ha
    exact ⟨_, ⟨by rw [S.next], rfl⟩, Aft.add S _⟩
  | makeSlice e size bytes z n c => exact makeSlice_loc e size bytes z _ _ ha S
  | mapUpdate pk m key x =>
    simp only [ED.run, chk_some] at ha ⊢
    obtain ⟨h1, ha⟩ := ha
    obtain ⟨k', k1, A⟩ := withMap_loc (g := fun r es clock => ob (mapSet pk (key.ev tm) (x.ev tm) es clock) fun o => some (undef, k.set r o)) S ha fun r es c hg hf => by
      simp only [ob_some, Option.some.injEq, Prod.mk.injEq] at hf
      obtain ⟨o, ho, rfl, rfl⟩ := hf
      exact ⟨_, by simp only [ob_some]; exact ⟨o, ho, rfl⟩, Aft.set S hg _⟩
    exact ⟨k', ⟨h1, k1⟩, A⟩
  | mapEntry pk z m key =>
    simp only [ED.run, chk_some] at ha ⊢
    obtain ⟨h1, ha⟩ := ha
    obtain ⟨k', k1, A⟩ := withMap_loc (g := fun r es clock => ob (findK pk (key.ev tm) es) fun f => match f with
      | some (i, v) => some (.tuple [v, .int .i64 (Int.ofNat (bornAt es i))], k.set r (.map (setNth es i (key.ev tm) v) clock))
      | none => some (.tuple [z, .int .i64 (Int.ofNat clock)], k.set r (.map (es ++ [(key.ev tm, z, clock)]) (clock + 1)))) S ha fun r es c hg hf => by
      simp only [ob_some] at hf
      obtain ⟨o, ho, hf⟩ := hf
      cases o with
      | none =>
        simp only [Option.some.injEq, Prod.mk.injEq] at hf
        obtain ⟨rfl, rfl⟩ := hf
        exact ⟨_, by simp only [ob_some]; exact ⟨none, ho, rfl⟩, Aft.set S hg _⟩
      | some p =>
        obtain ⟨i, v0⟩ := p
        simp only [Option.some.injEq, Prod.mk.injEq] at hf
        obtain ⟨rfl, rfl⟩ := hf
        exact ⟨_, by simp only [ob_some]; exact ⟨_, ho, rfl⟩, Aft.set S hg _⟩
    exact ⟨k', ⟨h1, k1⟩, A⟩
  | entryStore m s x =>
    simp only [ED.run] at ha ⊢
    exact withMap_loc S ha fun r es c hg hf => by
      generalize s.ev tm = sv at hf ⊢
      cases sv <;> try (cases hf; done)
      rename_i kd b
      cases b <;> try (cases hf; done)
      simp only [ob_some, Option.some.injEq, Prod.mk.injEq] at hf
      obtain ⟨o, ho, rfl, rfl⟩ := hf
      exact ⟨_, by simp only [ob_some]; exact ⟨o, ho, rfl⟩, Aft.set S hg _⟩
  | rangeStr x =>
    simp only [ED.run] at ha ⊢
    generalize x.ev tm = xv at ha ⊢
    cases xv <;> try (cases ha; done)
    simp only [Option.some.injEq, Prod.mk.injEq] at ha ⊢
    obtain ⟨rfl, rfl⟩ := ha
    exact ⟨_, ⟨by rw [S.next], rfl⟩, Aft.add S _⟩
  | rangeMap x =>
    simp only [ED.run] at ha ⊢
    generalize x.ev tm = xv at ha ⊢
    cases xv <;> try (cases ha; done)
    · simp only [Option.some.injEq, Prod.mk.injEq] at ha ⊢
      obtain ⟨rfl, rfl⟩ := ha
      exact ⟨_, ⟨by rw [S.next], rfl⟩, Aft.add S _⟩
    · rename_i m
      simp only at ha ⊢
      cases hg : h.get m with
      | none => simp [hg] at ha
      | some o =>
        rw [S.get _ _ hg]; rw [hg] at ha
        cases o <;> try (cases ha; done)
        simp only [Option.some.injEq, Prod.mk.injEq] at ha ⊢
        obtain ⟨rfl, rfl⟩ := ha
        exact ⟨_, ⟨by rw [S.next], rfl⟩, Aft.add S _⟩
  | next x =>
    simp only [ED.run] at ha ⊢
    generalize x.ev tm = xv at ha ⊢
    cases xv <;> try (cases ha; done)
    rename_i l off
    cases off <;> try (cases ha; done)
    exact next_loc l ha S
  | append e size bytes s x =>
    simp only [ED.run, ob_some] at ha ⊢
    obtain ⟨r, hr, ha⟩ := ha
    obtain ⟨k', k1, A⟩ := append_loc e size bytes _ _ _ ha S
    exact ⟨k', ⟨r, elems_sub S hr, k1⟩, A⟩
  | appendZeros e size bytes z s n =>
    simp only [ED.run] at ha ⊢
    generalize n.ev tm = nv at ha ⊢
    cases nv <;> try (cases ha; done)
    rename_i kd n
    cases kd <;> try (cases ha; done)
    cases n <;> try (cases ha; done)
    simp only [chk_some] at ha ⊢
    obtain ⟨h1, ha⟩ := ha
    obtain ⟨k', k1, A⟩ := append_loc e size bytes _ _ _ ha S
    exact ⟨k', ⟨h1, k1⟩, A⟩
  | copy size d s => exact copy_loc size _ _ ha S
  | clearMap x =>
    simp only [ED.run] at ha ⊢
    generalize x.ev tm = xv at ha ⊢
    cases xv with
    | nilMap =>
      simp only [Option.some.injEq, Prod.mk.injEq] at ha ⊢
      obtain ⟨rfl, rfl⟩ := ha
      exact ⟨k, ⟨rfl, rfl⟩, Aft.refl S⟩
    | map r =>
      exact withMap_loc S ha fun r es c hg hf => by
        simp only [Option.some.injEq, Prod.mk.injEq] at hf
        obtain ⟨rfl, rfl⟩ := hf
        exact ⟨_, rfl, Aft.set S hg _⟩
    | _ => cases ha
  | delete pk m key =>
    simp only [ED.run, chk_some] at ha ⊢
    obtain ⟨h1, ha⟩ := ha
    obtain ⟨k', k1, A⟩ := withMap_loc (g := fun r es clock => ob (findK pk (key.ev tm) es) fun f => match f with
      | some (i, _) => some (undef, k.set r (.map (eraseNth es i) clock))
      | none => some (undef, k)) S ha fun r es c hg hf => by
      simp only [ob_some] at hf
      obtain ⟨o, ho, hf⟩ := hf
      cases o with
      | none =>
        simp only [Option.some.injEq, Prod.mk.injEq] at hf
        obtain ⟨rfl, rfl⟩ := hf
        exact ⟨k, by simp only [ob_some]; exact ⟨none, ho, rfl⟩, Aft.refl S⟩
      | some p =>
        obtain ⟨i, v0⟩ := p
        simp only [Option.some.injEq, Prod.mk.injEq] at hf
        obtain ⟨rfl, rfl⟩ := hf
        exact ⟨_, by simp only [ob_some]; exact ⟨_, ho, rfl⟩, Aft.set S hg _⟩
    exact ⟨k', ⟨h1, k1⟩, A⟩

inductive Subs : List H → List H → Prop
  | nil : Subs [] []
  | cons {h k : H} {hs ks : List H} (s : Sub h k) (r : Subs hs ks) : Subs (h :: hs) (k :: ks)

theorem still_sub (S : Sub h k) (n : Nat) : ∀ {ps : List Pend}, stillStand h n ps = true → stillStand k n ps = true
  | [], _ => rfl
  | (q, v, hi) :: r, ha => by
    simp only [stillStand, Bool.and_eq_true] at ha ⊢
    refine ⟨?_, still_sub S n ha.2⟩
    have h1 := ha.1
    cases hb : Nat.ble n hi with
    | false => rfl
    | true =>
      rw [hb] at h1
      simp only at h1 ⊢
      cases hq : q.ask h with
      | none => rw [hq] at h1; cases h1
      | some u => rw [ask_sub S hq]; rw [hq] at h1; exact h1

theorem stood_sub {q : Q} {v : V} : ∀ {m : Nat} {hs ks : List H}, Subs hs ks → stoodBefore q v m hs = true → stoodBefore q v m ks = true
  | 0, _, _, _, _ => rfl
  | _ + 1, _, _, .nil, ha => by cases ha
  | m + 1, _, _, .cons (h := h) s r, ha => by
    simp only [stoodBefore, Bool.and_eq_true] at ha ⊢
    refine ⟨?_, stood_sub r ha.2⟩
    have h1 := ha.1
    cases hq : q.ask h with
    | none => rw [hq] at h1; cases h1
    | some u => rw [ask_sub s hq]; rw [hq] at h1; exact h1

theorem makeAll_loc : ∀ {l : List Made} {tm : T V} {h k : H}, Sub h k → (makeAll l tm h).1 = (makeAll l tm k).1 ∧ Aft h k (makeAll l tm h).2 (makeAll l tm k).2
  | [], tm, h, k, S => ⟨rfl, Aft.refl S⟩
  | (p, t, cs, ow) :: r, tm, h, k, S => by
    simp only [makeAll]
    have A1 := Aft.add S (.cells cs t 0 ow)
    have := makeAll_loc (l := r) (tm := tm.set p (some (.ptr h.next 0))) A1.sub
    rw [S.next] at this
    rw [S.next]
    exact ⟨this.1, A1.trans this.2⟩

theorem result_sub (S : Sub h k) {tm : T V} {r : Res} {v : V} (ha : resultD h tm r = some v) : resultD k tm r = some v := by
  unfold resultD at ha ⊢
  cases r with
  | tmp p => exact ha
  | cell p rd =>
    simp only at ha ⊢
    generalize getT tm p = x at ha ⊢
    cases x <;> try (cases ha; done)
    exact ask_sub S ha

theorem results_sub (S : Sub h k) {tm : T V} : ∀ {l : List Res} {vs : List V}, resultsD h tm l = some vs → resultsD k tm l = some vs
  | [], _, ha => ha
  | r :: l, vs, ha => by
    simp only [resultsD, ob_some] at ha ⊢
    obtain ⟨v, hv, ws, hws, ha⟩ := ha
    exact ⟨v, result_sub S hv, ws, results_sub S hws, ha⟩

/-! ### one machine, and a second one that may take longer -/

def SimCall (callL : Orc) (callR : Nat → Orc) : Prop := ∀ (f : FuncId) (args : List V) (h k : H) (v : V) (h' : H), callL f args h = some (v, h') → Sub h k → ∃ k' N, (∀ m, N ≤ m → callR m f args k = some (v, k')) ∧ Aft h k h' k'
def SimLate (lateL : FuncId → List V → H → Option H) (lateR : Nat → FuncId → List V → H → Option H) : Prop := ∀ (f : FuncId) (args : List V) (h k h' : H), lateL f args h = some h' → Sub h k → ∃ k' N, (∀ m, N ≤ m → lateR m f args k = some k') ∧ Aft h k h' k'
def SimExec (execL : DC → A → H → Option (Ex × A × H)) (execR : Nat → DC → A → H → Option (Ex × A × H)) : Prop := ∀ (c : DC) (a : A) (h k : H) (e : Ex) (a' : A) (h' : H), execL c a h = some (e, a', h') → Sub h k → ∃ k' N, (∀ m, N ≤ m → execR m c a k = some (e, a', k')) ∧ Aft h k h' k'

theorem step_sim {E : Env} {call : Orc} {callR : Nat → Orc} (hc : SimCall call callR) {d : DO} {a a' : A} (ha : stepD E call d a h = some (a', h')) (S : Sub h k) : ∃ k' N, (∀ m, N ≤ m → stepD E (callR m) d a k = some (a', k')) ∧ Aft h k h' k' := by
  unfold stepD at ha ⊢
  generalize d.op = op at ha ⊢
  cases op with
  | mov x =>
    simp only [Option.some.injEq, Prod.mk.injEq] at ha ⊢
    obtain ⟨rfl, rfl⟩ := ha
    exact ⟨k, 0, fun m _ => ⟨rfl, rfl⟩, Aft.refl S⟩
  | p q =>
    simp only [ob_some, Option.some.injEq, Prod.mk.injEq] at ha ⊢
    obtain ⟨v, hv, rfl, rfl⟩ := ha
    exact ⟨k, 0, fun m _ => ⟨v, hv, rfl, rfl⟩, Aft.refl S⟩
  | r q =>
    simp only [ob_some, Option.some.injEq, Prod.mk.injEq] at ha ⊢
    obtain ⟨q', hq, v, hv, rfl, rfl⟩ := ha
    exact ⟨k, 0, fun m _ => ⟨q', hq, v, ask_sub S hv, rfl, rfl⟩, Aft.refl S⟩
  | e q =>
    simp only [ob_some, Option.some.injEq, Prod.mk.injEq] at ha ⊢
    obtain ⟨⟨v, h1⟩, hv, rfl, rfl⟩ := ha
    obtain ⟨k', k1, A⟩ := eff_loc a.tmps q hv S
    exact ⟨k', 0, fun m _ => ⟨(v, k'), k1, rfl, rfl⟩, A⟩
  | c q =>
    simp only [ob_some, Option.some.injEq, Prod.mk.injEq] at ha ⊢
    obtain ⟨f, hf, ⟨v, h1⟩, hv, rfl, rfl⟩ := ha
    obtain ⟨k', N, k1, A⟩ := hc f.1 f.2 _ _ _ _ hv S
    exact ⟨k', N, fun m hm => ⟨f, hf, (v, k'), k1 m hm, rfl, rfl⟩, A⟩
  | defer q =>
    simp only [ob_some, Option.some.injEq, Prod.mk.injEq] at ha ⊢
    obtain ⟨f, hf, rfl, rfl⟩ := ha
    exact ⟨k, 0, fun m _ => ⟨f, hf, rfl, rfl⟩, Aft.refl S⟩
  | stuck => cases ha

theorem ops_sim {E : Env} {call : Orc} {callR : Nat → Orc} (hc : SimCall call callR) : ∀ {l : List DO} {a a' : A} {h k h' : H}, runOps E call l a h = some (a', h') → Sub h k → ∃ k' N, (∀ m, N ≤ m → runOps E (callR m) l a k = some (a', k')) ∧ Aft h k h' k'
  | [], a, a', h, k, h', ha, S => by
    simp only [runOps, Option.some.injEq, Prod.mk.injEq] at ha ⊢
    obtain ⟨rfl, rfl⟩ := ha
    exact ⟨k, 0, fun m _ => ⟨rfl, rfl⟩, Aft.refl S⟩
  | d :: r, a, a', h, k, h', ha, S => by
    simp only [runOps] at ha ⊢
    cases hw : wants a.tmps d.guard with
    | true =>
      simp only [hw, ob_some] at ha ⊢
      obtain ⟨⟨a1, h1⟩, hs, ha⟩ := ha
      obtain ⟨k1, N1, q1, A1⟩ := step_sim hc hs S
      obtain ⟨k2, N2, q2, A2⟩ := ops_sim hc ha A1.sub
      exact ⟨k2, max N1 N2, fun m hm => ⟨_, q1 m (by omega), q2 m (by omega)⟩, A1.trans A2⟩
    | false =>
      simp only [hw] at ha ⊢
      exact ops_sim hc ha S

theorem draw_sim {E : Env} {call : Orc} {callR : Nat → Orc} (hc : SimCall call callR) : ∀ {l : List (DO × Nat × Nat)} {a a' : A} {h k h' : H} {n : Nat} {hs ks : List H} {ps : List Pend}, runDraw E call l a h n hs ps = some (a', h') → Sub h k → Subs hs ks → ∃ k' N, (∀ m, N ≤ m → runDraw E (callR m) l a k n ks ps = some (a', k')) ∧ Aft h k h' k'
  | [], a, a', h, k, h', n, hs, ks, ps, ha, S, _ => by
    simp only [runDraw, Option.some.injEq, Prod.mk.injEq] at ha ⊢
    obtain ⟨rfl, rfl⟩ := ha
    exact ⟨k, 0, fun m _ => ⟨rfl, rfl⟩, Aft.refl S⟩
  | (d, lo, hi) :: r, a, a', h, k, h', n, hs, ks, ps, ha, S, Ss => by
    simp only [runDraw] at ha ⊢
    cases hw : wants a.tmps d.guard with
    | false =>
      simp only [hw] at ha ⊢
      cases he : isEff d with
      | true => simp only [he] at ha ⊢; exact draw_sim hc ha S (.cons S Ss)
      | false => simp only [he] at ha ⊢; exact draw_sim hc ha S Ss
    | true =>
      simp only [hw] at ha ⊢
      generalize d.op = op at ha ⊢
      cases op with
      | mov x => exact draw_sim hc ha S Ss
      | p q =>
        simp only [ob_some] at ha ⊢
        obtain ⟨v, hv, ha⟩ := ha
        obtain ⟨k', N, k1, A⟩ := draw_sim hc ha S Ss
        exact ⟨k', N, fun m hm => ⟨v, hv, k1 m hm⟩, A⟩
      | r q =>
        simp only [ob_some, chk_some] at ha ⊢
        obtain ⟨q', hq, v, hv, h1, ha⟩ := ha
        obtain ⟨k', N, k1, A⟩ := draw_sim hc ha S Ss
        exact ⟨k', N, fun m hm => ⟨q', hq, v, ask_sub S hv, stood_sub Ss h1, k1 m hm⟩, A⟩
      | e q =>
        simp only [ob_some, chk_some] at ha ⊢
        obtain ⟨⟨v, h1⟩, hv, h2, ha⟩ := ha
        obtain ⟨k1, q1, A1⟩ := eff_loc a.tmps q hv S
        obtain ⟨k', N, q2, A⟩ := draw_sim hc ha A1.sub (.cons S Ss)
        exact ⟨k', N, fun m hm => ⟨(v, k1), q1, still_sub A1.sub _ h2, q2 m hm⟩, A1.trans A⟩
      | c q =>
        simp only [ob_some, chk_some] at ha ⊢
        obtain ⟨f, hf, ⟨v, h1⟩, hv, h2, ha⟩ := ha
        obtain ⟨k1, N1, q1, A1⟩ := hc f.1 f.2 _ _ _ _ hv S
        obtain ⟨k', N2, q2, A⟩ := draw_sim hc ha A1.sub (.cons S Ss)
        exact ⟨k', max N1 N2, fun m hm => ⟨f, hf, (v, k1), q1 m (by omega), still_sub A1.sub _ h2, q2 m (by omega)⟩, A1.trans A⟩
      | defer q => cases ha
      | stuck => cases ha

/-! ### code -/

theorem guess_loc {E : Env} : ∀ {l : List (DO × Nat × Nat)} {tm : T V} {h k : H} {m m' : List Made}, guess E l tm h m = some m' → Sub h k → guess E l tm k m = some m'
  | [], tm, h, k, m, m', hg, S => hg
  | (d, _, _) :: r, tm, h, k, m, m', hg, S => by
    simp only [guess] at hg ⊢
    cases hw : wants tm d.guard with
    | false => simp only [hw] at hg ⊢; exact guess_loc hg S
    | true =>
      simp only [hw] at hg ⊢
      generalize d.op = op at hg ⊢
      cases op with
      | mov x => exact guess_loc hg S
      | p q =>
        simp only [ob_some] at hg ⊢
        obtain ⟨v, hv, hg⟩ := hg
        exact ⟨v, hv, guess_loc hg S⟩
      | r q =>
        cases q with
        | freshB e x s => exact hg
        | _ =>
          simp only [ob_some] at hg ⊢
          obtain ⟨q', hq, v, hv, hg⟩ := hg
          exact ⟨q', hq, v, ask_sub S hv, guess_loc hg S⟩
      | e q => exact hg
      | c q => exact hg
      | defer q => exact hg
      | stuck => exact hg

theorem guessed_loc {E : Env} {l : List (DO × Nat × Nat)} {tm : T V} {h k : H} {m m' : List Made} (hg : guessed E l m tm h = some m') (S : Sub h k) : guessed E l m tm k = some m' := by
  unfold guessed at hg ⊢
  cases hm : anyMarked m with
  | false => rw [hm] at hg; exact hg
  | true =>
    simp only [hm] at hg ⊢
    obtain ⟨m1, A1⟩ := makeAll_loc (l := m) (tm := tm) S
    rw [← m1]
    exact guess_loc hg A1.sub

theorem execStep_sim {E : Env} {call : Orc} {callR : Nat → Orc} {exec : DC → A → H → Option (Ex × A × H)} {execR : Nat → DC → A → H → Option (Ex × A × H)} (hE : SimExec exec execR) (hc : SimCall call callR) : SimExec (execStep E call exec) (fun m => execStep E (callR m) (execR m)) := by
  intro c a h k e a' h' ha S
  cases c with
  | skip =>
    simp only [execStep, Option.some.injEq, Prod.mk.injEq] at ha ⊢
    obtain ⟨rfl, rfl, rfl⟩ := ha
    exact ⟨k, 0, fun m _ => ⟨rfl, rfl, rfl⟩, Aft.refl S⟩
  | ops l =>
    simp only [execStep, ob_some, Option.some.injEq, Prod.mk.injEq] at ha ⊢
    obtain ⟨⟨a1, h1⟩, hr, rfl, rfl, rfl⟩ := ha
    obtain ⟨k', N, q, A⟩ := ops_sim hc hr S
    exact ⟨k', N, fun m hm => ⟨_, q m hm, rfl, rfl, rfl⟩, A⟩
  | draw m0 l =>
    simp only [execStep, ob_some, Option.some.injEq, Prod.mk.injEq] at ha ⊢
    obtain ⟨m, hm, ⟨a1, h1⟩, hr, rfl, rfl, rfl⟩ := ha
    have hm := guessed_loc hm S
    obtain ⟨m1, A1⟩ := makeAll_loc (l := m) (tm := a.tmps) S
    obtain ⟨k', N, q, A⟩ := draw_sim hc hr A1.sub .nil
    exact ⟨k', N, fun n hn => ⟨m, hm, (a1, k'), by rw [← m1]; exact q n hn, rfl, rfl, rfl⟩, A1.trans A⟩
  | seq x y =>
    simp only [execStep, ob_some] at ha ⊢
    obtain ⟨⟨e1, a1, h1⟩, hr, ha⟩ := ha
    obtain ⟨k1, N1, q1, A1⟩ := hE _ _ _ _ _ _ _ hr S
    cases e1 with
    | normal =>
      obtain ⟨k2, N2, q2, A2⟩ := hE _ _ _ _ _ _ _ ha A1.sub
      exact ⟨k2, max N1 N2, fun m hm => ⟨_, q1 m (by omega), q2 m (by omega)⟩, A1.trans A2⟩
    | exit i =>
      simp only [Option.some.injEq, Prod.mk.injEq] at ha
      obtain ⟨rfl, rfl, rfl⟩ := ha
      exact ⟨k1, N1, fun m hm => ⟨_, q1 m hm, rfl⟩, A1⟩
    | ret =>
      simp only [Option.some.injEq, Prod.mk.injEq] at ha
      obtain ⟨rfl, rfl, rfl⟩ := ha
      exact ⟨k1, N1, fun m hm => ⟨_, q1 m hm, rfl⟩, A1⟩
  | cond c x y =>
    simp only [execStep] at ha ⊢
    generalize c.ev a.tmps = cv at ha ⊢
    cases cv <;> try (cases ha; done)
    rename_i b
    cases b with
    | true => exact hE _ _ _ _ _ _ _ ha S
    | false => exact hE _ _ _ _ _ _ _ ha S
  | block id b =>
    simp only [execStep, ob_some] at ha ⊢
    obtain ⟨⟨e1, a1, h1⟩, hr, ha⟩ := ha
    obtain ⟨k1, N1, q1, A1⟩ := hE _ _ _ _ _ _ _ hr S
    cases e1 with
    | normal =>
      simp only [Option.some.injEq, Prod.mk.injEq] at ha
      obtain ⟨rfl, rfl, rfl⟩ := ha
      exact ⟨k1, N1, fun m hm => ⟨_, q1 m hm, rfl⟩, A1⟩
    | exit i =>
      simp only [Option.some.injEq, Prod.mk.injEq] at ha
      obtain ⟨rfl, rfl, rfl⟩ := ha
      exact ⟨k1, N1, fun m hm => ⟨_, q1 m hm, rfl⟩, A1⟩
    | ret =>
      simp only [Option.some.injEq, Prod.mk.injEq] at ha
      obtain ⟨rfl, rfl, rfl⟩ := ha
      exact ⟨k1, N1, fun m hm => ⟨_, q1 m hm, rfl⟩, A1⟩
  | loop b =>
    simp only [execStep, ob_some] at ha ⊢
    obtain ⟨⟨e1, a1, h1⟩, hr, ha⟩ := ha
    obtain ⟨k1, N1, q1, A1⟩ := hE _ _ _ _ _ _ _ hr S
    cases e1 with
    | normal =>
      obtain ⟨k2, N2, q2, A2⟩ := hE _ _ _ _ _ _ _ ha A1.sub
      exact ⟨k2, max N1 N2, fun m hm => ⟨_, q1 m (by omega), q2 m (by omega)⟩, A1.trans A2⟩
    | exit i =>
      simp only [Option.some.injEq, Prod.mk.injEq] at ha
      obtain ⟨rfl, rfl, rfl⟩ := ha
      exact ⟨k1, N1, fun m hm => ⟨_, q1 m hm, rfl⟩, A1⟩
    | ret =>
      simp only [Option.some.injEq, Prod.mk.injEq] at ha
      obtain ⟨rfl, rfl, rfl⟩ := ha
      exact ⟨k1, N1, fun m hm => ⟨_, q1 m hm, rfl⟩, A1⟩
  | exit id =>
    simp only [execStep, Option.some.injEq, Prod.mk.injEq] at ha ⊢
    obtain ⟨rfl, rfl, rfl⟩ := ha
    exact ⟨k, 0, fun m _ => ⟨rfl, rfl, rfl⟩, Aft.refl S⟩
  | ret =>
    simp only [execStep, Option.some.injEq, Prod.mk.injEq] at ha ⊢
    obtain ⟨rfl, rfl, rfl⟩ := ha
    exact ⟨k, 0, fun m _ => ⟨rfl, rfl, rfl⟩, Aft.refl S⟩
  | stuck => cases ha

section
variable {exec : DC → A → H → Option (Ex × A × H)} {execR : Nat → DC → A → H → Option (Ex × A × H)} {fns : T DFn} {dorc : FuncId → List V → H → Option H}

theorem enter_sim (hE : SimExec exec execR) {fn : DFn} {args : List V} {e : Ex} {a' : A} (ha : enterD exec fn args h = some (e, a', h')) (S : Sub h k) : ∃ k' N, (∀ m, N ≤ m → enterD (execR m) fn args k = some (e, a', k')) ∧ Aft h k h' k' := by
  unfold enterD at ha ⊢
  simp only [chk_some] at ha ⊢
  obtain ⟨h1, ha⟩ := ha
  obtain ⟨k', N, q, A⟩ := hE _ _ _ _ _ _ _ ha S
  exact ⟨k', N, fun m hm => ⟨h1, q m hm⟩, A⟩

theorem leave_sim {late : FuncId → List V → H → Option H} {lateR : Nat → FuncId → List V → H → Option H} (hl : SimLate late lateR) : ∀ {l : List (FuncId × List V)} {h k h' : H}, leaveD late l h = some h' → Sub h k → ∃ k' N, (∀ m, N ≤ m → leaveD (lateR m) l k = some k') ∧ Aft h k h' k'
  | [], h, k, h', ha, S => by
    simp only [leaveD, Option.some.injEq] at ha ⊢
    subst ha
    exact ⟨k, 0, fun m _ => rfl, Aft.refl S⟩
  | (f, args) :: ds, h, k, h', ha, S => by
    simp only [leaveD, ob_some] at ha ⊢
    obtain ⟨h1, hr, ha⟩ := ha
    obtain ⟨k1, N1, q1, A1⟩ := hl _ _ _ _ _ hr S
    obtain ⟨k2, N2, q2, A2⟩ := leave_sim hl ha A1.sub
    exact ⟨k2, max N1 N2, fun m hm => ⟨k1, q1 m (by omega), q2 m (by omega)⟩, A1.trans A2⟩

/-- What is taken by its contract alone, of a heap: the same beside more. -/
structure DorcLoc (dorc : FuncId → List V → H → Option H) : Prop where
  hit : ∀ (f : FuncId) (args : List V) (h k h' : H), dorc f args h = some h' → Sub h k → ∃ k', dorc f args k = some k' ∧ Aft h k h' k'
  miss : ∀ (f : FuncId) (args : List V) (h k : H), dorc f args h = none → Sub h k → dorc f args k = none

structure BaseLoc (fns : T DFn) (orc : Orc) : Prop where
  hit : ∀ (f : FuncId) (args : List V) (h k : H) (v : V) (h' : H), orc f args h = some (v, h') → Sub h k → ∃ k', orc f args k = some (v, k') ∧ Aft h k h' k'
  miss : ∀ (f : FuncId) (args : List V) (h k : H), orc f args h = none → Sub h k → orc f args k = none ∨ fnAt fns f = none

theorem late_sim (hd : DorcLoc dorc) (hE : SimExec exec execR) : SimLate (lateD fns dorc exec) (fun m => lateD fns dorc (execR m)) := by
  intro f args h k h' ha S
  unfold lateD at ha ⊢
  cases hq : dorc f args h with
  | some h1 =>
    simp only [hq, Option.some.injEq] at ha
    subst ha
    obtain ⟨k', q, A⟩ := hd.hit _ _ _ _ _ hq S
    exact ⟨k', 0, fun m _ => by simp only [q], A⟩
  | none =>
    simp only [hq, hd.miss _ _ _ _ hq S, ob_some] at ha ⊢
    obtain ⟨fn, hfn, ⟨e, a1, h1⟩, hr, ha⟩ := ha
    obtain ⟨k1, N, q1, A1⟩ := enter_sim hE hr S
    cases e with
    | exit i => cases ha
    | normal =>
      simp only at ha
      split at ha
      · rename_i he; cases he
      · rename_i he hne
        simp only [ob_some, Option.some.injEq] at ha
        obtain ⟨vs, hvs, rfl⟩ := ha
        refine ⟨k1, N, fun m hm => ⟨fn, hfn, _, q1 m hm, ?_⟩, A1⟩
        simp only
        rw [he]
        simp only [ob_some]; exact ⟨vs, results_sub A1.sub hvs, trivial⟩
      · cases ha
    | ret =>
      simp only at ha
      split at ha
      · rename_i he; cases he
      · rename_i he hne
        simp only [ob_some, Option.some.injEq] at ha
        obtain ⟨vs, hvs, rfl⟩ := ha
        refine ⟨k1, N, fun m hm => ⟨fn, hfn, _, q1 m hm, ?_⟩, A1⟩
        simp only
        rw [he]
        simp only [ob_some]; exact ⟨vs, results_sub A1.sub hvs, trivial⟩
      · cases ha

/-- A call that is remembered: the second machine makes it, too. -/
def MemoOk (memo : Orc) (callR : Nat → Orc) : Prop := SimCall memo callR

/-- What is remembered first, then what is taken by contract. -/
def orcM (memo orc : Orc) : Orc := fun f args h => match memo f args h with
  | some r => some r
  | none => orc f args h

theorem call_sim {E : Env} {orc memo : Orc} (ho : BaseLoc fns orc) (hd : DorcLoc dorc) (hm : MemoOk memo (fun m => (turn E fns orc dorc m).call)) {n : Nat} (hE : SimExec (turn E fns (orcM memo orc) dorc n).exec (fun m => (turn E fns orc dorc m).exec)) :
    SimCall (callD fns (orcM memo orc) dorc (turn E fns (orcM memo orc) dorc n).exec) (fun m => (turn E fns orc dorc m).call) := by
  intro f args h k v h' ha S
  have up : ∀ {k' : H} {N : Nat}, (∀ m, N ≤ m → callD fns orc dorc (turn E fns orc dorc m).exec f args k = some (v, k')) → ∀ m, N + 1 ≤ m → (turn E fns orc dorc m).call f args k = some (v, k') := fun {k' N} hk m hm => by
    obtain ⟨m, rfl⟩ : ∃ j, m = j + 1 := ⟨m - 1, by omega⟩
    exact hk m (by omega)
  simp only [callD] at ha
  have base : orc f args h = none → (ob (fnAt fns f) fun fn => ob (enterD (turn E fns (orcM memo orc) dorc n).exec fn args h) fun r => match r.1 with
    | .exit _ => none
    | _ => ob (leaveD (lateD fns dorc (turn E fns (orcM memo orc) dorc n).exec) r.2.1.defers r.2.2) fun h' => ob (resultsD h' r.2.1.tmps fn.results) fun vs => some (packD vs, h')) = some (v, h') → ∃ k' N, (∀ m, N ≤ m → (turn E fns orc dorc m).call f args k = some (v, k')) ∧ Aft h k h' k' := fun hq ha => by
    simp only [ob_some] at ha
    obtain ⟨fn, hfn, ⟨e, a1, h1⟩, hr, ha⟩ := ha
    rcases ho.miss _ _ _ _ hq S with hk | hk
    · obtain ⟨k1, N1, q1, A1⟩ := enter_sim hE hr S
      cases e with
      | exit i => cases ha
      | normal =>
        simp only [ob_some, Option.some.injEq, Prod.mk.injEq] at ha
        obtain ⟨h2, hl, vs, hvs, rfl, rfl⟩ := ha
        obtain ⟨k2, N2, q2, A2⟩ := leave_sim (late_sim hd hE) hl A1.sub
        refine ⟨k2, max N1 N2 + 1, up fun m hm => ?_, A1.trans A2⟩
        simp only [callD, hk, ob_some]
        exact ⟨fn, hfn, _, q1 m (by omega), by simp only [ob_some, Option.some.injEq, Prod.mk.injEq]; exact ⟨k2, q2 m (by omega), vs, results_sub A2.sub hvs, rfl, rfl⟩⟩
      | ret =>
        simp only [ob_some, Option.some.injEq, Prod.mk.injEq] at ha
        obtain ⟨h2, hl, vs, hvs, rfl, rfl⟩ := ha
        obtain ⟨k2, N2, q2, A2⟩ := leave_sim (late_sim hd hE) hl A1.sub
        refine ⟨k2, max N1 N2 + 1, up fun m hm => ?_, A1.trans A2⟩
        simp only [callD, hk, ob_some]
        exact ⟨fn, hfn, _, q1 m (by omega), by simp only [ob_some, Option.some.injEq, Prod.mk.injEq]; exact ⟨k2, q2 m (by omega), vs, results_sub A2.sub hvs, rfl, rfl⟩⟩
    · rw [hk] at hfn; cases hfn
  cases hM : memo f args h with
  | some r =>
    have : orcM memo orc f args h = some r := by simp only [orcM, hM]
    simp only [this, Option.some.injEq] at ha
    subst ha
    exact hm _ _ _ _ _ _ hM S
  | none =>
    have e : orcM memo orc f args h = orc f args h := by simp only [orcM, hM]
    cases hq : orc f args h with
    | some r =>
      simp only [e, hq, Option.some.injEq] at ha
      subst ha
      obtain ⟨k', q, A⟩ := ho.hit _ _ _ _ _ _ hq S
      exact ⟨k', 1, up (N := 0) fun m _ => by simp only [callD, q], A⟩
    | none =>
      simp only [e, hq] at ha
      exact base hq ha

theorem turn_sim {E : Env} {orc memo : Orc} (ho : BaseLoc fns orc) (hd : DorcLoc dorc) (hm : MemoOk memo (fun m => (turn E fns orc dorc m).call)) : ∀ n, SimExec (turn E fns (orcM memo orc) dorc n).exec (fun m => (turn E fns orc dorc m).exec) ∧ SimCall (turn E fns (orcM memo orc) dorc n).call (fun m => (turn E fns orc dorc m).call)
  | 0 => by
    refine ⟨?_, ?_⟩
    · intro c a h k e a' h' ha; cases ha
    · intro f args h k v h' ha; cases ha
  | n + 1 => by
    obtain ⟨h1, h2⟩ := turn_sim (E := E) (orc := orc) ho hd hm n
    refine ⟨fun c a h k e a' h' ha S => ?_, call_sim ho hd hm h1⟩
    obtain ⟨k', N, q, A⟩ := execStep_sim (E := E) h1 h2 c a h k e a' h' ha S
    exact ⟨k', N + 1, fun m hm => by
      obtain ⟨m, rfl⟩ : ∃ j, m = j + 1 := ⟨m - 1, by omega⟩
      exact q m (by omega), A⟩
end
end
end Go.Dx
namespace Go.Dx
open Go

structure Memo where
  f : FuncId
  args : List V
  inn : List (Lb × Obj)
  next : Lb
  out : List (Lb × Option Obj)
  next' : Lb
  v : V

theorem esEq_eq : ∀ {a b : List (V × V × Nat)}, esEq a b = true → a = b
  | [], [], _ => rfl
  | (a, b, c) :: r, (x, y, z) :: s, h => by
    simp only [esEq, Bool.and_eq_true] at h
    obtain ⟨⟨⟨h1, h2⟩, h3⟩, h4⟩ := h
    rw [vEq_eq h1, vEq_eq h2, Nat.eq_of_beq_eq_true h3, esEq_eq h4]
  | [], _ :: _, h => by cases h
  | _ :: _, [], h => by cases h

theorem ownEq_eq {a b : Own} (h : ownEq a b = true) : a = b := by cases a <;> cases b <;> first | rfl | cases h
theorem lboEq_eq {a b : Option Lb} (h : lboEq a b = true) : a = b := by
  cases a <;> cases b <;> first | rfl | (cases h; done) | (rw [lbEq_iff h])

theorem objEq_eq {a b : Obj} (h : objEq a b = true) : a = b := by
  cases a <;> cases b <;> try (cases h; done)
  · simp only [objEq, Bool.and_eq_true] at h
    obtain ⟨⟨⟨h1, h2⟩, h3⟩, h4⟩ := h
    rw [vsEq_eq h1, Nat.eq_of_beq_eq_true h2, Nat.eq_of_beq_eq_true h3, ownEq_eq h4]
  · simp only [objEq, Bool.and_eq_true] at h
    obtain ⟨h1, h2⟩ := h
    rw [esEq_eq h1, Nat.eq_of_beq_eq_true h2]
  · simp only [objEq, Bool.and_eq_true] at h
    obtain ⟨h1, h2⟩ := h
    rw [natsEq_iff.1 h1, Nat.eq_of_beq_eq_true h2]
  · simp only [objEq, Bool.and_eq_true] at h
    obtain ⟨⟨⟨h1, h2⟩, h3⟩, h4⟩ := h
    rw [lboEq_eq h1, Nat.eq_of_beq_eq_true h2, natsEq_iff.1 h3, Nat.eq_of_beq_eq_true h4]

def ofL : List (Lb × Obj) → T Obj
  | [] => .leaf
  | (l, o) :: r => (ofL r).set l (some o)

def heapOf (l : List (Lb × Obj)) (nx : Lb) : H := { t := ofL l, next := nx }

def overlay : List (Lb × Option Obj) → T Obj → T Obj
  | [], t => t
  | (l, x) :: r, t => overlay r (t.set l x)

def memoOne (e : Memo) (args : List V) (h : H) : Option (V × H) :=
  chk (vsEq args e.args && hasAll h e.inn) (some (e.v, { t := overlay e.out h.t, next := e.next' }))

/-- The first that is of this function, at this time. -/
def memoOf : List Memo → Orc
  | [], _, _, _ => none
  | e :: r, f, args, h => match Nat.beq f e.f with
    | true => match lbEq h.next e.next with
      | true => memoOne e args h
      | false => memoOf r f args h
    | false => memoOf r f args h

/-! ### what is asked of one that is remembered -/

def inDom {α : Type} (l : Lb) : List (Lb × α) → Bool
  | [] => false
  | (m, _) :: r => lbEq l m || inDom l r

def agrees (h : H) : List (Lb × Option Obj) → Bool
  | [] => true
  | (l, some o) :: r => holds h l o && agrees h r
  | (_, none) :: r => agrees h r

def kept (h : H) (out : List (Lb × Option Obj)) : List (Lb × Obj) → Bool
  | [] => true
  | (l, o) :: r => (inDom l out || holds h l o) && kept h out r

def below (nx : Lb) : List (Lb × Obj) → Bool
  | [] => true
  | (l, _) :: r => Nat.blt (val l) (val nx) && below nx r

def fits (inn : List (Lb × Obj)) (nx nx' : Lb) : List (Lb × Option Obj) → Bool
  | [] => true
  | (l, _) :: r => Nat.blt (val l) (val nx') && (Nat.ble (val nx) (val l) || inDom l inn) && fits inn nx nx' r

def distinct : List (Lb × Option Obj) → Bool
  | [] => true
  | (l, _) :: r => !inDom l r && distinct r

/-- What the run came to is what is remembered. -/
def endOk (e : Memo) (r : Option (V × H)) : Bool := match r with
  | some (v, h) => vEq v e.v && lbEq h.next e.next' && agrees h e.out && kept h e.out e.inn
  | none => false

def formOk (e : Memo) : Bool := below e.next e.inn && fits e.inn e.next e.next' e.out && distinct e.out

theorem holds_eq {h : H} {l : Lb} {o : Obj} (k : holds h l o = true) : h.get l = some o := by
  unfold holds at k
  split at k
  · rename_i x hx; rw [hx, objEq_eq k]
  · cases k

theorem hasAll_mem {h : H} : ∀ {r : List (Lb × Obj)}, hasAll h r = true → ∀ l o, (l, o) ∈ r → h.get l = some o
  | [], _, _, _, hm => by cases hm
  | (m, x) :: r, k, l, o, hm => by
    simp only [hasAll] at k
    split at k
    · rename_i hx
      rcases List.mem_cons.1 hm with e | hm
      · cases e; exact holds_eq hx
      · exact hasAll_mem k l o hm
    · cases k

theorem ofL_get : ∀ {r : List (Lb × Obj)} {l : Lb} {o : Obj}, (ofL r).get l = some o → (l, o) ∈ r
  | [], l, o, h => by simp [ofL, T.get_leaf] at h
  | (m, x) :: r, l, o, h => by
    simp only [ofL] at h
    by_cases e : m = l
    · subst e; rw [T.get_set_self] at h; cases h; exact List.mem_cons_self ..
    · rw [T.get_set_ne _ _ _ _ e] at h; exact List.mem_cons_of_mem _ (ofL_get h)

theorem inDom_iff {α : Type} {l : Lb} : ∀ {r : List (Lb × α)}, inDom l r = true ↔ ∃ x, (l, x) ∈ r
  | [] => by simp [inDom]
  | (m, x) :: r => by
    simp only [inDom, Bool.or_eq_true, inDom_iff (r := r), List.mem_cons, Prod.mk.injEq]
    constructor
    · rintro (h | ⟨y, h⟩)
      · exact ⟨x, .inl ⟨lbEq_iff h, rfl⟩⟩
      · exact ⟨y, .inr h⟩
    · rintro ⟨y, ⟨rfl, rfl⟩ | h⟩
      · left
        skip
        induction l with
        | nil => rfl
        | cons b l ih => cases b <;> exact ih
      · exact .inr ⟨y, h⟩

theorem ofL_dom {r : List (Lb × Obj)} {l : Lb} : inDom l r = true → ∃ o, (ofL r).get l = some o := by
  induction r with
  | nil => intro h; cases h
  | cons p r ih =>
    obtain ⟨m, x⟩ := p
    intro h
    by_cases e : m = l
    · subst e; exact ⟨x, T.get_set_self _ _ _⟩
    · obtain ⟨y, hy⟩ := inDom_iff.1 h
      rcases List.mem_cons.1 hy with q | q
      · cases q; exact absurd rfl e
      · obtain ⟨o, ho⟩ := ih (inDom_iff.2 ⟨y, q⟩)
        exact ⟨o, by simp only [ofL]; rw [T.get_set_ne _ _ _ _ e]; exact ho⟩

theorem overlay_out : ∀ {r : List (Lb × Option Obj)} {t : T Obj} {l : Lb}, inDom l r = false → (overlay r t).get l = t.get l
  | [], _, _, _ => rfl
  | (m, x) :: r, t, l, h => by
    simp only [inDom, Bool.or_eq_false_iff] at h
    simp only [overlay]
    rw [overlay_out h.2]
    refine T.get_set_ne _ _ _ _ fun e => ?_
    subst e
    have : inDom m [(m, x)] = true := inDom_iff.2 ⟨x, by simp⟩
    simp only [inDom, h.1] at this; cases this

theorem overlay_in : ∀ {r : List (Lb × Option Obj)} {t : T Obj} {l : Lb} {x : Option Obj}, distinct r = true → (l, x) ∈ r → (overlay r t).get l = x
  | (m, y) :: r, t, l, x, hd, h => by
    simp only [distinct, Bool.and_eq_true, Bool.not_eq_true'] at hd
    simp only [overlay]
    rcases List.mem_cons.1 h with e | h
    · cases e
      rw [overlay_out hd.1]; exact T.get_set_self _ _ _
    · exact overlay_in hd.2 h

theorem agrees_mem {h : H} : ∀ {r : List (Lb × Option Obj)}, agrees h r = true → ∀ l o, (l, some o) ∈ r → h.get l = some o
  | [], _, _, _, hm => by cases hm
  | (m, none) :: r, k, l, o, hm => by
    rcases List.mem_cons.1 hm with e | hm
    · cases e
    · exact agrees_mem (by simpa [agrees] using k) l o hm
  | (m, some x) :: r, k, l, o, hm => by
    simp only [agrees, Bool.and_eq_true] at k
    rcases List.mem_cons.1 hm with e | hm
    · cases e; exact holds_eq k.1
    · exact agrees_mem k.2 l o hm

theorem kept_mem {h : H} {out : List (Lb × Option Obj)} : ∀ {r : List (Lb × Obj)}, kept h out r = true → ∀ l o, (l, o) ∈ r → inDom l out = false → h.get l = some o
  | [], _, _, _, hm, _ => by cases hm
  | (m, x) :: r, k, l, o, hm, hn => by
    simp only [kept, Bool.and_eq_true, Bool.or_eq_true] at k
    rcases List.mem_cons.1 hm with e | hm
    · cases e
      rcases k.1 with q | q
      · rw [q] at hn; cases hn
      · exact holds_eq q
    · exact kept_mem k.2 l o hm hn

theorem below_mem {nx : Lb} : ∀ {r : List (Lb × Obj)}, below nx r = true → ∀ l o, (l, o) ∈ r → val l < val nx
  | [], _, _, _, hm => by cases hm
  | (m, x) :: r, k, l, o, hm => by
    simp only [below, Bool.and_eq_true] at k
    rcases List.mem_cons.1 hm with e | hm
    · cases e; simpa [Nat.blt_eq] using k.1
    · exact below_mem k.2 l o hm

theorem fits_mem {inn : List (Lb × Obj)} {nx nx' : Lb} : ∀ {r : List (Lb × Option Obj)}, fits inn nx nx' r = true → ∀ l x, (l, x) ∈ r → val l < val nx' ∧ (val nx ≤ val l ∨ inDom l inn = true)
  | [], _, _, _, hm => by cases hm
  | (m, x) :: r, k, l, y, hm => by
    simp only [fits, Bool.and_eq_true, Bool.or_eq_true] at k
    rcases List.mem_cons.1 hm with e | hm
    · cases e
      refine ⟨by simpa [Nat.blt_eq] using k.1.1, ?_⟩
      rcases k.1.2 with q | q
      · exact .inl (Nat.le_of_ble_eq_true q)
      · exact .inr q
    · exact fits_mem k.2 l y hm

theorem memoOne_sim {callL : Orc} {callR : Nat → Orc} (hs : SimCall callL callR) {e : Memo} (h1 : endOk e (callL e.f e.args (heapOf e.inn e.next)) = true) (h2 : formOk e = true)
    {args : List V} {h k h' : H} {v : V} (hn : h.next = e.next) (hr : memoOne e args h = some (v, h')) (S : Sub h k) : ∃ k' N, (∀ m, N ≤ m → callR m e.f args k = some (v, k')) ∧ Aft h k h' k' := by
  unfold memoOne at hr
  simp only [chk_some, Bool.and_eq_true, Option.some.injEq, Prod.mk.injEq] at hr
  obtain ⟨⟨ha, hh⟩, rfl, rfl⟩ := hr
  have ha := vsEq_eq ha
  subst ha
  have hh := hasAll_mem hh
  simp only [formOk, Bool.and_eq_true] at h2
  obtain ⟨⟨f1, f2⟩, f3⟩ := h2
  have f1 := below_mem f1
  have f2 := fits_mem f2
  unfold endOk at h1
  split at h1
  · rename_i v hs' hrun
    simp only [Bool.and_eq_true] at h1
    obtain ⟨⟨⟨g1, g2⟩, g3⟩, g4⟩ := h1
    have g1 := vEq_eq g1
    subst g1
    have g2 := lbEq_iff g2
    have g3 := agrees_mem g3
    have g4 := kept_mem g4
    have S0 : Sub (heapOf e.inn e.next) k := ⟨by show e.next = _; rw [← hn]; exact S.next, fun l o ho => S.get l o (hh l o (ofL_get ho)), fun l o ho => f1 l o (ofL_get ho)⟩
    obtain ⟨k', N, q, A⟩ := hs _ _ _ _ _ _ hrun S0
    have hnext : (heapOf e.inn e.next).next = h.next := hn.symm
    refine ⟨k', N, q, ⟨?_, fun l o ho => ?_, fun l o ho => ?_⟩, ?_, fun l hl hnone => ?_⟩
    · show e.next' = _; rw [← g2]; exact A.sub.next
    · have ho : (overlay e.out h.t).get l = some o := ho
      cases hd : inDom l e.out with
      | true =>
        obtain ⟨x, hx⟩ := inDom_iff.1 hd
        rw [overlay_in f3 hx] at ho
        subst ho
        exact A.sub.get l o (g3 l o hx)
      | false =>
        rw [overlay_out hd] at ho
        have ho : h.get l = some o := ho
        cases hi : (heapOf e.inn e.next).get l with
        | none =>
          have := (A.keep l (by rw [hnext]; exact S.old l o ho) hi).2
          rw [this]; exact S.get l o ho
        | some o2 =>
          have hm := ofL_get hi
          have := hh l o2 hm
          rw [this] at ho; cases ho
          exact A.sub.get l o (g4 l o hm hd)
    · show val l < val e.next'
      have ho : (overlay e.out h.t).get l = some o := ho
      cases hd : inDom l e.out with
      | true =>
        obtain ⟨x, hx⟩ := inDom_iff.1 hd
        exact (f2 l x hx).1
      | false =>
        rw [overlay_out hd] at ho
        have := S.old l o ho
        have := A.le
        rw [hnext, g2] at this
        omega
    · show val h.next ≤ val e.next'
      have := A.le
      rw [hnext, g2] at this
      exact this
    · have hi : (heapOf e.inn e.next).get l = none := by
        cases hi : (heapOf e.inn e.next).get l with
        | none => rfl
        | some o2 => rw [hh l o2 (ofL_get hi)] at hnone; cases hnone
      refine ⟨?_, (A.keep l (by rw [hnext]; exact hl) hi).2⟩
      show (overlay e.out h.t).get l = none
      cases hd : inDom l e.out with
      | true =>
        exfalso
        obtain ⟨x, hx⟩ := inDom_iff.1 hd
        rcases (f2 l x hx).2 with q | q
        · rw [← hn] at q; omega
        · obtain ⟨o, ho⟩ := ofL_dom q
          have ho : (heapOf e.inn e.next).get l = some o := ho
          rw [hi] at ho; cases ho
      | false => rw [overlay_out hd]; exact hnone
  · cases h1

/-- All that are remembered were run, on a machine that the second one follows. -/
theorem memoOf_sim {callR : Nat → Orc} : ∀ {es : List Memo}, (∀ e ∈ es, formOk e = true ∧ ∃ callL : Orc, SimCall callL callR ∧ endOk e (callL e.f e.args (heapOf e.inn e.next)) = true) → SimCall (memoOf es) callR
  | [], _ => by intro f args h k v h' hr; cases hr
  | e :: es, hall => by
    intro f args h k v h' hr S
    simp only [memoOf] at hr
    split at hr
    · rename_i hf
      have hf := Nat.eq_of_beq_eq_true hf
      subst hf
      split at hr
      · rename_i hnx
        obtain ⟨h2, callL, hs, h1⟩ := hall e (List.mem_cons_self ..)
        exact memoOne_sim hs h1 h2 (lbEq_iff hnx) hr S
      · exact memoOf_sim (fun e he => hall e (List.mem_cons_of_mem _ he)) _ _ _ _ _ _ hr S
    · exact memoOf_sim (fun e he => hall e (List.mem_cons_of_mem _ he)) _ _ _ _ _ _ hr S
end Go.Dx
namespace Go.Dx
open Go

section
variable {P : Program} {h k h' : H}

theorem cellAt_sub (S : Sub h k) {l : Lb} {off : Nat} {v : V} (ha : cellAt h l off = some v) : cellAt k l off = some v := ask_sub S ha

theorem holds_sub (S : Sub h k) {l : Lb} {o : Obj} (ha : holds h l o = true) : holds k l o = true := by
  unfold holds at ha ⊢
  cases hg : h.get l with
  | none => simp [hg] at ha
  | some x => rw [S.get _ _ hg]; rw [hg] at ha; exact ha

theorem hasAll_sub (S : Sub h k) : ∀ {r : List (Lb × Obj)}, hasAll h r = true → hasAll k r = true
  | [], _ => rfl
  | (l, o) :: r, ha => by
    simp only [hasAll] at ha ⊢
    cases hh : holds h l o with
    | true => rw [holds_sub S hh]; rw [hh] at ha; exact hasAll_sub S ha
    | false => rw [hh] at ha; cases ha

theorem hasRng_sub (S : Sub h k) {rg : Option (Lb × Int × Int × TypeId)} (ha : hasRng h rg = true) : hasRng k rg = true := by
  cases rg with
  | none => rfl
  | some r =>
    obtain ⟨l, lo, hi, t⟩ := r
    simp only [hasRng] at ha ⊢
    cases hg : h.get l with
    | none => simp [hg] at ha
    | some x => rw [S.get _ _ hg]; rw [hg] at ha; exact ha

theorem keyOf_sub (S : Sub h k) {et : TypeId} {gl : List (Lb × Obj)} {v : V} {r : Lb × Key} (ha : keyOf et gl h v = some r) : keyOf et gl k v = some r := by
  unfold keyOf at ha ⊢
  cases v <;> try exact ha
  rename_i l off n cap
  simp only at ha ⊢
  cases hg : h.get l with
  | none => simp [hg] at ha
  | some x => rw [S.get _ _ hg]; rw [hg] at ha; exact ha

theorem keysOf_sub (S : Sub h k) {et : TypeId} {gl : List (Lb × Obj)} : ∀ {vs : List V} {r : List (Lb × Key)}, keysOf et gl h vs = some r → keysOf et gl k vs = some r
  | [], r, ha => ha
  | v :: vs, r, ha => by
    simp only [keysOf, ob_some] at ha ⊢
    obtain ⟨x, hx, y, hy, ha⟩ := ha
    exact ⟨x, keyOf_sub S hx, y, keysOf_sub S hy, ha⟩

theorem bytesAt_sub (S : Sub h k) {et : TypeId} {v : V} {r : List Nat} (ha : bytesAt et h v = some r) : bytesAt et k v = some r := by
  unfold bytesAt at ha ⊢
  cases v <;> try exact ha
  rename_i l off n cap
  simp only at ha ⊢
  cases hg : h.get l with
  | none => simp [hg] at ha
  | some x => rw [S.get _ _ hg]; rw [hg] at ha; exact ha

theorem atLeast_sub (S : Sub h k) {l : Lb} {n : Nat} (ha : atLeast h l n = true) : atLeast k l n = true := by
  unfold atLeast at ha ⊢
  cases hg : h.get l with
  | none => simp [hg] at ha
  | some x => rw [S.get _ _ hg]; rw [hg] at ha; exact ha

theorem push1_loc (e : TypeId) (size bytes : Nat) (s x : V) : Loc (fun h => push1 h e size bytes s x) := by
  intro h k v h' ha S
  simp only [push1, chk_some] at ha ⊢
  obtain ⟨h1, ha⟩ := ha
  obtain ⟨k', k1, A⟩ := append_loc e size bytes _ _ _ ha S
  exact ⟨k', ⟨h1, k1⟩, A⟩

theorem seqMap_sub (S : Sub h k) {l : Lb} {r : List (V × V × Nat)} (ha : seqMap h l = some r) : seqMap k l = some r := by
  unfold seqMap at ha ⊢
  cases hc : cellAt h l 0 with
  | none => simp [hc] at ha
  | some v =>
    rw [cellAt_sub S hc]; rw [hc] at ha
    cases v <;> try exact ha
    rename_i m
    simp only at ha ⊢
    cases hg : h.get m with
    | none => simp [hg] at ha
    | some x => rw [S.get _ _ hg]; rw [hg] at ha; exact ha

theorem ext_loc (x : Ext) (args : List V) : Loc (fun h => extRun P x args h) := by
  intro h k v h' ha S
  cases x with
  | nop =>
    simp only [extRun] at ha ⊢
    split at ha
    · cases ha; exact ⟨k, rfl, Aft.refl S⟩
    · cases ha
  | mark =>
    simp only [extRun] at ha ⊢
    split at ha
    · cases ha; exact ⟨k, rfl, Aft.refl S⟩
    · cases ha
  | same =>
    simp only [extRun] at ha ⊢
    split at ha
    · cases ha; exact ⟨k, rfl, Aft.refl S⟩
    · cases ha
  | cas32 =>
    simp only [extRun] at ha ⊢
    split at ha
    · rename_i l off x y
      cases hc : cellAt h l off with
      | none => simp [hc] at ha
      | some u =>
        rw [hc] at ha
        cases u <;> try (cases ha; done)
        rename_i kd u
        cases kd <;> try (cases ha; done)
        simp only [chk_some, ob_some, Option.some.injEq, Prod.mk.injEq] at ha
        obtain ⟨h1, q, hq, rfl, rfl⟩ := ha
        obtain ⟨k', k1, A⟩ := store_loc S hq
        exact ⟨k', by simp only [cellAt_sub S hc, chk_some, ob_some]; exact ⟨h1, k', k1, rfl⟩, A⟩
    · cases ha
  | add32 =>
    simp only [extRun] at ha ⊢
    split at ha
    · rename_i l off y
      cases hc : cellAt h l off with
      | none => simp [hc] at ha
      | some u =>
        rw [hc] at ha
        cases u <;> try (cases ha; done)
        rename_i kd u
        cases kd <;> try (cases ha; done)
        simp only [ob_some, Option.some.injEq, Prod.mk.injEq] at ha
        obtain ⟨q, hq, rfl, rfl⟩ := ha
        obtain ⟨k', k1, A⟩ := store_loc S hq
        exact ⟨k', by simp only [cellAt_sub S hc, ob_some]; exact ⟨k', k1, rfl⟩, A⟩
    · cases ha
  | clone =>
    simp only [extRun] at ha ⊢
    split at ha
    · rename_i t r
      cases hg : h.get r with
      | none => simp [hg] at ha
      | some o =>
        rw [hg] at ha
        cases o <;> try (cases ha; done)
        simp only [Option.some.injEq, Prod.mk.injEq] at ha
        obtain ⟨rfl, rfl⟩ := ha
        exact ⟨_, by simp only [S.get _ _ hg, S.next], Aft.add S _⟩
    · cases ha
  | noZero et =>
    simp only [extRun] at ha ⊢
    split at ha
    · simp only [chk_some, Option.some.injEq, Prod.mk.injEq] at ha
      obtain ⟨h1, rfl, rfl⟩ := ha
      exact ⟨_, by simp only [chk_some]; exact ⟨h1, by rw [S.next]⟩, Aft.add S _⟩
    · cases ha
  | indexByte =>
    simp only [extRun] at ha ⊢
    split at ha
    · simp only [chk_some, Option.some.injEq, Prod.mk.injEq] at ha
      obtain ⟨h1, rfl, rfl⟩ := ha
      exact ⟨k, by simp [h1, chk], Aft.refl S⟩
    · cases ha
  | indexByteB et =>
    simp only [extRun] at ha ⊢
    split at ha
    · simp only [chk_some, ob_some, Option.some.injEq, Prod.mk.injEq] at ha
      obtain ⟨h1, b, h2, rfl, rfl⟩ := ha
      exact ⟨k, by simp only [chk_some, ob_some]; exact ⟨h1, b, bytesAt_sub S h2, rfl⟩, Aft.refl S⟩
    · cases ha
  | compare =>
    simp only [extRun] at ha ⊢
    split at ha
    · cases ha; exact ⟨k, rfl, Aft.refl S⟩
    · cases ha
  | as at_ rt g err ps hs ms =>
    simp only [extRun] at ha ⊢
    split at ha
    · cases ha; exact ⟨k, rfl, Aft.refl S⟩
    · rename_i t cs tp l off
      cases hc : cellAt h at_ 0 with
      | none => simp [hc] at ha
      | some u =>
        rw [hc] at ha
        split at ha
        · rename_i r l2 e he
          cases he
          simp only [chk_some, ob_some, Option.some.injEq, Prod.mk.injEq] at ha
          obtain ⟨h1, q, hq, rfl, rfl⟩ := ha
          obtain ⟨k', k1, A⟩ := store_loc S hq
          exact ⟨k', by simp only [cellAt_sub S hc, chk_some, ob_some]; exact ⟨h1, k', k1, rfl⟩, A⟩
        · cases ha
    · rename_i t n tp l off
      cases hc : cellAt h at_ 0 with
      | none => simp [hc] at ha
      | some u =>
        rw [hc] at ha
        split at ha
        · rename_i r l2 e he
          cases he
          simp only [chk_some] at ha
          obtain ⟨h1, ha⟩ := ha
          cases hm : hasTwo t tp ms with
          | true =>
            rw [hm] at ha
            simp only [Option.some.injEq, Prod.mk.injEq] at ha
            obtain ⟨rfl, rfl⟩ := ha
            exact ⟨k, by simp only [cellAt_sub S hc, chk_some]; exact ⟨h1, trivial⟩, Aft.refl S⟩
          | false =>
            rw [hm] at ha
            simp only [chk_some, ob_some, Option.some.injEq, Prod.mk.injEq] at ha
            obtain ⟨h2, q, hq, rfl, rfl⟩ := ha
            obtain ⟨k', k1, A⟩ := store_loc S hq
            exact ⟨k', by simp only [cellAt_sub S hc, chk_some, ob_some]; exact ⟨h1, h2, k', k1, rfl⟩, A⟩
        · cases ha
    · cases ha
  | typeOf rt g ts =>
    simp only [extRun] at ha ⊢
    split at ha
    · simp only [chk_some, Option.some.injEq, Prod.mk.injEq] at ha
      obtain ⟨h1, rfl, rfl⟩ := ha
      exact ⟨k, by simp [h1, chk], Aft.refl S⟩
    · cases ha
  | comparable g ts =>
    simp only [extRun] at ha ⊢
    split at ha
    · simp only [chk_some, ob_some, Option.some.injEq, Prod.mk.injEq] at ha
      obtain ⟨h1, i, hi, rfl, rfl⟩ := ha
      exact ⟨k, by simp only [chk_some, ob_some]; exact ⟨h1, i, hi, rfl⟩, Aft.refl S⟩
    · cases ha
  | nameIs =>
    simp only [extRun] at ha ⊢
    split at ha
    · cases ha; exact ⟨k, rfl, Aft.refl S⟩
    · cases ha; exact ⟨k, rfl, Aft.refl S⟩
    · cases ha
  | cloneAny size =>
    simp only [extRun] at ha ⊢
    split at ha
    · simp only [chk_some, Option.some.injEq, Prod.mk.injEq] at ha
      obtain ⟨h1, rfl, rfl⟩ := ha
      exact ⟨k, by simp [h1, chk], Aft.refl S⟩
    · cases ha
  | index mg et =>
    simp only [extRun] at ha ⊢
    split at ha
    · simp only [ob_some, chk_some, Bool.and_eq_true, Option.some.injEq, Prod.mk.injEq] at ha
      obtain ⟨a, h1, b, h2, ⟨⟨⟨h3, h4⟩, h5⟩, h6⟩, rfl, rfl⟩ := ha
      exact ⟨k, by simp only [ob_some, chk_some, Bool.and_eq_true]; exact ⟨a, bytesAt_sub S h1, b, bytesAt_sub S h2, ⟨⟨⟨h3, h4⟩, h5⟩, atLeast_sub S h6⟩, rfl⟩, Aft.refl S⟩
    · cases ha
  | tab et gl rg ts =>
    simp only [extRun, ob_some, chk_some, Bool.and_eq_true, Option.some.injEq, Prod.mk.injEq] at ha ⊢
    obtain ⟨ks, hks, ⟨⟨h1, h2⟩, h3⟩, u, hu, rfl, rfl⟩ := ha
    exact ⟨k, ⟨ks, keysOf_sub S hks, ⟨⟨h1, hasAll_sub S h2⟩, hasRng_sub S h3⟩, u, hu, rfl, rfl⟩, Aft.refl S⟩
  | seq keys e size bytes g0 g1 =>
    simp only [extRun] at ha ⊢
    split at ha
    · rename_i g l
      cases hc : seqMap h l with
      | none => simp [hc] at ha
      | some r =>
        rw [hc] at ha
        rw [seqMap_sub S hc]
        cases r with
        | nil =>
          simp only [chk_some, Option.some.injEq, Prod.mk.injEq] at ha
          obtain ⟨h1, rfl, rfl⟩ := ha
          exact ⟨k, by simp [h1, chk], Aft.refl S⟩
        | cons x r =>
          cases r with
          | nil =>
            simp only [chk_some] at ha
            obtain ⟨h1, ha⟩ := ha
            obtain ⟨k', k1, A⟩ := push1_loc e size bytes _ _ ha S
            exact ⟨k', by simp only [chk_some]; exact ⟨h1, k1⟩, A⟩
          | cons y r => cases ha
    · cases ha

def allApart (fns : T DFn) : List (FuncId × Ext) → Bool
  | [] => true
  | (f, _) :: r => (fnAt fns f).isNone && allApart fns r

theorem findExt_apart {fns : T DFn} {f : FuncId} {x : Ext} : ∀ {ids : List (FuncId × Ext)}, allApart fns ids = true → findExt ids f = some x → fnAt fns f = none
  | [], _, h => by cases h
  | (g, y) :: r, ha, h => by
    simp only [allApart, Bool.and_eq_true] at ha
    simp only [findExt] at h
    split at h
    · rename_i e
      rw [← Nat.eq_of_beq_eq_true e]
      simpa using ha.1
    · exact findExt_apart ha.2 h

theorem orc_loc {fns : T DFn} {ids : List (FuncId × Ext)} (ha : allApart fns ids = true) : BaseLoc fns (orcOf P ids) := by
  refine ⟨fun f args h k v h' hr S => ?_, fun f args h k hr S => ?_⟩
  · simp only [orcOf, ob_some] at hr ⊢
    obtain ⟨x, hx, hr⟩ := hr
    obtain ⟨k', k1, A⟩ := ext_loc x args hr S
    exact ⟨k', ⟨x, hx, k1⟩, A⟩
  · cases hx : findExt ids f with
    | none => exact .inl (by simp only [orcOf, hx, ob])
    | some x => exact .inr (findExt_apart ha hx)

/-- Without some functions. -/
def without (fns : T DFn) : List FuncId → T DFn
  | [] => fns
  | f :: r => (without fns r).set (pathOf f) none

theorem without_at {fns : T DFn} {g : FuncId} {d : DFn} : ∀ {l : List FuncId}, fnAt (without fns l) g = some d → fnAt fns g = some d
  | [], h => h
  | f :: r, h => by
    refine without_at (l := r) ?_
    simp only [fnAt, chk_some, without] at h ⊢
    refine ⟨h.1, ?_⟩
    by_cases e : pathOf f = pathOf g
    · rw [e, T.get_set_self] at h; cases h.2
    · rw [T.get_set_ne _ _ _ _ e] at h; exact h.2
end
end Go.Dx
