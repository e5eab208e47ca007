/-
  The deterministic machine over labels against the model: maps.
-/
import Derived.Test.YtkbjonoiecljiaaGreatDoorDxEffB
namespace Go.Dx
open Go Go.RowKit

section
variable {P : Program} {B : Nat} {w0 : World} {ρ ρ' : Rho} {h h' : H} {w : World}

theorem REs.get {es : List (V × V × Nat)} {ms : List MapEntry} (r : REs ρ es ms) : ∀ {i : Nat} {k v : V} {n : Nat}, es[i]? = some (k, v, n) → ∃ m, ms[i]? = some m ∧ RV ρ k m.key ∧ RV ρ v m.val ∧ m.born = n := by
  induction r with
  | nil => intro i k v n h; simp at h
  | cons hk hv hn _ ih =>
    intro i k v n h
    cases i with
    | zero => simp at h; obtain ⟨rfl, rfl, rfl⟩ := h; exact ⟨_, rfl, hk, hv, hn⟩
    | succ i => simp at h; simpa using ih h

theorem REs.push {es : List (V × V × Nat)} {ms : List MapEntry} (r : REs ρ es ms) {k v : V} {m : MapEntry} {n : Nat} (hk : RV ρ k m.key) (hv : RV ρ v m.val) (hn : m.born = n) : REs ρ (es ++ [(k, v, n)]) (ms ++ [m]) := by
  induction r with
  | nil => exact .cons hk hv hn .nil
  | cons hk' hv' hn' _ ih => exact .cons hk' hv' hn' ih

theorem REs.setNth {es : List (V × V × Nat)} {ms : List MapEntry} (r : REs ρ es ms) {k v : V} (f : MapEntry → MapEntry) : ∀ {i : Nat}, (∀ m, ms[i]? = some m → RV ρ k (f m).key ∧ RV ρ v (f m).val ∧ (f m).born = m.born) → REs ρ (setNth es i k v) (ms.modify i f) := by
  induction r with
  | nil => intro i _; cases i <;> exact .nil
  | @cons k' v' n m es ms hk' hv' hn' hs ih =>
    intro i hf
    cases i with
    | zero =>
      obtain ⟨a, b, c⟩ := hf m rfl
      simp only [Dx.setNth, List.modify_cons, if_pos rfl]
      exact .cons a b (c.trans hn') hs
    | succ i =>
      simp only [Dx.setNth, List.modify_cons]
      rw [if_neg (by omega)]
      exact .cons hk' hv' hn' (ih fun m' hm' => hf m' (by simpa using hm'))

theorem REs.erase {es : List (V × V × Nat)} {ms : List MapEntry} (r : REs ρ es ms) : ∀ i, REs ρ (eraseNth es i) (ms.eraseIdx i) := by
  induction r with
  | nil => intro i; exact .nil
  | cons hk' hv' hn' hs ih =>
    intro i
    cases i with
    | zero => exact hs
    | succ i => exact .cons hk' hv' hn' (ih i)

theorem REs.bornAt {es : List (V × V × Nat)} {ms : List MapEntry} (r : REs ρ es ms) : ∀ {i : Nat} {m : MapEntry}, ms[i]? = some m → bornAt es i = m.born := by
  induction r with
  | nil => intro i m h; simp at h
  | cons hk' hv' hn' hs ih =>
    intro i m h
    cases i with
    | zero => simp at h; subst h; exact hn'.symm
    | succ i => simp at h; exact ih h

theorem REs.setBorn {es : List (V × V × Nat)} {ms : List MapEntry} (r : REs ρ es ms) {b : Nat} {v : V} {x : Value} (hv : RV ρ v x) : ∀ {es' : List (V × V × Nat)}, setBorn es b v = some es' →
    ∃ i, ms.findIdx? (fun e => (e.born : Int) == (b : Int)) = some i ∧ REs ρ es' (ms.modify i fun e => { e with val := x }) := by
  induction r with
  | nil => intro es' h; simp [Dx.setBorn] at h
  | @cons k' v' n m es ms hk' hv' hn' hs ih =>
    intro es' h
    simp only [Dx.setBorn] at h
    split at h
    · rename_i hb
      cases h
      have hb : n = b := Nat.eq_of_beq_eq_true hb
      refine ⟨0, by simp [List.findIdx?_cons, hn', hb], ?_⟩
      simp only [List.modify_cons, if_pos rfl]
      exact .cons hk' hv hn' hs
    · rename_i hb
      simp only [ob_some, Option.some.injEq] at h
      obtain ⟨q, hq, rfl⟩ := h
      obtain ⟨i, h1, h2⟩ := ih hq
      have hne : ¬ n = b := fun e => by rw [e] at hb; simp at hb
      refine ⟨i + 1, ?_, ?_⟩
      · have : ((m.born : Int) == (b : Int)) = false := by
          rw [hn']; simp; omega
        simp [List.findIdx?_cons, this, h1]
      · simp only [List.modify_cons]
        rw [if_neg (by omega)]
        exact .cons hk' hv' hn' h2

theorem findK_key {pk : PK} {k : V} : ∀ {es : List (V × V × Nat)} {j : Nat} {v : V}, findK pk k es = some (some (j, v)) → ∃ k' n, es[j]? = some (k', v, n) ∧ cellEq pk k k' = some true
  | [], j, v, h => by simp [findK] at h
  | (x, u, n) :: es, j, v, h => by
    simp only [findK, ob_some] at h
    obtain ⟨b, hb, h⟩ := h
    cases b with
    | true => simp at h; obtain ⟨rfl, rfl⟩ := h; exact ⟨x, n, rfl, hb⟩
    | false =>
      simp only [ob_some, Option.some.injEq] at h
      obtain ⟨q, hq, h⟩ := h
      cases q with
      | none => simp at h
      | some p =>
        simp at h
        obtain ⟨rfl, rfl⟩ := h
        obtain ⟨k', n', h1, h2⟩ := findK_key hq
        exact ⟨k', n', by simpa using h1, h2⟩

theorem sameBits_ok {pk : PK} {k u : V} {x y : Value} (hk : RV ρ k x) (hu : RV ρ u y) (h : cellEq pk k u = some true) (n : Nat) : Instr.sameBits n y x = true := by
  rcases cellEq_ok hk hu h with ⟨_, c, d, rfl, rfl, e⟩ | ⟨_, k', c, d, rfl, rfl, e⟩ | ⟨_, s, t, rfl, rfl, e⟩
  · have : c = d := by simpa using e.symm
    subst this; cases n <;> simp [Instr.sameBits]
  · have : c = d := by simpa using e.symm
    subst this; cases n <;> simp [Instr.sameBits]
  · have e2 : (t == s) = true := by
      rw [bytes_beq] at e ⊢
      have : s.data.toList = t.data.toList := by simpa using e.symm
      simp [this]
    cases n <;> simp [Instr.sameBits, e2]

theorem keyStays_ok {old new : Value} (h : Instr.sameBits 10000 old new = true) : (Instr.keyThatStays old new).run P w = .ok new w := by
  unfold Instr.keyThatStays
  rw [if_pos h]; rfl

/-- A map, changed in place. -/
theorem HRel.mapChange (R : HRel B w0 ρ h w) {l : Lb} {b : Blk} {es : List (V × V × Nat)} {clock : Nat} (hl : ρ l = some b) (hg : h.get l = some (.map es clock)) :
    ∃ ms : Array MapEntry, REs ρ es ms.toList ∧ (∀ P, (getObj b.block).run P w = .ok (.map ms clock) w) ∧ ∀ (es' : List (V × V × Nat)) (ms' : Array MapEntry) (c' : Nat), REs ρ es' ms'.toList →
      (∀ P, (Go.setObj b.block (.map ms' c')).run P w = .ok () { w with heap := w.heap.setIfInBounds b.block (.map ms' c') }) ∧ HRel B w0 ρ (h.set l (.map es' c')) { w with heap := w.heap.setIfInBounds b.block (.map ms' c') } := by
  obtain ⟨ms, h1, h2⟩ := R.obj l b _ hl hg
  refine ⟨ms, h2, fun P => by simp [getObj, Sem.run, h1], fun es' ms' c' hr => ⟨fun P => by simp [Go.setObj, Sem.run, h1], ?_⟩⟩
  exact R.setObj hl hg rfl fun w' hw' => ⟨ms', hw', hr⟩

theorem withMap_some {m : V} {f : Lb → List (V × V × Nat) → Nat → Option (V × H)} {r : V × H} (h' : withMap h m f = some r) : ∃ l es clock, m = .map l ∧ h.get l = some (.map es clock) ∧ f l es clock = some r := by
  unfold withMap at h'
  split at h'
  · split at h'
    · exact ⟨_, _, _, rfl, by assumption, h'⟩
    · cases h'
  · cases h'

theorem map_inv {l : Lb} {x : Value} (r : RV ρ (.map l) x) : ∃ b, ρ l = some b ∧ x = .map (some b.block) := by
  cases r with | map h => exact ⟨_, h, rfl⟩

theorem eff_makeMap {C : CE} {t : TypeId} : EffOk C (.makeMap t none) .makeMap := by
  intro ρ tm A hT hG B w0 h w R v h' hr
  cases hr
  have R' := R.add (o := .map [] 0) (x := .map #[] 0) (b := (Blk.mk w.heap.size 0 0 .nilFunc)) rfl ⟨rfl, rfl⟩ ⟨#[], heap_alloc_new _, .nil⟩
  refine EffOk.ret (s := Instr.makeMap t none) (Step.add _ _ _ _) (.map (upd_self _ _ _)) R' ?_ fun p hp => by unfold execOp; rw [hp]; rfl
  simp [Instr.makeMap]

theorem mapUpdate_run {C : CE} {t kt et : TypeId} {m k x : Operand} {mx kx xx : X} (hu : C.P.underlying t = some (.map kt et)) (hm : compX C m = some mx) (hk : compX C k = some kx) (hx : compX C x = some xx)
    {ρ : Rho} {tm : T V} {A : Act} (hT : TRel ρ C.n tm A.tmps) (hG : GRel ρ C.G) (R : HRel B w0 ρ h w) {v : V} (hr : (ED.mapUpdate (keyT C.P kt) mx kx xx).run tm h = some (v, h')) :
    v = undef ∧ ∃ w', Step ρ ρ h h' ∧ HRel B w0 ρ h' w' ∧ (Instr.mapUpdate t (A.eval m) (A.eval k) (A.eval x)).run C.P w = .ok () w' := by
  have rm := compX_ok hT hG hm
  have rk := compX_ok hT hG hk
  have rx := compX_ok hT hG hx
  simp only [ED.run, chk_some] at hr
  obtain ⟨hpk, hr⟩ := hr
  obtain ⟨d, hd1, hd2⟩ := keyT_ok hpk
  obtain ⟨l, es, clock, e1, hg, hr⟩ := withMap_some hr
  rw [e1] at rm
  obtain ⟨b, hb, hmx⟩ := map_inv rm
  obtain ⟨ms, hes, hget, hchg⟩ := R.mapChange hb hg
  simp only [mapSet, ob_some, Option.some.injEq, Prod.mk.injEq] at hr
  obtain ⟨o, ⟨f, hf, ho⟩, rfl, rfl⟩ := hr
  obtain ⟨f1, f2⟩ := findNow_ok hd2 rk hes hf 0
  refine ⟨rfl, ?_⟩
  cases f with
  | none =>
    simp only [Option.some.injEq] at ho
    subst ho
    obtain ⟨c1, c2⟩ := hchg (es ++ [(kx.ev tm, xx.ev tm, clock)]) (ms.push { key := A.eval k, val := A.eval x, born := clock }) (clock + 1) (by
      rw [Array.toList_push]; exact hes.push rk rx rfl)
    refine ⟨_, Step.same rfl, c2, ?_⟩
    unfold Instr.mapUpdate
    simp only [Sem.run_bind, run_underlying hu, Result.andThen_ok, hmx, hget, checkKey_ok hd1 hd2, findKey_run hd1 (f1 rfl), c1]
  | some p =>
    obtain ⟨j, u⟩ := p
    simp only [Option.some.injEq] at ho
    subst ho
    obtain ⟨en, g1, g2, g3⟩ := f2 j u rfl
    obtain ⟨k', n, k1, k2⟩ := findK_key hf
    obtain ⟨en', q1, q2, _, _⟩ := hes.get k1
    rw [g1] at q1; cases q1
    have hsb := sameBits_ok rk q2 k2 10000
    have hms : ms[j]? = some en := by simpa using g1
    obtain ⟨c1, c2⟩ := hchg (setNth es j (kx.ev tm) (xx.ev tm)) (ms.modify j fun e => { e with key := A.eval k, val := A.eval x }) clock (by
      rw [Array.toList_modify]; exact hes.setNth _ fun m _ => ⟨rk, rx, rfl⟩)
    refine ⟨_, Step.same rfl, c2, ?_⟩
    unfold Instr.mapUpdate
    have e0 : 0 + j = j := by omega
    rw [e0] at g3
    simp only [Sem.run_bind, run_underlying hu, Result.andThen_ok, hmx, hget, checkKey_ok hd1 hd2, findKey_run hd1 g3, hms, Option.map_some, Option.getD_some, keyStays_ok hsb, c1]

theorem eff_mapUpdate {C : CE} {t kt et : TypeId} {m k x : Operand} {mx kx xx : X} (hu : C.P.underlying t = some (.map kt et)) (hm : compX C m = some mx) (hk : compX C k = some kx) (hx : compX C x = some xx) : EffOk C (.mapUpdate t m k x) (.mapUpdate (keyT C.P kt) mx kx xx) := by
  intro ρ tm A hT hG B w0 h w R v h' hr
  obtain ⟨rfl, w', s1, s2, s3⟩ := mapUpdate_run hu hm hk hx hT hG R hr
  exact EffOk.none s1 s2 s3 fun p hp => by unfold execOp; rw [hp]

theorem eff_insert {C : CE} {t kt et : TypeId} {m k x : Operand} {mx kx xx : X} (hu : C.P.underlying t = some (.map kt et)) (hm : compX C m = some mx) (hk : compX C k = some kx) (hx : compX C x = some xx) : EffOk C (.insert t m k x) (.mapUpdate (keyT C.P kt) mx kx xx) := by
  intro ρ tm A hT hG B w0 h w R v h' hr
  obtain ⟨rfl, w', s1, s2, s3⟩ := mapUpdate_run hu hm hk hx hT hG R hr
  exact EffOk.none s1 s2 s3 fun p hp => by unfold execOp; rw [hp]

theorem eff_mapEntry {C : CE} {t kt et : TypeId} {m k : Operand} {z : V} {mx kx : X} (hu : C.P.underlying t = some (.map kt et)) (hz : zeroT C.P et = some z) (hm : compX C m = some mx) (hk : compX C k = some kx) : EffOk C (.mapEntry t m k) (.mapEntry (keyT C.P kt) z mx kx) := by
  intro ρ tm A hT hG B w0 h w R v h' hr
  have rm := compX_ok hT hG hm
  have rk := compX_ok hT hG hk
  obtain ⟨zx, hz1, hz2⟩ := run_zeroT (ρ := ρ) hz
  simp only [ED.run, chk_some] at hr
  obtain ⟨hpk, hr⟩ := hr
  obtain ⟨d, hd1, hd2⟩ := keyT_ok hpk
  obtain ⟨l, es, clock, e1, hg, hr⟩ := withMap_some hr
  rw [e1] at rm
  obtain ⟨b, hb, hmx⟩ := map_inv rm
  obtain ⟨ms, hes, hget, hchg⟩ := R.mapChange hb hg
  simp only [ob_some] at hr
  obtain ⟨f, hf, hr⟩ := hr
  obtain ⟨f1, f2⟩ := findNow_ok hd2 rk hes hf 0
  cases f with
  | none =>
    simp only [Option.some.injEq, Prod.mk.injEq] at hr
    obtain ⟨rfl, rfl⟩ := hr
    obtain ⟨c1, c2⟩ := hchg (es ++ [(kx.ev tm, z, clock)]) (ms.push { key := A.eval k, val := zx, born := clock }) (clock + 1) (by
      rw [Array.toList_push]; exact hes.push rk hz1 rfl)
    refine EffOk.ret (s := Instr.mapEntry t (A.eval m) (A.eval k)) (Step.same rfl) (.tuple (.cons hz1 (.cons (.int .i64 _) .nil))) c2 ?_ fun p hp => by unfold execOp; rw [hp]
    unfold Instr.mapEntry
    simp only [Sem.run_bind, run_underlying hu, Result.andThen_ok, hmx, hget, checkKey_ok hd1 hd2, findKey_run hd1 (f1 rfl), hz2, c1, Sem.run_pure]
    rfl
  | some p =>
    obtain ⟨j, u⟩ := p
    simp only [Option.some.injEq, Prod.mk.injEq] at hr
    obtain ⟨rfl, rfl⟩ := hr
    obtain ⟨en, g1, g2, g3⟩ := f2 j u rfl
    obtain ⟨k', n, k1, k2⟩ := findK_key hf
    obtain ⟨en', q1, q2, _, _⟩ := hes.get k1
    rw [g1] at q1; cases q1
    have hsb := sameBits_ok rk q2 k2 10000
    have hms : ms[j]? = some en := by simpa using g1
    obtain ⟨c1, c2⟩ := hchg (setNth es j (kx.ev tm) u) (ms.modify j fun e => { e with key := A.eval k }) clock (by
      rw [Array.toList_modify]
      exact hes.setNth _ fun m hm => by
        rw [g1] at hm; cases hm
        exact ⟨rk, g2, rfl⟩)
    refine EffOk.ret (s := Instr.mapEntry t (A.eval m) (A.eval k)) (Step.same rfl) (.tuple (.cons g2 (.cons (.int .i64 _) .nil))) c2 ?_ fun p hp => by unfold execOp; rw [hp]
    have e0 : 0 + j = j := by omega
    rw [e0] at g3
    unfold Instr.mapEntry
    simp only [Sem.run_bind, run_underlying hu, Result.andThen_ok, hmx, hget, checkKey_ok hd1 hd2, findKey_run hd1 g3, hms, Option.map_some, Option.getD_some, keyStays_ok hsb, c1, Sem.run_pure, hes.bornAt g1]
    rfl

theorem eff_entryStore {C : CE} {t : TypeId} {m s x : Operand} {mx sx xx : X} (hm : compX C m = some mx) (hs : compX C s = some sx) (hx : compX C x = some xx) : EffOk C (.entryStore t m s x) (.entryStore mx sx xx) := by
  intro ρ tm A hT hG B w0 h w R v h' hr
  have rm := compX_ok hT hG hm
  have rs := compX_ok hT hG hs
  have rx := compX_ok hT hG hx
  simp only [ED.run] at hr
  obtain ⟨l, es, clock, e1, hg, hr⟩ := withMap_some hr
  rw [e1] at rm
  obtain ⟨b, hb, hmx⟩ := map_inv rm
  obtain ⟨ms, hes, hget, hchg⟩ := R.mapChange hb hg
  split at hr
  · rename_i k n e2
    rw [e2] at rs
    generalize hsv : A.eval s = sv at rs
    cases rs
    simp only [ob_some, Option.some.injEq, Prod.mk.injEq] at hr
    obtain ⟨es', hset, rfl, rfl⟩ := hr
    obtain ⟨i, i1, i2⟩ := hes.setBorn rx hset
    obtain ⟨c1, c2⟩ := hchg es' (ms.modify i fun e => { e with val := A.eval x }) clock (by rw [Array.toList_modify]; exact i2)
    refine EffOk.none (s := Instr.entryStore t (A.eval m) (A.eval s) (A.eval x)) (Step.same rfl) c2 ?_ fun p hp => by unfold execOp; rw [hp]
    have i1' : ms.findIdx? (fun e => (e.born : Int) == (Int.ofNat n)) = some i := by
      rw [← i1]; cases ms; simp
    unfold Instr.entryStore
    simp only [Sem.run_bind, hmx, Sem.run_pure, Result.andThen_ok, hget, hsv, asInt, asIntOf, i1', c1]
  · cases hr

theorem eff_rangeMap {C : CE} {t kt et : TypeId} {y : Operand} {x : X} (hu : C.P.underlying t = some (.map kt et)) (hx : compX C y = some x) : EffOk C (.range t y) (.rangeMap x) := by
  intro ρ tm A hT hG B w0 h w R v h' hr
  have r := compX_ok hT hG hx
  simp only [ED.run] at hr
  generalize hyv : A.eval y = yv at r
  split at hr
  · rename_i e1
    rw [e1] at r; cases r; cases hr
    have R' := R.add (o := .mapIter none 0 [] 0) (x := .mapIter none 0 #[] 0) (b := (Blk.mk w.heap.size 0 0 .nilFunc)) rfl ⟨rfl, rfl⟩ ⟨rfl, none, heap_alloc_new _, rfl⟩
    refine EffOk.ret (s := Instr.range t (.map none)) (Step.add _ _ _ _) (.ptr 0 (upd_self _ _ _)) R' ?_ fun p hp => by unfold execOp; rw [hp]; simp only [hyv]
    simp [Instr.range, run_underlying hu]
  · rename_i l e1
    rw [e1] at r
    obtain ⟨b, hb, rfl⟩ := map_inv r
    split at hr
    · rename_i es clock hg
      cases hr
      obtain ⟨ms, hes, hget, _⟩ := R.mapChange hb hg
      have R' := R.add (o := .mapIter (some l) clock [] clock) (x := .mapIter (some b.block) clock #[] clock) (b := (Blk.mk w.heap.size 0 0 .nilFunc)) rfl ⟨rfl, rfl⟩ ⟨rfl, some b.block, heap_alloc_new _, b, upd_ext R.fresh _ _ hb, rfl⟩
      refine EffOk.ret (s := Instr.range t (.map (some b.block))) (Step.add _ _ _ _) (.ptr 0 (upd_self _ _ _)) R' ?_ fun p hp => by unfold execOp; rw [hp]; simp only [hyv]
      simp [Instr.range, run_underlying hu, hget]
    · cases hr
  · cases hr

theorem eff_rangeStr {C : CE} {t : TypeId} {y : Operand} {x : X} (hu : C.P.underlying t = some .string) (hx : compX C y = some x) : EffOk C (.range t y) (.rangeStr x) := by
  intro ρ tm A hT hG B w0 h w R v h' hr
  have r := compX_ok hT hG hx
  simp only [ED.run] at hr
  generalize hyv : A.eval y = yv at r
  split at hr
  · rename_i s e1
    rw [e1] at r; cases r with | str u =>
    cases hr
    have R' := R.add (o := .strIter (natsOf u) 0) (x := .stringIter u 0) (b := (Blk.mk w.heap.size 0 0 .nilFunc)) rfl ⟨rfl, rfl⟩ ⟨u, heap_alloc_new _, rfl, rfl⟩
    refine EffOk.ret (s := Instr.range t (.string u)) (Step.add _ _ _ _) (.ptr 0 (upd_self _ _ _)) R' ?_ fun p hp => by unfold execOp; rw [hp]; simp only [hyv]
    simp [Instr.range, run_underlying hu]
  · cases hr


theorem hasNat_eq (n : Nat) : ∀ l : List Nat, hasNat n l = l.contains n
  | [] => rfl
  | m :: l => by
    simp only [hasNat, List.contains_cons, hasNat_eq n l]
    rw [show Nat.beq n m = (n == m) from by rw [Bool.eq_iff_iff]; simp]

theorem REs.left {es : List (V × V × Nat)} {ms : List MapEntry} (r : REs ρ es ms) (seen : List Nat) : REs ρ (leftOf seen es) (ms.filter fun e => !seen.contains e.born) := by
  induction r with
  | nil => exact .nil
  | @cons k v n m es ms hk' hv' hn' hs ih =>
    simp only [leftOf, List.filter_cons, hasNat_eq, hn']
    cases hc : seen.contains n with
    | true => simpa using ih
    | false => simpa using REs.cons hk' hv' hn' ih

theorem REs.allFrom {es : List (V × V × Nat)} {ms : List MapEntry} (r : REs ρ es ms) (n : Nat) : allFrom n es = ms.all fun e => decide (e.born ≥ n) := by
  induction r with
  | nil => rfl
  | @cons k v b m es ms hk' hv' hn' hs ih =>
    simp only [Dx.allFrom, List.all_cons, ih, hn']
    congr 1
    rw [Bool.eq_iff_iff]; simp

theorem eff_next {C : CE} {y : Operand} {x : X} (hx : compX C y = some x) : EffOk C (.next y false) (.next x) := by
  intro ρ tm A hT hG B w0 h w R v h' hr
  have r := compX_ok hT hG hx
  simp only [ED.run] at hr
  generalize hyv : A.eval y = yv at r
  split at hr
  · rename_i l e1
    rw [e1] at r
    obtain ⟨b, hb, rfl⟩ := ptr_inv r
    have hb0 := (R.base l b hb).1
    have unf : ∀ (p : Oper), p.op = .next y false → execOp A.eval p = (do pure (.value (← Instr.next (.pointer (some ⟨b.block, 0, none⟩)) false p.type))) := fun p hp => by
      unfold execOp; rw [hp]; simp only [hyv, hb0]
    have fin : ∀ {ρ' : Rho} {x : Value} {w' : World}, Step ρ ρ' h h' → RV ρ' v x → HRel B w0 ρ' h' w' → (∀ ty, (Instr.next (.pointer (some ⟨b.block, 0, none⟩)) false ty).run C.P w = .ok x w') →
        ∃ ρ' x w', Step ρ ρ' h h' ∧ RV ρ' v x ∧ HRel B w0 ρ' h' w' ∧ ∀ p : Oper, p.op = .next y false → ((execOp A.eval p).run C.P w = .ok (.value x) w' ∨ ((execOp A.eval p).run C.P w = .ok .skip w' ∧ x = Go.undef)) :=
      fun s1 s2 s3 s4 => ⟨_, _, _, s1, s2, s3, fun p hp => .inl (by rw [unf p hp]; simp [s4])⟩
    unfold nextV at hr
    split at hr
    · rename_i since seen last hg
      cases hr
      obtain ⟨_, m', h1, h2⟩ := R.obj l b _ hb hg
      simp only at h2
      subst h2
      refine fin (Step.refl _ _) (.tuple (.cons (.bool false) .nil)) R fun ty => ?_
      unfold Instr.next
      simp [getObj, Sem.run, h1]
    · rename_i m since seen last hg
      obtain ⟨_, m', h1, c, hc, h2⟩ := R.obj l b _ hb hg
      subst h2
      split at hr
      · rename_i es clock hgm
        obtain ⟨ms, hms, hes⟩ := R.mapAt (P := C.P) hc hgm
        simp only [chk_some] at hr
        obtain ⟨hok, hr⟩ := hr
        have hit : (getObj b.block).run C.P w = .ok (.mapIter (some c.block) since ⟨seen⟩ last) w := by simp [getObj, Sem.run, h1]
        have hguard : (!(⟨seen⟩ : Array Nat).isEmpty && !ms.isEmpty && ms.all fun e => decide (e.born ≥ last)) = false := by
          rw [hes.allFrom] at hok
          cases ms with | mk ml =>
          have : es.isEmpty = ml.isEmpty := by
            have := hes.length
            cases es <;> cases ml <;> simp at this ⊢
          simp only [this] at hok
          simp only [List.isEmpty_toArray, List.all_toArray]
          revert hok
          cases seen.isEmpty <;> cases ml.isEmpty <;> cases (ml.all fun e => decide (e.born ≥ last)) <;> simp
        have hleft := hes.left seen
        have hfl : (ms.filter fun e => !(⟨seen⟩ : Array Nat).contains e.born).toList = ms.toList.filter fun e => !seen.contains e.born := by
          rw [Array.toList_filter]; congr 1; funext e; simp
        have unf2 : ∀ ty, (Instr.next (.pointer (some ⟨b.block, 0, none⟩)) false ty).run C.P w = ((do
            let left := ms.filter fun e => !(⟨seen⟩ : Array Nat).contains e.born
            let old := left.filter fun e => decide (e.born < since)
            let new := left.filter fun e => decide (e.born ≥ since)
            let candidates := (if old.isEmpty then #[none] else #[]) ++ (old ++ new).map some
            match candidates[← choose (.mapNext candidates.size)]? with
            | some (some e) =>
              setObj b.block (.mapIter (some c.block) since ((⟨seen⟩ : Array Nat).push e.born) clock)
              pure (.tuple #[.bool true, e.key, e.val])
            | some none => pure (.tuple #[.bool false])
            | none => stuck "Next: no such candidate") : Sem Value).run C.P w := fun ty => by
          unfold Instr.next
          simp only [Sem.run_bind, hit, Result.andThen_ok, hms, hguard, Bool.false_eq_true, if_false, Sem.run_pure]
          rfl
        split at hr
        · rename_i hl
          cases hr
          rw [hl] at hleft
          have h0 : (ms.filter fun e => !(⟨seen⟩ : Array Nat).contains e.born) = #[] := by
            apply Array.ext'
            rw [hfl]
            generalize ms.toList.filter (fun e => !seen.contains e.born) = L at hleft
            cases hleft; rfl
          refine fin (Step.refl _ _) (.tuple (.cons (.bool false) .nil)) R fun ty => ?_
          rw [unf2 ty, h0]
          have hf : (Question.mapNext 1).forced = true := rfl
          simp [hf]
        · rename_i k u n hl
          simp only [chk_some, Option.some.injEq, Prod.mk.injEq] at hr
          obtain ⟨hn, rfl, rfl⟩ := hr
          have hn : n < since := by simpa using hn
          rw [hl] at hleft
          obtain ⟨en, h0, rk, ru, hborn⟩ : ∃ en, (ms.filter fun e => !(⟨seen⟩ : Array Nat).contains e.born) = #[en] ∧ RV ρ k en.key ∧ RV ρ u en.val ∧ en.born = n := by
            generalize hL : ms.toList.filter (fun e => !seen.contains e.born) = L at hleft
            cases hleft with
            | cons h1 h2 h3 h4 =>
              cases h4
              exact ⟨_, by apply Array.ext'; rw [hfl, hL], h1, h2, h3⟩
          have R2 := R.setObj (p := .mapIter (some m) since (seen ++ [n]) clock) (x := .mapIter (some c.block) since ((⟨seen⟩ : Array Nat).push n) clock) hb hg rfl fun w' hw' => ⟨hb0, some c.block, by rw [hw']; simp, c, hc, rfl⟩
          refine fin (Step.same rfl) (.tuple (.cons (.bool true) (.cons rk (.cons ru .nil)))) R2 fun ty => ?_
          rw [unf2 ty, h0]
          have hf : (Question.mapNext 1).forced = true := rfl
          have hn' : ¬ since ≤ n := by omega
          simp [hborn, hn, hn', hf, setObj, Sem.run, h1]
        · cases hr
      · cases hr
    · cases hr
  · cases hr

theorem eff_clearMap {C : CE} {args : Array Operand} {ts : Array TypeId} {t kt et : TypeId} {rest : List TypeId} {x : X} (hts : ts.toList = t :: rest) (hu : C.P.underlying t = some (.map kt et)) (hx : compXs C args.toList = some [x]) :
    EffOk C (.call { callee := .builtin .clear, args := args, argTypes := ts }) (.clearMap x) := by
  intro ρ tm A hT hG B w0 h w R v h' hr
  obtain ⟨y, hy, r⟩ := args1 hx hT hG
  simp only [ED.run] at hr
  split at hr
  · rename_i e1
    rw [e1] at r; cases r; cases hr
    refine ⟨ρ, _, w, Step.refl _ _, .tuple .nil, R, fun p hp => .inl ?_⟩
    rw [builtin_run p hp, hy]
    simp [Go.builtin, Builtin.clear_, tsHead hts, run_underlying hu]
  · obtain ⟨l, es, clock, e1, hg, hr⟩ := withMap_some hr
    rw [e1] at r
    obtain ⟨b, hb, rfl⟩ := map_inv r
    obtain ⟨ms, hes, hget, hchg⟩ := R.mapChange hb hg
    cases hr
    obtain ⟨c1, c2⟩ := hchg [] #[] clock .nil
    refine ⟨ρ, _, _, Step.same rfl, .tuple .nil, c2, fun p hp => .inl ?_⟩
    rw [builtin_run p hp, hy]
    simp [Go.builtin, Builtin.clear_, tsHead hts, run_underlying hu, hget, c1]

theorem eff_delete {C : CE} {args : Array Operand} {ts : Array TypeId} {t kt et : TypeId} {rest : List TypeId} {m k : X} (hts : ts.toList = t :: rest) (hu : C.P.underlying t = some (.map kt et)) (hx : compXs C args.toList = some [m, k]) :
    EffOk C (.call { callee := .builtin .delete, args := args, argTypes := ts }) (.delete (keyT C.P kt) m k) := by
  intro ρ tm A hT hG B w0 h w R v h' hr
  obtain ⟨y1, y2, hy, r1, r2⟩ := args2 hx hT hG
  simp only [ED.run, chk_some] at hr
  obtain ⟨hpk, hr⟩ := hr
  obtain ⟨d, hd1, hd2⟩ := keyT_ok hpk
  obtain ⟨l, es, clock, e1, hg, hr⟩ := withMap_some hr
  rw [e1] at r1
  obtain ⟨b, hb, rfl⟩ := map_inv r1
  obtain ⟨ms, hes, hget, hchg⟩ := R.mapChange hb hg
  simp only [ob_some] at hr
  obtain ⟨f, hf, hr⟩ := hr
  obtain ⟨f1, f2⟩ := findNow_ok hd2 r2 hes hf 0
  cases f with
  | none =>
    simp only [Option.some.injEq, Prod.mk.injEq] at hr
    obtain ⟨rfl, rfl⟩ := hr
    obtain ⟨c1, c2⟩ := hchg es ms clock hes
    have hset : h.set l (.map es clock) = { h with t := h.t.set l (some (.map es clock)) } := rfl
    have R2 : HRel B w0 ρ h { w with heap := w.heap.setIfInBounds b.block (.map ms clock) } := by
      have hwb : w.heap[b.block]? = some (.map ms clock) := by
        have := hget C.P
        obtain ⟨ms', q1, q2⟩ := R.obj l b _ hb hg
        simp [getObj, Sem.run, q1] at this
        rw [q1, this]
      have : w.heap.setIfInBounds b.block (.map ms clock) = w.heap := by
        apply Array.ext_getElem?
        intro i
        rw [Array.getElem?_setIfInBounds]
        by_cases hi : b.block = i
        · subst hi
          rw [if_pos rfl, if_pos (heap_lt hwb), hwb]
        · rw [if_neg hi]
      rw [this]; exact R
    refine ⟨ρ, _, _, Step.refl _ _, .tuple .nil, R2, fun p hp => .inl ?_⟩
    rw [builtin_run p hp, hy]
    simp [Go.builtin, Builtin.delete_, tsHead hts, run_underlying hu, hget, checkKey_ok hd1 hd2, findKey_run hd1 (f1 rfl), c1]
  | some p =>
    obtain ⟨j, u⟩ := p
    simp only [Option.some.injEq, Prod.mk.injEq] at hr
    obtain ⟨rfl, rfl⟩ := hr
    obtain ⟨en, g1, g2, g3⟩ := f2 j u rfl
    obtain ⟨c1, c2⟩ := hchg (eraseNth es j) (ms.eraseIdxIfInBounds j) clock (by rw [Array.toList_eraseIdxIfInBounds]; exact hes.erase j)
    refine ⟨ρ, _, _, Step.same rfl, .tuple .nil, c2, fun p hp => .inl ?_⟩
    rw [builtin_run p hp, hy]
    have e0 : 0 + j = j := by omega
    rw [e0] at g3
    simp [Go.builtin, Builtin.delete_, tsHead hts, run_underlying hu, hget, checkKey_ok hd1 hd2, findKey_run hd1 g3, c1]

end
end Go.Dx
