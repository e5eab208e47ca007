/-
  The deterministic machine over labels against the model: cells that are stored, rows that are made, maps that are written.
-/
import Derived.Test.YtkbjonoiecljiaaGreatDoorDxHeap
namespace Go.Dx
open Go Go.RowKit

/-! ### worlds after stores -/

theorem shape_setCell (w : World) (a : Addr) (v : Value) (r : Nat) : (w.setCell a v).shape? r = w.shape? r := by
  unfold World.shape? World.setCell
  simp only [Array.getElem?_modify]
  by_cases h : a.block = r
  · rw [if_pos h]
    cases hh : w.heap[r]? with
    | none => rfl
    | some o => cases o <;> simp <;> split <;> simp
  · rw [if_neg h]

theorem shape_setCells (b : Nat) : ∀ (vs : List Value) (o : Nat) (w : World) (r : Nat), (w.setCells b o vs).shape? r = w.shape? r
  | [], _, _, _ => rfl
  | v :: vs, o, w, r => by rw [World.setCells, shape_setCells b vs, shape_setCell]

theorem heap_setCells_ne (b : Nat) : ∀ (vs : List Value) (o : Nat) (w : World) (k : Nat), k ≠ b → (w.setCells b o vs).heap[k]? = w.heap[k]?
  | [], _, _, _, _ => rfl
  | v :: vs, o, w, k, h => by rw [World.setCells, heap_setCells_ne b vs _ _ k h, Below.heap_setCell _ _ _ _ h]

theorem setCells_frame (b : Nat) : ∀ (vs : List Value) (o : Nat) (w : World), (w.setCells b o vs).heap.size = w.heap.size ∧ (w.setCells b o vs).os = w.os ∧ (w.setCells b o vs).tape = w.tape ∧ (w.setCells b o vs).output = w.output ∧ (w.setCells b o vs).drawn = w.drawn
  | [], _, _ => ⟨rfl, rfl, rfl, rfl, rfl⟩
  | v :: vs, o, w => by
    obtain ⟨h1, h2, h3, h4, h5⟩ := setCells_frame b vs (o + 1) (w.setCell ⟨b, o, none⟩ v)
    rw [World.setCells]
    exact ⟨h1.trans (by simp [World.setCell]), h2, h3, h4, h5⟩

/-- A row's frozen part is the same behind stores. -/
theorem row_setCell (w : World) (a : Addr) (v : Value) {b : Nat} {c : Array Value} {e : TypeId} {fr : Nat × Nat} (h : w.heap[b]? = some (.cells c e fr)) : ∃ c', (w.setCell a v).heap[b]? = some (.cells c' e fr) := by
  unfold World.setCell
  simp only [Array.getElem?_modify, h]
  by_cases h' : a.block = b
  · rw [if_pos h']; exact ⟨_, rfl⟩
  · rw [if_neg h']; exact ⟨_, rfl⟩

theorem row_setCells (r : Nat) : ∀ (vs : List Value) (o : Nat) (w : World) {b : Nat} {c : Array Value} {e : TypeId} {fr : Nat × Nat}, w.heap[b]? = some (.cells c e fr) → ∃ c', (w.setCells r o vs).heap[b]? = some (.cells c' e fr)
  | [], _, _, _, _, _, _, h => ⟨_, h⟩
  | v :: vs, o, w, _, _, _, _, h => by
    obtain ⟨c', h'⟩ := row_setCell w ⟨r, o, none⟩ v h
    rw [World.setCells]
    exact row_setCells r vs (o + 1) _ h'

theorem flat_one {ρ : Rho} {v : V} {x : Value} (h : RV ρ v x) (hf : flatV v = true) : x.oneCell' = true := by
  cases h with
  | sym _ _ hv => exact symOk_one hv
  | any h => exact symOk_one h
  | _ => first | rfl | simp [flatV] at hf

theorem flats_one {ρ : Rho} {vs : List V} {xs : List Value} (h : RVs ρ vs xs) (hf : flats vs = true) : ∀ x ∈ xs, x.oneCell' = true := by
  induction vs generalizing xs with
  | nil => cases h; simp
  | cons v vs ih =>
    cases h with
    | cons h hs =>
      simp only [flats, Bool.and_eq_true] at hf
      intro x hx
      rcases List.mem_cons.1 hx with rfl | hx
      · exact flat_one h hf.1
      · exact ih hs hf.2 x hx

section
variable {B : Nat} {w0 : World} {ρ : Rho} {h : H} {w : World} {P : Program}

theorem CRel.isSome {b : Blk} {vs : List V} {e : TypeId} {fz : Nat} {own : Own} (c : CRel ρ b vs e fz own w) {i : Nat} (hi : i < vs.length) : (w.cell? (cellAd b i)).isSome = true := by
  obtain ⟨x, hx, _⟩ := c.cell i vs[i] (List.getElem?_eq_getElem hi)
  rw [hx]; rfl

/-- The cells of a block that has so many. -/
theorem cell_of_shape {r : Nat} {e : TypeId} {n : Nat} (hs : w.shape? r = some (e, n)) {i : Nat} (hi : i < n) : (w.cell? ⟨r, i, none⟩).isSome = true := by
  unfold World.shape? at hs
  unfold World.cell?
  cases hh : w.heap[r]? with
  | none => simp [hh] at hs
  | some o =>
    cases o <;> simp [hh] at hs ⊢
    omega

theorem cell_lt_shape {r : Nat} {e : TypeId} {n : Nat} (hs : w.shape? r = some (e, n)) {i : Nat} {x : Value} (hx : w.cell? ⟨r, i, none⟩ = some x) : i < n := by
  unfold World.shape? at hs
  unfold World.cell? at hx
  cases hh : w.heap[r]? with
  | none => simp [hh] at hs
  | some o =>
    cases o <;> simp [hh] at hs hx
    have := (Array.getElem?_eq_some_iff.1 hx).1
    omega

/-- Cells put over a row's. -/
theorem CRel.put {b : Blk} {vs vs' cs : List V} {xs : List Value} {e : TypeId} {fz : Nat} {own : Own} (c : CRel ρ b vs e fz own w) {off : Nat} (hp : putFrom vs off cs = some vs') (hr : RVs ρ cs xs) :
    CRel ρ b vs' e fz own (w.setCells b.block (b.base + off) xs) := by
  have hlen := putFrom_length hp
  have hle := putFrom_le hp
  have hx := hr.length
  refine ⟨by rw [shape_setCells]; exact c.shape, by rw [hlen]; exact c.fits, fun i v hv => ?_, fun ho i hi hl => by rw [World.frozen?_setCells]; exact c.free ho i hi hl, fun ho => by
    obtain ⟨c', lo, hi, h1, h2⟩ := c.bare ho
    obtain ⟨c'', h3⟩ := row_setCells b.block xs (b.base + off) w h1
    exact ⟨c'', lo, hi, h3, h2⟩⟩
  rw [putFrom_get hp] at hv
  by_cases hin : off ≤ i ∧ i < off + cs.length
  · rw [if_pos hin] at hv
    obtain ⟨x, hx1, hx2⟩ := hr.get hv
    obtain ⟨hj, hj'⟩ := List.getElem?_eq_some_iff.1 hx1
    refine ⟨x, ?_, hx2⟩
    have := World.cell?_setCells_in b.block xs (b.base + off) w (fun j hj => by
      have := c.isSome (i := off + j) (by omega)
      unfold cellAd at this
      rwa [← Nat.add_assoc] at this) (i - off) hj
    unfold cellAd
    rw [show b.base + i = b.base + off + (i - off) from by omega, this, hj']
  · rw [if_neg hin] at hv
    obtain ⟨x, hx1, hx2⟩ := c.cell i v hv
    refine ⟨x, ?_, hx2⟩
    unfold cellAd at hx1 ⊢
    rw [World.cell?_setCells_out]
    · exact hx1
    · intro _ _
      show b.base + i < b.base + off ∨ b.base + off + xs.length ≤ b.base + i
      omega

theorem storeV_some {l : Lb} {off : Nat} {cs : List V} {h' : H} (hs : storeV h l off cs = some h') :
    ∃ vs e fz own vs', h.get l = some (.cells vs e fz own) ∧ own.may = true ∧ fz ≤ off ∧ flats cs = true ∧ putFrom vs off cs = some vs' ∧ h' = h.set l (.cells vs' e fz own) := by
  unfold storeV at hs
  split at hs
  · rename_i vs e fz own hg
    simp only [chk_some, ob_some, Bool.and_eq_true] at hs
    obtain ⟨⟨⟨h1, h2⟩, h3⟩, vs', h4, h5⟩ := hs
    cases h5
    exact ⟨vs, e, fz, own, vs', hg, h1, Nat.le_of_ble_eq_true h2, h3, h4, rfl⟩
  · cases hs

/-- What a store does. -/
theorem HRel.store (R : HRel B w0 ρ h w) {l : Lb} {b : Blk} {off : Nat} {cs : List V} {xs : List Value} {h' : H} (hl : ρ l = some b) (hs : storeV h l off cs = some h') (hr : RVs ρ cs xs) :
    (∀ P, (storeCells ⟨b.block, b.base + off, none⟩ xs).run P w = .ok () (w.setCells b.block (b.base + off) xs)) ∧ HRel B w0 ρ h' (w.setCells b.block (b.base + off) xs) := by
  obtain ⟨vs, e, fz, own, vs', hg, ho, hf, hfl, hp, rfl⟩ := storeV_some hs
  have c : CRel ρ b vs e fz own w := R.obj l b _ hl hg
  have hle := putFrom_le hp
  have hx := hr.length
  have hfit := c.fits
  refine ⟨fun P => ?_, ?_⟩
  · have := run_storeCells_cells (P := P) b.block (b.base + off) xs 0 w (fun j hj => by
        have := c.isSome (i := off + j) (by omega)
        unfold cellAd at this
        rwa [← Nat.add_assoc] at this) (fun j hj => c.free ho _ (by omega) (by omega)) (flats_one hr hfl)
    simpa using this
  · obtain ⟨f1, f2, f3, f4, _⟩ := setCells_frame b.block xs (b.base + off) w
    exact R.change hl hg ho f1 (fun k hk => heap_setCells_ne _ _ _ _ _ hk) f2 f3 f4 (c.put hp hr)

/-! ### new rows -/

theorem shape_alloc_cells (w : World) (arr : Array Value) (e : TypeId) : (w.alloc (.cells arr e)).shape? w.heap.size = some (e, arr.size) := by
  unfold World.shape?; rw [heap_alloc_new]

theorem cell_alloc_cells (w : World) (arr : Array Value) (e : TypeId) (i : Nat) : (w.alloc (.cells arr e)).cell? ⟨w.heap.size, i, none⟩ = arr[i]? := by
  unfold World.cell?; simp only [heap_alloc_new]; simp

theorem frozen_alloc_cells (w : World) (arr : Array Value) (e : TypeId) (i : Nat) : (w.alloc (.cells arr e)).frozen? ⟨w.heap.size, i, none⟩ = false := by
  unfold World.frozen?; simp only [heap_alloc_new]; simp

theorem CRel.new {vs : List V} {xs rest : List Value} (hr : RVs ρ vs xs) (e : TypeId) (fz : Nat) (own : Own) {w : World} :
    CRel ρ (Blk.mk w.heap.size 0 (xs ++ rest).length .nilFunc) vs e fz own (w.alloc (.cells ⟨xs ++ rest⟩ e)) := by
  refine ⟨shape_alloc_cells _ _ _, by have := hr.length; simp; omega, fun i v hv => ?_, fun _ i _ _ => frozen_alloc_cells _ _ _ _, fun _ => ⟨_, 0, 0, heap_alloc_new _, Nat.zero_le _⟩⟩
  obtain ⟨x, h1, h2⟩ := hr.get hv
  refine ⟨x, ?_, h2⟩
  unfold cellAd
  rw [cell_alloc_cells]
  have := (List.getElem?_eq_some_iff.1 h1).1
  simp only [Nat.zero_add]
  have e : (⟨xs ++ rest⟩ : Array Value)[i]? = (xs ++ rest)[i]? := by simp
  rw [e, List.getElem?_append_left this, h1]

/-- A new row for the next label. -/
theorem HRel.row (R : HRel B w0 ρ h w) {vs : List V} {xs : List Value} (hr : RVs ρ vs xs) (rest : List Value) (e : TypeId) (fz : Nat) (own : Own) :
    HRel B w0 (upd ρ h.next (Blk.mk w.heap.size 0 (xs ++ rest).length .nilFunc)) (h.add (.cells vs e fz own)) (w.alloc (.cells ⟨xs ++ rest⟩ e)) :=
  R.add rfl ⟨rfl, rfl⟩ (CRel.new (hr.mono (upd_ext R.fresh)) e fz own)

/-- A row whose label goes over to another one, with more cells behind. -/
theorem HRel.move (R : HRel B w0 ρ h w) {l : Lb} {b : Blk} {vs new : List V} {xs : List Value} {e : TypeId} {fz : Nat} {own : Own} (hl : ρ l = some b) (hg : h.get l = some (.cells vs e fz own)) (ho : own.may = true)
    {off : Nat} (hoff : off ≤ vs.length) (hoff0 : off = 0) (hfz : fz ≤ vs.length) (hr : RVs ρ new xs) (hfl : flats new = true) (hroom : b.base + vs.length + new.length ≤ b.total) :
    (∀ P, (storeCells ⟨b.block, b.base + vs.length, none⟩ xs).run P w = .ok () (w.setCells b.block (b.base + vs.length) xs)) ∧
      HRel B w0 (upd ρ h.next (Blk.mk b.block (b.base + off) b.total .nilFunc)) ((h.del l).add (.cells (dropN off vs ++ new) e (fz - off) own)) (w.setCells b.block (b.base + vs.length) xs) := by
  have c : CRel ρ b vs e fz own w := R.obj l b _ hl hg
  have hx := hr.length
  have E : Ext' ρ (upd ρ h.next (Blk.mk b.block (b.base + off) b.total .nilFunc)) := upd_ext R.fresh
  have hsh := c.shape
  obtain ⟨f1, f2, f3, f4, _⟩ := setCells_frame b.block xs (b.base + vs.length) w
  have hB := R.own l b _ hl hg ho
  have hsome : (h.get l).isSome = true := by rw [hg]; rfl
  have hne : l ≠ h.next := fun e => by rw [e, R.fresh] at hl; cases hl
  refine ⟨fun P => ?_, ?_⟩
  · have := run_storeCells_cells (P := P) b.block (b.base + vs.length) xs 0 w (fun j hj => cell_of_shape hsh (by omega)) (fun j hj => c.free ho _ (by omega) (by omega)) (flats_one hr hfl)
    simpa using this
  · have old : ∀ m q, m ≠ h.next → ((h.del l).add (.cells (dropN off vs ++ new) e (fz - off) own)).get m = some q → h.get m = some q ∧ m ≠ l := fun m q hm hq => by
      rw [H.get_add_ne _ _ (show m ≠ (h.del l).next from hm)] at hq
      by_cases e' : m = l
      · subst e'; rw [H.get_del_self] at hq; cases hq
      · rw [H.get_del_ne _ e'] at hq; exact ⟨hq, e'⟩
    have self : ((h.del l).add (.cells (dropN off vs ++ new) e (fz - off) own)).get h.next = some (.cells (dropN off vs ++ new) e (fz - off) own) := H.get_add_self (h.del l) _
    have apart : ∀ m d q, m ≠ h.next → ρ m = some d → ((h.del l).add (.cells (dropN off vs ++ new) e (fz - off) own)).get m = some q → d.block ≠ b.block := fun m d q hm hd hq e' => by
      obtain ⟨h1, h2⟩ := old m q hm hq
      exact h2 (R.inj m l d b hd hl (by rw [h1]; rfl) hsome e')
    refine ⟨fun m d q hm hq => ?_, fun m d hm => ?_, fun m d hm => ?_, fun m n d d' hm hn im in' e' => ?_, fun m d q hm hq hw => ?_, by rw [f1]; exact R.size, ?_⟩
    · by_cases e' : m = h.next
      · subst e'
        rw [upd_self] at hm
        cases hm
        rw [self] at hq
        cases hq
        refine ⟨by rw [shape_setCells]; exact hsh, by simp [dropN_length]; omega, fun i v hv => ?_, fun _ i hi hl' => ?_, fun ho' => ?_⟩
        · by_cases hi : i < vs.length - off
          · rw [List.getElem?_append_left (by rw [dropN_length]; exact hi), dropN_get] at hv
            obtain ⟨x, h1, h2⟩ := c.cell _ v hv
            refine ⟨x, ?_, h2.mono E⟩
            unfold cellAd at h1 ⊢
            rw [World.cell?_setCells_out]
            · rw [← Nat.add_assoc] at h1; exact h1
            · intro _ _; left; show b.base + off + i < b.base + vs.length; omega
          · rw [List.getElem?_append_right (by rw [dropN_length]; omega), dropN_length] at hv
            obtain ⟨x, h1, h2⟩ := hr.get hv
            obtain ⟨hj, hj'⟩ := List.getElem?_eq_some_iff.1 h1
            refine ⟨x, ?_, h2.mono E⟩
            have := World.cell?_setCells_in b.block xs (b.base + vs.length) w (fun j hj => cell_of_shape hsh (by omega)) (i - (vs.length - off)) hj
            unfold cellAd
            show (w.setCells b.block (b.base + vs.length) xs).cell? ⟨b.block, b.base + off + i, none⟩ = some x
            rw [show b.base + off + i = b.base + vs.length + (i - (vs.length - off)) from by omega, this, hj']
        · rw [World.frozen?_setCells]
          have hi' : b.base + off + (fz - off) ≤ i := hi
          exact c.free ho i (by omega) hl'
        · obtain ⟨c', lo, hi, h1, h2⟩ := c.bare ho'
          obtain ⟨c'', h3⟩ := row_setCells b.block xs (b.base + vs.length) w h1
          exact ⟨c'', lo, hi, h3, by show hi ≤ b.base + off + (fz - off); omega⟩
      · rw [upd_ne e'] at hm
        have := apart m d q e' hm hq
        exact (R.obj m d q hm (old m q e' hq).1).of_block E (heap_setCells_ne _ _ _ _ _ this)
    · by_cases e' : m = h.next
      · subst e'; show val h.next < val (inc h.next); rw [val_inc]; omega
      · rw [upd_ne e'] at hm
        have := R.lt m d hm
        show val m < val (inc h.next)
        rw [val_inc]; omega
    · by_cases e' : m = h.next
      · subst e'; rw [upd_self] at hm; cases hm; have := (R.base l b hl).1; exact ⟨by show b.base + off = 0; omega, .nil rfl⟩
      · rw [upd_ne e'] at hm; exact R.base m d hm
    · obtain ⟨q, hq⟩ := Option.isSome_iff_exists.1 im
      obtain ⟨q', hq'⟩ := Option.isSome_iff_exists.1 in'
      by_cases e1 : m = h.next
      · by_cases e2 : n = h.next
        · rw [e1, e2]
        · rw [upd_ne e2] at hn
          have := apart n d' q' e2 hn hq'
          subst e1
          rw [upd_self] at hm
          cases hm
          exact absurd e'.symm this
      · rw [upd_ne e1] at hm
        by_cases e2 : n = h.next
        · have := apart m d q e1 hm hq
          subst e2
          rw [upd_self] at hn
          cases hn
          exact absurd e' this
        · rw [upd_ne e2] at hn
          exact R.inj m n d d' hm hn (by rw [(old m q e1 hq).1]; rfl) (by rw [(old n q' e2 hq').1]; rfl) e'
    · by_cases e' : m = h.next
      · subst e'; rw [upd_self] at hm; cases hm; exact hB
      · rw [upd_ne e'] at hm
        exact R.own m d q hm (old m q e' hq).1 hw
    · exact R.below.trans ⟨f2, f3, f4, by rw [f1]; exact Nat.le_refl _, fun k hk => heap_setCells_ne _ _ _ _ _ (by omega)⟩

/-! ### maps, iterators -/

theorem setBlock_frame (w : World) (r : Nat) (o : Go.Obj) : ({ w with heap := w.heap.setIfInBounds r o } : World).heap.size = w.heap.size ∧ ∀ k, k ≠ r → ({ w with heap := w.heap.setIfInBounds r o } : World).heap[k]? = w.heap[k]? :=
  ⟨by simp, fun k hk => by simp [Array.getElem?_setIfInBounds, Ne.symm hk]⟩

/-- An object that is no row, changed. -/
theorem HRel.setObj (R : HRel B w0 ρ h w) {l : Lb} {b : Blk} {o p : Obj} {x : Go.Obj} (hl : ρ l = some b) (ho : h.get l = some o) (hw : o.writes = true)
    (hp : ∀ w' : World, w'.heap[b.block]? = some x → ORel ρ b w' p) : HRel B w0 ρ (h.set l p) { w with heap := w.heap.setIfInBounds b.block x } := by
  have hlt := (R.obj l b o hl ho).lt
  obtain ⟨f1, f2⟩ := setBlock_frame w b.block x
  exact R.change hl ho hw f1 f2 rfl rfl rfl (hp _ (by simp [Array.getElem?_setIfInBounds, hlt]))

end
end Go.Dx
