/-
  The deterministic machine over labels against the model: heaps.
-/
import Derived.Test.YtkbjonoiecljiaaGreatDoorDxRel
namespace Go.Dx
open Go Go.RowKit

/-- Entries of a map. -/
inductive REs (ρ : Rho) : List (V × V × Nat) → List MapEntry → Prop
  | nil : REs ρ [] []
  | cons {k v : V} {n : Nat} {m : MapEntry} {es : List (V × V × Nat)} {ms : List MapEntry} (hk : RV ρ k m.key) (hv : RV ρ v m.val) (hn : m.born = n) (hs : REs ρ es ms) :
      REs ρ ((k, v, n) :: es) (m :: ms)

theorem REs.mono {ρ ρ' : Rho} (e : Ext' ρ ρ') {es : List (V × V × Nat)} {ms : List MapEntry} (h : REs ρ es ms) : REs ρ' es ms := by
  induction h with
  | nil => exact .nil
  | cons hk hv hn _ ih => exact .cons (hk.mono e) (hv.mono e) hn ih

theorem REs.length {ρ : Rho} {es : List (V × V × Nat)} {ms : List MapEntry} (h : REs ρ es ms) : es.length = ms.length := by
  induction h with
  | nil => rfl
  | cons _ _ _ _ ih => simp [ih]

/-- Cells of a block. -/
def cellAd (b : Blk) (i : Nat) : Addr := ⟨b.block, b.base + i, none⟩

structure CRel (ρ : Rho) (b : Blk) (vs : List V) (e : TypeId) (fz : Nat) (own : Own) (w : World) : Prop where
  shape : w.shape? b.block = some (e, b.total)
  fits : b.base + vs.length ≤ b.total
  cell : ∀ i v, vs[i]? = some v → ∃ x, w.cell? (cellAd b i) = some x ∧ RV ρ v x
  free : own.may = true → ∀ i, b.base + fz ≤ i → i < b.total → w.frozen? ⟨b.block, i, none⟩ = false
  bare : own = .yes → ∃ c lo hi, w.heap[b.block]? = some (.cells c e (lo, hi)) ∧ hi ≤ b.base + fz

def ORel (ρ : Rho) (b : Blk) (w : World) : Obj → Prop
  | .cells vs e fz own => CRel ρ b vs e fz own w
  | .map es clock => ∃ ms : Array MapEntry, w.heap[b.block]? = some (.map ms clock) ∧ REs ρ es ms.toList
  | .strIter s pos => ∃ t : ByteArray, w.heap[b.block]? = some (.stringIter t pos) ∧ s = natsOf t ∧ b.base = 0
  | .mapIter m since seen st => b.base = 0 ∧ ∃ m' : Option Nat, w.heap[b.block]? = some (.mapIter m' since ⟨seen⟩ st) ∧ (match m with
    | none => m' = none
    | some l => ∃ c, ρ l = some c ∧ m' = some c.block)

/-- May it be written? -/
def Obj.writes : Obj → Bool
  | .cells _ _ _ own => own.may
  | _ => true

/-- A letter, a figure, '.', '-' or '_'. -/
def nameC (c : Nat) : Bool := c == 46 || c == 45 || c == 95 || (decide (48 ≤ c) && decide (c ≤ 57)) || (decide (97 ≤ c) && decide (c ≤ 122)) || (decide (65 ≤ c) && decide (c ≤ 90))
/-- Whether a text is somebody's name. -/
def nameB (s : ByteArray) : Bool := (s.data.toList.all fun c => nameC c.toNat) && decide (0 < s.size) && decide (s.size ≤ 24)

/-- A value that came in. A slice: its cells lie ahead of the machine's own blocks. Of the sizes 3, 2: a text that is a name, one that is none. -/
structure ValOk (B : Nat) (w0 : World) (b : Blk) : Prop where
  slice : 3 < b.total → ∀ a n c, b.val = .slice (some a) n c → a.block < B ∧ a.spot = none ∧ n * 80 ≤ 140737488355328 ∧ ∀ j, j < n * b.total → (w0.cell? ⟨a.block, a.off + j, none⟩).isSome = true
  row : b.val ≠ .nilFunc → 3 < b.total → b.val = .slice none 0 0 ∨ ∃ a n c, b.val = .slice (some a) n c
  good : b.val ≠ .nilFunc → b.total = 3 → ∃ s, b.val = .string s ∧ (s.size : Int) ≤ 9223372036854775807 ∧ nameB s = true
  bad : b.val ≠ .nilFunc → b.total = 2 → ∃ s, b.val = .string s ∧ (s.size : Int) ≤ 9223372036854775807 ∧ nameB s = false

theorem ValOk.nil {B : Nat} {w0 : World} {b : Blk} (h : b.val = .nilFunc) : ValOk B w0 b :=
  ⟨(fun _ _ _ _ e => by rw [h] at e; cases e), fun e => absurd h e, fun e => absurd h e, fun e => absurd h e⟩

/-- 'B': from which block number on the machine's own blocks lie; 'w0': the world in which it began. -/
structure HRel (B : Nat) (w0 : World) (ρ : Rho) (h : H) (w : World) : Prop where
  obj : ∀ l b o, ρ l = some b → h.get l = some o → ORel ρ b w o
  lt : ∀ l b, ρ l = some b → val l < val h.next
  base : ∀ l b, ρ l = some b → b.base = 0 ∧ ValOk B w0 b
  inj : ∀ l m b c, ρ l = some b → ρ m = some c → (h.get l).isSome = true → (h.get m).isSome = true → b.block = c.block → l = m
  own : ∀ l b o, ρ l = some b → h.get l = some o → o.writes = true → B ≤ b.block
  size : B ≤ w.heap.size
  below : Below B w0 w

/-! ### what a world's blocks say -/

theorem shape_lt {w : World} {b : Nat} {s : TypeId × Nat} (h : w.shape? b = some s) : b < w.heap.size := by
  rcases Nat.lt_or_ge b w.heap.size with h' | h'
  · exact h'
  · simp [World.shape?, Array.getElem?_eq_none h'] at h

theorem heap_lt {w : World} {b : Nat} {o : Go.Obj} (h : w.heap[b]? = some o) : b < w.heap.size := (Array.getElem?_eq_some_iff.1 h).1

theorem ORel.lt {ρ : Rho} {b : Blk} {w : World} {o : Obj} (h : ORel ρ b w o) : b.block < w.heap.size := by
  cases o with
  | cells vs e fz own => exact shape_lt h.shape
  | map es c => obtain ⟨ms, h, _⟩ := h; exact heap_lt h
  | strIter s p => obtain ⟨t, h, _⟩ := h; exact heap_lt h
  | mapIter m a s t => obtain ⟨_, m', h, _⟩ := h; exact heap_lt h

theorem world_of_block {w w' : World} {b : Nat} (h : w'.heap[b]? = w.heap[b]?) :
    w'.shape? b = w.shape? b ∧ (∀ i, w'.cell? ⟨b, i, none⟩ = w.cell? ⟨b, i, none⟩) ∧ (∀ i, w'.frozen? ⟨b, i, none⟩ = w.frozen? ⟨b, i, none⟩) := by
  refine ⟨?_, fun i => ?_, fun i => ?_⟩
  · simp only [World.shape?, h]
  · simp only [World.cell?, h]
  · simp only [World.frozen?, h]

/-- An object whose block is as it was. -/
theorem ORel.of_block {ρ ρ' : Rho} (e : Ext' ρ ρ') {b : Blk} {w w' : World} {o : Obj} (h : ORel ρ b w o) (hb : w'.heap[b.block]? = w.heap[b.block]?) : ORel ρ' b w' o := by
  obtain ⟨h1, h2, h3⟩ := world_of_block hb
  cases o with
  | cells vs el fz own =>
    refine ⟨by rw [h1]; exact h.shape, h.fits, fun i v hv => ?_, fun ho i hi hl => by rw [h3]; exact h.free ho i hi hl, fun ho => by rw [hb]; exact h.bare ho⟩
    obtain ⟨x, hx, r⟩ := h.cell i v hv
    exact ⟨x, by unfold cellAd; rw [h2]; exact hx, r.mono e⟩
  | map es c => obtain ⟨ms, h, r⟩ := h; exact ⟨ms, by rw [hb]; exact h, r.mono e⟩
  | strIter s p => obtain ⟨t, h, r⟩ := h; exact ⟨t, by rw [hb]; exact h, r⟩
  | mapIter m a s t =>
    obtain ⟨h0, m', h, r⟩ := h
    refine ⟨h0, m', by rw [hb]; exact h, ?_⟩
    cases m with
    | none => exact r
    | some l => obtain ⟨c, hc, r⟩ := r; exact ⟨c, e _ _ hc, r⟩

section
variable {B : Nat} {w0 : World} {ρ : Rho} {h : H} {w : World}

/-- A world that has the same blocks. -/
theorem HRel.same (R : HRel B w0 ρ h w) {w' : World} (hh : w'.heap = w.heap) (hb : Below B w0 w') : HRel B w0 ρ h w' :=
  ⟨fun l b o hl ho => (R.obj l b o hl ho).of_block (Ext'.refl _) (by rw [hh]), R.lt, R.base, R.inj, R.own, by rw [hh]; exact R.size, hb⟩

theorem HRel.drew (R : HRel B w0 ρ h w) : HRel B w0 ρ h { w with drawn := w.drawn + 1 } := R.same rfl R.below.drew

/-- One more label. -/
def upd (ρ : Rho) (l : Lb) (b : Blk) : Rho := fun m => if m = l then some b else ρ m

theorem upd_self (ρ : Rho) (l : Lb) (b : Blk) : upd ρ l b l = some b := by simp [upd]
theorem upd_ne {ρ : Rho} {l m : Lb} {b : Blk} (h : m ≠ l) : upd ρ l b m = ρ m := by simp [upd, h]
theorem upd_ext {ρ : Rho} {l : Lb} {b : Blk} (h : ρ l = none) : Ext' ρ (upd ρ l b) := fun m c hm => by
  by_cases e : m = l
  · subst e; rw [h] at hm; cases hm
  · rw [upd_ne e]; exact hm

theorem HRel.fresh (R : HRel B w0 ρ h w) : ρ h.next = none := by
  cases hn : ρ h.next with
  | none => rfl
  | some b => exact absurd (R.lt _ _ hn) (Nat.lt_irrefl _)

theorem H.get_add_self (h : H) (o : Obj) : (h.add o).get h.next = some o := T.get_set_self _ _ _
theorem H.get_add_ne (h : H) (o : Obj) {l : Lb} (hl : l ≠ h.next) : (h.add o).get l = h.get l := T.get_set_ne _ _ _ _ (Ne.symm hl)
theorem H.get_set_self (h : H) (l : Lb) (o : Obj) : (h.set l o).get l = some o := T.get_set_self _ _ _
theorem H.get_set_ne (h : H) {l m : Lb} (o : Obj) (hm : m ≠ l) : (h.set l o).get m = h.get m := T.get_set_ne _ _ _ _ (Ne.symm hm)
theorem H.get_del_self (h : H) (l : Lb) : (h.del l).get l = none := T.get_set_self _ _ _
theorem H.get_del_ne (h : H) {l m : Lb} (hm : m ≠ l) : (h.del l).get m = h.get m := T.get_set_ne _ _ _ _ (Ne.symm hm)

theorem heap_alloc_old {w : World} (o : Go.Obj) {k : Nat} (hk : k < w.heap.size) : (w.alloc o).heap[k]? = w.heap[k]? := Below.heap_alloc w o k hk
theorem heap_alloc_new {w : World} (o : Go.Obj) : (w.alloc o).heap[w.heap.size]? = some o := by show (w.heap.push o)[w.heap.size]? = _; simp

/-- A new block for a label that has none ('l' is the next one, or one that was made ahead): the heap has the object already, or gets it. -/
theorem HRel.laid (R : HRel B w0 ρ h w) {h' : H} {l : Lb} {o : Obj} {x : Go.Obj} {b : Blk} (hb : b.block = w.heap.size) (hb0 : b.base = 0 ∧ b.val = .nilFunc) (hl : ρ l = none) (hlt : val l < val h'.next) (hnx : val h.next ≤ val h'.next)
    (hget : h'.get l = some o) (hold : ∀ m, m ≠ l → h'.get m = h.get m) (ho : ORel (upd ρ l b) b (w.alloc x) o) :
    HRel B w0 (upd ρ l b) h' (w.alloc x) := by
  have E := upd_ext (b := b) hl
  refine ⟨fun m c p hm hp => ?_, fun m c hm => ?_, fun m c hm => ?_, fun m n c d hm hn im in' e => ?_, fun m c p hm hp hw => ?_, ?_, R.below.alloc R.size _⟩
  · by_cases e : m = l
    · subst e
      rw [upd_self] at hm
      cases hm
      rw [hget] at hp
      cases hp
      exact ho
    · rw [upd_ne e] at hm
      rw [hold m e] at hp
      have q := R.obj m c p hm hp
      exact q.of_block E (heap_alloc_old _ q.lt)
  · by_cases e : m = l
    · subst e; exact hlt
    · rw [upd_ne e] at hm; exact Nat.lt_of_lt_of_le (R.lt m c hm) hnx
  · by_cases e : m = l
    · subst e; rw [upd_self] at hm; cases hm; exact ⟨hb0.1, .nil hb0.2⟩
    · rw [upd_ne e] at hm; exact R.base m c hm
  · by_cases e1 : m = l
    · by_cases e2 : n = l
      · rw [e1, e2]
      · subst e1
        rw [upd_self] at hm
        rw [upd_ne e2] at hn
        cases hm
        rw [hold n e2] at in'
        obtain ⟨p, hp⟩ := Option.isSome_iff_exists.1 in'
        have := (R.obj n d p hn hp).lt
        omega
    · by_cases e2 : n = l
      · subst e2
        rw [upd_self] at hn
        rw [upd_ne e1] at hm
        cases hn
        rw [hold m e1] at im
        obtain ⟨p, hp⟩ := Option.isSome_iff_exists.1 im
        have := (R.obj m c p hm hp).lt
        omega
      · rw [upd_ne e1] at hm
        rw [upd_ne e2] at hn
        rw [hold m e1] at im
        rw [hold n e2] at in'
        exact R.inj m n c d hm hn im in' e
  · by_cases e : m = l
    · subst e
      rw [upd_self] at hm
      cases hm
      rw [hb]; exact R.size
    · rw [upd_ne e] at hm
      rw [hold m e] at hp
      exact R.own m c p hm hp hw
  · show B ≤ (w.heap.push x).size
    simp
    exact Nat.le_succ_of_le R.size

/-- The next label. -/
theorem HRel.add (R : HRel B w0 ρ h w) {o : Obj} {x : Go.Obj} {b : Blk} (hb : b.block = w.heap.size) (hb0 : b.base = 0 ∧ b.val = .nilFunc) (ho : ORel (upd ρ h.next b) b (w.alloc x) o) :
    HRel B w0 (upd ρ h.next b) (h.add o) (w.alloc x) :=
  R.laid hb hb0 R.fresh (by show val h.next < val (inc h.next); rw [val_inc]; omega) (by show val h.next ≤ val (inc h.next); rw [val_inc]; omega) (h.get_add_self o) (fun m e => h.get_add_ne o e) ho

/-- An object changed in place: its block alone. -/
theorem HRel.change (R : HRel B w0 ρ h w) {l : Lb} {b : Blk} {o p : Obj} {w' : World} (hl : ρ l = some b) (ho : h.get l = some o) (hw : o.writes = true)
    (hsz : w'.heap.size = w.heap.size) (hold : ∀ k, k ≠ b.block → w'.heap[k]? = w.heap[k]?) (hos : w'.os = w.os) (htape : w'.tape = w.tape) (hout : w'.output = w.output)
    (hp : ORel ρ b w' p) : HRel B w0 ρ (h.set l p) w' := by
  have hB := R.own l b o hl ho hw
  have hsome : (h.get l).isSome = true := by rw [ho]; rfl
  refine ⟨fun m c q hm hq => ?_, R.lt, R.base, fun m n c d hm hn im in' e => ?_, fun m c q hm hq hw' => ?_, by rw [hsz]; exact R.size, ?_⟩
  · by_cases e : m = l
    · subst e
      rw [H.get_set_self] at hq
      rw [hl] at hm
      cases hm; cases hq
      exact hp
    · rw [H.get_set_ne _ _ e] at hq
      refine (R.obj m c q hm hq).of_block (Ext'.refl _) (hold _ fun e' => e (R.inj m l c b hm hl (by rw [hq]; rfl) hsome e'))
  · have g : ∀ k, ((h.set l p).get k).isSome = true → (h.get k).isSome = true := fun k hk => by
      by_cases e' : k = l
      · rw [e']; exact hsome
      · rwa [H.get_set_ne _ _ e'] at hk
    exact R.inj m n c d hm hn (g m im) (g n in') e
  · by_cases e : m = l
    · subst e; rw [hl] at hm; cases hm; exact hB
    · rw [H.get_set_ne _ _ e] at hq
      exact R.own m c q hm hq hw'
  · exact R.below.trans ⟨hos, htape, hout, by rw [hsz]; exact Nat.le_refl _, fun k hk => hold k (by omega)⟩

/-- A label that is done with. -/
theorem HRel.del (R : HRel B w0 ρ h w) (l : Lb) : HRel B w0 ρ (h.del l) w := by
  have g : ∀ k o, (h.del l).get k = some o → h.get k = some o := fun k o hk => by
    by_cases e : k = l
    · subst e; rw [H.get_del_self] at hk; cases hk
    · rwa [H.get_del_ne _ e] at hk
  refine ⟨fun m c q hm hq => R.obj m c q hm (g m q hq), R.lt, R.base, fun m n c d hm hn im in' e => ?_, fun m c q hm hq => R.own m c q hm (g m q hq), R.size, R.below⟩
  obtain ⟨p, hp⟩ := Option.isSome_iff_exists.1 im
  obtain ⟨q, hq⟩ := Option.isSome_iff_exists.1 in'
  exact R.inj m n c d hm hn (by rw [g m p hp]; rfl) (by rw [g n q hq]; rfl) e

end
end Go.Dx
