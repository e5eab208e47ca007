/-
  The deterministic machine over labels against the model: append, copy, texts and bytes.
-/
import Derived.Test.YtkbjonoiecljiaaGreatDoorDxEffA
namespace Go.Dx
open Go Go.RowKit

section
variable {P : Program} {B : Nat} {w0 : World} {ρ ρ' : Rho} {h h' : H} {w : World}

/-- What an append's second argument yields. -/
structure Feeds (P : Program) (w : World) (t tx ty e : TypeId) (i : TypeInfo) (z : Value) (x : Value) (n : Nat) (news : List Value) : Prop where
  room : ∀ (base : Option Addr) (sLen sCap : Nat), sLen + n ≤ sCap → (Builtin.append_ #[t, tx] ty #[.slice base sLen sCap, x]).run P w =
    ((do (match base with | some a => storeCells (a.add (sLen * i.size)) news | none => pure ()); pure (Value.slice base (sLen + n) sCap)) : Sem Value).run P w
  grow : ∀ (base : Option Addr) (sLen sCap : Nat) (olds : List Value), 0 < n → (Builtin.firstCells i.size sLen (.slice base sLen sCap)).run P w.drew = .ok olds.toArray w.drew → sCap < sLen + n → ((sLen + n : Nat) : Int) ≤ 9223372036854775807 →
    Builtin.nextslicecap (sLen + n) sCap * i.bytes ≤ 281474976710656 → (Builtin.append_ #[t, tx] ty #[.slice base sLen sCap, x]).run P w =
      .ok (.slice (some ⟨w.heap.size, 0, none⟩) (sLen + n) (grownCap w (sLen + n) sCap e)) (w.drew.alloc (.cells ((olds ++ news).toArray ++ Builtin.zeroCells z.cells (grownCap w (sLen + n) sCap e - (sLen + n))) e))

theorem feeds_src (t tx ty e : TypeId) (i : TypeInfo) (z : Value) (ht : P.underlying t = some (.slice e)) (hi : P.info? e = some i) (hz : i.zero = some z) (hk : (∃ e', P.underlying tx = some (.slice e')) ∨ P.underlying tx = some .string)
    (x : Value) (n : Nat) (news : List Value) (hlen : ∀ w' : World, (Builtin.lenOf x).run P w' = .ok n w') (hc : (Builtin.firstCells i.size n x).run P w = .ok news.toArray w) (hcD : (Builtin.firstCells i.size n x).run P w.drew = .ok news.toArray w.drew) :
    Feeds P w t tx ty e i z x n news := by
  refine ⟨fun base sLen sCap hroom => ?_, fun base sLen sCap olds hpos hold hg h63 hfit => ?_⟩
  · rcases hk with ⟨e', hk⟩ | hk <;> cases base <;> simp [Builtin.append_, run_underlying ht, run_underlying hk, sizeOf, typeInfo, hi, hlen, hroom, hc]
  · have hn : ¬ (sLen + n ≤ sCap) := by omega
    have h63' : ¬ (9223372036854775807 < ((sLen : Int) + (n : Int))) := by omega
    have h48' : ¬ (281474976710656 < Builtin.nextslicecap (sLen + n) sCap * i.bytes) := by omega
    rcases hk with ⟨e', hk⟩ | hk <;>
      (simp [Builtin.append_, run_underlying ht, run_underlying hk, sizeOf, typeInfo, zeroValue, hi, hz, hlen, hn, h63', h48', Question.forced, hcD, hold, newRow, grownCap]
       congr 2
       apply Array.ext'
       simp [List.append_assoc])

theorem feeds_zeros (t tx ty e : TypeId) (i : TypeInfo) (z : Value) {kn : IntKind} (ht : P.underlying t = some (.slice e)) (hi : P.info? e = some i) (hz : i.zero = some z) (hk : P.underlying tx = some (.int kn)) (h0 : 0 < i.size)
    (n : Nat) (hn : n * i.bytes ≤ 281474976710656) (hn63 : (n : Int) ≤ 9223372036854775807) : Feeds P w t tx ty e i z (.int .i64 n) n (Builtin.zeroCells z.cells n).toList := by
  have hw : IntKind.i64.wrap (n : Int) = n := by rw [IntKind.wrap_i64]; omega
  have h48i : ¬ (281474976710656 < (n : Int) * (i.bytes : Int)) := by
    rw [← Int.natCast_mul]
    omega
  have hneg : ¬ ((n : Int) < 0) := by omega
  refine ⟨fun base sLen sCap hroom => ?_, fun base sLen sCap olds hpos hold hg h63 hfit => ?_⟩
  · by_cases hn0 : n = 0
    · subst hn0
      have hw0 : IntKind.i64.wrap 0 = 0 := hw
      have hr : sLen ≤ sCap := hroom
      cases base <;> simp [Builtin.append_, run_underlying ht, run_underlying hk, sizeOf, typeInfo, zeroValue, hi, hz, asInt, asIntOf, hw0, hr, Builtin.zeroCells, storeCells]
    · have hns : ¬ (n * i.size = 0) := Nat.mul_ne_zero hn0 (by omega)
      cases base <;> simp [Builtin.append_, run_underlying ht, run_underlying hk, sizeOf, typeInfo, zeroValue, hi, hz, asInt, asIntOf, hw, hneg, hns, h48i, hroom]
  · have := Lib.run_append_grow_zeros (P := P) w t tx ty e i z .i64 kn ht hk hi hz base sLen sCap olds hold n hpos h0 hg h63 hn hfit
    rw [this]
    congr 2
    apply congrArg (fun a => Go.Obj.cells a e)
    apply Array.ext'
    simp [List.append_assoc]


/-- A row read as a slice's first elements. -/
theorem CRel.first {b : Blk} {vs r : List V} {e : TypeId} {fz : Nat} {own : Own} (c : CRel ρ b vs e fz own w) {size n off : Nat} (hr : rowFrom vs off (n * size) = some r) :
    ∃ xs : List Value, RVs ρ r xs ∧ xs.length = n * size ∧ ∀ len cap, (Builtin.firstCells size n (.slice (some ⟨b.block, b.base + off, none⟩) len cap)).run P w = .ok xs.toArray w ∧
      (Builtin.firstCells size n (.slice (some ⟨b.block, b.base + off, none⟩) len cap)).run P w.drew = .ok xs.toArray w.drew := by
  obtain ⟨xs, r1, r2, r3⟩ := c.range hr
  refine ⟨xs, r1, r2, fun len cap => ⟨?_, ?_⟩⟩
  · exact run_firstCells_some w size n _ len cap xs r2 fun j v hv => by rw [addr_add]; exact r3 j v hv
  · exact run_firstCells_some w.drew size n _ len cap xs r2 fun j v hv => by rw [addr_add, World.cell?_drew]; exact r3 j v hv

theorem zeroCells_rv {z : V} {x : Value} (hx : RV ρ z x) {s : Nat} (hs : z.cells.length = s) (h0 : 0 < s) (n : Nat) : RVs ρ (repeatCells z.cells n) (Builtin.zeroCells x.cells n).toList := by
  have := hx.cells.repeat hs h0 n
  have hsz : x.cells.size = s := by have := hx.cells.length; simp at this; omega
  unfold Builtin.zeroCells
  simp only [hsz] at this ⊢
  exact this

/-- A row that is made behind a draw. -/
theorem HRel.grown (R : HRel B w0 ρ h w) {vs : List V} {xs : List Value} (hr : RVs ρ vs xs) {need old size : Nat} {e : TypeId} {z : Value} (hl : xs.length = need * size) (hz : z.cells.size = size) (fz : Nat) (own : Own) :
    HRel B w0 (upd ρ h.next (Blk.mk w.heap.size 0 (grownCap w need old e * size) .nilFunc)) (h.add (.cells vs e fz own)) (w.drew.alloc (.cells (xs.toArray ++ Builtin.zeroCells z.cells (grownCap w need old e - need)) e)) := by
  have hge := grownCap_ge w need old e
  have R' := (R.drew).row hr (Builtin.zeroCells z.cells (grownCap w need old e - need)).toList e fz own
  have e1 : (xs ++ (Builtin.zeroCells z.cells (grownCap w need old e - need)).toList).length = grownCap w need old e * size := by
    have := size_zeroCells z.cells (grownCap w need old e - need)
    simp only [List.length_append, Array.length_toList, this, hl, hz]
    rw [← Nat.add_mul]; congr 1; omega
  have e2 : (⟨xs ++ (Builtin.zeroCells z.cells (grownCap w need old e - need)).toList⟩ : Array Value) = xs.toArray ++ Builtin.zeroCells z.cells (grownCap w need old e - need) := by
    apply Array.ext'; simp
  rw [e1, e2] at R'
  exact R'

theorem append_ok {t tx ty e : TypeId} {i : TypeInfo} {z sx x : Value} {n size bytes : Nat} {news : List Value} {new : List V} {s v : V} (hF : Feeds P w t tx ty e i z x n news) (hsize : i.size = size) (hbytes : i.bytes = bytes) (h0 : 0 < size) (hb0 : 0 < bytes) (hz : z.cells.size = size)
    (R : HRel B w0 ρ h w) (hs : RV ρ s sx) (hn : RVs ρ new news) (hlen : new.length = n * size) (happ : appendV h e size bytes s n new = some (v, h')) :
    ∃ ρ' y w', Step ρ ρ' h h' ∧ RV ρ' v y ∧ HRel B w0 ρ' h' w' ∧ (Builtin.append_ #[t, tx] ty #[sx, x]).run P w = .ok y w' := by
  subst hsize hbytes
  have hnl : news.length = n * i.size := by rw [← hn.length, hlen]
  have fit : ∀ {len c : Nat}, 4 * (len + n) * i.bytes ≤ mostBytes → c < len + n → ((len + n : Nat) : Int) ≤ 9223372036854775807 ∧ Builtin.nextslicecap (len + n) c * i.bytes ≤ 281474976710656 := fun {len c} hm hc => by
    have hm : 4 * (len + n) * i.bytes ≤ 1099511627776 := hm
    have h1 := nextslicecap_le hc
    have h2 : Builtin.nextslicecap (len + n) c * i.bytes ≤ 2 * (len + n) * i.bytes := Nat.mul_le_mul_right _ h1
    have h3 : 4 * (len + n) * 1 ≤ 4 * (len + n) * i.bytes := Nat.mul_le_mul_left _ hb0
    have h4 : 4 * (len + n) * i.bytes = 2 * (len + n) * i.bytes + 2 * (len + n) * i.bytes := by
      rw [← Nat.add_mul]; congr 1; omega
    omega
  unfold appendV at happ
  split at happ
  · rename_i c
    cases hs
    split at happ
    · rename_i hc
      have hc := Nat.le_of_ble_eq_true hc
      simp only [chk_some, Option.some.injEq, Prod.mk.injEq] at happ
      obtain ⟨hn0, rfl, rfl⟩ := happ
      have hn0 : n = 0 := Nat.eq_of_beq_eq_true hn0
      subst hn0
      refine ⟨ρ, _, w, Step.refl _ _, .nilSlice c, R, ?_⟩
      rw [hF.room none 0 c (by omega)]
      rfl
    · rename_i hc
      have hc : ¬ n ≤ c := fun h => by have := Nat.ble_eq_true_of_le h; rw [this] at hc; cases hc
      simp only [chk_some, Option.some.injEq, Prod.mk.injEq] at happ
      obtain ⟨hm, rfl, rfl⟩ := happ
      have hm := Nat.le_of_ble_eq_true hm
      obtain ⟨f1, f2⟩ := fit (len := 0) (c := c) (by simpa using hm) (by omega)
      have hg := hF.grow none 0 c [] (by omega) (run_firstCells_none w.drew _ 0 0 c) (by omega) f1 f2
      have R' := R.grown (need := 0 + n) (old := c) (size := i.size) (e := e) (z := z) hn (by simpa using hnl) hz 0 .yes
      refine ⟨_, _, _, Step.add _ _ _ _, .sliceEnd 0 n i.size (grownCap w (0 + n) c e) (upd_self _ _ _) ?_ ?_, R', ?_⟩
      · have := grownCap_ge w (0 + n) c e; omega
      · simp
      · rw [hg]; simp
  · rename_i l off len cap
    simp only [chk_some] at happ
    obtain ⟨hm, happ⟩ := happ
    have hm := Nat.le_of_ble_eq_true hm
    split at happ
    · rename_i c
      cases hs with
      | slice _ _ _ hb =>
      rename_i b
      split at happ
      · rename_i hc
        have hc := Nat.le_of_ble_eq_true hc
        simp only [ob_some, Option.some.injEq, Prod.mk.injEq] at happ
        obtain ⟨h1, hst, rfl, rfl⟩ := happ
        obtain ⟨s1, s2⟩ := R.store hb hst hn
        obtain ⟨_, _, _, _, _, _, _, _, _, _, rfl⟩ := storeV_some hst
        refine ⟨ρ, _, _, Step.same rfl, .slice off (len + n) c hb, s2, ?_⟩
        rw [hF.room _ _ _ hc]
        simp only [Sem.run_bind, addr_add, Nat.add_assoc, s1 P, Result.andThen_ok, Sem.run_pure]
      · rename_i hc
        have hc : ¬ len + n ≤ c := fun h => by have := Nat.ble_eq_true_of_le h; rw [this] at hc; cases hc
        split at happ
        · rename_i vs el fz own hg
          simp only [chk_some, ob_some, Option.some.injEq, Prod.mk.injEq] at happ
          obtain ⟨hn0, old, ho, rfl, rfl⟩ := happ
          have hn0 : 0 < n := by simpa using hn0
          obtain ⟨f1, f2⟩ := fit (len := len) (c := c) hm (by omega)
          have cr : CRel ρ b vs el fz own w := R.obj l b _ hb hg
          obtain ⟨xs, r1, r2, r3⟩ := cr.first (P := P) ho
          have hgr := hF.grow (some ⟨b.block, b.base + off, none⟩) len c xs hn0 (r3 len c).2 (by omega) f1 f2
          have R' := R.grown (need := len + n) (old := c) (size := i.size) (e := e) (z := z) (r1.append hn) (by simp [r2, hnl, Nat.add_mul]) hz 0 .yes
          refine ⟨_, _, _, Step.add _ _ _ _, .sliceEnd 0 (len + n) i.size (grownCap w (len + n) c e) (upd_self _ _ _) (grownCap_ge w (len + n) c e) (by simp), R', ?_⟩
          rw [hgr]
        · cases happ
    · rename_i es
      cases hs with
      | sliceEnd _ _ _ c hb hlc hcap =>
      rename_i b
      simp only [chk_some] at happ
      obtain ⟨he, happ⟩ := happ
      have he : es = i.size := Nat.eq_of_beq_eq_true he
      subst he
      split at happ
      · rename_i vs el fz own hg
        simp only [chk_some, Bool.and_eq_true] at happ
        obtain ⟨⟨hown, hel⟩, happ⟩ := happ
        have hel : el = e := Nat.eq_of_beq_eq_true hel
        subst hel
        have cr : CRel ρ b vs el fz own w := R.obj l b _ hb hg
        have hfits := cr.fits
        have hbase := (R.base l b hb).1
        split at happ
        · rename_i hin
          have hin := Nat.le_of_ble_eq_true hin
          simp only [ob_some, Option.some.injEq, Prod.mk.injEq] at happ
          obtain ⟨h1, hst, rfl, rfl⟩ := happ
          obtain ⟨s1, s2⟩ := R.store hb hst hn
          obtain ⟨_, _, _, _, _, _, _, _, _, _, rfl⟩ := storeV_some hst
          have hc : len + n ≤ c := by
            have : (len + n) * i.size ≤ c * i.size := by omega
            exact Nat.le_of_mul_le_mul_right this h0
          refine ⟨ρ, _, _, Step.same rfl, .sliceEnd off (len + n) i.size c hb hc hcap, s2, ?_⟩
          rw [hF.room _ _ _ hc]
          simp only [Sem.run_bind, addr_add, Nat.add_assoc, s1 P, Result.andThen_ok, Sem.run_pure]
        · simp only [chk_some, Option.some.injEq, Prod.mk.injEq, Bool.and_eq_true] at happ
          obtain ⟨⟨⟨⟨ho0, hov⟩, hfz⟩, hfl⟩, rfl, rfl⟩ := happ
          have ho0 : off = 0 := Nat.eq_of_beq_eq_true ho0
          have hov : off + len * i.size = vs.length := Nat.eq_of_beq_eq_true hov
          have hfz := Nat.le_of_ble_eq_true hfz
          subst ho0
          have hvl : vs.length = len * i.size := by omega
          by_cases hc : len + n ≤ c
          · have hroom : b.base + vs.length + new.length ≤ b.total := by
              have : (len + n) * i.size ≤ c * i.size := Nat.mul_le_mul_right _ hc
              rw [Nat.add_mul] at this
              omega
            obtain ⟨m1, m2⟩ := R.move hb hg hown (off := 0) (by omega) rfl hfz hn hfl hroom
            refine ⟨_, _, _, ⟨fun m hm => upd_ne fun e' => ?_, ?_⟩, .sliceEnd 0 (len + n) i.size c (upd_self _ _ _) hc (by show b.base + 0 + 0 + c * i.size = b.total; omega), m2, ?_⟩
            · rw [e'] at hm; exact absurd hm (Nat.lt_irrefl _)
            · show val h.next ≤ val (inc h.next); rw [val_inc]; omega
            · rw [hF.room _ _ _ hc]
              have e1 : b.base + 0 + len * i.size = b.base + vs.length := by omega
              simp only [Sem.run_bind, addr_add, e1, m1 P, Result.andThen_ok, Sem.run_pure]
          · have hn0 : 0 < n := by omega
            obtain ⟨f1, f2⟩ := fit (len := len) (c := c) hm (by omega)
            have ho : rowFrom vs 0 (len * i.size) = some vs := by
              rw [← hvl]; exact takeN_all vs
            obtain ⟨xs, r1, r2, r3⟩ := cr.first (P := P) ho
            have hgr := hF.grow (some ⟨b.block, b.base + 0, none⟩) len c xs hn0 (r3 len c).2 (by omega) f1 f2
            have R' := (R.del l).grown (need := len + n) (old := c) (size := i.size) (e := el) (z := z) (r1.append hn) (by simp [r2, hnl, Nat.add_mul]) hz fz own
            refine ⟨upd ρ h.next (Blk.mk w.heap.size 0 (grownCap w (len + n) c el * i.size) .nilFunc), _, _, ⟨fun m hm => upd_ne fun e' => ?_, ?_⟩, .sliceEnd 0 (len + n) i.size (grownCap w (len + n) c el) (upd_self _ _ _) (grownCap_ge w (len + n) c el) (by simp), R', ?_⟩
            · rw [e'] at hm; exact absurd hm (Nat.lt_irrefl _)
            · show val h.next ≤ val (inc h.next); rw [val_inc]; omega
            · rw [hgr]
      · cases happ
  · cases happ


/-! ### texts, bytes -/

theorem natCells_ok (t : ByteArray) : RVs ρ (natCells (natsOf t)) (t.data.toList.map fun b => Value.int .u8 b.toNat) := by
  unfold natsOf
  generalize t.data.toList = l
  induction l with
  | nil => exact .nil
  | cons b l ih => exact .cons (.int .u8 _) ih

theorem natCells_length : ∀ l : List Nat, (natCells l).length = l.length
  | [] => rfl
  | _ :: l => by simp [natCells, natCells_length l]

/-- The elements of a slice or a text, as they are read. -/
theorem elems_ok {size : Nat} {x : V} {y : Value} (R : HRel B w0 ρ h w) (r : RV ρ x y) {n : Nat} {cs : List V} (he : elemsV h size x = some (n, cs)) :
    ∃ xs : List Value, RVs ρ cs xs ∧ cs.length = n * size ∧ (∀ w', (Builtin.lenOf y).run P w' = .ok n w') ∧ (∀ k, k ≤ n → (Builtin.firstCells size k y).run P w = .ok (xs.take (k * size)).toArray w) ∧ (Builtin.firstCells size n y).run P w.drew = .ok xs.toArray w.drew := by
  unfold elemsV at he
  split at he
  · cases r; cases he
    refine ⟨[], .nil, by simp, fun _ => rfl, fun k hk => ?_, rfl⟩
    simpa using run_firstCells_none (P := P) w size k 0 _
  · rename_i l off m cap
    split at he
    · rename_i vs el fz own hg
      simp only [ob_some, Option.some.injEq, Prod.mk.injEq] at he
      obtain ⟨q, hq, rfl, rfl⟩ := he
      obtain ⟨b, c, hb, rfl⟩ := slice_inv r
      have cr : CRel ρ b vs el fz own w := R.obj l b _ hb hg
      obtain ⟨xs, r1, r2, r3⟩ := cr.range hq
      refine ⟨xs, r1, by rw [r1.length, r2], fun _ => rfl, fun k hk => ?_, ?_⟩
      · refine run_firstCells_some w size k _ m c _ ?_ fun j v hv => ?_
        · have : k * size ≤ m * size := Nat.mul_le_mul_right _ hk
          rw [List.length_take]; omega
        · rw [List.getElem?_take] at hv
          split at hv
          · rw [addr_add]; exact r3 j v hv
          · cases hv
      · exact run_firstCells_some w.drew size m _ m c xs r2 fun j v hv => by rw [addr_add, World.cell?_drew]; exact r3 j v hv
    · cases he
  · rename_i s
    cases r with | str t =>
    simp only [chk_some, Option.some.injEq, Prod.mk.injEq] at he
    obtain ⟨hs, rfl, rfl⟩ := he
    have hs : size = 1 := Nat.eq_of_beq_eq_true hs
    subst hs
    have e1 : ∀ k, ((t.extract 0 k).data.map fun b => Value.int .u8 (b.toNat : Int)) = ((t.data.toList.map fun b => Value.int .u8 (b.toNat : Int)).take k).toArray := fun k => by
      apply Array.ext'
      simp [List.map_take]
    refine ⟨_, natCells_ok t, by rw [natCells_length, Nat.mul_one], fun w' => ?_, fun k hk => ?_, ?_⟩
    · show (pure t.size : Sem Nat).run P w' = _
      rw [natsOf_length]; rfl
    · show (pure ((t.extract 0 k).data.map fun b => Value.int .u8 (b.toNat : Int)) : Sem _).run P w = _
      rw [e1, Nat.mul_one]; rfl
    · show (pure ((t.extract 0 (natsOf t).length).data.map fun b => Value.int .u8 (b.toNat : Int)) : Sem _).run P w.drew = _
      rw [e1, List.take_of_length_le (by rw [natsOf_length]; simp)]; rfl
  · cases he

theorem two_of_list {ts : Array TypeId} {t u : TypeId} (h : ts.toList = [t, u]) : ts = #[t, u] := by
  apply Array.ext'; simpa using h

theorem eff_append {C : CE} {args : Array Operand} {ts : Array TypeId} {t u e : TypeId} {size bytes : Nat} {z : V} {s x : X} (hts : ts.toList = [t, u]) (ht : C.P.underlying t = some (.slice e)) (hu : (∃ e', C.P.underlying u = some (.slice e')) ∨ C.P.underlying u = some .string)
    (hs : sizeT C.P e = some size) (hb : bytesT C.P e = some bytes) (hz : zeroT C.P e = some z) (h0 : 0 < size) (hb0 : 0 < bytes) (hzs : z.cells.length = size) (hx : compXs C args.toList = some [s, x]) :
    EffOk C (.call { callee := .builtin .append, args := args, argTypes := ts }) (.append e size bytes s x) := by
  intro ρ tm A hT hG B w0 h w R v h' hr
  obtain ⟨y1, y2, hy, r1, r2⟩ := args2 hx hT hG
  simp only [ED.run, ob_some] at hr
  obtain ⟨⟨n, cs⟩, he, ha⟩ := hr
  obtain ⟨xs, e1, e2, e3, e4, e5⟩ := elems_ok (P := C.P) R r2 he
  obtain ⟨i, hi, hsz⟩ := sizeT_ok hs
  have hby : i.bytes = bytes := by
    simp only [bytesT, ob_some, Option.some.injEq] at hb
    obtain ⟨j, hj, e⟩ := hb; rw [hi] at hj; cases hj; exact e
  simp only [zeroT, ob_some] at hz
  obtain ⟨j, hj, zx, hzx, hzc⟩ := hz
  rw [hi] at hj; cases hj
  have hzr : RV ρ z zx := ofConst_ok hzc
  have hzsz : zx.cells.size = size := by have := hzr.cells.length; simp at this; omega
  have e4' := e4 n (Nat.le_refl _)
  rw [List.take_of_length_le (by rw [← e1.length, e2]; exact Nat.le_refl _)] at e4'
  have hts' := two_of_list hts
  subst hts'
  subst hsz
  have hF := fun ty => feeds_src (P := C.P) (w := w) t u ty e i zx ht hi hzx hu y2 n xs e3 e4' e5
  have key := fun ty => append_ok (hF ty) rfl hby h0 hb0 hzsz R r1 e1 e2 ha
  obtain ⟨ρ', y, w', k1, k2, k3, k4⟩ := key 0
  refine ⟨ρ', y, w', k1, k2, k3, fun p hp => .inl ?_⟩
  rw [builtin_run p hp, hy]
  have : (Builtin.append_ #[t, u] p.type #[y1, y2]).run C.P w = .ok y w' := k4
  simp [Go.builtin, this]

theorem eff_appendZeros {C : CE} {args : Array Operand} {ts : Array TypeId} {t u e : TypeId} {kn : IntKind} {size bytes : Nat} {z : V} {s x : X} (hts : ts.toList = [t, u]) (ht : C.P.underlying t = some (.slice e)) (hu : C.P.underlying u = some (.int kn))
    (hs : sizeT C.P e = some size) (hb : bytesT C.P e = some bytes) (hz : zeroT C.P e = some z) (h0 : 0 < size) (hb0 : 0 < bytes) (hzs : z.cells.length = size) (hx : compXs C args.toList = some [s, x]) :
    EffOk C (.call { callee := .builtin .append, args := args, argTypes := ts }) (.appendZeros e size bytes z.cells s x) := by
  intro ρ tm A hT hG B w0 h w R v h' hr
  obtain ⟨y1, y2, hy, r1, r2⟩ := args2 hx hT hG
  simp only [ED.run] at hr
  split at hr
  · rename_i n e'
    rw [e'] at r2
    cases r2
    simp only [chk_some, Bool.and_eq_true] at hr
    obtain ⟨⟨hn, hm⟩, ha⟩ := hr
    have hn := Nat.le_of_ble_eq_true hn
    have hm : n * bytes ≤ 1099511627776 := Nat.le_of_ble_eq_true hm
    obtain ⟨i, hi, hsz⟩ := sizeT_ok hs
    have hby : i.bytes = bytes := by
      simp only [bytesT, ob_some, Option.some.injEq] at hb
      obtain ⟨j, hj, e⟩ := hb; rw [hi] at hj; cases hj; exact e
    have hz' := hz
    simp only [zeroT, ob_some] at hz
    obtain ⟨j, hj, zx, hzx, hzc⟩ := hz
    rw [hi] at hj; cases hj
    have hzr : RV ρ z zx := ofConst_ok hzc
    have hzsz : zx.cells.size = size := by have := hzr.cells.length; simp at this; omega
    have hts' := two_of_list hts
    subst hts'
    subst hsz
    have e1 := zeroCells_rv hzr hzs h0 n
    have e2 : (repeatCells z.cells n).length = n * i.size := by rw [repeatCells_length, hzs]
    · have hbig : n * i.bytes ≤ 281474976710656 := by rw [hby]; omega
      have hF := fun ty => feeds_zeros (P := C.P) (w := w) t u ty e i zx (kn := kn) ht hi hzx hu h0 n hbig (by omega)
      obtain ⟨ρ', y, w', k1, k2, k3, k4⟩ := append_ok (hF 0) rfl hby h0 hb0 hzsz R r1 e1 e2 ha
      refine ⟨ρ', y, w', k1, k2, k3, fun p hp => .inl ?_⟩
      rw [builtin_run p hp, hy]
      have : (Builtin.append_ #[t, u] p.type #[y1, .int .i64 (Int.ofNat n)]).run C.P w = .ok y w' := k4
      simp [Go.builtin] at this ⊢
      simp [this]
  · cases hr


theorem eff_copy {C : CE} {args : Array Operand} {ts : Array TypeId} {t e : TypeId} {rest : List TypeId} {size : Nat} {d s : X} (hts : ts.toList = t :: rest) (ht : C.P.underlying t = some (.slice e)) (hs : sizeT C.P e = some size) (hx : compXs C args.toList = some [d, s]) :
    EffOk C (.call { callee := .builtin .copy, args := args, argTypes := ts }) (.copy size d s) := by
  intro ρ tm A hT hG B w0 h w R v h' hr
  obtain ⟨y1, y2, hy, r1, r2⟩ := args2 hx hT hG
  simp only [ED.run, copyV, ob_some] at hr
  obtain ⟨⟨n, cs⟩, he, hr⟩ := hr
  obtain ⟨xs, e1, e2, e3, e4, e5⟩ := elems_ok (P := C.P) R r2 he
  have unf : ∀ (ty : TypeId) (base : Option Addr) (len cap : Nat), y1 = .slice base len cap → (Builtin.copy_ ts ty #[y1, y2]).run C.P w = ((match base with | some a => storeCells a (xs.take (Nat.min n len * size)) | none => pure () : Sem Unit).run C.P w).andThen fun _ w => .ok (goInt (Nat.min n len)) w := fun ty base len cap hy1 => by
    subst hy1
    have e4' := e4 (Nat.min n len) (Nat.min_le_left _ _)
    cases base <;> simp [Builtin.copy_, tsHead hts, run_underlying ht, e3, run_sizeT hs, e4']
  simp only at hr
  split at hr
  · rename_i c e'
    rw [e'] at r1
    cases r1
    cases hr
    refine ⟨ρ, _, w, Step.refl _ _, .int .i64 _, R, fun p hp => .inl ?_⟩
    rw [builtin_run p hp, hy]
    have := unf p.type none 0 c rfl
    simp [Go.builtin, this, goInt]
  · rename_i l off len cap e'
    rw [e'] at r1
    obtain ⟨b, c, hb, rfl⟩ := slice_inv r1
    simp only [ob_some] at hr
    obtain ⟨q, hq, hr⟩ := hr
    have hq' := (e1.takeN hq).1
    split at hr
    · simp only [Option.some.injEq, Prod.mk.injEq] at hr
      obtain ⟨rfl, rfl⟩ := hr
      refine ⟨ρ, _, w, Step.refl _ _, .int .i64 _, R, fun p hp => .inl ?_⟩
      rw [builtin_run p hp, hy]
      have h0 : xs.take (Nat.min n len * size) = [] := by
        generalize xs.take (Nat.min n len * size) = l at hq'
        cases hq'; rfl
      have := unf p.type _ len c rfl
      rw [h0] at this
      simp [Go.builtin, this, goInt, storeCells]
    · simp only [ob_some, Option.some.injEq, Prod.mk.injEq] at hr
      obtain ⟨h1, hst, rfl, rfl⟩ := hr
      obtain ⟨s1, s2⟩ := R.store hb hst hq'
      obtain ⟨_, _, _, _, _, _, _, _, _, _, rfl⟩ := storeV_some hst
      refine ⟨ρ, _, _, Step.same rfl, .int .i64 _, s2, fun p hp => .inl ?_⟩
      rw [builtin_run p hp, hy]
      have := unf p.type _ len c rfl
      simp [Go.builtin, this, goInt, s1]
  · cases hr

/-! ### bytes of a text -/

theorem appendCap_ge (need old t : Nat) (e : TypeId) : need ≤ (Question.appendCap need old e).cut t := by
  show need ≤ need + t % (2 ^ 63 - need)
  exact Nat.le_add_right _ _

theorem frozen_freeze_row {w : World} {b n k : Nat} {c : Array Value} {e : TypeId} {lo hi : Nat} (h : w.heap[b]? = some (.cells c e (lo, hi))) (hk : k ≠ 0) :
    (w.freeze ⟨b, n, none⟩ k).heap[b]? = some (.cells c e (if lo == hi then (n, n + k) else (min lo n, max hi (n + k)))) := by
  unfold World.freeze
  rw [if_neg hk]
  simp [Array.getElem?_modify, h]

theorem heap_freeze_ne {w : World} {a : Addr} {k i : Nat} (hi : i ≠ a.block) : (w.freeze a k).heap[i]? = w.heap[i]? := by
  unfold World.freeze
  split
  · rfl
  · simp only [Array.getElem?_modify]; rw [if_neg (Ne.symm hi)]

theorem size_freeze (w : World) (a : Addr) (k : Nat) : (w.freeze a k).heap.size = w.heap.size ∧ (w.freeze a k).os = w.os ∧ (w.freeze a k).tape = w.tape ∧ (w.freeze a k).output = w.output := by
  unfold World.freeze
  split
  · exact ⟨rfl, rfl, rfl, rfl⟩
  · exact ⟨by simp, rfl, rfl, rfl⟩

theorem eff_strBytes {C : CE} {s t e : TypeId} {y : Operand} {x : X} (hs : C.P.underlying s = some .string) (ht : C.P.underlying t = some (.slice e)) (he : C.P.underlying e = some (.int .u8)) (hx : compX C y = some x) :
    EffOk C (.convert s t y) (.strBytes e x) := by
  intro ρ tm A hT hG B w0 h w R v h' hr
  have r := compX_ok hT hG hx
  simp only [ED.run] at hr
  split at hr
  · rename_i b e'
    rw [e'] at r
    generalize hy : A.eval y = u at r
    cases r with | str u =>
    simp only [chk_some, Option.some.injEq, Prod.mk.injEq] at hr
    obtain ⟨hlen, rfl, rfl⟩ := hr
    have hq : (Question.appendCap u.size 0 e).forced = false := rfl
    obtain ⟨cap, hcap⟩ : ∃ cap, cap = (Question.appendCap u.size 0 e).cut (w.tape w.drawn (.appendCap u.size 0 e)) := ⟨_, rfl⟩
    have hge : u.size ≤ cap := by rw [hcap]; exact appendCap_ge _ _ _ _
    have R1 := (R.drew).row (natCells_ok (ρ := ρ) u) (List.replicate (cap - u.size) (Value.int .u8 0)) e 0 .marked
    have hd : u.data.toList.length = u.size := by simp
    have hn : ((u.data.toList.map fun b => Value.int .u8 (b.toNat : Int)) ++ List.replicate (cap - u.size) (Value.int .u8 0)).length = cap := by
      simp only [List.length_append, List.length_map, hd, List.length_replicate]; omega
    have harr : (⟨(u.data.toList.map fun b => Value.int .u8 (b.toNat : Int)) ++ List.replicate (cap - u.size) (Value.int .u8 0)⟩ : Array Value) = (u.data.map fun b => Value.int .u8 (b.toNat : Int)) ++ Array.replicate (cap - u.size) (Value.int .u8 0) := by
      apply Array.ext'; simp
    rw [hn, harr] at R1
    generalize hcells : (u.data.map fun b => Value.int .u8 (b.toNat : Int)) ++ Array.replicate (cap - u.size) (Value.int .u8 0) = cells at R1
    have hcs : cells.size = cap := by rw [← hcells, ← harr]; simpa using hn
    have hnew : (w.drew.alloc (.cells cells e)).heap[w.heap.size]? = some (.cells cells e (0, 0)) := heap_alloc_new (w := w.drew) _
    have hfz := frozen_freeze_row (n := cap) hnew (k := 1) (by omega)
    simp only [beq_self_eq_true, if_true] at hfz
    obtain ⟨z1, z2, z3, z4⟩ := size_freeze (w.drew.alloc (.cells cells e)) ⟨w.heap.size, cap, none⟩ 1
    -- the mark
    have hself : (h.add (.cells (natCells (natsOf u)) e 0 .marked)).get h.next = some (.cells (natCells (natsOf u)) e 0 .marked) := H.get_add_self h _
    have cr : CRel (upd ρ h.next (Blk.mk w.heap.size 0 cap .nilFunc)) (Blk.mk w.heap.size 0 cap .nilFunc) (natCells (natsOf u)) e 0 .marked (w.drew.alloc (.cells cells e)) := R1.obj h.next _ _ (upd_self _ _ _) hself
    have R2 := R1.change (w' := (w.drew.alloc (.cells cells e)).freeze ⟨w.heap.size, cap, none⟩ 1) (p := .cells (natCells (natsOf u)) e 0 .marked) (upd_self _ _ _) hself rfl z1 (fun k hk => heap_freeze_ne hk) z2 z3 z4 (by
      refine ⟨?_, cr.fits, fun i v hv => ?_, fun _ i _ hi => ?_, fun ho => by cases ho⟩
      · simp only [World.shape?, hfz, hcs]
      · obtain ⟨q, hq1, hq2⟩ := cr.cell i v hv
        refine ⟨q, ?_, hq2⟩
        unfold cellAd at hq1 ⊢
        simp only [World.cell?, hnew] at hq1
        simp only [World.cell?, hfz]
        exact hq1
      · have hi : i < cap := hi
        simp only [World.frozen?, hfz]
        have : ¬ cap ≤ i := by omega
        simp [this])
    have hset : (h.add (.cells (natCells (natsOf u)) e 0 .marked)).set h.next (.cells (natCells (natsOf u)) e 0 .marked) = h.add (.cells (natCells (natsOf u)) e 0 .marked) := by
      unfold H.set H.add
      simp only [T.set_set]
    rw [hset] at R2
    refine EffOk.ret (s := convert s t (.string u)) (Step.add _ _ _ _) (.sliceEnd 0 (natsOf u).length 1 cap (upd_self _ _ _) (by rw [natsOf_length]; exact hge) (by simp)) R2 ?_ fun p hp => by unfold execOp; rw [hp]; simp only [hy]
    unfold convert
    simp only [Sem.run_bind, run_underlying hs, run_underlying ht, Result.andThen_ok, run_underlying he]
    simp only [Conv.stringToBytes, Sem.run_bind, run_choose, hq, Bool.false_eq_true, if_false, ← hcap, Result.andThen_ok, newRow, run_newObj, Sem.run_pure, hcells, markStringish, run_shape]
    have hsh0 : (w.drew.alloc (.cells cells e)).shape? w.heap.size = some (e, cap) := by simp only [World.shape?, hnew, hcs]
    have hsh : World.shape? { heap := w.heap.push (Go.Obj.cells cells e), tape := w.tape, drawn := w.drawn + 1, os := w.os, output := w.output } w.heap.size = some (e, cap) := hsh0
    simp only [hsh, run_freeze, Result.andThen_ok, Sem.run_pure, natsOf_length]
    rfl
  · cases hr


theorem eff_unsafeStr {C : CE} {args : Array Operand} {ts : Array TypeId} {t u e : TypeId} {x n : X} (hts : ts.toList = [t, u]) (ht : C.P.underlying t = some (.pointer e)) (hs : sizeT C.P e = some 1) (hx : compXs C args.toList = some [x, n]) :
    EffOk C (.call { callee := .builtin .unsafeString, args := args, argTypes := ts }) (.unsafeStr e x n) := by
  intro ρ tm A hT hG B w0 h w R v h' hr
  obtain ⟨y1, y2, hy, r1, r2⟩ := args2 hx hT hG
  have hts' := two_of_list hts
  subst hts'
  simp only [ED.run] at hr
  unfold unsafeStrV at hr
  split at hr
  · rename_i e1 e2
    rw [e1] at r1; rw [e2] at r2
    cases r1; cases r2; cases hr
    refine ⟨ρ, _, w, Step.refl _ _, .str ByteArray.empty, R, fun p hp => .inl ?_⟩
    rw [builtin_run p hp, hy]
    have := Lib.run_unsafeString_none (P := C.P) w t u p.type none
    have h2 : (Builtin.unsafeString_ #[t, u] p.type #[.pointer none, .int .i64 (Int.ofNat 0)]).run C.P w = .ok (.string .empty) w := this
    simp [Go.builtin] at h2 ⊢
    simp [h2]
  · rename_i l off e1 e2
    rw [e1] at r1; rw [e2] at r2
    obtain ⟨b, hb, rfl⟩ := ptr_inv r1
    cases r2; cases hr
    refine ⟨ρ, _, w, Step.refl _ _, .str ByteArray.empty, R, fun p hp => .inl ?_⟩
    rw [builtin_run p hp, hy]
    have := Lib.run_unsafeString_none (P := C.P) w t u p.type (some ⟨b.block, b.base + off, none⟩)
    have h2 : (Builtin.unsafeString_ #[t, u] p.type #[.pointer (some ⟨b.block, b.base + off, none⟩), .int .i64 (Int.ofNat 0)]).run C.P w = .ok (.string .empty) w := this
    simp [Go.builtin] at h2 ⊢
    simp [h2]
  · rename_i l m e1 e2
    rw [e1] at r1; rw [e2] at r2
    obtain ⟨b, hb, rfl⟩ := ptr_inv r1
    cases r2
    have hb0 := (R.base l b hb).1
    split at hr
    · rename_i vs el fz hg
      simp only [chk_some, ob_some, Option.some.injEq, Prod.mk.injEq, Bool.and_eq_true] at hr
      obtain ⟨⟨hel, hm⟩, q, hq, bs, hbs, rfl, rfl⟩ := hr
      have hel : el = e := Nat.eq_of_beq_eq_true hel
      subst hel
      have hm := Nat.le_of_ble_eq_true hm
      have cr : CRel ρ b vs el fz .yes w := R.obj l b _ hb hg
      have hle := takeN_le hq
      have hfit := cr.fits
      obtain ⟨xs, x1, x2, x3⟩ := cr.range (show rowFrom vs 0 (m + 1) = some q from hq)
      obtain ⟨us, rfl, rfl⟩ := bytesIn_ok hbs x1
      have hul : us.length = m + 1 := by simpa using x2
      obtain ⟨c, lo, hi, hrow, hhi⟩ := cr.bare rfl
      obtain ⟨lo', hi', hfr, hhi'⟩ : ∃ lo' hi', (w.freeze ⟨b.block, 0, none⟩ (m + 1)).heap[b.block]? = some (.cells c el (lo', hi')) ∧ hi' ≤ max hi (m + 1) := by
        have hfr := frozen_freeze_row (n := 0) hrow (k := m + 1) (by omega)
        by_cases hlh : (lo == hi) = true
        · rw [if_pos hlh] at hfr
          exact ⟨_, _, hfr, by omega⟩
        · rw [if_neg hlh] at hfr
          exact ⟨_, _, hfr, by omega⟩
      obtain ⟨z1, z2, z3, z4⟩ := size_freeze w ⟨b.block, 0, none⟩ (m + 1)
      have hcs : c.size = b.total := by
        have := cr.shape
        simp only [World.shape?, hrow] at this
        simpa using this
      have R2 := R.change (w' := w.freeze ⟨b.block, 0, none⟩ (m + 1)) (p := .cells vs el (Nat.max fz (m + 1)) .yes) hb hg rfl z1 (fun k hk => heap_freeze_ne hk) z2 z3 z4 (by
        have hmx : (Nat.max fz (m + 1)) = max fz (m + 1) := rfl
        refine ⟨?_, hfit, fun i v hv => ?_, fun _ i hi1 hi2 => ?_, fun _ => ⟨c, _, _, hfr, ?_⟩⟩
        · simp only [World.shape?, hfr, hcs]
        · obtain ⟨q, hq1, hq2⟩ := cr.cell i v hv
          refine ⟨q, ?_, hq2⟩
          unfold cellAd at hq1 ⊢
          simp only [World.cell?, hrow] at hq1
          simp only [World.cell?, hfr]
          exact hq1
        · rw [hmx, hb0] at hi1
          rw [hb0] at hhi
          simp only [World.frozen?, hfr]
          simp only [Bool.and_eq_false_iff, decide_eq_false_iff_not]; right; omega
        · rw [hmx, hb0]
          rw [hb0] at hhi
          omega)
      refine ⟨ρ, .string ⟨us.toArray⟩, _, Step.same rfl, by rw [← natsOf_mk]; exact .str _, R2, fun p hp => .inl ?_⟩
      rw [builtin_run p hp, hy]
      have := Lib.run_unsafeString_row (P := C.P) w t u p.type el ht (cellsOf_size hs) b.block b.total cr.shape us (by intro h0; rw [h0] at hul; simp at hul) (by omega) (by omega) (fun j a ha => by
        rw [addr_add]
        have := x3 j (Value.int .u8 a.toNat) (by simp [List.getElem?_map, ha])
        rw [hb0] at this
        simpa using this)
      rw [hul] at this
      rw [hb0]
      have h2 : (Builtin.unsafeString_ #[t, u] p.type #[.pointer (some ⟨b.block, 0 + 0, none⟩), .int .i64 (Int.ofNat (m + 1))]).run C.P w = .ok (.string ⟨us.toArray⟩) (w.freeze ⟨b.block, 0, none⟩ (m + 1)) := this
      simp only [Go.builtin, Sem.run_bind, h2, Result.andThen_ok, Sem.run_pure]
    · cases hr
  · cases hr

end
end Go.Dx
