/-
  A range over a map that holds nothing, or one entry: its steps, as equations.
-/
import Derived.Test.YtkbjonoiecljiaaGreatDoorDxOrc
import Derived.OwnWalkIn
import Derived.RangeFuncSeq
import Derived.RangeFuncIn
import Derived.RangeFuncRecord
namespace Go.Dx
open Go Go.RowKit

section
variable {P : Program} {w : World}

theorem run_range_nil {t k e : TypeId} (ht : P.underlying t = some (.map k e)) : (Instr.range t (.map none)).run P w = .ok (.pointer (some ⟨w.heap.size, 0, none⟩)) (w.alloc (.mapIter none 0 #[] 0)) := by
  unfold Instr.range
  simp [run_underlying ht]

theorem run_range_map {t k e : TypeId} (ht : P.underlying t = some (.map k e)) {m : Nat} {es : Array MapEntry} {clock : Nat} (hm : w.heap[m]? = some (.map es clock)) :
    (Instr.range t (.map (some m))).run P w = .ok (.pointer (some ⟨w.heap.size, 0, none⟩)) (w.alloc (.mapIter (some m) clock #[] clock)) := by
  unfold Instr.range
  have hg : (getObj m).run P w = .ok (.map es clock) w := by simp [getObj, Sem.run, hm]
  simp [run_underlying ht, hg]

theorem run_next_nil {r a b : Nat} {s : Array Nat} (hr : w.heap[r]? = some (.mapIter none a s b)) (ty : TypeId) : (Instr.next (.pointer (some ⟨r, 0, none⟩)) false ty).run P w = .ok (.tuple #[.bool false]) w := by
  unfold Instr.next
  have hg : (getObj r).run P w = .ok (.mapIter none a s b) w := by simp [getObj, Sem.run, hr]
  simp [hg]

theorem run_next_empty {r m since last clock : Nat} {s : Array Nat} (hr : w.heap[r]? = some (.mapIter (some m) since s last)) (hm : w.heap[m]? = some (.map #[] clock)) (ty : TypeId) :
    (Instr.next (.pointer (some ⟨r, 0, none⟩)) false ty).run P w = .ok (.tuple #[.bool false]) w := by
  unfold Instr.next
  have hg : (getObj r).run P w = .ok (.mapIter (some m) since s last) w := by simp [getObj, Sem.run, hr]
  have hgm : (getObj m).run P w = .ok (.map #[] clock) w := by simp [getObj, Sem.run, hm]
  have hf : (Question.mapNext 1).forced = true := rfl
  simp [hg, hgm, hf]

theorem run_next_first {r m since last clock : Nat} {en : MapEntry} (hr : w.heap[r]? = some (.mapIter (some m) since #[] last)) (hm : w.heap[m]? = some (.map #[en] clock)) (hb : en.born < since) (ty : TypeId) :
    (Instr.next (.pointer (some ⟨r, 0, none⟩)) false ty).run P w = .ok (.tuple #[.bool true, en.key, en.val]) (w.putObj r (.mapIter (some m) since #[en.born] clock)) := by
  unfold Instr.next
  have hg : (getObj r).run P w = .ok (.mapIter (some m) since #[] last) w := by simp [getObj, Sem.run, hr]
  have hgm : (getObj m).run P w = .ok (.map #[en] clock) w := by simp [getObj, Sem.run, hm]
  have hf : (Question.mapNext 1).forced = true := rfl
  have hb' : ¬ since ≤ en.born := by omega
  simp [hg, hgm, hf, hb, hb', setObj, Sem.run, hr, World.putObj]

theorem run_next_last {r m since last clock : Nat} {en : MapEntry} (hr : w.heap[r]? = some (.mapIter (some m) since #[en.born] last)) (hm : w.heap[m]? = some (.map #[en] clock)) (hb : en.born < last) (ty : TypeId) :
    (Instr.next (.pointer (some ⟨r, 0, none⟩)) false ty).run P w = .ok (.tuple #[.bool false]) w := by
  unfold Instr.next
  have hg : (getObj r).run P w = .ok (.mapIter (some m) since #[en.born] last) w := by simp [getObj, Sem.run, hr]
  have hgm : (getObj m).run P w = .ok (.map #[en] clock) w := by simp [getObj, Sem.run, hm]
  have hf : (Question.mapNext 1).forced = true := rfl
  have hb' : ¬ last ≤ en.born := by omega
  simp [hg, hgm, hf, hb']

theorem run_entry_one {r m since clock : Nat} {en : MapEntry} (hr : w.heap[r]? = some (.mapIter (some m) since #[en.born] clock)) (hm : w.heap[m]? = some (.map #[en] clock)) :
    (Instr.entry (.pointer (some ⟨r, 0, none⟩))).run P w = .ok (.tuple #[en.key, en.val]) w := by
  unfold Instr.entry
  have hg : (getObj r).run P w = .ok (.mapIter (some m) since #[en.born] clock) w := by simp [getObj, Sem.run, hr]
  have hgm : (getObj m).run P w = .ok (.map #[en] clock) w := by simp [getObj, Sem.run, hm]
  simp [hg, hgm]

theorem grownBy_put (W : World) (l : Nat) (o : Go.Obj) : W.grownBy (W.putObj l o) (some l) :=
  ⟨rfl, rfl, rfl, by simp, fun k _ hk => World.putObj_heap_other (fun e => hk (by rw [e]))⟩

theorem cell_of_box {W : World} {B : Nat} {v : Value} {t : TypeId} (h : W.heap[B]? = some (.cells #[v] t (0, 0))) : W.cell? ⟨B, 0, none⟩ = some v ∧ W.frozen? ⟨B, 0, none⟩ = false := by
  constructor <;> simp [World.cell?, World.frozen?, h]

/-- What lies below is as it was: the relation stands. -/
theorem HRel.below_ok {B : Nat} {w0 : World} {ρ : Rho} {h : H} {w' : World} (R : HRel B w0 ρ h w) (hb : Below w.heap.size w w') : HRel B w0 ρ h w' :=
  ⟨fun l b o hl ho => (R.obj l b o hl ho).of_block (Ext'.refl _) (hb.block _ (R.obj l b o hl ho).lt), R.lt, R.base, R.inj, R.own, Nat.le_trans R.size hb.size, R.below.trans (hb.mono R.size)⟩

/-- A label for a block that nothing stands for yet. -/
theorem HRel.named {B : Nat} {w0 : World} {ρ : Rho} {h : H} {w' : World} (R : HRel B w0 ρ h w) (hb : Below w.heap.size w w') {o : Obj} {b : Blk} (hbl : w.heap.size ≤ b.block) (hb0 : b.base = 0 ∧ b.val = .nilFunc) (ho : ORel (upd ρ h.next b) b w' o) :
    HRel B w0 (upd ρ h.next b) (h.add o) w' := by
  have R' := R.below_ok hb
  have E := upd_ext (b := b) R.fresh
  refine ⟨fun m c p hm hp => ?_, fun m c hm => ?_, fun m c hm => ?_, fun m n c d hm hn im in' e => ?_, fun m c p hm hp hw => ?_, R'.size, R'.below⟩
  · by_cases e : m = h.next
    · subst e
      rw [upd_self] at hm; cases hm
      rw [H.get_add_self] at hp; cases hp
      exact ho
    · rw [upd_ne e] at hm
      rw [H.get_add_ne _ _ e] at hp
      exact (R'.obj m c p hm hp).of_block E rfl
  · show val m < val (inc h.next)
    rw [val_inc]
    by_cases e : m = h.next
    · subst e; omega
    · rw [upd_ne e] at hm; exact Nat.lt_succ_of_lt (R.lt m c hm)
  · by_cases e : m = h.next
    · subst e; rw [upd_self] at hm; cases hm; exact ⟨hb0.1, .nil hb0.2⟩
    · rw [upd_ne e] at hm; exact R.base m c hm
  · by_cases e1 : m = h.next
    · by_cases e2 : n = h.next
      · rw [e1, e2]
      · subst e1
        rw [upd_self] at hm
        rw [upd_ne e2] at hn
        cases hm
        rw [H.get_add_ne _ _ e2] at in'
        obtain ⟨p, hp⟩ := Option.isSome_iff_exists.1 in'
        have := (R.obj n d p hn hp).lt
        omega
    · by_cases e2 : n = h.next
      · subst e2
        rw [upd_self] at hn
        rw [upd_ne e1] at hm
        cases hn
        rw [H.get_add_ne _ _ e1] at im
        obtain ⟨p, hp⟩ := Option.isSome_iff_exists.1 im
        have := (R.obj m c p hm hp).lt
        omega
      · rw [upd_ne e1] at hm
        rw [upd_ne e2] at hn
        rw [H.get_add_ne _ _ e1] at im
        rw [H.get_add_ne _ _ e2] at in'
        exact R.inj m n c d hm hn im in' e
  · by_cases e : m = h.next
    · subst e
      rw [upd_self] at hm; cases hm
      have := R.size; omega
    · rw [upd_ne e] at hm
      rw [H.get_add_ne _ _ e] at hp
      exact R.own m c p hm hp hw

/-- The loop's record at its start. -/
structure Rec0 (fn : FuncId) (a : Act) (ps : Array Tmp) (assign body : Code) (D : Nat) (L : Loop) : Prop where
  state : L.state = .ready
  pending : L.pending = none
  fn : L.fn = fn
  tmps : L.tmps = a.tmps
  params : L.params = ps
  assign : L.assign = assign
  body : L.body = body
  defers : L.defers = D

/-- A range over a function, by whoever calls it: the call's contract alone is asked; behind it the record is to be found as it lay, and the block for deferred calls empty. -/
theorem wpIn_rangeFunc_flat {g : Operand} {ps : Array Tmp} {assign body : Code} {Q : Exit → Act → World → Prop} {a : Act} {gf : Nat} {lb : Array Value} (hg : a.eval g = .func (.func gf) #[] lb) (eg : ∀ args w, (callFunc gf args).run P w = .ok (.enter gf args) w)
    (h : ∀ fn L, Rec0 fn a ps assign body w.heap.size L → CallsIn Fence.wide 0 P gf (#[.func (.yield (w.heap.size + 1)) #[] #[]] ++ lb) ((w.alloc (.deferred (some []))).alloc (.loop L)) fun e W' =>
      (∃ v, e = .returned v) ∧ W'.heap[w.heap.size + 1]? = some (.loop L) ∧
        Q .normal { a with defers := { target := .collected w.heap.size, args := #[] } :: a.defers } (W'.putObj (w.heap.size + 1) (.loop { L with state := .exhausted }))) :
    (Code.rangeFunc g ps assign body).wpIn Fence.wide 0 P Q a w := by
  refine wpIn_rangeFunc fun fn _ => ?_
  obtain ⟨L, hL⟩ : ∃ L, L = ({ state := .ready, pending := none, fn := fn, tmps := a.tmps, params := ps, assign := assign, body := body, defers := w.heap.size } : Loop) := ⟨_, rfl⟩
  have h := h fn L (by subst hL; exact ⟨rfl, rfl, rfl, rfl, rfl, rfl, rfl, rfl⟩)
  have hst : L.state = .ready := by rw [hL]
  have hpe : L.pending = none := by rw [hL]
  obtain ⟨W1, hW1⟩ : ∃ W1, W1 = ((w.alloc (.deferred (some []))).alloc (.loop L)) := ⟨_, rfl⟩
  rw [← hW1] at h
  refine ⟨w.heap.size + 1, [{ target := .collected w.heap.size, args := #[] }], W1, { target := .fn (.func gf) lb, args := #[.func (.yield (w.heap.size + 1)) #[] #[]] }, W1, gf,
    #[.func (.yield (w.heap.size + 1)) #[] #[]] ++ lb, W1, ?_, ?_, fun _ _ => trivial, ?_, ?_, ?_⟩
  · rw [hW1, hL]; exact run_enterLoop_outer _ _ _ _ _
  · unfold resolve
    simp only [hg]
    simp [Act.eval, Deferred.ofValue]
  · simp [invoke, go_sem, eg]
  · intro e; exact absurd e (by simp [Fence.wide])
  · simp only [List.cons_append, List.nil_append, Nat.zero_sub]
    refine h.mono fun e W' hh => ?_
    obtain ⟨⟨v, rfl⟩, h1, h2⟩ := hh
    refine ⟨none, _, ?_, h2⟩
    have := run_endLoop (P := P) h1 (by rw [hst]; exact fun e => by cases e)
    rw [this, hpe]

/-- 'append(s, x..)', as it runs. -/
theorem wpListIn_append_run {F : Fence} {n : Nat} {ops : Array Oper} {rest : List Oper} {o : Oper} {a : Act} {Q : Exit → Act → World → Prop} (hg : o.guard = none) (s x : Operand) (t u : TypeId)
    (hop : o.op = Op.call { callee := Callee.builtin Builtin.append, args := #[s, x], argTypes := #[t, u] }) {sx xx y : Value} {w' : World} (hs : a.eval s = sx) (hx : a.eval x = xx) (hrun : (Builtin.append_ #[t, u] o.type #[sx, xx]).run P w = .ok y w')
    (hK : wpListIn F n P ops Q rest (a.put o.dst y) w') : wpListIn F n P ops Q (o :: rest) a w := by
  refine wpListIn_plain hg fun K' hK' => ?_
  unfold Oper.wpIn
  refine ⟨?_, ?_⟩
  · simp [Oper.about, hop, resolve, Target.leads, Sem.run_pure]
  · rw [Oper.semAt_plain F _ _ (by rw [hop]; intro c hc'; cases hc')]
    simp [execOp, hop, resolve, invoke, Go.builtin, hs, hx, hrun, Result.andThen]
    exact hK' _ _ hK

/-- append(nil, one element of a row): a new row. -/
theorem run_append_one {t e : TypeId} {i : TypeInfo} {z : Value} (ht : P.underlying t = some (.slice e)) (hi : P.info? e = some i) (hz : i.zero = some z) (hz2 : z.cells.size = i.size) (hb : i.bytes ≤ 1048576) {src : Addr} {news : List Value} (hn : news.length = i.size)
    (hc : ∀ j v, news[j]? = some v → w.cell? (src.add j) = some v) (ty : TypeId) :
    ∃ g cap cur, (Builtin.append_ #[t, t] ty #[.slice none 0 0, .slice (some src) 1 1]).run P w = .ok (.slice (some ⟨g, 0, none⟩) 1 cap) (w.drew.alloc (.cells cur e)) ∧ g = w.heap.size ∧ cur.toList.take i.size = news ∧ cur.size = cap * i.size ∧ 1 ≤ cap := by
  have hF := feeds_src (P := P) (w := w) t t ty e i z ht hi hz (.inl ⟨e, ht⟩) (.slice (some src) 1 1) 1 news (fun w' => rfl)
    (run_firstCells_some w i.size 1 _ 1 1 news (by omega) fun j v hv => hc j v hv) (run_firstCells_some w.drew i.size 1 _ 1 1 news (by omega) fun j v hv => by rw [World.cell?_drew]; exact hc j v hv)
  have h2 := nextslicecap_le (need := 0 + 1) (old := 0) (by omega)
  have hg := hF.grow none 0 0 [] (by omega) (run_firstCells_none w.drew _ 0 0 0) (by omega) (by omega) (by
    have : Builtin.nextslicecap (0 + 1) 0 * i.bytes ≤ 2 * (0 + 1) * i.bytes := Nat.mul_le_mul_right _ h2
    omega)
  have hge := grownCap_ge w (0 + 1) 0 e
  refine ⟨w.heap.size, grownCap w (0 + 1) 0 e, _, hg, rfl, ?_, ?_, hge⟩
  · simp [← hn]
  · have := size_zeroCells z.cells (grownCap w (0 + 1) 0 e - (0 + 1))
    simp only [List.nil_append, Array.size_append, List.size_toArray, hn]
    rw [this, hz2]
    have : grownCap w (0 + 1) 0 e = (grownCap w (0 + 1) 0 e - (0 + 1)) + 1 := by omega
    generalize grownCap w (0 + 1) 0 e - (0 + 1) = q at this ⊢
    rw [this, Nat.add_mul]; omega

/-- append(what holds nothing, a slice that lies there): a slice; nothing that lay there has turned. -/
theorem run_append_all {t e : TypeId} {i : TypeInfo} {z : Value} (ht : P.underlying t = some (.slice e)) (hi : P.info? e = some i) (hz : i.zero = some z) (h0 : 0 < i.bytes) {src b0 : Addr} {n cap : Nat} (hb : n * i.bytes ≤ 140737488355328)
    (hc : ∀ j, j < n * i.size → (w.cell? (src.add j)).isSome = true) (ty : TypeId) :
    ∃ y w', (Builtin.append_ #[t, t] ty #[.slice (some b0) 0 0, .slice (some src) n cap]).run P w = .ok y w' ∧ symOk y = true ∧ Below w.heap.size w w' := by
  obtain ⟨news, hn, hnews⟩ : ∃ news : List Value, news.length = n * i.size ∧ ∀ j v, news[j]? = some v → w.cell? (src.add j) = some v := by
    refine ⟨(List.range (n * i.size)).map fun j => (w.cell? (src.add j)).getD .nilFunc, by simp, fun j v hv => ?_⟩
    have hj : j < n * i.size := by
      have := (List.getElem?_eq_some_iff.1 hv).1
      simpa using this
    simp [hj] at hv
    have := hc j hj
    cases hw : w.cell? (src.add j) with
    | none => rw [hw] at this; cases this
    | some x => rw [hw] at hv; simp at hv; rw [hv]
  have hF := feeds_src (P := P) (w := w) t t ty e i z ht hi hz (.inl ⟨e, ht⟩) (.slice (some src) n cap) n news (fun w' => rfl)
    (run_firstCells_some w i.size n _ n cap news (by omega) fun j v hv => hnews j v hv) (run_firstCells_some w.drew i.size n _ n cap news (by omega) fun j v hv => by rw [World.cell?_drew]; exact hnews j v hv)
  by_cases hn0 : n = 0
  · subst hn0
    have hnil : news = [] := List.length_eq_zero_iff.1 (by omega)
    subst hnil
    refine ⟨.slice (some b0) (0 + 0) 0, w, ?_, rfl, Below.refl _ _⟩
    rw [hF.room (some b0) 0 0 (by omega)]
    rfl
  · have h2 := nextslicecap_le (need := 0 + n) (old := 0) (by omega)
    have h3 : Builtin.nextslicecap (0 + n) 0 * i.bytes ≤ 2 * (0 + n) * i.bytes := Nat.mul_le_mul_right _ h2
    have h4 : 2 * (0 + n) * i.bytes = 2 * (n * i.bytes) := by rw [Nat.zero_add, Nat.mul_assoc]
    have h5 : n ≤ n * i.bytes := Nat.le_mul_of_pos_right _ h0
    have hg := hF.grow (some b0) 0 0 [] (by omega) (by simpa using run_firstCells_some w.drew i.size 0 _ 0 0 [] (by simp) fun j v hv => by simp at hv) (by omega) (by omega) (by omega)
    exact ⟨_, _, hg, rfl, ((Below.refl _ w).drew).alloc (Nat.le_refl _) _⟩

end
end Go.Dx
