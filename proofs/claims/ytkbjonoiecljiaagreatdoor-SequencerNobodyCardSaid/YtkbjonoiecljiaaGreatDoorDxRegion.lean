/-
  The deterministic machine over labels against the model: a region whose order is open.
-/
import Derived.Test.YtkbjonoiecljiaaGreatDoorDxMask
namespace Go.Dx
open Go Go.RowKit

theorem effCount_succ : ∀ {r : List (DO × Nat × Nat)} {j : Nat} {d : DO} {lo hi : Nat}, r[j]? = some (d, lo, hi) → effCount r (j + 1) = effCount r j + (if isEff d then 1 else 0)
  | [], j, d, lo, hi, h => by simp at h
  | x :: r, 0, d, lo, hi, h => by simp at h; subst h; simp [effCount]
  | x :: r, j + 1, d, lo, hi, h => by
    have := effCount_succ (r := r) (j := j) (d := d) (lo := lo) (hi := hi) (by simpa using h)
    simp only [effCount] at this ⊢
    omega

theorem pairwise_mem {R : Nat → Nat → Prop} : ∀ {l : List Nat}, l.Pairwise (· < ·) → l.Pairwise R → ∀ a, a ∈ l → ∀ b, b ∈ l → a < b → R a b
  | [], _, _, a, ha, _, _, _ => by cases ha
  | x :: l, h1, h2, a, ha, b, hb, hab => by
    rw [List.pairwise_cons] at h1 h2
    rcases List.mem_cons.1 ha with e1 | ha'
    · rcases List.mem_cons.1 hb with e2 | hb'
      · omega
      · rw [e1]; exact h2.1 b hb'
    · rcases List.mem_cons.1 hb with e2 | hb'
      · have := h1.1 a ha'; omega
      · exact pairwise_mem h1.2 h2.2 a ha' b hb' hab

section
variable {P : Program} {G n : Nat} {ops : Array Oper} {l : List DO} {call : Orc} {a a' : A} {h h0 h' : H} {tm0 : T V} {v : Nat → V} {tm : Nat → T V} {hp : Nat → H} {B : Nat} {w0 : World} {ρ0 : Rho}

def effsOf (l : List DO) (n : Nat) : List Nat := effsAt (reserve l n).1 0
def tagged (ops : Array Oper) (l : List DO) (n : Nat) : List (DO × Nat × Nat) := tagAll (aheads ops.toList []) (effsOf l n) (reserve l n).1 0

structure Reg (P : Program) (G n : Nat) (ops : Array Oper) (l : List DO) (call : Orc) (a a' : A) (h h0 h' : H) (tm0 : T V) (v : Nat → V) (tm : Nat → T V) (hp : Nat → H) : Prop where
  facts : Facts ⟨P, G, n⟩ ops l
  chain : chainOk (aheads ops.toList []) (effsOf l n) = true
  size : ops.size ≤ 65536
  trace : Trace (envOf P) call (tagged ops l n) 0 { tmps := tm0, defers := a.defers } [] h0 [] a' h' v tm hp
  slots : ∀ p, p < (reserve l n).2.length → ∃ L, val L = val h.next + p ∧ getT tm0 (pathOf (n + p)) = .ptr L 0
  next : val h0.next = val h.next + (reserve l n).2.length

structure Inv (P : Program) (G n : Nat) (ops : Array Oper) (l : List DO) (a : A) (h h0 : H) (tm0 : T V) (v : Nat → V) (hp : Nat → H) (B : Nat) (w0 : World) (ρ0 : Rho) (S : Nat → Bool) (x : Act) (w : World) : Prop where
  closed : Closed ops (fun i => S i = true)
  rel : ∃ ρ, (∀ m, val m < val h.next → ρ m = ρ0 m) ∧ HRel B w0 ρ (hp ((effsOf l n).countP S)) w ∧ val h0.next ≤ val (hp ((effsOf l n).countP S)).next ∧
    (∀ i d L, l[i]? = some d → isAlloc d = true → S i = false → val L = val h.next + aCount l i → ρ L = none) ∧ TRel ρ n (mask l tm0 v S ops.size) x.tmps ∧ DRels ρ a.defers x.defers ∧ GRel ρ G

theorem Reg.len (r : Reg P G n ops l call a a' h h0 h' tm0 v tm hp) : l.length = ops.size := by
  have := (compDOs_get r.facts.comp 0).2
  simpa using this

theorem Reg.tms (r : Reg P G n ops l call a a' h h0 h' tm0 v tm hp) : ∀ i, i ≤ ops.size → tm i = mask l tm0 v (fun _ => true) i := by
  intro i
  induction i with
  | zero => intro _; exact r.trace.tm0
  | succ i ih =>
    intro hi
    have hlt : i < l.length := by rw [r.len]; omega
    have hd0 : l[i]? = some l[i] := List.getElem?_eq_getElem hlt
    have hd := reserve_get (k := n) hd0
    have ht := (tagAll_get (ah := aheads ops.toList []) (effs := effsOf l n) (k := 0)).2 ⟨hd, rfl, rfl⟩
    have := (r.trace.ops i _ _ _ ht).2
    rw [this, ih (by omega)]
    simp only [mask, if_true, hd0, Option.bind_some, (resD_parts _ _).1]

theorem Reg.slot (r : Reg P G n ops l call a a' h h0 h' tm0 v tm hp) {i p : Nat} (hi : i ≤ ops.size) (hpn : n + p < 2 ^ 64) : getT (tm i) (pathOf (n + p)) = getT tm0 (pathOf (n + p)) := by
  rw [r.tms i hi]
  have hsm := r.facts.small
  induction i with
  | zero => rfl
  | succ i ih =>
    rw [getT_mask, if_neg, ih (by omega)]
    rintro ⟨_, h2⟩
    obtain ⟨o, t, _, _, hq, ht⟩ := dst_ok r.facts.comp h2
    have hsm : n ≤ 65536 := hsm
    have ht : t < n := ht
    have := pathOf_inj (by omega) (by omega) hq
    omega

theorem wants_same {C : CE} {o : Oper} {g : Option (Lb × Bool)} (hg : compGuard C ops o.guard = some g) {t1 t2 : T V} (H : ∀ t, t < C.n → t ∈ o.looksAt ops → getT t1 (pathOf t) = getT t2 (pathOf t)) : wants t1 g = wants t2 g := by
  cases ho : o.guard with
  | none => rw [ho] at hg; simp only [compGuard, Option.some.injEq] at hg; subst hg; rfl
  | some p =>
    obtain ⟨j, want⟩ := p
    rw [ho] at hg
    simp only [compGuard, ob_some, chk_some, Option.some.injEq] at hg
    obtain ⟨q, hq, d, hd, hlt, rfl⟩ := hg
    have hq' : ops[j]? = some q := by simpa using hq
    have hl : d ∈ o.looksAt ops := by
      unfold Oper.looksAt
      refine List.mem_append_right _ ?_
      simp [ho, hq', hd]
    have := H d (by simpa using hlt) hl
    simp only [wants, this]

/-- One operation of the region, when all has been that must come ahead of it. -/
theorem reg_step (hcall : OrcOk P G call) (r : Reg P G n ops l call a a' h h0 h' tm0 v tm hp) {S : Nat → Bool} {x : Act} {w : World} (inv : Inv P G n ops l a h h0 tm0 v hp B w0 ρ0 S x w) {j : Nat} {o : Oper} (ho : ops[j]? = some o) (hj : S j = false)
    (hready : ∀ e ∈ o.after, Region.binds .any e = true → S e.on = true) {K : Act → World → Prop} {Q : Exit → Act → World → Prop} (hK : ∀ x' w', Inv P G n ops l a h h0 tm0 v hp B w0 ρ0 (fun i => S i || i == j) x' w' → K x' w') : wpOp P ops Q j K x w := by
  have F := r.facts
  have hjs : j < ops.size := (Array.getElem?_eq_some_iff.1 ho).1
  obtain ⟨ρ, i1, i2, i3, i4, i5, i6, i7⟩ := inv.rel
  obtain ⟨d0, hd0, hc⟩ := (compDOs_get F.comp j).1 o (by simpa using ho)
  have hd := reserve_get (k := n) hd0
  have htag := (tagAll_get (ah := aheads ops.toList []) (effs := effsOf l n) (k := 0)).2 ⟨hd, rfl, rfl⟩
  rw [Nat.zero_add] at htag
  obtain ⟨fact, _⟩ := r.trace.ops j _ _ _ htag
  generalize hdd : resD d0 (n + aCount l j) = d at fact htag hd
  have hdst : d.dst = d0.dst := by rw [← hdd]; exact (resD_parts _ _).1
  have hgrd : d.guard = d0.guard := by rw [← hdd]; exact (resD_parts _ _).2
  -- what it looks at
  have agree : ∀ t, t < n → t ∈ o.looksAt ops → getT (mask l tm0 v S ops.size) (pathOf t) = getT (tm j) (pathOf t) := fun t ht hl => by
    rw [r.tms j (by omega)]
    exact mask_reads F inv.closed ho hj hready ht hl
  have hc' := hc
  simp only [compDO, ob_some, Option.some.injEq] at hc'
  obtain ⟨dst, hcd, g, hg, hd0e⟩ := hc'
  have hg0 : d0.guard = g := by rw [← hd0e]
  have hdst0 : d0.dst = dst := by rw [← hd0e]
  have hop0 : d0.op = (compOp? ⟨P, G, n⟩ o.op).getD .stuck := by rw [← hd0e]
  have hwant : Region.wanted o (yielded ops x.tmps) = wants (tm j) d.guard := by
    rw [hgrd, hg0, wants_ok hg i5]
    exact wants_same hg agree
  -- which are behind
  have closed' : Closed ops (fun i => (S i || i == j) = true) := fun i o' ho' hi e he hb => by
    simp only [Bool.or_eq_true, beq_iff_eq] at hi ⊢
    rcases hi with hi | rfl
    · exact .inl (inv.closed i o' ho' hi e he hb)
    · rw [ho] at ho'; cases ho'
      exact .inl (hready e he hb)
  have effs_lt : ∀ e ∈ effsOf l n, e < (tagged ops l n).length := fun e he => by
    obtain ⟨p, q, h1, _, rfl⟩ := effsAt_mem.1 he
    unfold tagged
    rw [tagAll_length]
    have := (List.getElem?_eq_some_iff.1 h1).1
    omega
  have cnt : ∀ k, effCount (tagged ops l n) k = (effsOf l n).countP fun e => decide (e < k) := fun k => by
    have := effCount_tag (ah := aheads ops.toList []) (effs := effsOf l n) (reserve l n).1 0 k
    rw [Nat.zero_add] at this
    exact this
  have cEff : isEff d = true → (effsOf l n).countP S = effCount (tagged ops l n) j ∧ (effsOf l n).countP (fun i => S i || i == j) = effCount (tagged ops l n) j + 1 := fun he => by
    have hmem : j ∈ effsOf l n := effsAt_mem.2 ⟨j, d, hd, he, by omega⟩
    have hsorted := effsAt_sorted (reserve l n).1 0
    have p1 := pairwise_mem hsorted (chain_closed F.edges inv.closed r.chain)
    have p2 := pairwise_mem hsorted (chain_closed F.edges closed' r.chain)
    have key : ∀ e ∈ effsOf l n, S e = decide (e < j) := fun e hem => by
      rcases Nat.lt_trichotomy e j with hlt | heq | hgt
      · have := p2 e hem j hmem hlt (by simp)
        simp only [Bool.or_eq_true, beq_iff_eq] at this
        rcases this with this | this
        · simp [this, hlt]
        · omega
      · subst heq; simp [hj]
      · have hne : S e = false := by
          cases hs : S e with
          | false => rfl
          | true => have := p1 j hmem e hem hgt hs; rw [hj] at this; cases this
        rw [hne]; simp; omega
    constructor
    · rw [cnt]; exact List.countP_congr fun e hem => by rw [key e hem]
    · have := effCount_succ htag
      rw [he, if_pos rfl] at this
      have this : effCount (tagged ops l n) (j + 1) = effCount (tagged ops l n) j + 1 := this
      rw [← this, cnt]
      refine List.countP_congr fun e hem => ?_
      rw [key e hem]; simp; omega
  have cNot : isEff d = false → (effsOf l n).countP (fun i => S i || i == j) = (effsOf l n).countP S := fun he => by
    refine List.countP_congr fun e hem => ?_
    have : e ≠ j := fun e' => by
      subst e'
      obtain ⟨p, q, h1, h2, h3⟩ := effsAt_mem.1 hem
      have : p = e := by omega
      subst this
      rw [hd] at h1; cases h1
      rw [he] at h2; cases h2
    simp [this]
  have cLo : countB (fun e => (((aheads ops.toList [])[j]?).getD 0).testBit e) (effsOf l n) ≤ (effsOf l n).countP S := by
    rw [countB_eq]
    refine List.countP_mono_left fun e _ he => ?_
    obtain ⟨o', ho', e', he', hb, h'⟩ := ahead_edge (i := e) (j := j) he
    rw [ho] at ho'; cases ho'
    have hs := hready e' he' hb
    rcases h' with rfl | h'
    · exact hs
    · exact closed_ahead F.edges inv.closed e'.on e h' hs
  have cHi : (effsOf l n).countP S ≤ countB (fun e => !(((aheads ops.toList [])[e]?).getD 0).testBit j) (effsOf l n) := by
    rw [countB_eq]
    refine List.countP_mono_left fun e _ he => ?_
    cases hb : (((aheads ops.toList [])[e]?).getD 0).testBit j with
    | false => rfl
    | true => have := closed_ahead F.edges inv.closed e j hb he; rw [hj] at this; cases this
  have cAll : (effsOf l n).countP S ≤ effCount (tagged ops l n) (tagged ops l n).length := by
    rw [cnt]
    refine List.countP_mono_left fun e hem _ => ?_
    have := effs_lt e hem
    simpa using this
  -- what is left behind it
  have fin : ∀ {ρ' : Rho} {y : Value} {x' : Act} {w' : World}, x' = x.put o.dst y → (∀ m, val m < val h.next → ρ' m = ρ0 m) → Ext' ρ ρ' → HRel B w0 ρ' (hp ((effsOf l n).countP (fun i => S i || i == j))) w' → val h0.next ≤ val (hp ((effsOf l n).countP (fun i => S i || i == j))).next →
      (∀ i d L, l[i]? = some d → isAlloc d = true → S i = false → i ≠ j → val L = val h.next + aCount l i → ρ' L = none) → RV ρ' (v j) y → K x' w' := fun {ρ' y x' w'} hx q1 q2 q3 q4 q5 q6 => by
    subst hx
    have hA : ARel ρ' n (A.put { tmps := mask l tm0 v S ops.size, defers := a.defers } dst (v j)) (x.put o.dst y) :=
      ARel.put (C := ⟨P, G, n⟩) (a := { tmps := mask l tm0 v S ops.size, defers := a.defers }) ⟨i5.mono q2, i6.mono q2⟩ hcd q6
    refine hK _ _ ⟨closed', ρ', q1, q3, q4, fun i d L h1 h2 h3 h4 => ?_, ?_, ?_, i7.mono q2⟩
    · simp only [Bool.or_eq_false_iff] at h3
      exact q5 i d L h1 h2 h3.1 (by simpa using h3.2) h4
    · refine ⟨hA.tmps.size, hA.tmps.small, fun t ht => ?_⟩
      rw [mask_put F inv.closed ho hj]
      have := hA.tmps.get t ht
      rw [(put_tmps _ _ _).1] at this
      rw [hd0]
      simpa [hdst0] using this
    · have := hA.defers
      rw [(put_tmps _ _ _).2] at this
      exact this
  have stay : ∀ {y : Value}, isEff d = false → RV ρ (v j) y → K (x.put o.dst y) w := fun {y} he hv =>
    fin rfl i1 (Ext'.refl ρ) (by rw [cNot he]; exact i2) (by rw [cNot he]; exact i3) (fun i d L h1 h2 h3 _ h4 => i4 i d L h1 h2 h3 h4) hv
  have move : ∀ {ρ' : Rho} {y : Value} {w' : World}, isEff d = true → Step ρ ρ' (hp (effCount (tagged ops l n) j)) (hp (effCount (tagged ops l n) j + 1)) → RV ρ' (v j) y → HRel B w0 ρ' (hp (effCount (tagged ops l n) j + 1)) w' → K (x.put o.dst y) w' := fun {ρ' y w'} he s hv R' => by
    obtain ⟨e1, e2⟩ := cEff he
    rw [e1] at i2 i3
    refine fin rfl (fun m hm => ?_) (s.ext i2) (by rw [e2]; exact R') (by rw [e2]; exact Nat.le_trans i3 s.next) (fun i d L h1 h2 h3 _ h4 => ?_) hv
    · rw [s.old m (by have := r.next; omega)]; exact i1 m hm
    · have hlt := aCount_lt (k := n) h1 h2
      rw [s.old L (by have := r.next; omega)]
      exact i4 i d L h1 h2 h3 h4
  unfold wpOp
  simp only [ho]
  rcases fact with ⟨hw, hv, hh⟩ | ⟨hw, fact⟩
  · rw [if_neg (by rw [hwant, hw]; exact Bool.false_ne_true)]
    have hu : RV ρ (v j) Go.undef := by rw [hv]; exact .tuple .nil
    cases he : isEff d with
    | false => exact stay he hu
    | true =>
      have hhe := hh he
      rw [Nat.zero_add] at hhe
      obtain ⟨e1, e2⟩ := cEff he
      have R' := i2
      rw [e1, ← hhe] at R'
      exact move he ⟨fun _ _ => rfl, by rw [hhe]; exact Nat.le_refl _⟩ hu R'
  · rw [if_pos (by rw [hwant, hw])]
    refine .inl ?_
    unfold Oper.wp
    cases hop : compOp? ⟨P, G, n⟩ o.op with
    | none =>
      exfalso
      have : d.op = .stuck := by
        rw [hop, Option.getD_none] at hop0
        have : isAlloc d0 = false := by obtain ⟨a1, a2, a3⟩ := d0; simp only at hop0; subst hop0; rfl
        rw [← hdd, resD_not this]; exact hop0
      rw [this] at fact; exact fact
    | some q =>
      rw [hop, Option.getD_some] at hop0
      have ok := compOp_ok hop
      have same := same_op (E := envOf P) (tm := mask l tm0 v S ops.size) (tm' := tm j) hop fun y hy => sameX_of fun t ht hlt => agree t hlt (looks_tmp (by rw [← ht]; exact hy))
      by_cases hal : isAlloc d0 = true
      · -- a variable is made
        obtain ⟨dst1, op1, g1⟩ := d0
        simp only at hop0
        subst hop0
        cases op1 with
        | e q1 =>
          cases q1 with
          | alloc t cs =>
            have hdop : d.op = .r (.fresh t cs (.t (pathOf (n + aCount l j)))) := by rw [← hdd]; rfl
            rw [hdop] at fact
            obtain ⟨Q', hq, hask⟩ := fact
            have hlt := aCount_lt (k := n) hd0 rfl
            obtain ⟨L, hL, hsl⟩ := r.slots _ hlt
            have hsl' : getT (tm j) (pathOf (n + aCount l j)) = .ptr L 0 := by
              rw [r.slot (by omega) (by have h1 := reserve_le l n; have h2 := r.len; have h3 := r.size; have h4 : n ≤ 65536 := F.small; omega)]; exact hsl
            simp only [RD.req, X.ev, hsl', reqPtr, Option.some.injEq] at hq
            subst hq
            have hq2 := hask ((effsOf l n).countP S) cLo cHi (by rw [Nat.zero_add]; exact cAll)
            simp only [Dx.Q.ask] at hq2
            split at hq2
            · rename_i vs e hgL
              simp only [chk_some, Bool.and_eq_true, Option.some.injEq] at hq2
              obtain ⟨⟨⟨he, hcs⟩, _⟩, hvj⟩ := hq2
              have he : e = t := Nat.eq_of_beq_eq_true he
              have hcs := vsEq_eq hcs
              subst he; subst hcs
              have hnone : ρ L = none := i4 j _ L hd0 rfl hj hL
              -- the model's
              obtain ⟨z, hop2, hz, hvz⟩ := (show EOk ⟨P, G, n⟩ o.op (.alloc e vs) from ok).alloc e vs rfl
              subst hvz
              obtain ⟨y, hy, hyr⟩ := run_zeroT (ρ := ρ) hz
              have hE : Ext' ρ (upd ρ L (Blk.mk w.heap.size 0 (y.cells.toList ++ ([] : List Value)).length .nilFunc)) := upd_ext hnone
              have hLn : val L < val (hp ((effsOf l n).countP S)).next := by have := r.next; omega
              have hcr : CRel (upd ρ L (Blk.mk w.heap.size 0 (y.cells.toList ++ []).length .nilFunc)) (Blk.mk w.heap.size 0 (y.cells.toList ++ []).length .nilFunc) z.cells e 0 .yes (w.alloc (.cells ⟨y.cells.toList ++ []⟩ e)) := CRel.new (rest := []) ((hy.mono hE).cells) e 0 .yes
              have R' := i2.laid (o := .cells z.cells e 0 .yes) (x := .cells ⟨y.cells.toList ++ []⟩ e) (b := (Blk.mk w.heap.size 0 (y.cells.toList ++ ([] : List Value)).length .nilFunc)) rfl ⟨rfl, rfl⟩ hnone hLn (Nat.le_refl _) hgL (fun _ _ => rfl) hcr
              have hne : isEff d = false := by unfold isEff; rw [show d = ⟨d.dst, d.op, d.guard⟩ from rfl, hdop]
              have hrun : (execOp x.eval o).run P w = .ok (.value (.pointer (some ⟨w.heap.size, 0, none⟩))) (w.alloc (.cells ⟨y.cells.toList ++ []⟩ e)) := by
                unfold execOp
                rw [hop2]
                simp [Instr.alloc, hyr, newVar, newRow]
              rw [hrun, Oper.upon_value]
              refine fin rfl (fun m hm => ?_) hE (by rw [cNot hne]; exact R') (by rw [cNot hne]; exact i3) (fun i d' L' h1 h2 h3 h4 h5 => ?_) ?_
              · rw [upd_ne (fun e' => by rw [e'] at hm; omega)]; exact i1 m hm
              · have hne' : L' ≠ L := fun e' => by
                  rw [e', hL] at h5
                  rcases Nat.lt_or_gt_of_ne h4 with hlt' | hgt'
                  · have := aCount_inj hlt' h1 h2; omega
                  · have := aCount_inj hgt' hd0 rfl; omega
                rw [upd_ne hne']
                exact i4 i d' L' h1 h2 h3 h5
              · rw [← hvj]
                exact .ptr 0 (upd_self _ _ _)
            · cases hq2
          | _ => cases hal
        | _ => cases hal
      · have hal : isAlloc d0 = false := by simpa using hal
        have hdop : d.op = q := by rw [← hdd, resD_not hal]; exact hop0
        rw [hdop] at fact
        cases q with
        | mov y =>
          obtain ⟨z, hz, hr⟩ := ok i5 i7
          have same : y.ev _ = y.ev _ := same
          rw [hr o rfl w, Oper.upon_value]
          refine stay (by unfold isEff; rw [show d = ⟨d.dst, d.op, d.guard⟩ from rfl, hdop]) ?_
          have fact : v j = y.ev (tm j) := fact
          rw [fact, ← same]; exact hz
        | p q =>
          have same : q.eval _ _ = q.eval _ _ := same
          have fact : q.eval (envOf P) (tm j) = some (v j) := fact
          obtain ⟨z, hz, hr⟩ := ok i5 i7 (v j) (same.trans fact)
          rw [hr o rfl w, Oper.upon_value]
          exact stay (by unfold isEff; rw [show d = ⟨d.dst, d.op, d.guard⟩ from rfl, hdop]) hz
        | r q =>
          have same : q.req _ = q.req _ := same
          obtain ⟨Q', hq, hask⟩ := fact
          have hq2 := hask ((effsOf l n).countP S) cLo cHi (by rw [Nat.zero_add]; exact cAll)
          obtain ⟨z, hz, hr⟩ := ok i5 i7 Q' (same.trans hq) (v j) i2 hq2
          rw [hr o rfl, Oper.upon_value]
          exact stay (by unfold isEff; rw [show d = ⟨d.dst, d.op, d.guard⟩ from rfl, hdop]) hz
        | e q =>
          have he : isEff d = true := by unfold isEff; rw [show d = ⟨d.dst, d.op, d.guard⟩ from rfl, hdop]
          have same : ∀ h, q.run _ h = q.run _ h := same
          have fact : q.run (tm j) (hp (0 + effCount (tagged ops l n) j)) = some (v j, hp (0 + effCount (tagged ops l n) j + 1)) := fact
          rw [Nat.zero_add] at fact
          have R' := i2
          rw [(cEff he).1] at R'
          obtain ⟨ρ', y, w', s1, s2, s3, s4⟩ := ok.eff i5 i7 R' ((same _).trans fact)
          rcases s4 o rfl with hr | ⟨hr, rfl⟩
          · rw [hr, Oper.upon_value]; exact move he s1 s2 s3
          · rw [hr, Oper.upon_skip]; exact move he s1 s2 s3
        | c q =>
          have he : isEff d = true := by unfold isEff; rw [show d = ⟨d.dst, d.op, d.guard⟩ from rfl, hdop]
          have same : q.args _ _ = q.args _ _ := same
          obtain ⟨⟨f, vs⟩, hf, hcl⟩ := fact
          rw [Nat.zero_add] at hcl
          have R' := i2
          rw [(cEff he).1] at R'
          obtain ⟨xs, hxs, hr⟩ := ok i5 i7 (same.trans hf)
          rw [hr o rfl w]
          refine (hcall hcl R' i7 hxs).upon fun y w' hR => ?_
          obtain ⟨ρ', s1, s2, s3⟩ := hR
          exact move he s1 s2 s3
        | defer q => exact fact.elim
        | stuck => exact fact.elim

end
end Go.Dx
