/-
  The deterministic machine over labels against the model: functions of slices of bytes, whose answers are listed: each was run once, on a heap of its own.
  The deterministic machine over labels against the model: the table of all of a program's functions, with no text of its own.
  The deterministic machine over labels against the model: where a text lies in another one; where a byte lies in a slice.
  The relation at the start, where several variables are known.
-/
import Derived.Test.YtkaoagmdhlpfoaaGreatDoorXG
import Derived.Test.YtkaoagmdhlpfoaaGreatDoorXH
import Derived.Test.YtkaoagmdhlpfoaaGreatDoorXF
import Derived.Lib.BytesEntry
import Derived.Lib.IndexEntry
import Derived.Lib.SlBytesIndexEntry
namespace Go.Dx
open Go Go.RowKit

mutual
/-- Is there no label in it? -/
def noLab : V → Bool
  | .bool _ => true
  | .int _ _ => true
  | .str _ => true
  | .nilPtr => true
  | .nilSlice _ => true
  | .nilMap => true
  | .agg l => noLabs l
  | .tuple l => noLabs l
  | _ => false
def noLabs : List V → Bool
  | [] => true
  | v :: vs => noLab v && noLabs vs
end

mutual
theorem RV.any_rho' {ρ ρ' : Rho} : ∀ {v : V} {x : Value}, RV ρ v x → noLab v = true → RV ρ' v x
  | _, _, .bool b, _ => .bool b
  | _, _, .int k n, _ => .int k n
  | _, _, .str t, _ => .str t
  | _, _, .nilPtr, _ => .nilPtr
  | _, _, .ptr off h, hn => by simp [noLab] at hn
  | _, _, .nilSlice c, _ => .nilSlice c
  | _, _, .slice off len c h, hn => by simp [noLab] at hn
  | _, _, .sliceEnd off len size c h hl hc, hn => by simp [noLab] at hn
  | _, _, .nilMap, _ => .nilMap
  | _, _, .map h, hn => by simp [noLab] at hn
  | _, _, .func f ha hb, hn => by simp [noLab] at hn
  | _, _, .nilFunc, hn => by simp [noLab] at hn
  | _, _, .iface t h, hn => by simp [noLab] at hn
  | _, _, .nilIface, hn => by simp [noLab] at hn
  | _, _, .agg h, hn => .agg (RVs.any_rho' h (by simpa [noLab] using hn))
  | _, _, .tuple h, hn => .tuple (RVs.any_rho' h (by simpa [noLab] using hn))
  | _, _, .sym h ht hv, hn => by simp [noLab] at hn
  | _, _, .any h, hn => by simp [noLab] at hn
  | _, _, .empty a c, hn => by simp [noLab] at hn
  | _, _, .rng h1 h2, hn => by simp [noLab] at hn
theorem RVs.any_rho' {ρ ρ' : Rho} : ∀ {v : List V} {x : List Value}, RVs ρ v x → noLabs v = true → RVs ρ' v x
  | _, _, .nil, _ => .nil
  | _, _, .cons h hs, hn => .cons (RV.any_rho' h (by simp only [noLabs, Bool.and_eq_true] at hn; exact hn.1)) (RVs.any_rho' hs (by simp only [noLabs, Bool.and_eq_true] at hn; exact hn.2))
end
theorem RV.any_rho {ρ ρ' : Rho} {v : V} {x : Value} (hn : noLab v = true) (h : RV ρ v x) : RV ρ' v x := h.any_rho' hn

mutual
/-- Is there no label in it but of variables? -/
def lowLab (G : Nat) : V → Bool
  | .bool _ => true
  | .int _ _ => true
  | .str _ => true
  | .nilPtr => true
  | .nilSlice _ => true
  | .nilMap => true
  | .nilFunc => true
  | .nilIface => true
  | .ptr l _ => Nat.blt (val l) G && lbEq l (pathOf (val l))
  | .iface _ v => lowLab G v
  | .agg l => lowLabs G l
  | .tuple l => lowLabs G l
  | _ => false
def lowLabs (G : Nat) : List V → Bool
  | [] => true
  | v :: vs => lowLab G v && lowLabs G vs
end

/-- The same of all variables. -/
def SameLow (G : Nat) (ρ ρ' : Rho) : Prop := ∀ l, val l < G → l = pathOf (val l) → ρ' l = ρ l

mutual
theorem RV.low' {G : Nat} {ρ ρ' : Rho} (S : SameLow G ρ ρ') : ∀ {v : V} {x : Value}, RV ρ v x → lowLab G v = true → RV ρ' v x
  | _, _, .bool b, _ => .bool b
  | _, _, .int k n, _ => .int k n
  | _, _, .str t, _ => .str t
  | _, _, .nilPtr, _ => .nilPtr
  | _, _, .ptr off h, hn => by
    simp only [lowLab, Bool.and_eq_true] at hn
    exact .ptr off ((S _ (by simpa using hn.1) (lbEq_iff hn.2)).trans h)
  | _, _, .nilSlice c, _ => .nilSlice c
  | _, _, .slice off len c h, hn => by simp [lowLab] at hn
  | _, _, .sliceEnd off len size c h hl hc, hn => by simp [lowLab] at hn
  | _, _, .nilMap, _ => .nilMap
  | _, _, .map h, hn => by simp [lowLab] at hn
  | _, _, .func f ha hb, hn => by simp [lowLab] at hn
  | _, _, .nilFunc, hn => .nilFunc
  | _, _, .iface t h, hn => .iface t (RV.low' S h (by simpa [lowLab] using hn))
  | _, _, .nilIface, hn => .nilIface
  | _, _, .agg h, hn => .agg (RVs.low' S h (by simpa [lowLab] using hn))
  | _, _, .tuple h, hn => .tuple (RVs.low' S h (by simpa [lowLab] using hn))
  | _, _, .sym h ht hv, hn => by simp [lowLab] at hn
  | _, _, .any h, hn => by simp [lowLab] at hn
  | _, _, .empty a c, hn => by simp [lowLab] at hn
  | _, _, .rng h1 h2, hn => by simp [lowLab] at hn
theorem RVs.low' {G : Nat} {ρ ρ' : Rho} (S : SameLow G ρ ρ') : ∀ {v : List V} {x : List Value}, RVs ρ v x → lowLabs G v = true → RVs ρ' v x
  | _, _, .nil, _ => .nil
  | _, _, .cons h hs, hn => .cons (RV.low' S h (by simp only [lowLabs, Bool.and_eq_true] at hn; exact hn.1)) (RVs.low' S hs (by simp only [lowLabs, Bool.and_eq_true] at hn; exact hn.2))
end
theorem RV.low {G : Nat} {ρ ρ' : Rho} {v : V} {x : Value} (hn : lowLab G v = true) (S : SameLow G ρ ρ') (h : RV ρ v x) : RV ρ' v x := h.low' S hn

def glOk (G : Nat) : List (Lb × Obj) → Bool
  | [] => true
  | (_, .cells vs _ _ own) :: r => lowLabs G vs && !own.may && glOk G r
  | _ :: _ => false

/-- Where a listed variable's label is one. -/
def glBelow (G : Nat) : List (Lb × Obj) → Bool
  | [] => true
  | (l, _) :: r => Nat.blt (val l) G && lbEq l (pathOf (val l)) && glBelow G r

def argsT (et : TypeId) : Nat → List Key → T Obj → T Obj
  | _, [], t => t
  | i, .b b _ :: r, t => argsT et (i + 1) r (t.set (pathOf i) (some (.cells (natCells b) et 0 .no)))
  | i, _ :: r, t => argsT et (i + 1) r t

def argV (i : Nat) : Key → V
  | .s b => .str b
  | .b b c => .slice (pathOf i) 0 b.length c
  | .nil c => .nilSlice c
  | .emp => .empty

def argsV : Nat → List Key → List V
  | _, [] => []
  | i, k :: r => argV i k :: argsV (i + 1) r

def heapT (et : TypeId) (gl : List (Lb × Obj)) (G : Nat) (ks : List Key) : H := { t := argsT et G ks (ofL gl), next := pathOf (G + ks.length) }

/-- A number from lo to hi is in one of these. -/
def covers : Int → Int → List (Int × Int) → Bool
  | lo, hi, [(a, b)] => decide (a ≤ lo) && decide (hi ≤ b)
  | lo, hi, (a, b) :: r => decide (a ≤ lo) && covers (b + 1) hi r
  | _, _, [] => false

theorem covers_mem : ∀ {lo hi m : Int} {l : List (Int × Int)}, covers lo hi l = true → lo ≤ m → m ≤ hi → ∃ p ∈ l, p.1 ≤ m ∧ m ≤ p.2
  | lo, hi, m, [], h, _, _ => by cases h
  | lo, hi, m, [(a, b)], h, h1, h2 => by
    simp only [covers, Bool.and_eq_true, decide_eq_true_eq] at h
    exact ⟨_, List.mem_cons_self .., Int.le_trans h.1 h1, Int.le_trans h2 h.2⟩
  | lo, hi, m, (a, b) :: c :: r, h, h1, h2 => by
    simp only [covers, Bool.and_eq_true, decide_eq_true_eq] at h
    by_cases hm : m ≤ b
    · exact ⟨_, List.mem_cons_self .., Int.le_trans h.1 h1, hm⟩
    · obtain ⟨p, p1, p2⟩ := covers_mem h.2 (by omega) h2
      exact ⟨p, List.mem_cons_of_mem _ p1, p2⟩

/-- What the variables hold in a run: the ranged one's number is narrowed. -/
def rgAt (rg : Option (Lb × Int × Int × TypeId)) (gl : List (Lb × Obj)) (p : Int × Int) : List (Lb × Obj) := match rg with
  | none => gl
  | some (l, _, _, t) => (l, .cells [.rng p.1 p.2] t 0 .no) :: gl

def rgCovers (rg : Option (Lb × Int × Int × TypeId)) (vs : List (Int × Int)) : Bool := match rg with
  | none => !vs.isEmpty
  | some (_, lo, hi, _) => covers lo hi vs

/-- What the run came to is the answer. -/
def answerOk (v : V) : Option (V × H) → Bool
  | some (u, _) => vEq u v && noLab v
  | none => false

theorem argsT_get {et : TypeId} : ∀ {ks : List Key} {i : Nat} {t : T Obj} {l : Lb} {o : Obj}, (argsT et i ks t).get l = some o → (∃ j b c, ks[j]? = some (.b b c) ∧ l = pathOf (i + j) ∧ o = .cells (natCells b) et 0 .no) ∨ t.get l = some o
  | [], i, t, l, o, h => .inr h
  | .b b c :: r, i, t, l, o, h => by
    simp only [argsT] at h
    rcases argsT_get h with ⟨j, b', c', h1, h2, h3⟩ | h
    · exact .inl ⟨j + 1, b', c', by simpa using h1, by rw [h2]; congr 1; omega, h3⟩
    · by_cases e : pathOf i = l
      · subst e
        rw [T.get_set_self] at h; cases h
        exact .inl ⟨0, b, c, rfl, rfl, rfl⟩
      · rw [T.get_set_ne _ _ _ _ e] at h; exact .inr h
  | .s _ :: r, i, t, l, o, h => by
    simp only [argsT] at h
    rcases argsT_get h with ⟨j, b', c', h1, h2, h3⟩ | h
    · exact .inl ⟨j + 1, b', c', by simpa using h1, by rw [h2]; congr 1; omega, h3⟩
    · exact .inr h
  | .nil _ :: r, i, t, l, o, h => by
    simp only [argsT] at h
    rcases argsT_get h with ⟨j, b', c', h1, h2, h3⟩ | h
    · exact .inl ⟨j + 1, b', c', by simpa using h1, by rw [h2]; congr 1; omega, h3⟩
    · exact .inr h
  | .emp :: r, i, t, l, o, h => by
    simp only [argsT] at h
    rcases argsT_get h with ⟨j, b', c', h1, h2, h3⟩ | h
    · exact .inl ⟨j + 1, b', c', by simpa using h1, by rw [h2]; congr 1; omega, h3⟩
    · exact .inr h

theorem glOk_mem {G : Nat} : ∀ {gl : List (Lb × Obj)}, glOk G gl = true → ∀ l o, (l, o) ∈ gl → ∃ vs e fz own, o = .cells vs e fz own ∧ lowLabs G vs = true ∧ own.may = false
  | [], _, _, _, hm => by cases hm
  | (m, .cells vs e fz own) :: r, k, l, o, hm => by
    simp only [glOk, Bool.and_eq_true, Bool.not_eq_true'] at k
    rcases List.mem_cons.1 hm with q | hm
    · cases q; exact ⟨vs, e, fz, own, rfl, k.1.1, k.1.2⟩
    · exact glOk_mem k.2 l o hm
  | (m, .map _ _) :: r, k, _, _, _ => by cases k
  | (m, .strIter _ _) :: r, k, _, _, _ => by cases k
  | (m, .mapIter _ _ _ _) :: r, k, _, _, _ => by cases k

theorem glBelow_mem {G : Nat} : ∀ {gl : List (Lb × Obj)}, glBelow G gl = true → ∀ l o, (l, o) ∈ gl → val l < G ∧ l = pathOf (val l)
  | [], _, _, _, hm => by cases hm
  | (m, x) :: r, k, l, o, hm => by
    simp only [glBelow, Bool.and_eq_true] at k
    rcases List.mem_cons.1 hm with q | hm
    · cases q; exact ⟨by simpa using k.1.1, lbEq_iff k.1.2⟩
    · exact glBelow_mem k.2 l o hm

theorem capEq_eq {a b : Cap} (h : capEq a b = true) : a = b := by
  cases a <;> cases b <;> first | (rw [Nat.eq_of_beq_eq_true h]) | cases h

theorem keyEq_eq {a b : Key} (h : keyEq a b = true) : a = b := by
  cases a <;> cases b <;> try (cases h; done)
  · rw [natsEq_iff.1 h]
  · simp only [keyEq, Bool.and_eq_true] at h
    rw [natsEq_iff.1 h.1, capEq_eq h.2]
  · rw [Nat.eq_of_beq_eq_true h]
  · rfl

theorem keysEq_eq : ∀ {a : List (Lb × Key)} {b : List Key}, keysEq a b = true → a.map (·.2) = b
  | [], [], _ => rfl
  | (_, k) :: r, k' :: s, h => by
    simp only [keysEq, Bool.and_eq_true] at h
    simp only [List.map_cons, keyEq_eq h.1, keysEq_eq h.2]
  | [], _ :: _, h => by cases h
  | _ :: _, [], h => by cases h

theorem tabFind_mem {ks : List (Lb × Key)} {v : V} : ∀ {ts : List (List Key × V)}, tabFind ks ts = some v → (ks.map (·.2), v) ∈ ts
  | [], h => by cases h
  | (k, u) :: r, h => by
    simp only [tabFind] at h
    split at h
    · rename_i e
      cases h
      rw [keysEq_eq e]; exact List.mem_cons_self ..
    · exact List.mem_cons_of_mem _ (tabFind_mem h)

theorem lbEq_self : ∀ l : Lb, lbEq l l = true
  | [] => rfl
  | true :: l => lbEq_self l
  | false :: l => lbEq_self l

theorem inKeys_iff {l : Lb} : ∀ {ks : List (Lb × Key)}, inKeys l ks = false → ∀ (i : Nat) (m : Lb) (b : List Nat) (c : Cap), ks[i]? = some (m, .b b c) → l ≠ m
  | [], _, i, m, b, c, hk => by simp at hk
  | (m', .b b' c') :: ks, h, i, m, b, c, hk => by
    simp only [inKeys, Bool.or_eq_false_iff] at h
    cases i with
    | zero =>
      simp at hk
      obtain ⟨rfl, _⟩ := hk
      intro e
      subst e
      have t := lbEq_self l
      rw [t] at h; cases h.1
    | succ i => exact inKeys_iff h.2 i m b c (by simpa using hk)
  | (m', .s _) :: ks, h, i, m, b, c, hk => by
    cases i with
    | zero => simp at hk
    | succ i => exact inKeys_iff (ks := ks) h i m b c (by simpa using hk)
  | (m', .nil _) :: ks, h, i, m, b, c, hk => by
    cases i with
    | zero => simp at hk
    | succ i => exact inKeys_iff (ks := ks) h i m b c (by simpa using hk)
  | (m', .emp) :: ks, h, i, m, b, c, hk => by
    cases i with
    | zero => simp at hk
    | succ i => exact inKeys_iff (ks := ks) h i m b c (by simpa using hk)

theorem apartK_ne : ∀ {ks : List (Lb × Key)}, apartK ks = true → ∀ (i j : Nat) (l m : Lb) (a b : List Nat) (c d : Cap), i < j → ks[i]? = some (l, .b a c) → ks[j]? = some (m, .b b d) → l ≠ m
  | [], _, i, j, l, m, a, b, c, d, _, h, _ => by simp at h
  | (l', k) :: r, h, i, j, l, m, a, b, c, d, hij, ha, hb => by
    obtain ⟨j, rfl⟩ : ∃ m, j = m + 1 := ⟨j - 1, by omega⟩
    have htail : apartK r = true := by
      cases k with
      | b _ _ => simp only [apartK, Bool.and_eq_true] at h; exact h.2
      | _ => exact h
    cases i with
    | zero =>
      simp at ha
      obtain ⟨rfl, rfl⟩ := ha
      simp only [apartK, Bool.and_eq_true, Bool.not_eq_true'] at h
      exact inKeys_iff h.1 j m b d (by simpa using hb)
    | succ i => exact apartK_ne htail i j l m a b c d (by omega) (by simpa using ha) (by simpa using hb)

section
variable {P : Program} {G : Nat} {f : FuncId} {B : Nat} {w0 : World} {ρ : Rho} {h h' : H} {w : World}

theorem HRel.under (R : HRel B w0 ρ h w) {w' : World} (hb : Below w.heap.size w w') : HRel B w0 ρ h w' :=
  ⟨fun l b o hl ho => (R.obj l b o hl ho).of_block (Ext'.refl _) (hb.block _ (R.obj l b o hl ho).lt), R.lt, R.base, R.inj, R.own, Nat.le_trans R.size hb.size, R.below.trans (hb.mono R.size)⟩

def rhoT (ρ : Rho) (G : Nat) (bs : List Blk) : Rho := fun l => if l = pathOf (val l) then (if val l < G then ρ l else bs[val l - G]?) else none

theorem rhoT_var {bs : List Blk} {l : Lb} (hl : l = pathOf (val l)) (hg : val l < G) : rhoT ρ G bs l = ρ l := by
  unfold rhoT; rw [if_pos hl, if_pos hg]

theorem rhoT_arg {bs : List Blk} {i : Nat} (hs : G + i < 2 ^ 64) : rhoT ρ G bs (pathOf (G + i)) = bs[i]? := by
  unfold rhoT
  rw [val_pathOf hs, if_pos rfl, if_neg (by omega), show G + i - G = i by omega]

/-- A slice argument: its block. -/
structure SliceAt (h : H) (ρ : Rho) (et : TypeId) (l : Lb) (bs : List Nat) (cap : Cap) (x : Value) (b : Blk) : Prop where
  at_ : ρ l = some b
  base : b.base = 0
  get : ∃ vs fz own, h.get l = some (.cells vs et fz own) ∧ ∃ r, takeN bs.length vs = some r ∧ r = natCells bs
  val : (∃ c, cap = .exact c ∧ x = .slice (some ⟨b.block, b.base + 0, none⟩) bs.length c) ∨ (∃ es c, cap = .toEnd es ∧ x = .slice (some ⟨b.block, b.base + 0, none⟩) bs.length c ∧ bs.length ≤ c ∧ b.base + 0 + c * es = b.total)

/-- An argument: a slice's block, or a value that hangs on no label. -/
def ArgAt (h : H) (ρ : Rho) (et : TypeId) (gl : List (Lb × Obj)) (k : Lb × Key) (x : Value) (b : Blk) : Prop :=
  match k.2 with
  | .b bs cap => SliceAt h ρ et k.1 bs cap x b ∧ inDomL k.1 gl = false
  | .s bs => (∀ ρ', RV ρ' (.str bs) x)
  | .nil c => (∀ ρ', RV ρ' (.nilSlice c) x)
  | .emp => (∀ ρ', RV ρ' .empty x)

theorem bytesIn_cells : ∀ {r : List V} {b : List Nat}, bytesIn r = some b → r = natCells b
  | [], b, h => by simp only [bytesIn, Option.some.injEq] at h; subst h; rfl
  | v :: r, b, h => by
    unfold bytesIn at h
    split at h
    · rename_i e; cases e
    · rename_i n r' e
      cases e
      simp only [chk_some, ob_some, Option.some.injEq] at h
      obtain ⟨_, l, hl, rfl⟩ := h
      rw [bytesIn_cells hl]; rfl
    · cases h

theorem natCells_len : ∀ b : List Nat, (natCells b).length = b.length
  | [] => rfl
  | _ :: r => by simp [natCells, natCells_len r]

theorem keyOf_arg (R : HRel B w0 ρ h w) {et : TypeId} {gl : List (Lb × Obj)} {v : V} {x : Value} {k : Lb × Key} (hk : keyOf et gl h v = some k) (rv : RV ρ v x) : ∃ b, ArgAt h ρ et gl k x b := by
  unfold keyOf at hk
  split at hk
  · rename_i l off n cap
    split at hk
    · rename_i vs e fz own hg
      simp only [chk_some, ob_some, Option.some.injEq, Bool.and_eq_true, Bool.not_eq_true'] at hk
      obtain ⟨⟨⟨h0, he⟩, hd⟩, r, hr, b, hb, rfl⟩ := hk
      have h0 := Nat.eq_of_beq_eq_true h0
      have he := Nat.eq_of_beq_eq_true he
      subst h0; subst he
      have hc := bytesIn_cells hb
      have hn : n = b.length := by
        have := takeN_length hr
        rw [hc, natCells_len] at this; exact this.symm
      subst hn
      cases rv with
      | slice _ _ c hl => exact ⟨_, ⟨hl, (R.base _ _ hl).1, ⟨vs, fz, own, hg, r, hr, hc⟩, .inl ⟨c, rfl, rfl⟩⟩, hd⟩
      | sliceEnd _ _ size c hl h1 h2 => exact ⟨_, ⟨hl, (R.base _ _ hl).1, ⟨vs, fz, own, hg, r, hr, hc⟩, .inr ⟨size, c, rfl, rfl, h1, h2⟩⟩, hd⟩
    · cases hk
  · cases hk; cases rv with | str t => exact ⟨Blk.mk 0 0 0 .nilFunc, fun _ => .str t⟩
  · cases hk; cases rv; exact ⟨Blk.mk 0 0 0 .nilFunc, fun _ => .nilSlice _⟩
  · cases hk; cases rv; exact ⟨Blk.mk 0 0 0 .nilFunc, fun _ => .empty _ _⟩
  · cases hk

theorem keysOf_args (R : HRel B w0 ρ h w) {et : TypeId} {gl : List (Lb × Obj)} : ∀ {vs : List V} {xs : List Value} {ks : List (Lb × Key)}, keysOf et gl h vs = some ks → RVs ρ vs xs →
    ∃ bs : List Blk, bs.length = ks.length ∧ xs.length = ks.length ∧ (∀ (i : Nat) (k : Lb × Key), ks[i]? = some k → ∃ x b, xs[i]? = some x ∧ bs[i]? = some b ∧ ArgAt h ρ et gl k x b)
  | [], xs, ks, hk, rv => by
    simp only [keysOf, Option.some.injEq] at hk
    subst hk
    cases rv
    exact ⟨[], rfl, rfl, fun i k h => by simp at h⟩
  | v :: vs, xs, ks, hk, rv => by
    simp only [keysOf, ob_some, Option.some.injEq] at hk
    obtain ⟨k, hk1, ks', hk2, rfl⟩ := hk
    cases rv with
    | cons r rs =>
      obtain ⟨b, hb⟩ := keyOf_arg R hk1 r
      obtain ⟨bs, l1, l2, hall⟩ := keysOf_args R hk2 rs
      refine ⟨b :: bs, by simp [l1], by simp [l2], fun i k' hi => ?_⟩
      cases i with
      | zero => simp at hi; subst hi; exact ⟨_, b, rfl, rfl, hb⟩
      | succ i => simpa using hall i k' (by simpa using hi)

theorem takeN_prefix {vs r : List V} {n : Nat} (h : takeN n vs = some r) : ∀ (i : Nat) (v : V), r[i]? = some v → vs[i]? = some v := fun i v hv => by
  have hlt : i < n := by have := (List.getElem?_eq_some_iff.1 hv).1; rw [takeN_length h] at this; exact this
  rw [← takeN_get h i hlt]; exact hv

theorem natCells_noLab : ∀ (b : List Nat) (i : Nat) (v : V), (natCells b)[i]? = some v → noLab v = true
  | [], i, v, h => by simp [natCells] at h
  | n :: b, 0, v, h => by simp [natCells] at h; subst h; rfl
  | n :: b, i + 1, v, h => natCells_noLab b i v (by simpa [natCells] using h)

theorem lowLabs_get {G : Nat} : ∀ (b : List V) (i : Nat) (v : V), lowLabs G b = true → b[i]? = some v → lowLab G v = true
  | [], i, v, _, h => by simp at h
  | n :: b, 0, v, hb, h => by simp only [lowLabs, Bool.and_eq_true] at hb; simp at h; subst h; exact hb.1
  | n :: b, i + 1, v, hb, h => by simp only [lowLabs, Bool.and_eq_true] at hb; exact lowLabs_get b i v hb.2 (by simpa using h)

theorem noLabs_get : ∀ (b : List V) (i : Nat) (v : V), noLabs b = true → b[i]? = some v → noLab v = true
  | [], i, v, _, h => by simp at h
  | n :: b, 0, v, hb, h => by simp only [noLabs, Bool.and_eq_true] at hb; simp at h; subst h; exact hb.1
  | n :: b, i + 1, v, hb, h => by simp only [noLabs, Bool.and_eq_true] at hb; exact noLabs_get b i v hb.2 (by simpa using h)

theorem inDomL_not {l : Lb} {o : Obj} : ∀ {gl : List (Lb × Obj)}, inDomL l gl = false → (l, o) ∈ gl → False
  | [], _, h => by cases h
  | (a, c) :: gl, hd, hm => by
    simp only [inDomL, Bool.or_eq_false_iff] at hd
    rcases List.mem_cons.1 hm with q | q
    · cases q
      rw [lbEq_self] at hd; cases hd.1
    · exact inDomL_not hd.2 q

theorem inDomL_same {l : Lb} : ∀ {gl gl' : List (Lb × Obj)}, gl.map (·.1) = gl'.map (·.1) → inDomL l gl = inDomL l gl'
  | [], [], _ => rfl
  | (a, _) :: gl, (b, _) :: gl', h => by
    simp only [List.map_cons, List.cons.injEq] at h
    simp only [inDomL, h.1, inDomL_same h.2]
  | [], _ :: _, h => by cases h
  | _ :: _, [], h => by cases h

/-- What is asked of the variables in a run of its own. -/
def VarsOk (G : Nat) (h : H) (ρ : Rho) (w : World) (gl : List (Lb × Obj)) : Prop := ∀ l o, (l, o) ∈ gl → val l < G ∧ l = pathOf (val l) ∧ (h.get l).isSome = true ∧ o.writes = false ∧ ∀ ρ' b, SameLow G ρ ρ' → ρ l = some b → ORel ρ' b w o

/-- A run on a heap of its own holds of the world. -/
theorem tab_core {et : TypeId} {gl0 gl : List (Lb × Obj)} (hGs : G + 64 < 2 ^ 64) {call : Orc} (hcall : OrcOk P G call) (R : HRel B w0 ρ h w) (hG : GRel ρ G) (F : VarsOk G h ρ w gl) (hgg : gl0.map (·.1) = gl.map (·.1)) {args : List V} {xs : List Value} {ks : List (Lb × Key)} (hx : RVs ρ args xs)
    (hks : keysOf et gl0 h args = some ks) (hap : apartK ks = true) (hlen : ks.length < 64) {u : V} (ha : answerOk u (call f (argsV G (ks.map (·.2))) (heapT et gl G (ks.map (·.2)))) = true) :
    Good P f xs w fun x w' => ∃ ρ', Step ρ ρ' h h ∧ RV ρ' u x ∧ HRel B w0 ρ' h w' := by
  obtain ⟨bs, l1, l2, harg⟩ := keysOf_args R hks hx
  unfold answerOk at ha
  split at ha
  · rename_i u' hT hrun
    simp only [Bool.and_eq_true] at ha
    have hue := vEq_eq ha.1
    subst hue
    have hnl := ha.2
    obtain ⟨cs, hcs⟩ : ∃ cs, cs = bs.map fun b => Blk.mk b.block 0 b.total .nilFunc := ⟨_, rfl⟩
    have cget : ∀ (i : Nat) (k : Lb × Key), ks[i]? = some k → ∃ x b, xs[i]? = some x ∧ cs[i]? = some (Blk.mk b.block 0 b.total .nilFunc) ∧ ArgAt h ρ et gl0 k x b := fun i k hi => by
      obtain ⟨x, b, e1, e2, e3⟩ := harg i k hi
      exact ⟨x, b, e1, by rw [hcs, List.getElem?_map, e2]; rfl, e3⟩
    have hkl : ∀ (i : Nat) (k : Lb × Key), ks[i]? = some k → i < 64 := fun i k hi => by have := (List.getElem?_eq_some_iff.1 hi).1; omega
    have kmap : ∀ (j : Nat) (k : Key), (ks.map (·.2))[j]? = some k → ∃ l, ks[j]? = some (l, k) := fun j k hj => by
      rw [List.getElem?_map] at hj
      cases hq : ks[j]? with
      | none => rw [hq] at hj; cases hj
      | some k' =>
        rw [hq] at hj
        obtain ⟨l, k'⟩ := k'
        simp only [Option.map_some, Option.some.injEq] at hj
        exact ⟨l, by rw [hj]⟩
    have hget : ∀ l o, (heapT et gl G (ks.map (·.2))).get l = some o → (∃ j m b c, ks[j]? = some (m, .b b c) ∧ l = pathOf (G + j) ∧ o = .cells (natCells b) et 0 .no) ∨ (l, o) ∈ gl := fun l o ho => by
      rcases argsT_get ho with ⟨j, b, c, q1, q2, q3⟩ | q
      · obtain ⟨m, hm⟩ := kmap j _ q1
        exact .inl ⟨j, m, b, c, hm, q2, q3⟩
      · exact .inr (ofL_get q)
    have hrho : ∀ l b, rhoT ρ G cs l = some b → (val l < G ∧ ρ l = some b ∧ l = pathOf (val l)) ∨ ∃ j, l = pathOf (G + j) ∧ j < ks.length ∧ cs[j]? = some b := fun l b hl => by
      unfold rhoT at hl
      split at hl
      · rename_i e
        split at hl
        · rename_i hg; exact .inl ⟨hg, hl, e⟩
        · rename_i hg
          refine .inr ⟨val l - G, by rw [show G + (val l - G) = val l by omega]; exact e, ?_, hl⟩
          have := (List.getElem?_eq_some_iff.1 hl).1
          rw [hcs, List.length_map, l1] at this; exact this
      · cases hl
    have hvar : ∀ l b, val l < G → l = pathOf (val l) → ρ l = some b → ∃ n, b = Blk.mk (val l) 0 n .nilFunc := fun l b hg he hl => by
      obtain ⟨n, hn⟩ := hG (val l) hg
      rw [← he, hl] at hn
      exact ⟨n, Option.some.inj hn⟩
    have R' : HRel w.heap.size w (rhoT ρ G cs) (heapT et gl G (ks.map (·.2))) w := by
      refine ⟨fun l b o hl ho => ?_, fun l b hl => ?_, fun l b hl => ?_, fun l m b d hl hm il im e => ?_, fun l b o hl ho hw => ?_, Nat.le_refl _, Below.refl _ _⟩
      · rcases hget l o ho with ⟨j, m, bb, cc, q1, rfl, rfl⟩ | q
        · have hj := hkl j _ q1
          rw [rhoT_arg (by omega)] at hl
          obtain ⟨x, b', e1, e2, e3, _⟩ := cget j _ q1
          rw [e2] at hl; cases hl
          obtain ⟨vs, fz, own, g1, r, g2, g3⟩ := e3.get
          have c : CRel ρ b' vs et fz own w := R.obj _ _ _ e3.at_ g1
          have hb0 := e3.base
          have hrl := takeN_length g2
          have hle := takeN_le g2
          have hfit := c.fits
          refine ⟨c.shape, ?_, fun i v hv => ?_, (fun h => by cases h), (fun h => by cases h)⟩
          · have hnc := natCells_len bb
            show 0 + (natCells bb).length ≤ b'.total
            omega
          · have hv' : r[i]? = some v := by rw [g3]; exact hv
            obtain ⟨y, y1, y2⟩ := c.cell i v (takeN_prefix g2 i v hv')
            refine ⟨y, ?_, RV.any_rho (natCells_noLab _ _ _ hv) y2⟩
            unfold cellAd at y1 ⊢
            rw [hb0] at y1
            exact y1
        · obtain ⟨g2, g1, _, _, g5⟩ := F l o q
          rw [rhoT_var g1 g2] at hl
          exact g5 _ b (fun l hl he => rhoT_var he hl) hl
      · show val l < val (pathOf (G + (ks.map (·.2)).length))
        rw [List.length_map, val_pathOf (by omega)]
        rcases hrho l b hl with ⟨q, _, _⟩ | ⟨j, rfl, hj, _⟩
        · omega
        · rw [val_pathOf (by omega)]; omega
      · rcases hrho l b hl with ⟨q, q2, q3⟩ | ⟨j, rfl, hj, q⟩
        · obtain ⟨n, rfl⟩ := hvar l b q q3 q2
          exact ⟨rfl, .nil rfl⟩
        · rw [hcs, List.getElem?_map] at q
          cases hb : bs[j]? with
          | none => rw [hb] at q; cases q
          | some c => rw [hb] at q; cases q; exact ⟨rfl, .nil rfl⟩
      · obtain ⟨o1, ho1⟩ := Option.isSome_iff_exists.1 il
        obtain ⟨o2, ho2⟩ := Option.isSome_iff_exists.1 im
        have blk : ∀ {l : Lb} {o : Obj} {b : Blk}, rhoT ρ G cs l = some b → ((∃ j m b c, ks[j]? = some (m, .b b c) ∧ l = pathOf (G + j) ∧ o = .cells (natCells b) et 0 .no) ∨ (l, o) ∈ gl) →
            ∃ l' b', ρ l' = some b' ∧ b'.block = b.block ∧ (h.get l').isSome = true ∧ ((∃ j m b c, ks[j]? = some (m, .b b c) ∧ l = pathOf (G + j) ∧ l' = m ∧ inDomL m gl = false) ∨ ((l, o) ∈ gl ∧ l' = l)) := fun {l o b} hl q => by
          rcases q with ⟨j, m, bb, cc, q1, rfl, rfl⟩ | q
          · have hj := hkl j _ q1
            rw [rhoT_arg (by omega)] at hl
            obtain ⟨x, b', e1, e2, e3, e4⟩ := cget j _ q1
            rw [e2] at hl; cases hl
            obtain ⟨vs, fz, own, g1, _⟩ := e3.get
            exact ⟨m, b', e3.at_, rfl, by rw [g1]; rfl, .inl ⟨j, m, bb, cc, q1, rfl, rfl, by rw [← inDomL_same hgg]; exact e4⟩⟩
          · obtain ⟨g2, g1, g3, _, _⟩ := F l o q
            rw [rhoT_var g1 g2] at hl
            exact ⟨l, b, hl, rfl, g3, .inr ⟨q, rfl⟩⟩
        obtain ⟨p1, b1, a1, a2, a3, a4⟩ := blk hl (hget l o1 ho1)
        obtain ⟨p2, b2, c1, c2, c3, c4⟩ := blk hm (hget m o2 ho2)
        have heq := R.inj p1 p2 b1 b2 a1 c1 a3 c3 (by rw [a2, c2]; exact e)
        rcases a4 with ⟨j, m1, bb, cc, q1, rfl, q3, q4⟩ | ⟨q1, q3⟩
        · rcases c4 with ⟨j', m2, bb', cc', q1', rfl, q3', q4'⟩ | ⟨q1', q3'⟩
          · have : j = j' := by
              rcases Nat.lt_trichotomy j j' with hlt | he | hgt
              · exact absurd (by rw [← q3, heq, q3']) (apartK_ne hap j j' m1 m2 bb bb' cc cc' hlt q1 q1')
              · exact he
              · exact absurd (by rw [← q3', ← heq, q3]) (apartK_ne hap j' j m2 m1 bb' bb cc' cc hgt q1' q1)
            rw [this]
          · exact (inDomL_not (l := m) (o := o2) (by rw [← q3', ← heq, q3]; exact q4) q1').elim
        · rcases c4 with ⟨j', m2, bb', cc', q1', rfl, q3', q4'⟩ | ⟨q1', q3'⟩
          · exact (inDomL_not (l := l) (o := o1) (by rw [← q3, heq, q3']; exact q4') q1).elim
          · rw [← q3, heq, q3']
      · rcases hget l o ho with ⟨j, m, bb, cc, q1, rfl, rfl⟩ | q
        · cases hw
        · obtain ⟨_, _, _, g4, _⟩ := F l o q
          rw [g4] at hw; cases hw
    have hGT : GRel (rhoT ρ G cs) G := fun g hg => by
      obtain ⟨n, hn⟩ := hG g hg
      refine ⟨n, ?_⟩
      have hv : val (pathOf g) = g := val_pathOf (by omega)
      rw [rhoT_var (by rw [hv]) (by rw [hv]; exact hg)]
      exact hn
    have hxs : RVs (rhoT ρ G cs) (argsV G (ks.map (·.2))) xs := by
      have : ∀ (ks' : List (Lb × Key)) (i : Nat) (ys : List Value), ys.length = ks'.length → (∀ (j : Nat) (k : Lb × Key), ks'[j]? = some k → ks[i + j]? = some k ∧ ∃ y, ys[j]? = some y ∧ xs[i + j]? = some y) → RVs (rhoT ρ G cs) (argsV (G + i) (ks'.map (·.2))) ys := by
        intro ks'
        induction ks' with
        | nil => intro i ys hl _; cases ys with | nil => exact .nil | cons _ _ => simp at hl
        | cons k ks' ih =>
          intro i ys hl hh
          cases ys with
          | nil => simp at hl
          | cons y ys =>
            obtain ⟨q1, y', q2, q3⟩ := hh 0 k rfl
            simp at q2; subst q2
            obtain ⟨x, b, e1, e2, e3⟩ := cget (i + 0) k q1
            rw [q3] at e1; cases e1
            have hj := hkl (i + 0) k q1
            have hat : rhoT ρ G cs (pathOf (G + i)) = some (Blk.mk b.block 0 b.total .nilFunc) := by rw [rhoT_arg (by omega)]; exact e2
            refine .cons ?_ (ih (i + 1) ys (by simpa using hl) fun j k hjk => ?_)
            · obtain ⟨m, k⟩ := k
              unfold ArgAt at e3
              cases k with
              | b bb cc =>
                obtain ⟨e3, _⟩ := e3
                have hb0 := e3.base
                show RV _ (.slice (pathOf (G + i)) 0 bb.length cc) y
                rcases e3.val with ⟨c, c1, c2⟩ | ⟨es, c, c1, c2, c3, c4⟩
                · rw [c1, c2, hb0]
                  exact RV.slice (b := Blk.mk b.block 0 b.total .nilFunc) 0 bb.length c hat
                · rw [c1, c2, hb0]
                  rw [hb0] at c4
                  exact RV.sliceEnd (b := Blk.mk b.block 0 b.total .nilFunc) 0 bb.length es c hat c3 c4
              | s bb => exact e3 _
              | nil c => exact e3 _
              | emp => exact e3 _
            · have := hh (j + 1) k (by simpa using hjk)
              rw [show i + 1 + j = i + (j + 1) by omega]
              simpa using this
      have := this ks 0 xs l2 fun j k hj => by
        obtain ⟨x, b, e1, _⟩ := cget j k hj
        exact ⟨by rw [Nat.zero_add]; exact hj, x, e1, by rw [Nat.zero_add]; exact e1⟩
      simpa using this
    have G1 := hcall hrun R' hGT hxs
    have fin : ∀ {x : Value} {w' : World}, (∃ ρ', Step (rhoT ρ G cs) ρ' (heapT et gl G (ks.map (·.2))) hT ∧ RV ρ' u' x ∧ HRel w.heap.size w ρ' hT w') → ∃ ρ', Step ρ ρ' h h ∧ RV ρ' u' x ∧ HRel B w0 ρ' h w' := fun {x w'} ⟨ρ', _, r1, r2⟩ => ⟨ρ, Step.refl _ _, RV.any_rho hnl r1, R.under r2.below⟩
    rcases G1 with ⟨x, w', k1, k2⟩ | ⟨k1, k2⟩
    · exact .inl ⟨x, w', k1, fin k2⟩
    · exact .inr ⟨k1, k2.mono fun e w' ⟨x, he, hh⟩ => ⟨x, he, fin hh⟩⟩
  · cases ha

/-- Each listed answer was run, whatever the ranged variable holds: so it holds. -/
theorem ext_tab {et : TypeId} {gl : List (Lb × Obj)} {rg : Option (Lb × Int × Int × TypeId)} {vs : List (Int × Int)} {ts : List (List Key × V)} (hGs : G + 64 < 2 ^ 64) (h1 : glOk G gl = true) (h2 : glBelow G (rgGl rg gl) = true) (h3 : rgCovers rg vs = true)
    (hall : ∀ e ∈ ts, e.1.length < 64 ∧ ∀ p ∈ vs, ∃ call : Orc, OrcOk P G call ∧ answerOk e.2 (call f (argsV G e.1) (heapT et (rgAt rg gl p) G e.1)) = true) : ExtOk P G f (.tab et gl rg ts) := by
  intro args h v h' hr B w0 ρ w xs R hG hx
  simp only [extRun, ob_some, chk_some, Bool.and_eq_true, Option.some.injEq, Prod.mk.injEq] at hr
  obtain ⟨ks, hks, ⟨⟨hap, hgl⟩, hrg⟩, u, hu, rfl, rfl⟩ := hr
  have hgl := hasAll_mem hgl
  have gok := glOk_mem h1
  have gbl := glBelow_mem h2
  obtain ⟨hlen, hall⟩ := hall _ (tabFind_mem hu)
  simp only [List.length_map] at hlen
  have F0 : ∀ l o, (l, o) ∈ gl → (h.get l).isSome = true ∧ o.writes = false ∧ ∀ ρ' b, SameLow G ρ ρ' → ρ l = some b → ORel ρ' b w o := fun l o q => by
    obtain ⟨vs, e, fz, own, rfl, q1, q2⟩ := gok l o q
    refine ⟨by rw [hgl l _ q]; rfl, q2, fun ρ' b S hl => ?_⟩
    have c : CRel ρ b vs e fz own w := R.obj l b _ hl (hgl l _ q)
    refine ⟨c.shape, c.fits, fun i v hv => ?_, (fun h => by rw [q2] at h; cases h), (fun h => by rw [h] at q2; cases q2)⟩
    obtain ⟨y, y1, y2⟩ := c.cell i v hv
    exact ⟨y, y1, RV.low (lowLabs_get _ _ _ q1 hv) S y2⟩
  cases rg with
  | none =>
    cases vs with
    | nil => cases h3
    | cons p vs =>
      obtain ⟨call, hcall, ha⟩ := hall p (List.mem_cons_self ..)
      exact tab_core hGs hcall R hG (fun l o q => ⟨(gbl l o q).1, (gbl l o q).2, F0 l o q⟩) rfl hx hks hap hlen ha
  | some r =>
    obtain ⟨L, lo, hi, t⟩ := r
    have hL := gbl L _ (List.mem_cons_self ..)
    simp only [hasRng] at hrg
    split at hrg
    · rename_i a b cs e fz own hg
      simp only [Bool.and_eq_true] at hrg
      obtain ⟨⟨k1, k2⟩, k3⟩ := hrg
      have k1 := Nat.eq_of_beq_eq_true k1
      have k2 : a = lo := by rw [intEq_eq] at k2; simpa using k2
      have k3 : b = hi := by rw [intEq_eq] at k3; simpa using k3
      subst k1; subst k2; subst k3
      obtain ⟨n, hn⟩ := hG (val L) hL.1
      rw [← hL.2] at hn
      have c : CRel ρ _ _ e fz own w := R.obj L _ _ hn hg
      obtain ⟨y, y1, y2⟩ := c.cell 0 (.rng a b) rfl
      cases y2 with
      | rng m1 m2 =>
        rename_i m
        obtain ⟨p, p1, p2, p3⟩ := covers_mem h3 m1 m2
        obtain ⟨call, hcall, ha⟩ := hall p p1
        refine tab_core (gl0 := rgGl (some (L, a, b, e)) gl) (gl := (L, .cells [.rng p.1 p.2] e 0 .no) :: gl) hGs hcall R hG (fun l o q => ?_) rfl hx hks hap hlen ha
        rcases List.mem_cons.1 q with q | q
        · cases q
          refine ⟨hL.1, hL.2, by rw [hg]; rfl, rfl, fun ρ' b' _ hl => ?_⟩
          rw [hn] at hl; cases hl
          have hf := c.fits
          refine ⟨c.shape, ?_, fun i v hv => ?_, (fun h => by cases h), (fun h => by cases h)⟩
          · simp only [List.length_cons] at hf ⊢
            simp only [List.length_nil]
            omega
          · cases i with
            | zero => simp at hv; subst hv; exact ⟨_, y1, .rng p2 p3⟩
            | succ i => simp at hv
        · exact ⟨(gbl l o (List.mem_cons_of_mem _ q)).1, (gbl l o (List.mem_cons_of_mem _ q)).2, F0 l o q⟩
    · cases hrg
end
end Go.Dx
namespace Go.Dx
open Go Go.RowKit

def compAll (P : Program) (G : Nat) : Nat → T DFn
  | 0 => .leaf
  | n + 1 => (compAll P G n).set (pathOf n) (ob P.funcs[n]? (compFn P G))

theorem compAll_at {P : Program} {G : Nat} : ∀ {n : Nat}, n ≤ 65536 → ∀ {f : FuncId} {fn : DFn}, f < 65536 → (compAll P G n).get (pathOf f) = some fn → ∃ func, P.funcs[f]? = some func ∧ compFn P G func = some fn
  | 0, _, f, fn, _, h => by simp [compAll, T.get_leaf] at h
  | n + 1, hn, f, fn, hf, h => by
    by_cases e : f = n
    · subst e
      simp only [compAll, T.get_set_self] at h
      rw [ob_some] at h
      obtain ⟨func, h1, h2⟩ := h
      exact ⟨func, h1, h2⟩
    · have : pathOf n ≠ pathOf f := fun h => e (pathOf_inj (Nat.lt_of_lt_of_le hn (by decide)) (Nat.lt_trans hf (by decide)) h).symm
      simp only [compAll, T.get_set_ne _ _ _ _ this] at h
      exact compAll_at (by omega) hf h

theorem fnsOk_all {P : Program} {G n : Nat} (hn : n ≤ 65536) (l : List FuncId) : FnsOk P G (without (compAll P G n) l) := by
  intro f fn hf
  have hf := without_at hf
  simp only [fnAt, chk_some] at hf
  obtain ⟨h1, h2⟩ := hf
  exact compAll_at hn (by simpa using h1) h2

end Go.Dx
namespace Go.Dx
open Go Go.RowKit

theorem prefixN_ok : ∀ (t s : List UInt8), prefixN (t.map (·.toNat)) (s.map (·.toNat)) = t.isPrefixOf s
  | [], _ => by simp [prefixN, List.isPrefixOf]
  | _ :: _, [] => by simp [prefixN, List.isPrefixOf]
  | a :: x, b :: y => by
    have h : Nat.beq a.toNat b.toNat = (a == b) := by
      rw [Bool.eq_iff_iff, beq_iff_eq, Nat.beq_eq]
      exact UInt8.toNat_inj
    simp only [List.map_cons, prefixN, h, List.isPrefixOf]
    cases a == b with
    | true => simp [prefixN_ok x y]
    | false => simp

theorem indexOfN_ok (t : List UInt8) : ∀ (s : List UInt8) (i : Nat), indexOfN (t.map (·.toNat)) (s.map (·.toNat)) i = (if Lib.index s t == -1 then -1 else Lib.index s t + i)
  | [], i => by
    cases t with
    | nil => simp [indexOfN, Lib.index]
    | cons a r => simp [indexOfN, Lib.index]
  | b :: s, i => by
    have ih := indexOfN_ok t s (i + 1)
    have hp := prefixN_ok t (b :: s)
    simp only [List.map_cons] at hp
    simp only [List.map_cons, indexOfN, hp, Lib.index]
    by_cases hq : t.isPrefixOf (b :: s) = true
    · simp [hq]
    · have hq : t.isPrefixOf (b :: s) = false := Bool.eq_false_iff.2 hq
      simp only [hq]
      rw [ih]
      have hge := Lib.index_ge s t
      by_cases e : Lib.index s t = -1
      · simp [e]
      · have e2 : ¬ Lib.index s t + 1 = -1 := by omega
        simp [e, e2]; omega

theorem indexOfN_zero (t s : List UInt8) : indexOfN (t.map (·.toNat)) (s.map (·.toNat)) 0 = Lib.index s t := by
  rw [indexOfN_ok]
  by_cases e : Lib.index s t = -1
  · simp [e]
  · simp [e]

theorem indexNat_lib (c : UInt8) : ∀ (s : List UInt8) (i : Nat), indexNat c.toNat (s.map (·.toNat)) i = (if Lib.indexByte s c == -1 then -1 else Lib.indexByte s c + i)
  | [], i => by simp [indexNat, Lib.indexByte]
  | b :: s, i => by
    have ih := indexNat_lib c s (i + 1)
    have h : Nat.beq b.toNat c.toNat = (b == c) := by
      rw [Bool.eq_iff_iff, beq_iff_eq, Nat.beq_eq]
      exact UInt8.toNat_inj
    simp only [List.map_cons, indexNat, h, Lib.indexByte]
    by_cases hb : b = c
    · simp [hb]
    · have hb : (b == c) = false := by simpa using hb
      simp only [hb]
      rw [ih]
      have hge : -1 ≤ Lib.indexByte s c := by
        clear ih h hb
        induction s with
        | nil => simp [Lib.indexByte]
        | cons b l ih => unfold Lib.indexByte; split
                         · omega
                         · split <;> omega
      by_cases e : Lib.indexByte s c = -1
      · simp [e]
      · have e2 : ¬ Lib.indexByte s c + 1 = -1 := by omega
        simp [e, e2]; omega

theorem indexNat_zero (c : UInt8) (s : List UInt8) : indexNat c.toNat (s.map (·.toNat)) 0 = Lib.indexByte s c := by
  rw [indexNat_lib]
  by_cases e : Lib.indexByte s c = -1
  · simp [e]
  · simp [e]

section
variable {P : Program} {G : Nat} {f : FuncId} {B : Nat} {w0 : World} {ρ : Rho} {h h' : H} {w : World}

theorem bytesOf_ints (u : List UInt8) : Lib.bytesOf (u.map fun b => (b.toNat : Int)) = u := by
  induction u with
  | nil => rfl
  | cons b r ih =>
    unfold Lib.bytesOf at ih ⊢
    simp only [List.map_cons, Int.toNat_natCast, UInt8.ofNat_toNat]
    simp only [List.map_map] at ih ⊢
    rw [ih]

/-- A slice's bytes. -/
theorem bytesAt_slice (R : HRel B w0 ρ h w) {et : TypeId} {l : Lb} {off n : Nat} {cap : Cap} {bs : List Nat} (hb : bytesAt et h (.slice l off n cap) = some bs) {x : Value} (rv : RV ρ (.slice l off n cap) x) :
    ∃ (b : Nat) (m : Nat × Nat), x = .slice (some ⟨b, off + m.1, none⟩) n m.2 ∧ ∃ u : List UInt8, bs = u.map (·.toNat) ∧ u.length = n ∧ ∀ i, i < n → w.cell? ⟨b, off + m.1 + i, none⟩ = some (.int .u8 ((u.map fun b => (b.toNat : Int)).getD i 0)) := by
  obtain ⟨b, m, hl, rfl⟩ := slice_inv rv
  simp only [bytesAt] at hb
  split at hb
  · rename_i vs e fz own hg
    simp only [chk_some, ob_some] at hb
    obtain ⟨_, r, hr, hb⟩ := hb
    have cr : CRel ρ b vs e fz own w := R.obj l b _ hl hg
    obtain ⟨xs, x1, x2, x3⟩ := cr.range hr
    obtain ⟨u, rfl, rfl⟩ := bytesIn_ok hb x1
    refine ⟨b.block, (b.base, m), by rw [Nat.add_comm], u, rfl, by simpa using x2, fun i hi => ?_⟩
    have hlen : i < u.length := by have := hi; rw [← x2, List.length_map] at this; exact this
    have := x3 i (.int .u8 ((u[i]'hlen).toNat : Int)) (by simp [List.getElem?_eq_getElem hlen])
    rw [Nat.add_comm off b.base]
    rw [this]
    simp [List.getD_eq_getElem?_getD, List.getElem?_eq_getElem hlen]
  · cases hb

theorem ext_indexByteB {et : TypeId} (E : EntryAt P f Extern.BytealgIndexByte.indexByte) : ExtOk P G f (.indexByteB et) := by
  intro args h v h' hr B w0 ρ w xs R hG hx
  simp only [extRun] at hr
  split at hr
  · rename_i l off n cap c
    simp only [chk_some, ob_some, Option.some.injEq, Prod.mk.injEq] at hr
    obtain ⟨hc, s, hs, rfl, rfl⟩ := hr
    have hc : c < 256 := by simpa using hc
    obtain ⟨x1, x2, rfl, r1, r2⟩ := hx.two
    cases r2
    obtain ⟨b, m, rfl, u, rfl, hl, hcell⟩ := bytesAt_slice R hs r1
    have hu : (UInt8.ofNat c).toNat = c := by simp [Nat.mod_eq_of_lt hc]
    have run := Lib.run_indexByteSlice (P := P) w b (off + m.1) n m.2 (u.map fun b => (b.toNat : Int)) (by simpa using hl) hcell (Int.ofNat c)
    rw [bytesOf_ints] at run
    have key := indexNat_zero (UInt8.ofNat c) u
    rw [hu] at key
    have hcc : ((Int.ofNat c).toNat).toUInt8 = UInt8.ofNat c := rfl
    rw [hcc, ← key] at run
    exact E.good run ⟨ρ, Step.refl _ _, .int _ _, R⟩
  · cases hr

theorem ext_index {et : TypeId} {g : Nat} (hg : g < G) (hgl : P.globals.findIdx? (·.name == "internal/bytealg.MaxLen") = some g) (E : EntryAt P f Extern.BytealgIndex.index) : ExtOk P G f (.index (pathOf g) et) := by
  intro args h v h' hr B w0 ρ w xs R hG hx
  simp only [extRun] at hr
  split at hr
  · rename_i x y
    simp only [chk_some, ob_some, Option.some.injEq, Prod.mk.injEq, Bool.and_eq_true] at hr
    obtain ⟨a, ha, b, hb, ⟨⟨⟨hs, h2⟩, hlt⟩, hm⟩, rfl, rfl⟩ := hr
    have h2 := Nat.le_of_ble_eq_true h2
    have hlt : a.length < 4294967281 := by simpa using hlt
    obtain ⟨x1, x2, rfl, r1, r2⟩ := hx.two
    -- the variable
    obtain ⟨n0, hn0⟩ := hG g hg
    obtain ⟨mm, hcell, hmm⟩ : ∃ mm : Int, w.cell? ⟨g, 0, none⟩ = some (.int .i64 mm) ∧ (b.length : Int) ≤ mm := by
      unfold atLeast at hm
      split at hm
      · rename_i lo hi vs0 el0 fz0 own0 hg0
        have c0 : CRel ρ _ (.rng lo hi :: vs0) el0 fz0 own0 w := R.obj _ _ _ hn0 hg0
        obtain ⟨q, q1, q2⟩ := c0.cell 0 _ rfl
        cases q2 with
        | rng k1 k2 =>
          rename_i m
          refine ⟨m, ?_, ?_⟩
          · unfold cellAd at q1
            simpa using q1
          · simp only [Bool.not_eq_true', intLt_eq, decide_eq_false_iff_not, Int.not_lt] at hm
            exact Int.le_trans hm k1
      · cases hm
    unfold sameSort at hs
    split at hs
    · rename_i s t
      cases r1 with | str s =>
      cases r2 with | str t =>
      simp only [bytesAt, Option.some.injEq] at ha hb
      subst ha; subst hb
      have run := Lib.run_indexString (P := P) s t w g mm hgl hcell (by simpa [natsOf] using h2) (by simpa [natsOf] using hmm) (by simpa [natsOf] using hlt)
      rw [← indexOfN_zero] at run
      exact E.good run ⟨ρ, Step.refl _ _, .int _ _, R⟩
    · rename_i l off n cap l2 off2 n2 cap2
      obtain ⟨b1, m1, rfl, u1, rfl, hl1, hc1⟩ := bytesAt_slice R ha r1
      obtain ⟨b2, m2, rfl, u2, rfl, hl2, hc2⟩ := bytesAt_slice R hb r2
      have run := Lib.run_indexAt (P := P) (w := w) ⟨b1, off + m1.1, none⟩ ⟨b2, off2 + m2.1, none⟩ n m1.2 n2 m2.2 (u1.map fun b => (b.toNat : Int)) (u2.map fun b => (b.toNat : Int)) (by simpa using hl1) (by simpa using hl2)
        (fun i hi => by rw [addr_add]; exact hc1 i hi) (fun i hi => by rw [addr_add]; exact hc2 i hi) g mm hgl hcell (by simpa [hl2] using h2) (by simpa [hl2] using hmm) (by simpa [hl1] using hlt)
      rw [bytesOf_ints, bytesOf_ints, ← indexOfN_zero] at run
      exact E.good run ⟨ρ, Step.refl _ _, .int _ _, R⟩
    · cases hs
  · cases hr
end
end Go.Dx
namespace Go.Dx
open Go Go.RowKit

theorem relGl {w : World} {G : Nat} {vs : List (Nat × Value)} {gl : List (Lb × Obj)} {nx : Lb} (hGs : G < 2 ^ 64) (hb : glBelow G gl = true) (hnx : val nx = G + vs.length) (hvs : ∀ p ∈ vs, ValOk w.heap.size w (Blk.mk 0 0 p.1 p.2))
    (ho : ∀ l o, (l, o) ∈ gl → o.writes = false ∧ ∀ b, rho1 w G vs l = some b → ORel (rho1 w G vs) b w o) :
    HRel w.heap.size w (rho1 w G vs) { t := ofL gl, next := nx } w := by
  have hget : ∀ l o, ({ t := ofL gl, next := nx } : H).get l = some o → (l, o) ∈ gl := fun l o hl => ofL_get hl
  have hblk : ∀ l o b, (l, o) ∈ gl → rho1 w G vs l = some b → b.block = val l := fun l o b hm hl => by
    obtain ⟨h1, h2⟩ := glBelow_mem hb l o hm
    have := rho1_var w vs h1 (Nat.lt_trans h1 hGs)
    rw [← h2, hl] at this
    cases this; rfl
  refine ⟨fun l b o hl hg => (ho l o (hget l o hg)).2 b hl, fun l b hl => ?_, fun l b hl => ?_, fun l m b d hl hm il im e => ?_, fun l b o hl hg hw => ?_, Nat.le_refl _, Below.refl _ _⟩
  · show val l < val nx
    rw [hnx]
    rcases rho1_inv hl with ⟨h1, _⟩ | ⟨i, n, x, h1, h2, _⟩
    · omega
    · have := (List.getElem?_eq_some_iff.1 h2).1
      omega
  · rcases rho1_inv hl with ⟨_, h1, h2⟩ | ⟨i, n, x, h1, h2, rfl⟩
    · exact ⟨h1, .nil h2⟩
    · exact ⟨rfl, hvs _ (List.mem_of_getElem? h2)⟩
  · obtain ⟨o1, h1⟩ := Option.isSome_iff_exists.1 il
    obtain ⟨o2, h2⟩ := Option.isSome_iff_exists.1 im
    have m1 := hget l o1 h1
    have m2 := hget m o2 h2
    have e1 := hblk l o1 b m1 hl
    have e2 := hblk m o2 d m2 hm
    rw [(glBelow_mem hb l o1 m1).2, (glBelow_mem hb m o2 m2).2, ← e1, ← e2, e]
  · rw [(ho l o (hget l o hg)).1] at hw; cases hw

/-- A variable that holds these, as it is known. -/
theorem var_rel {w : World} {G g : Nat} {vs : List (Nat × Value)} {c : Array Value} {e : TypeId} {fr : Nat × Nat} {us : List V} (hg : g < G) (hGs : G < 2 ^ 64) (hc : w.heap[g]? = some (.cells c e fr)) (hu : us.length ≤ c.size)
    (hcell : ∀ (i : Nat) (v : V), us[i]? = some v → ∃ x : Value, c[i]? = some x ∧ RV (rho1 w G vs) v x) : ∀ b, rho1 w G vs (pathOf g) = some b → ORel (rho1 w G vs) b w (.cells us e 0 .no) := by
  intro b hb
  have hv := rho1_var w vs hg (Nat.lt_trans hg hGs)
  have hsh : w.shape? g = some (e, c.size) := by unfold World.shape?; rw [hc]
  rw [hsh] at hv
  rw [hv] at hb; cases hb
  refine ⟨hsh, by show 0 + us.length ≤ c.size; omega, fun i v hi => ?_, (fun h => by cases h), (fun h => by cases h)⟩
  obtain ⟨x, h1, h2⟩ := hcell i v hi
  refine ⟨x, ?_, h2⟩
  unfold cellAd World.cell?
  simp only [hc, Nat.zero_add]
  exact h1
end Go.Dx
