/-
  The deterministic machine over labels against the model: a table of functions, each with its certificate.
-/
import Derived.Test.YtkbjonoiecljiaaGreatDoorDxAny
import Derived.Test.YtkbjonoiecljiaaGreatDoorDxK
namespace Go.Dx
open Go Go.RowKit

def T.ofList : List (Nat × DFn) → T DFn
  | [] => .leaf
  | (f, d) :: r => (T.ofList r).set (pathOf f) (some d)

def CertAll (P : Program) (G : Nat) : List (Nat × DFn) → Prop
  | [] => True
  | (f, d) :: r => (∃ func, P.funcs[f]? = some func ∧ compFn P G func = some d) ∧ CertAll P G r

def allSmall : List (Nat × DFn) → Bool
  | [] => true
  | (f, _) :: r => Nat.blt f 65536 && allSmall r

theorem fnsOk_of {P : Program} {G : Nat} {fns : T DFn} {l : List (Nat × DFn)} (ht : T.ofList l = fns) (hs : allSmall l = true) (hl : CertAll P G l) : FnsOk P G fns := by
  subst ht
  intro f fn hf
  simp only [fnAt, chk_some] at hf
  obtain ⟨h1, h2⟩ := hf
  have h1 : f < 65536 := by simpa using h1
  induction l with
  | nil => simp [T.ofList, T.get_leaf] at h2
  | cons p r ih =>
    obtain ⟨g, d⟩ := p
    simp only [allSmall, Bool.and_eq_true] at hs
    obtain ⟨s1, s2⟩ := hs
    have s1 : g < 65536 := by simpa using s1
    obtain ⟨l1, l2⟩ := hl
    by_cases e : f = g
    · subst e
      simp only [T.ofList, T.get_set_self, Option.some.injEq] at h2
      subst h2
      exact l1
    · have : pathOf g ≠ pathOf f := fun h => e (pathOf_inj (Nat.lt_trans s1 (by decide)) (Nat.lt_trans h1 (by decide)) h).symm
      simp only [T.ofList, T.get_set_ne _ _ _ _ this] at h2
      exact ih s2 l2 h2

/-- What a call of a function with a body comes to. -/
theorem Good.calls {P : Program} {f : FuncId} {func : Func} {c : Code} {xs : List Value} {w : World} {R : Value → World → Prop} (hf : P.funcs[f]? = some func) (hb : func.body = some c) (hn : (func.name == "runtime.NumGoroutine") = false) (h : Good P f xs w R) :
    Calls P f ⟨xs⟩ w fun e w' => ∃ v, e = .returned v ∧ R v w' := by
  rcases h with ⟨x, w', h1, _⟩ | ⟨_, h⟩
  · exfalso
    have hn : ¬ func.name = "runtime.NumGoroutine" := fun e => by rw [e] at hn; simp at hn
    unfold callFunc at h1
    simp [hf, hn, hb] at h1
  · exact h

/-- The labels of the variables at the start: block g for the variable g. -/
def rho0 (w : World) (G : Nat) : Rho := fun l => if val l < G ∧ l = pathOf (val l) then some (Blk.mk (val l) 0 (match w.shape? (val l) with | some (_, n) => n | none => 0) .nilFunc) else none

theorem rho0_at (w : World) {G g : Nat} (hg : g < G) (hs : g < 2 ^ 64) : rho0 w G (pathOf g) = some (Blk.mk g 0 (match w.shape? g with | some (_, n) => n | none => 0) .nilFunc) := by
  unfold rho0
  rw [val_pathOf hs, if_pos ⟨hg, rfl⟩]

theorem rho0_rel (w : World) {G : Nat} (hG : G < 2 ^ 64) : GRel (rho0 w G) G := fun g hg => ⟨_, rho0_at w hg (by omega)⟩


/-- The labels at the start, with values that came in behind the variables: of each its size and itself. -/
def rho1 (w : World) (G : Nat) (vs : List (Nat × Value)) : Rho := fun l => if l = pathOf (val l) then (if val l < G then some (Blk.mk (val l) 0 (match w.shape? (val l) with | some (_, n) => n | none => 0) .nilFunc) else (vs[val l - G]?).map fun p => Blk.mk 0 0 p.1 p.2) else none

theorem rho1_var (w : World) {G g : Nat} (vs : List (Nat × Value)) (hg : g < G) (hs : g < 2 ^ 64) : rho1 w G vs (pathOf g) = some (Blk.mk g 0 (match w.shape? g with | some (_, n) => n | none => 0) .nilFunc) := by
  unfold rho1
  rw [val_pathOf hs, if_pos rfl, if_pos hg]

theorem rho1_sym (w : World) {G i n : Nat} {x : Value} {vs : List (Nat × Value)} (hi : vs[i]? = some (n, x)) (hs : G + i < 2 ^ 64) : rho1 w G vs (pathOf (G + i)) = some (Blk.mk 0 0 n x) := by
  unfold rho1
  rw [val_pathOf hs, if_pos rfl, if_neg (by omega), show G + i - G = i by omega, hi]; rfl

theorem rho1_rel (w : World) {G : Nat} (vs : List (Nat × Value)) (hG : G < 2 ^ 64) : GRel (rho1 w G vs) G := fun g hg => ⟨_, rho1_var w vs hg (by omega)⟩

theorem rho1_inv {w : World} {G : Nat} {vs : List (Nat × Value)} {l : Lb} {b : Blk} (h : rho1 w G vs l = some b) : (val l < G ∧ b.base = 0 ∧ b.val = .nilFunc) ∨ ∃ i n x, val l = G + i ∧ vs[i]? = some (n, x) ∧ b = Blk.mk 0 0 n x := by
  unfold rho1 at h
  split at h
  · split at h
    · rename_i hlt; cases h; exact .inl ⟨hlt, rfl, rfl⟩
    · rename_i hlt
      simp only [Option.map_eq_some_iff] at h
      obtain ⟨⟨n, x⟩, h1, rfl⟩ := h
      exact .inr ⟨_, n, x, by omega, h1, rfl⟩
  · cases h

/-- The relation at the start: where one object stands, 'error's handle. -/
theorem rel0 {w : World} {G : Nat} {vs : List (Nat × Value)} {e : TypeId} {rt err g : Nat} {c : Array Value} {fr : Nat × Nat} {nx : Lb} (hG : G < 2 ^ 64) (h0G : 0 < G) (hgG : g < G) (hc : w.heap[0]? = some (.cells c e fr)) (hcell : c[0]? = some (.iface rt (.agg #[.pointer (some ⟨g, err, none⟩)])))
    (hnx : val nx = G + vs.length) (hvs : ∀ p ∈ vs, ValOk w.heap.size w (Blk.mk 0 0 p.1 p.2)) :
    HRel w.heap.size w (rho1 w G vs) { t := T.set .leaf (pathOf 0) (some (.cells [.iface rt (.agg [.ptr (pathOf g) err])] e 0 .no)), next := nx } w := by
  have hsh : w.shape? 0 = some (e, c.size) := by unfold World.shape?; rw [hc]
  have hg : w.cell? ⟨0, 0, none⟩ = some (.iface rt (.agg #[.pointer (some ⟨g, err, none⟩)])) := by unfold World.cell?; simp only [hc]; exact hcell
  have h0lt : 0 < c.size := (Array.getElem?_eq_some_iff.1 hcell).1
  have hget : ∀ l o, (T.set .leaf (pathOf 0) (some (Obj.cells [.iface rt (.agg [.ptr (pathOf g) err])] e 0 .no))).get l = some o → l = pathOf 0 ∧ o = .cells [.iface rt (.agg [.ptr (pathOf g) err])] e 0 .no := fun l o hl => by
    by_cases hp : pathOf 0 = l
    · subst hp; rw [T.get_set_self] at hl; exact ⟨rfl, (Option.some.inj hl).symm⟩
    · rw [T.get_set_ne _ _ _ _ hp, T.get_leaf] at hl; cases hl
  refine ⟨fun l b o hl ho => ?_, fun l b hl => ?_, fun l b hl => ?_, fun l m b d hl hm il im _ => ?_, fun l b o hl ho hw => ?_, Nat.le_refl _, Below.refl _ _⟩
  · obtain ⟨rfl, rfl⟩ := hget l o ho
    have hb := rho1_var w (G := G) (g := 0) vs h0G (by decide)
    rw [hsh] at hb
    rw [hb] at hl; cases hl
    have h77 := rho1_var w (G := G) (g := g) vs hgG (by omega)
    refine ⟨hsh, h0lt, fun i v hv => ?_, (fun h => by cases h), (fun h => by cases h)⟩
    cases i with
    | succ i => simp at hv
    | zero =>
      simp only [List.getElem?_cons_zero, Option.some.injEq] at hv
      subst hv
      refine ⟨_, hg, .iface rt (.agg (.cons ?_ .nil))⟩
      have := RV.ptr (ρ := rho1 w G vs) (l := pathOf g) err h77
      simpa using this
  · show val l < val nx
    rw [hnx]
    rcases rho1_inv hl with ⟨h1, _⟩ | ⟨i, n, x, h1, h2, _⟩
    · omega
    · have := (List.getElem?_eq_some_iff.1 h2).1
      omega
  · rcases rho1_inv hl with ⟨_, h1, h2⟩ | ⟨i, n, x, h1, h2, rfl⟩
    · exact ⟨h1, .nil h2⟩
    · exact ⟨rfl, hvs _ (List.mem_of_getElem? h2)⟩
  · obtain ⟨o1, h1⟩ := Option.isSome_iff_exists.1 il
    obtain ⟨o2, h2⟩ := Option.isSome_iff_exists.1 im
    rw [(hget l o1 h1).1, (hget m o2 h2).1]
  · obtain ⟨rfl, rfl⟩ := hget l o ho
    cases hw

/-- A number or a text. -/
def numOrText : Value → Bool
  | .int _ _ => true
  | .string _ => true
  | _ => false

theorem numOrText_sym {x : Value} (h : numOrText x = true) : symOk x = true := by
  cases x <;> first | rfl | simp [numOrText] at h

theorem ValOk.plain {B : Nat} {w0 : World} {x : Value} (h : numOrText x = true) : ValOk B w0 (Blk.mk 0 0 1 x) :=
  ⟨(fun h3 => by simp at h3), (fun _ h3 => by simp at h3), (fun _ h3 => by simp at h3), (fun _ h3 => by simp at h3)⟩

theorem ValOk.cell {B : Nat} {w0 : World} {x : Value} : ValOk B w0 (Blk.mk 0 0 1 x) :=
  ⟨(fun h3 => by simp at h3), (fun _ h3 => by simp at h3), (fun _ h3 => by simp at h3), (fun _ h3 => by simp at h3)⟩

/-- The relation at the start, where no object is known. -/
theorem rel1 {w : World} {G : Nat} {vs : List (Nat × Value)} {nx : Lb} (hnx : val nx = G + vs.length) (hvs : ∀ p ∈ vs, ValOk w.heap.size w (Blk.mk 0 0 p.1 p.2)) :
    HRel w.heap.size w (rho1 w G vs) { t := .leaf, next := nx } w := by
  have hget : ∀ l o, ({ t := .leaf, next := nx } : H).get l = some o → False := fun l o hl => by
    have hl : (T.leaf : T Obj).get l = some o := hl
    rw [T.get_leaf] at hl; cases hl
  refine ⟨fun l b o hl ho => (hget l o ho).elim, fun l b hl => ?_, fun l b hl => ?_, fun l m b d hl hm il im _ => ?_, fun l b o hl ho hw => (hget l o ho).elim, Nat.le_refl _, Below.refl _ _⟩
  · show val l < val nx
    rw [hnx]
    rcases rho1_inv hl with ⟨h1, _⟩ | ⟨i, n, x, h1, h2, _⟩
    · omega
    · have := (List.getElem?_eq_some_iff.1 h2).1
      omega
  · rcases rho1_inv hl with ⟨_, h1, h2⟩ | ⟨i, n, x, h1, h2, rfl⟩
    · exact ⟨h1, .nil h2⟩
    · exact ⟨rfl, hvs _ (List.mem_of_getElem? h2)⟩
  · obtain ⟨o1, h1⟩ := Option.isSome_iff_exists.1 il
    exact (hget l o1 h1).elim

end Go.Dx
