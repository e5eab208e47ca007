/-
  The deterministic machine over labels against the model: a table of functions, each with its certificate.
-/
import Derived.Test.YtlfbedifolcjcaaGreatDoorDxAny
import Derived.Test.YtlfbedifolcjcaaGreatDoorDxK
namespace Go.Dx
open Go Go.RowKit

def T.ofList : List (Nat × DFn) → T DFn
  | [] => .leaf
  | (f, d) :: r => (T.ofList r).set (pathOf f) (some d)

def CertAll (P : Program) (G : Nat) : List (Nat × DFn) → Prop
  | [] => True
  | (f, d) :: r => (∃ func, P.funcs[f]? = some func ∧ compFn P G func = some d) ∧ CertAll P G r

def allSmall : List (Nat × DFn) → Bool
  | [] => true
  | (f, _) :: r => Nat.blt f 65536 && allSmall r

theorem fnsOk_of {P : Program} {G : Nat} {fns : T DFn} {l : List (Nat × DFn)} (ht : T.ofList l = fns) (hs : allSmall l = true) (hl : CertAll P G l) : FnsOk P G fns := by
  subst ht
  intro f fn hf
  simp only [fnAt, chk_some] at hf
  obtain ⟨h1, h2⟩ := hf
  have h1 : f < 65536 := by simpa using h1
  induction l with
  | nil => simp [T.ofList, T.get_leaf] at h2
  | cons p r ih =>
    obtain ⟨g, d⟩ := p
    simp only [allSmall, Bool.and_eq_true] at hs
    obtain ⟨s1, s2⟩ := hs
    have s1 : g < 65536 := by simpa using s1
    obtain ⟨l1, l2⟩ := hl
    by_cases e : f = g
    · subst e
      simp only [T.ofList, T.get_set_self, Option.some.injEq] at h2
      subst h2
      exact l1
    · have : pathOf g ≠ pathOf f := fun h => e (pathOf_inj (Nat.lt_trans s1 (by decide)) (Nat.lt_trans h1 (by decide)) h).symm
      simp only [T.ofList, T.get_set_ne _ _ _ _ this] at h2
      exact ih s2 l2 h2

/-- What a call of a function with a body comes to. -/
theorem Good.calls {P : Program} {f : FuncId} {func : Func} {c : Code} {xs : List Value} {w : World} {R : Value → World → Prop} (hf : P.funcs[f]? = some func) (hb : func.body = some c) (hn : (func.name == "runtime.NumGoroutine") = false) (h : Good P f xs w R) :
    Calls P f ⟨xs⟩ w fun e w' => ∃ v, e = .returned v ∧ R v w' := by
  rcases h with ⟨x, w', h1, _⟩ | ⟨_, h⟩
  · exfalso
    have hn : ¬ func.name = "runtime.NumGoroutine" := fun e => by rw [e] at hn; simp at hn
    unfold callFunc at h1
    simp [hf, hn, hb] at h1
  · exact h

/-- The labels of the variables at the start: block g for the variable g. -/
def rho0 (w : World) (G : Nat) : Rho := fun l => if val l < G ∧ l = pathOf (val l) then some ⟨val l, 0, (match w.shape? (val l) with | some (_, n) => n | none => 0)⟩ else none

theorem rho0_at (w : World) {G g : Nat} (hg : g < G) (hs : g < 2 ^ 64) : rho0 w G (pathOf g) = some ⟨g, 0, (match w.shape? g with | some (_, n) => n | none => 0)⟩ := by
  unfold rho0
  rw [val_pathOf hs, if_pos ⟨hg, rfl⟩]

theorem rho0_rel (w : World) {G : Nat} (hG : G < 2 ^ 64) : GRel (rho0 w G) G := fun g hg => ⟨_, rho0_at w hg (by omega)⟩

end Go.Dx
