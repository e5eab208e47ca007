/-
  The law's function returns true, whatever it is called with, in each world where the listed variables hold what they are said to hold.
-/
import Derived.Test.YtkaoagmdhlpfoaaGreatDoorQB
import Derived.Test.YtkaoagmdhlpfoaaGreatDoorXI
namespace PK
open Go Go.Dx Go.RowKit Go.Proofs

def roundsZ : List Int := [1116352408, 1899447441, 3049323471, 3921009573, 961987163, 1508970993, 2453635748, 2870763221, 3624381080, 310598401, 607225278, 1426881987, 1925078388, 2162078206, 2614888103, 3248222580, 3835390401, 4022224774, 264347078, 604807628, 770255983, 1249150122, 1555081692, 1996064986, 2554220882, 2821834349, 2952996808, 3210313671, 3336571891, 3584528711, 113926993, 338241895, 666307205, 773529912, 1294757372, 1396182291, 1695183700, 1986661051, 2177026350, 2456956037, 2730485921, 2820302411, 3259730800, 3345764771, 3516065817, 3600352804, 4094571909, 275423344, 430227734, 506948616, 659060556, 883997877, 958139571, 1322822218, 1537002063, 1747873779, 1955562222, 2024104815, 2227730452, 2361852424, 2428436474, 2756734187, 3204031479, 3329325298]
def powZ : List Int := [1, 10, 100, 1000, 10000, 100000, 1000000, 10000000, 100000000, 1000000000, 10000000000, 100000000000, 1000000000000, 10000000000000, 100000000000000, 1000000000000000, 10000000000000000, 100000000000000000, 1000000000000000000, 10000000000000000000]

/-- What the listed variables hold. -/
structure WorldOk (w : World) : Prop where
  v0 : ∃ (c : Array Value) (fr : Nat × Nat), w.heap[0]? = some (.cells c 118 fr) ∧ c[0]? = some (.iface 181 (.agg #[.pointer (some ⟨10, 58, none⟩)]))
  v1 : ∃ (c : Array Value) (fr : Nat × Nat), w.heap[1]? = some (.cells c 202 fr) ∧ c.toList = roundsZ.map fun z => Value.int .u32 z
  v2 : ∃ (c : Array Value) (fr : Nat × Nat) (m : Int), w.heap[2]? = some (.cells c 3 fr) ∧ c[0]? = some (.int .i64 m) ∧ -9223372036854775808 ≤ m ∧ m ≤ 9223372036854775807
  v3 : ∃ (c : Array Value) (fr : Nat × Nat), w.heap[3]? = some (.cells c 521 fr) ∧ c.toList = powZ.map fun z => Value.int .u64 z

theorem ints_rel {ρ : Rho} {k : IntKind} {zs : List Int} {c : Array Value} (hc : c.toList = zs.map fun z => Value.int k z) (i : Nat) (v : V) (hv : (zs.map fun z => V.int k z)[i]? = some v) : ∃ x : Value, c[i]? = some x ∧ RV ρ v x := by
  rw [List.getElem?_map] at hv
  cases hz : zs[i]? with
  | none => rw [hz] at hv; cases hv
  | some z =>
    rw [hz] at hv
    simp only [Option.map_some, Option.some.injEq] at hv
    subst hv
    exact ⟨.int k z, by rw [← Array.getElem?_toList, hc, List.getElem?_map, hz]; rfl, .int k z⟩

theorem roundsList : (roundsZ.map fun z => V.int .u32 z) = [.int .u32 1116352408, .int .u32 1899447441, .int .u32 3049323471, .int .u32 3921009573, .int .u32 961987163, .int .u32 1508970993, .int .u32 2453635748, .int .u32 2870763221, .int .u32 3624381080, .int .u32 310598401, .int .u32 607225278, .int .u32 1426881987, .int .u32 1925078388, .int .u32 2162078206, .int .u32 2614888103, .int .u32 3248222580, .int .u32 3835390401, .int .u32 4022224774, .int .u32 264347078, .int .u32 604807628, .int .u32 770255983, .int .u32 1249150122, .int .u32 1555081692, .int .u32 1996064986, .int .u32 2554220882, .int .u32 2821834349, .int .u32 2952996808, .int .u32 3210313671, .int .u32 3336571891, .int .u32 3584528711, .int .u32 113926993, .int .u32 338241895, .int .u32 666307205, .int .u32 773529912, .int .u32 1294757372, .int .u32 1396182291, .int .u32 1695183700, .int .u32 1986661051, .int .u32 2177026350, .int .u32 2456956037, .int .u32 2730485921, .int .u32 2820302411, .int .u32 3259730800, .int .u32 3345764771, .int .u32 3516065817, .int .u32 3600352804, .int .u32 4094571909, .int .u32 275423344, .int .u32 430227734, .int .u32 506948616, .int .u32 659060556, .int .u32 883997877, .int .u32 958139571, .int .u32 1322822218, .int .u32 1537002063, .int .u32 1747873779, .int .u32 1955562222, .int .u32 2024104815, .int .u32 2227730452, .int .u32 2361852424, .int .u32 2428436474, .int .u32 2756734187, .int .u32 3204031479, .int .u32 3329325298] := rfl
theorem powList : (powZ.map fun z => V.int .u64 z) = [.int .u64 1, .int .u64 10, .int .u64 100, .int .u64 1000, .int .u64 10000, .int .u64 100000, .int .u64 1000000, .int .u64 10000000, .int .u64 100000000, .int .u64 1000000000, .int .u64 10000000000, .int .u64 100000000000, .int .u64 1000000000000, .int .u64 10000000000000, .int .u64 100000000000000, .int .u64 1000000000000000, .int .u64 10000000000000000, .int .u64 100000000000000000, .int .u64 1000000000000000000, .int .u64 10000000000000000000] := rfl

theorem law_objs {w : World} (W : WorldOk w) (vs : List (Nat × Value)) : ∀ l o, (l, o) ∈ lawGl → o.writes = false ∧ ∀ b, rho1 w 11 vs l = some b → ORel (rho1 w 11 vs) b w o := by
  intro l o hm
  have hm : (l, o) ∈ ([(q2, .cells [.rng (-9223372036854775808) 9223372036854775807] 3 0 .no), (q0, errObj), (q1, roundsObj), (q3, powObj)] : List (Lb × Dx.Obj)) := hm
  simp only [List.mem_cons, List.not_mem_nil, or_false, Prod.mk.injEq] at hm
  rcases hm with ⟨rfl, rfl⟩ | ⟨rfl, rfl⟩ | ⟨rfl, rfl⟩ | ⟨rfl, rfl⟩
  · obtain ⟨c, fr, m, h1, h2, h3, h4⟩ := W.v2
    refine ⟨rfl, var_rel (g := 2) (by decide) (by decide) h1 ?_ fun i v hv => ?_⟩
    · exact (Array.getElem?_eq_some_iff.1 h2).1
    · cases i with
      | zero => simp at hv; subst hv; exact ⟨_, h2, .rng h3 h4⟩
      | succ i => simp at hv
  · obtain ⟨c, fr, h1, h2⟩ := W.v0
    refine ⟨rfl, var_rel (g := 0) (by decide) (by decide) h1 ?_ fun i v hv => ?_⟩
    · exact (Array.getElem?_eq_some_iff.1 h2).1
    · cases i with
      | zero =>
        simp at hv; subst hv
        refine ⟨_, h2, .iface 181 (.agg (.cons ?_ .nil))⟩
        have := RV.ptr (ρ := rho1 w 11 vs) (l := pathOf 10) 58 (rho1_var w vs (by decide) (by decide))
        simp only [Nat.zero_add] at this
        exact this
      | succ i => simp at hv
  · obtain ⟨c, fr, h1, h2⟩ := W.v1
    have hl : c.size = 64 := by have := congrArg List.length h2; simpa [roundsZ] using this
    refine ⟨rfl, var_rel (g := 1) (by decide) (by decide) h1 (by rw [hl]; exact Nat.le_of_eq rfl) fun i v hv => ints_rel h2 i v ?_⟩
    rw [roundsList]; exact hv
  · obtain ⟨c, fr, h1, h2⟩ := W.v3
    have hl : c.size = 20 := by have := congrArg List.length h2; simpa [powZ] using this
    refine ⟨rfl, var_rel (g := 3) (by decide) (by decide) h1 (by rw [hl]; exact Nat.le_of_eq rfl) fun i v hv => ints_rel h2 i v ?_⟩
    rw [powList]; exact hv

theorem pickMany {ρ : Rho} {c : Int} (h1 : -9223372036854775808 ≤ c) (h2 : c ≤ 9223372036854775807) : ∃ v ∈ manyV, RV ρ v (.int .i64 c) := by
  by_cases a : c ≤ 0
  · exact ⟨_, by simp [manyV], .rng h1 a⟩
  · by_cases b : 9 ≤ c
    · exact ⟨.rng 9 9223372036854775807, by simp [manyV], .rng b h2⟩
    · have : c = 1 ∨ c = 2 ∨ c = 3 ∨ c = 4 ∨ c = 5 ∨ c = 6 ∨ c = 7 ∨ c = 8 := by omega
      rcases this with rfl | rfl | rfl | rfl | rfl | rfl | rfl | rfl
      · exact ⟨N 1, by simp [manyV], .int .i64 1⟩
      · exact ⟨N 2, by simp [manyV], .int .i64 2⟩
      · exact ⟨N 3, by simp [manyV], .int .i64 3⟩
      · exact ⟨N 4, by simp [manyV], .int .i64 4⟩
      · exact ⟨N 5, by simp [manyV], .int .i64 5⟩
      · exact ⟨N 6, by simp [manyV], .int .i64 6⟩
      · exact ⟨N 7, by simp [manyV], .int .i64 7⟩
      · exact ⟨N 8, by simp [manyV], .int .i64 8⟩
theorem pickRoom {ρ : Rho} {c : Int} (h1 : -9223372036854775808 ≤ c) (h2 : c ≤ 9223372036854775807) : ∃ v ∈ roomV, RV ρ v (.int .i64 c) := by
  by_cases a : c ≤ -1
  · exact ⟨_, by simp [roomV], .rng h1 a⟩
  · by_cases b : 16777217 ≤ c
    · exact ⟨.rng 16777217 9223372036854775807, by simp [roomV], .rng b h2⟩
    · exact ⟨.rng 0 16777216, by simp [roomV], .rng (by omega) (by omega)⟩

theorem run_some {r : Option (V × H)} (h : isTrue r = true) : ∃ h', r = some (.bool true, h') := by
  unfold isTrue at h
  split at h
  · exact ⟨_, rfl⟩
  · cases h

theorem law_ok (w : World) (W : WorldOk w) (x0 x1 x2 x3 x4 x5 x6 x7 x8 x9 x10 : Value) (hs : ∀ x ∈ [x0, x1, x2, x3, x4, x5, x6, x7, x8, x9, x10], symOk x = true) (c r : Int) (c1 : -9223372036854775808 ≤ c) (c2 : c ≤ 9223372036854775807) (r1 : -9223372036854775808 ≤ r) (r2 : r ≤ 9223372036854775807) :
    Calls Tryz.prog 3 #[.agg #[x0, x1, x2, x3, x4, x5, x6, x7, x8, x9, x10], .int .i64 c, .int .i64 r] w fun e w' => e = .returned (.bool true) ∧ Below w.heap.size w w' := by
  obtain ⟨vs, hvs⟩ : ∃ vs : List (Nat × Value), vs = [(1, x0), (1, x1), (1, x2), (1, x3), (1, x4), (1, x5), (1, x6), (1, x7), (1, x8), (1, x9), (1, x10)] := ⟨_, rfl⟩
  obtain ⟨cv, hcv, rc⟩ := pickMany (ρ := rho1 w 11 vs) c1 c2
  obtain ⟨rv, hrv, rr⟩ := pickRoom (ρ := rho1 w 11 vs) r1 r2
  obtain ⟨h', hcall⟩ := run_some (runs cv hcv rv hrv)
  unfold runL at hcall
  rw [K.turnK_eq] at hcall
  have R := relGl (w := w) (G := 11) (vs := vs) (gl := lawGl) (nx := q22) (by decide) (by kernel_rfl) (by rw [hvs]; rfl) (fun p hp => by
    rw [hvs] at hp
    simp only [List.mem_cons, List.not_mem_nil, or_false] at hp
    rcases hp with rfl | rfl | rfl | rfl | rfl | rfl | rfl | rfl | rfl | rfl | rfl
    all_goals exact ValOk.cell) (law_objs W vs)
  have sy : ∀ (i k : Nat) (x : Value), vs[i]? = some (k, x) → i < 11 → symOk x = true → RV (rho1 w 11 vs) (.sym (pathOf (11 + i)) k) x := fun i k x hi hlt hx => by
    have := RV.sym (ρ := rho1 w 11 vs) (n := k) (rho1_sym w hi (by omega)) rfl hx
    exact this
  have key := machine_ok (P := Tryz.prog) (G := 11) mixed orc3_ok dorc15_ok fns3_ok 3000 hcall R (rho1_rel w vs (by decide))
    (xs := [.agg #[x0, x1, x2, x3, x4, x5, x6, x7, x8, x9, x10], .int .i64 c, .int .i64 r])
    (.cons (.agg (.cons (sy 0 1 x0 (by rw [hvs]; rfl) (by decide) (hs _ (by simp))) (.cons (sy 1 1 x1 (by rw [hvs]; rfl) (by decide) (hs _ (by simp))) (.cons (sy 2 1 x2 (by rw [hvs]; rfl) (by decide) (hs _ (by simp))) (.cons (sy 3 1 x3 (by rw [hvs]; rfl) (by decide) (hs _ (by simp))) (.cons (sy 4 1 x4 (by rw [hvs]; rfl) (by decide) (hs _ (by simp))) (.cons (sy 5 1 x5 (by rw [hvs]; rfl) (by decide) (hs _ (by simp))) (.cons (sy 6 1 x6 (by rw [hvs]; rfl) (by decide) (hs _ (by simp))) (.cons (sy 7 1 x7 (by rw [hvs]; rfl) (by decide) (hs _ (by simp))) (.cons (sy 8 1 x8 (by rw [hvs]; rfl) (by decide) (hs _ (by simp))) (.cons (sy 9 1 x9 (by rw [hvs]; rfl) (by decide) (hs _ (by simp))) (.cons (sy 10 1 x10 (by rw [hvs]; rfl) (by decide) (hs _ (by simp))) .nil)))))))))))) (.cons rc (.cons rr .nil)))
  refine (key.calls Tryz.func3 rfl (by kernel_rfl)).mono fun e w' hh => ?_
  obtain ⟨v, rfl, ρ', -, hv, R'⟩ := hh
  cases hv
  exact ⟨rfl, R'.below⟩
end PK
