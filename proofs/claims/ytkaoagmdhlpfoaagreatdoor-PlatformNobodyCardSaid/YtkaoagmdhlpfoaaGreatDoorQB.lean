/-
  The law's function, run on the machine: whatever the step is, of each number of clients and each room.
-/
import Derived.Test.YtkaoagmdhlpfoaaGreatDoorQA
namespace PK
open Go Go.Dx Go.RowKit Go.Proofs

def ids3 : List (FuncId × Ext) := (15, .tab 5 awGl rgMax awT) :: ids2
noncomputable def fns3 : T DFn := without all [15, 381, 499, 230, 50, 22, 147, 396, 510]
noncomputable def orc3 : Orc := orcOf Tryz.prog ids3
theorem orc3_ok : OrcOk Tryz.prog 11 orc3 := by
  refine orc_ok fun p hp => ?_
  rcases List.mem_cons.1 hp with rfl | hp
  · exact awake_tab
  · exact ids2_ok p hp
theorem fns3_ok : FnsOk Tryz.prog 11 fns3 := fnsOk_all (by decide) _
def lawGl : List (Lb × Dx.Obj) := rgAt rgMax awGl (-9223372036854775808, 9223372036854775807)
def h0L : H := { t := ofL lawGl, next := q22 }
def stepV : V := .agg [.sym q11 1, .sym q12 1, .sym q13 1, .sym q14 1, .sym q15 1, .sym q16 1, .sym q17 1, .sym q18 1, .sym q19 1, .sym q20 1, .sym q21 1]
noncomputable def runL (c r : V) : Option (V × H) := (K.turnK (envOf Tryz.prog) fns3 orc3 dorc15 3000).call 3 [stepV, c, r] h0L
def isTrue : Option (V × H) → Bool
  | some (.bool true, _) => true
  | _ => false
def roomV : List V := [.rng (-9223372036854775808) (-1), .rng 0 16777216, .rng 16777217 9223372036854775807]
def manyV : List V := [.rng (-9223372036854775808) 0, .rng 9 9223372036854775807, N 1, N 2, N 3, N 4, N 5, N 6, N 7, N 8]
theorem run0_0 : isTrue (runL (.rng (-9223372036854775808) 0) (.rng (-9223372036854775808) (-1))) = true := by kernel_rfl
theorem run0_1 : isTrue (runL (.rng (-9223372036854775808) 0) (.rng 0 16777216)) = true := by kernel_rfl
theorem run0_2 : isTrue (runL (.rng (-9223372036854775808) 0) (.rng 16777217 9223372036854775807)) = true := by kernel_rfl
theorem run1_0 : isTrue (runL (.rng 9 9223372036854775807) (.rng (-9223372036854775808) (-1))) = true := by kernel_rfl
theorem run1_1 : isTrue (runL (.rng 9 9223372036854775807) (.rng 0 16777216)) = true := by kernel_rfl
theorem run1_2 : isTrue (runL (.rng 9 9223372036854775807) (.rng 16777217 9223372036854775807)) = true := by kernel_rfl
theorem run2_0 : isTrue (runL (N 1) (.rng (-9223372036854775808) (-1))) = true := by kernel_rfl
theorem run2_1 : isTrue (runL (N 1) (.rng 0 16777216)) = true := by kernel_rfl
theorem run2_2 : isTrue (runL (N 1) (.rng 16777217 9223372036854775807)) = true := by kernel_rfl
theorem run3_0 : isTrue (runL (N 2) (.rng (-9223372036854775808) (-1))) = true := by kernel_rfl
theorem run3_1 : isTrue (runL (N 2) (.rng 0 16777216)) = true := by kernel_rfl
theorem run3_2 : isTrue (runL (N 2) (.rng 16777217 9223372036854775807)) = true := by kernel_rfl
theorem run4_0 : isTrue (runL (N 3) (.rng (-9223372036854775808) (-1))) = true := by kernel_rfl
theorem run4_1 : isTrue (runL (N 3) (.rng 0 16777216)) = true := by kernel_rfl
theorem run4_2 : isTrue (runL (N 3) (.rng 16777217 9223372036854775807)) = true := by kernel_rfl
theorem run5_0 : isTrue (runL (N 4) (.rng (-9223372036854775808) (-1))) = true := by kernel_rfl
theorem run5_1 : isTrue (runL (N 4) (.rng 0 16777216)) = true := by kernel_rfl
theorem run5_2 : isTrue (runL (N 4) (.rng 16777217 9223372036854775807)) = true := by kernel_rfl
theorem run6_0 : isTrue (runL (N 5) (.rng (-9223372036854775808) (-1))) = true := by kernel_rfl
theorem run6_1 : isTrue (runL (N 5) (.rng 0 16777216)) = true := by kernel_rfl
theorem run6_2 : isTrue (runL (N 5) (.rng 16777217 9223372036854775807)) = true := by kernel_rfl
theorem run7_0 : isTrue (runL (N 6) (.rng (-9223372036854775808) (-1))) = true := by kernel_rfl
theorem run7_1 : isTrue (runL (N 6) (.rng 0 16777216)) = true := by kernel_rfl
theorem run7_2 : isTrue (runL (N 6) (.rng 16777217 9223372036854775807)) = true := by kernel_rfl
theorem run8_0 : isTrue (runL (N 7) (.rng (-9223372036854775808) (-1))) = true := by kernel_rfl
theorem run8_1 : isTrue (runL (N 7) (.rng 0 16777216)) = true := by kernel_rfl
theorem run8_2 : isTrue (runL (N 7) (.rng 16777217 9223372036854775807)) = true := by kernel_rfl
theorem run9_0 : isTrue (runL (N 8) (.rng (-9223372036854775808) (-1))) = true := by kernel_rfl
theorem run9_1 : isTrue (runL (N 8) (.rng 0 16777216)) = true := by kernel_rfl
theorem run9_2 : isTrue (runL (N 8) (.rng 16777217 9223372036854775807)) = true := by kernel_rfl
theorem runs : ∀ c ∈ manyV, ∀ r ∈ roomV, isTrue (runL c r) = true := by
  intro c hc r hr
  simp only [manyV, List.mem_cons, List.not_mem_nil, or_false] at hc
  simp only [roomV, List.mem_cons, List.not_mem_nil, or_false] at hr
  rcases hc with rfl | rfl | rfl | rfl | rfl | rfl | rfl | rfl | rfl | rfl
  · rcases hr with rfl | rfl | rfl
    · exact run0_0
    · exact run0_1
    · exact run0_2
  · rcases hr with rfl | rfl | rfl
    · exact run1_0
    · exact run1_1
    · exact run1_2
  · rcases hr with rfl | rfl | rfl
    · exact run2_0
    · exact run2_1
    · exact run2_2
  · rcases hr with rfl | rfl | rfl
    · exact run3_0
    · exact run3_1
    · exact run3_2
  · rcases hr with rfl | rfl | rfl
    · exact run4_0
    · exact run4_1
    · exact run4_2
  · rcases hr with rfl | rfl | rfl
    · exact run5_0
    · exact run5_1
    · exact run5_2
  · rcases hr with rfl | rfl | rfl
    · exact run6_0
    · exact run6_1
    · exact run6_2
  · rcases hr with rfl | rfl | rfl
    · exact run7_0
    · exact run7_1
    · exact run7_2
  · rcases hr with rfl | rfl | rfl
    · exact run8_0
    · exact run8_1
    · exact run8_2
  · rcases hr with rfl | rfl | rfl
    · exact run9_0
    · exact run9_1
    · exact run9_2
end PK
