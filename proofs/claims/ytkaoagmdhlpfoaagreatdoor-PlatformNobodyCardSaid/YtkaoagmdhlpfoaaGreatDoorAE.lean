/-
  What the tables say is so of the program.
-/
import Derived.Test.YtkaoagmdhlpfoaaGreatDoorYC
import Derived.Test.YtkaoagmdhlpfoaaGreatDoorAA
import Derived.Test.YtkaoagmdhlpfoaaGreatDoorAB
import Derived.Test.YtkaoagmdhlpfoaaGreatDoorAC
import Derived.Test.YtkaoagmdhlpfoaaGreatDoorAD
namespace PK
open Go Go.Dx Go.RowKit Go.Proofs
theorem tab50_ok : ExtOk Tryz.prog 11 50 (.tab 5 gl50 none tab50) := by
  refine ext_tab (vs := [(0, 0)]) (by decide) (by kernel_rfl) (by kernel_rfl) (by kernel_rfl) fun e he => ?_
  simp only [tab50, List.mem_cons, List.not_mem_nil, or_false] at he
  rcases he with rfl | rfl | rfl
  · refine ⟨of_decide_eq_true (by kernel_rfl), fun p hp => ?_⟩
    simp only [List.mem_cons, List.not_mem_nil, or_false] at hp
    subst hp
    exact ⟨_, call0_ok 3000, a50_0⟩
  · refine ⟨of_decide_eq_true (by kernel_rfl), fun p hp => ?_⟩
    simp only [List.mem_cons, List.not_mem_nil, or_false] at hp
    subst hp
    exact ⟨_, call0_ok 3000, a50_1⟩
  · refine ⟨of_decide_eq_true (by kernel_rfl), fun p hp => ?_⟩
    simp only [List.mem_cons, List.not_mem_nil, or_false] at hp
    subst hp
    exact ⟨_, call0_ok 3000, a50_2⟩
theorem orc1_ok : OrcOk Tryz.prog 11 orc1 := by
  refine orc_ok fun p hp => ?_
  rcases List.mem_cons.1 hp with rfl | hp
  · exact tab50_ok
  · exact ids0_ok p hp
theorem call1_ok (n : Nat) : OrcOk Tryz.prog 11 (K.turnK (envOf Tryz.prog) fns1 orc1 dorc15 n).call := by
  rw [K.turnK_eq]; exact machine_ok mixed orc1_ok dorc15_ok fns1_ok n
theorem tab381_ok : ExtOk Tryz.prog 11 381 (.tab 5 [] none tab381) := by
  refine ext_tab (vs := [(0, 0)]) (by decide) (by kernel_rfl) (by kernel_rfl) (by kernel_rfl) fun e he => ?_
  simp only [tab381, List.mem_cons, List.not_mem_nil, or_false] at he
  rcases he with rfl | rfl | rfl
  · refine ⟨of_decide_eq_true (by kernel_rfl), fun p hp => ?_⟩
    simp only [List.mem_cons, List.not_mem_nil, or_false] at hp
    subst hp
    exact ⟨_, call1_ok 3000, a381_0⟩
  · refine ⟨of_decide_eq_true (by kernel_rfl), fun p hp => ?_⟩
    simp only [List.mem_cons, List.not_mem_nil, or_false] at hp
    subst hp
    exact ⟨_, call1_ok 3000, a381_1⟩
  · refine ⟨of_decide_eq_true (by kernel_rfl), fun p hp => ?_⟩
    simp only [List.mem_cons, List.not_mem_nil, or_false] at hp
    subst hp
    exact ⟨_, call1_ok 3000, a381_2⟩
theorem tab499_ok : ExtOk Tryz.prog 11 499 (.tab 5 [] rgMax tab499) := by
  refine ext_tab (vs := [(-9223372036854775808, 1), (2, 3), (4, 9223372036854775807)]) (by decide) (by kernel_rfl) (by kernel_rfl) (by kernel_rfl) fun e he => ?_
  simp only [tab499, List.mem_cons, List.not_mem_nil, or_false] at he
  rcases he with rfl | rfl | rfl | rfl | rfl | rfl | rfl | rfl | rfl | rfl | rfl | rfl | rfl | rfl | rfl | rfl | rfl | rfl | rfl | rfl
  · refine ⟨of_decide_eq_true (by kernel_rfl), fun p hp => ?_⟩
    simp only [List.mem_cons, List.not_mem_nil, or_false] at hp
    rcases hp with rfl | rfl | rfl
    · exact ⟨_, call1_ok 3000, a499_0_0⟩
    · exact ⟨_, call1_ok 3000, a499_0_1⟩
    · exact ⟨_, call1_ok 3000, a499_0_2⟩
  · refine ⟨of_decide_eq_true (by kernel_rfl), fun p hp => ?_⟩
    simp only [List.mem_cons, List.not_mem_nil, or_false] at hp
    rcases hp with rfl | rfl | rfl
    · exact ⟨_, call1_ok 3000, a499_1_0⟩
    · exact ⟨_, call1_ok 3000, a499_1_1⟩
    · exact ⟨_, call1_ok 3000, a499_1_2⟩
  · refine ⟨of_decide_eq_true (by kernel_rfl), fun p hp => ?_⟩
    simp only [List.mem_cons, List.not_mem_nil, or_false] at hp
    rcases hp with rfl | rfl | rfl
    · exact ⟨_, call1_ok 3000, a499_2_0⟩
    · exact ⟨_, call1_ok 3000, a499_2_1⟩
    · exact ⟨_, call1_ok 3000, a499_2_2⟩
  · refine ⟨of_decide_eq_true (by kernel_rfl), fun p hp => ?_⟩
    simp only [List.mem_cons, List.not_mem_nil, or_false] at hp
    rcases hp with rfl | rfl | rfl
    · exact ⟨_, call1_ok 3000, a499_3_0⟩
    · exact ⟨_, call1_ok 3000, a499_3_1⟩
    · exact ⟨_, call1_ok 3000, a499_3_2⟩
  · refine ⟨of_decide_eq_true (by kernel_rfl), fun p hp => ?_⟩
    simp only [List.mem_cons, List.not_mem_nil, or_false] at hp
    rcases hp with rfl | rfl | rfl
    · exact ⟨_, call1_ok 3000, a499_4_0⟩
    · exact ⟨_, call1_ok 3000, a499_4_1⟩
    · exact ⟨_, call1_ok 3000, a499_4_2⟩
  · refine ⟨of_decide_eq_true (by kernel_rfl), fun p hp => ?_⟩
    simp only [List.mem_cons, List.not_mem_nil, or_false] at hp
    rcases hp with rfl | rfl | rfl
    · exact ⟨_, call1_ok 3000, a499_5_0⟩
    · exact ⟨_, call1_ok 3000, a499_5_1⟩
    · exact ⟨_, call1_ok 3000, a499_5_2⟩
  · refine ⟨of_decide_eq_true (by kernel_rfl), fun p hp => ?_⟩
    simp only [List.mem_cons, List.not_mem_nil, or_false] at hp
    rcases hp with rfl | rfl | rfl
    · exact ⟨_, call1_ok 3000, a499_6_0⟩
    · exact ⟨_, call1_ok 3000, a499_6_1⟩
    · exact ⟨_, call1_ok 3000, a499_6_2⟩
  · refine ⟨of_decide_eq_true (by kernel_rfl), fun p hp => ?_⟩
    simp only [List.mem_cons, List.not_mem_nil, or_false] at hp
    rcases hp with rfl | rfl | rfl
    · exact ⟨_, call1_ok 3000, a499_7_0⟩
    · exact ⟨_, call1_ok 3000, a499_7_1⟩
    · exact ⟨_, call1_ok 3000, a499_7_2⟩
  · refine ⟨of_decide_eq_true (by kernel_rfl), fun p hp => ?_⟩
    simp only [List.mem_cons, List.not_mem_nil, or_false] at hp
    rcases hp with rfl | rfl | rfl
    · exact ⟨_, call1_ok 3000, a499_8_0⟩
    · exact ⟨_, call1_ok 3000, a499_8_1⟩
    · exact ⟨_, call1_ok 3000, a499_8_2⟩
  · refine ⟨of_decide_eq_true (by kernel_rfl), fun p hp => ?_⟩
    simp only [List.mem_cons, List.not_mem_nil, or_false] at hp
    rcases hp with rfl | rfl | rfl
    · exact ⟨_, call1_ok 3000, a499_9_0⟩
    · exact ⟨_, call1_ok 3000, a499_9_1⟩
    · exact ⟨_, call1_ok 3000, a499_9_2⟩
  · refine ⟨of_decide_eq_true (by kernel_rfl), fun p hp => ?_⟩
    simp only [List.mem_cons, List.not_mem_nil, or_false] at hp
    rcases hp with rfl | rfl | rfl
    · exact ⟨_, call1_ok 3000, a499_10_0⟩
    · exact ⟨_, call1_ok 3000, a499_10_1⟩
    · exact ⟨_, call1_ok 3000, a499_10_2⟩
  · refine ⟨of_decide_eq_true (by kernel_rfl), fun p hp => ?_⟩
    simp only [List.mem_cons, List.not_mem_nil, or_false] at hp
    rcases hp with rfl | rfl | rfl
    · exact ⟨_, call1_ok 3000, a499_11_0⟩
    · exact ⟨_, call1_ok 3000, a499_11_1⟩
    · exact ⟨_, call1_ok 3000, a499_11_2⟩
  · refine ⟨of_decide_eq_true (by kernel_rfl), fun p hp => ?_⟩
    simp only [List.mem_cons, List.not_mem_nil, or_false] at hp
    rcases hp with rfl | rfl | rfl
    · exact ⟨_, call1_ok 3000, a499_12_0⟩
    · exact ⟨_, call1_ok 3000, a499_12_1⟩
    · exact ⟨_, call1_ok 3000, a499_12_2⟩
  · refine ⟨of_decide_eq_true (by kernel_rfl), fun p hp => ?_⟩
    simp only [List.mem_cons, List.not_mem_nil, or_false] at hp
    rcases hp with rfl | rfl | rfl
    · exact ⟨_, call1_ok 3000, a499_13_0⟩
    · exact ⟨_, call1_ok 3000, a499_13_1⟩
    · exact ⟨_, call1_ok 3000, a499_13_2⟩
  · refine ⟨of_decide_eq_true (by kernel_rfl), fun p hp => ?_⟩
    simp only [List.mem_cons, List.not_mem_nil, or_false] at hp
    rcases hp with rfl | rfl | rfl
    · exact ⟨_, call1_ok 3000, a499_14_0⟩
    · exact ⟨_, call1_ok 3000, a499_14_1⟩
    · exact ⟨_, call1_ok 3000, a499_14_2⟩
  · refine ⟨of_decide_eq_true (by kernel_rfl), fun p hp => ?_⟩
    simp only [List.mem_cons, List.not_mem_nil, or_false] at hp
    rcases hp with rfl | rfl | rfl
    · exact ⟨_, call1_ok 3000, a499_15_0⟩
    · exact ⟨_, call1_ok 3000, a499_15_1⟩
    · exact ⟨_, call1_ok 3000, a499_15_2⟩
  · refine ⟨of_decide_eq_true (by kernel_rfl), fun p hp => ?_⟩
    simp only [List.mem_cons, List.not_mem_nil, or_false] at hp
    rcases hp with rfl | rfl | rfl
    · exact ⟨_, call1_ok 3000, a499_16_0⟩
    · exact ⟨_, call1_ok 3000, a499_16_1⟩
    · exact ⟨_, call1_ok 3000, a499_16_2⟩
  · refine ⟨of_decide_eq_true (by kernel_rfl), fun p hp => ?_⟩
    simp only [List.mem_cons, List.not_mem_nil, or_false] at hp
    rcases hp with rfl | rfl | rfl
    · exact ⟨_, call1_ok 3000, a499_17_0⟩
    · exact ⟨_, call1_ok 3000, a499_17_1⟩
    · exact ⟨_, call1_ok 3000, a499_17_2⟩
  · refine ⟨of_decide_eq_true (by kernel_rfl), fun p hp => ?_⟩
    simp only [List.mem_cons, List.not_mem_nil, or_false] at hp
    rcases hp with rfl | rfl | rfl
    · exact ⟨_, call1_ok 3000, a499_18_0⟩
    · exact ⟨_, call1_ok 3000, a499_18_1⟩
    · exact ⟨_, call1_ok 3000, a499_18_2⟩
  · refine ⟨of_decide_eq_true (by kernel_rfl), fun p hp => ?_⟩
    simp only [List.mem_cons, List.not_mem_nil, or_false] at hp
    rcases hp with rfl | rfl | rfl
    · exact ⟨_, call1_ok 3000, a499_19_0⟩
    · exact ⟨_, call1_ok 3000, a499_19_1⟩
    · exact ⟨_, call1_ok 3000, a499_19_2⟩
theorem tab230_ok : ExtOk Tryz.prog 11 230 (.tab 5 [] rgMax tab230) := by
  refine ext_tab (vs := [(-9223372036854775808, 1), (2, 3), (4, 9223372036854775807)]) (by decide) (by kernel_rfl) (by kernel_rfl) (by kernel_rfl) fun e he => ?_
  simp only [tab230, List.mem_cons, List.not_mem_nil, or_false] at he
  rcases he with rfl | rfl | rfl
  · refine ⟨of_decide_eq_true (by kernel_rfl), fun p hp => ?_⟩
    simp only [List.mem_cons, List.not_mem_nil, or_false] at hp
    rcases hp with rfl | rfl | rfl
    · exact ⟨_, call1_ok 3000, a230_0_0⟩
    · exact ⟨_, call1_ok 3000, a230_0_1⟩
    · exact ⟨_, call1_ok 3000, a230_0_2⟩
  · refine ⟨of_decide_eq_true (by kernel_rfl), fun p hp => ?_⟩
    simp only [List.mem_cons, List.not_mem_nil, or_false] at hp
    rcases hp with rfl | rfl | rfl
    · exact ⟨_, call1_ok 3000, a230_1_0⟩
    · exact ⟨_, call1_ok 3000, a230_1_1⟩
    · exact ⟨_, call1_ok 3000, a230_1_2⟩
  · refine ⟨of_decide_eq_true (by kernel_rfl), fun p hp => ?_⟩
    simp only [List.mem_cons, List.not_mem_nil, or_false] at hp
    rcases hp with rfl | rfl | rfl
    · exact ⟨_, call1_ok 3000, a230_2_0⟩
    · exact ⟨_, call1_ok 3000, a230_2_1⟩
    · exact ⟨_, call1_ok 3000, a230_2_2⟩
theorem ids2_ok : ∀ p ∈ ids2, ExtOk Tryz.prog 11 p.1 p.2 := by
  intro p hp
  rcases List.mem_cons.1 hp with rfl | hp
  · exact tab381_ok
  · rcases List.mem_cons.1 hp with rfl | hp
    · exact tab499_ok
    · rcases List.mem_cons.1 hp with rfl | hp
      · exact tab230_ok
      · rcases List.mem_cons.1 hp with rfl | hp
        · exact tab50_ok
        · exact ids0_ok p hp
theorem orc2_ok : OrcOk Tryz.prog 11 orc2 := orc_ok ids2_ok
theorem call2_ok (n : Nat) : OrcOk Tryz.prog 11 (turn (envOf Tryz.prog) fns2 orc2 dorc15 n).call := machine_ok mixed orc2_ok dorc15_ok fns2_ok n
end PK
