/-
  Answers, run.
  Answers, run.
-/
import Derived.Test.YtkaoagmdhlpfoaaGreatDoorYA
import Derived.Test.YtkaoagmdhlpfoaaGreatDoorXI
namespace PK
open Go Go.Dx Go.Proofs
theorem a381_0 : answerOk t381_0.2 ((K.turnK (envOf Tryz.prog) fns1 orc1 dorc15 3000).call 381 (argsV 11 t381_0.1) (heapT 5 [] 11 t381_0.1)) = true := by kernel_rfl
theorem a381_1 : answerOk t381_1.2 ((K.turnK (envOf Tryz.prog) fns1 orc1 dorc15 3000).call 381 (argsV 11 t381_1.1) (heapT 5 [] 11 t381_1.1)) = true := by kernel_rfl
theorem a381_2 : answerOk t381_2.2 ((K.turnK (envOf Tryz.prog) fns1 orc1 dorc15 3000).call 381 (argsV 11 t381_2.1) (heapT 5 [] 11 t381_2.1)) = true := by kernel_rfl
end PK
namespace PK
open Go Go.Dx Go.Proofs
theorem a499_0_0 : answerOk t499_0.2 ((K.turnK (envOf Tryz.prog) fns1 orc1 dorc15 3000).call 499 (argsV 11 t499_0.1) (heapT 5 (rgAt rgMax [] (-9223372036854775808, 1)) 11 t499_0.1)) = true := by kernel_rfl
theorem a499_0_1 : answerOk t499_0.2 ((K.turnK (envOf Tryz.prog) fns1 orc1 dorc15 3000).call 499 (argsV 11 t499_0.1) (heapT 5 (rgAt rgMax [] (2, 3)) 11 t499_0.1)) = true := by kernel_rfl
theorem a499_0_2 : answerOk t499_0.2 ((K.turnK (envOf Tryz.prog) fns1 orc1 dorc15 3000).call 499 (argsV 11 t499_0.1) (heapT 5 (rgAt rgMax [] (4, 9223372036854775807)) 11 t499_0.1)) = true := by kernel_rfl
theorem a499_1_0 : answerOk t499_1.2 ((K.turnK (envOf Tryz.prog) fns1 orc1 dorc15 3000).call 499 (argsV 11 t499_1.1) (heapT 5 (rgAt rgMax [] (-9223372036854775808, 1)) 11 t499_1.1)) = true := by kernel_rfl
theorem a499_1_1 : answerOk t499_1.2 ((K.turnK (envOf Tryz.prog) fns1 orc1 dorc15 3000).call 499 (argsV 11 t499_1.1) (heapT 5 (rgAt rgMax [] (2, 3)) 11 t499_1.1)) = true := by kernel_rfl
theorem a499_1_2 : answerOk t499_1.2 ((K.turnK (envOf Tryz.prog) fns1 orc1 dorc15 3000).call 499 (argsV 11 t499_1.1) (heapT 5 (rgAt rgMax [] (4, 9223372036854775807)) 11 t499_1.1)) = true := by kernel_rfl
theorem a499_2_0 : answerOk t499_2.2 ((K.turnK (envOf Tryz.prog) fns1 orc1 dorc15 3000).call 499 (argsV 11 t499_2.1) (heapT 5 (rgAt rgMax [] (-9223372036854775808, 1)) 11 t499_2.1)) = true := by kernel_rfl
theorem a499_2_1 : answerOk t499_2.2 ((K.turnK (envOf Tryz.prog) fns1 orc1 dorc15 3000).call 499 (argsV 11 t499_2.1) (heapT 5 (rgAt rgMax [] (2, 3)) 11 t499_2.1)) = true := by kernel_rfl
theorem a499_2_2 : answerOk t499_2.2 ((K.turnK (envOf Tryz.prog) fns1 orc1 dorc15 3000).call 499 (argsV 11 t499_2.1) (heapT 5 (rgAt rgMax [] (4, 9223372036854775807)) 11 t499_2.1)) = true := by kernel_rfl
theorem a499_3_0 : answerOk t499_3.2 ((K.turnK (envOf Tryz.prog) fns1 orc1 dorc15 3000).call 499 (argsV 11 t499_3.1) (heapT 5 (rgAt rgMax [] (-9223372036854775808, 1)) 11 t499_3.1)) = true := by kernel_rfl
theorem a499_3_1 : answerOk t499_3.2 ((K.turnK (envOf Tryz.prog) fns1 orc1 dorc15 3000).call 499 (argsV 11 t499_3.1) (heapT 5 (rgAt rgMax [] (2, 3)) 11 t499_3.1)) = true := by kernel_rfl
theorem a499_3_2 : answerOk t499_3.2 ((K.turnK (envOf Tryz.prog) fns1 orc1 dorc15 3000).call 499 (argsV 11 t499_3.1) (heapT 5 (rgAt rgMax [] (4, 9223372036854775807)) 11 t499_3.1)) = true := by kernel_rfl
theorem a499_4_0 : answerOk t499_4.2 ((K.turnK (envOf Tryz.prog) fns1 orc1 dorc15 3000).call 499 (argsV 11 t499_4.1) (heapT 5 (rgAt rgMax [] (-9223372036854775808, 1)) 11 t499_4.1)) = true := by kernel_rfl
theorem a499_4_1 : answerOk t499_4.2 ((K.turnK (envOf Tryz.prog) fns1 orc1 dorc15 3000).call 499 (argsV 11 t499_4.1) (heapT 5 (rgAt rgMax [] (2, 3)) 11 t499_4.1)) = true := by kernel_rfl
theorem a499_4_2 : answerOk t499_4.2 ((K.turnK (envOf Tryz.prog) fns1 orc1 dorc15 3000).call 499 (argsV 11 t499_4.1) (heapT 5 (rgAt rgMax [] (4, 9223372036854775807)) 11 t499_4.1)) = true := by kernel_rfl
theorem a499_5_0 : answerOk t499_5.2 ((K.turnK (envOf Tryz.prog) fns1 orc1 dorc15 3000).call 499 (argsV 11 t499_5.1) (heapT 5 (rgAt rgMax [] (-9223372036854775808, 1)) 11 t499_5.1)) = true := by kernel_rfl
theorem a499_5_1 : answerOk t499_5.2 ((K.turnK (envOf Tryz.prog) fns1 orc1 dorc15 3000).call 499 (argsV 11 t499_5.1) (heapT 5 (rgAt rgMax [] (2, 3)) 11 t499_5.1)) = true := by kernel_rfl
theorem a499_5_2 : answerOk t499_5.2 ((K.turnK (envOf Tryz.prog) fns1 orc1 dorc15 3000).call 499 (argsV 11 t499_5.1) (heapT 5 (rgAt rgMax [] (4, 9223372036854775807)) 11 t499_5.1)) = true := by kernel_rfl
theorem a499_6_0 : answerOk t499_6.2 ((K.turnK (envOf Tryz.prog) fns1 orc1 dorc15 3000).call 499 (argsV 11 t499_6.1) (heapT 5 (rgAt rgMax [] (-9223372036854775808, 1)) 11 t499_6.1)) = true := by kernel_rfl
theorem a499_6_1 : answerOk t499_6.2 ((K.turnK (envOf Tryz.prog) fns1 orc1 dorc15 3000).call 499 (argsV 11 t499_6.1) (heapT 5 (rgAt rgMax [] (2, 3)) 11 t499_6.1)) = true := by kernel_rfl
theorem a499_6_2 : answerOk t499_6.2 ((K.turnK (envOf Tryz.prog) fns1 orc1 dorc15 3000).call 499 (argsV 11 t499_6.1) (heapT 5 (rgAt rgMax [] (4, 9223372036854775807)) 11 t499_6.1)) = true := by kernel_rfl
theorem a499_7_0 : answerOk t499_7.2 ((K.turnK (envOf Tryz.prog) fns1 orc1 dorc15 3000).call 499 (argsV 11 t499_7.1) (heapT 5 (rgAt rgMax [] (-9223372036854775808, 1)) 11 t499_7.1)) = true := by kernel_rfl
theorem a499_7_1 : answerOk t499_7.2 ((K.turnK (envOf Tryz.prog) fns1 orc1 dorc15 3000).call 499 (argsV 11 t499_7.1) (heapT 5 (rgAt rgMax [] (2, 3)) 11 t499_7.1)) = true := by kernel_rfl
theorem a499_7_2 : answerOk t499_7.2 ((K.turnK (envOf Tryz.prog) fns1 orc1 dorc15 3000).call 499 (argsV 11 t499_7.1) (heapT 5 (rgAt rgMax [] (4, 9223372036854775807)) 11 t499_7.1)) = true := by kernel_rfl
theorem a499_8_0 : answerOk t499_8.2 ((K.turnK (envOf Tryz.prog) fns1 orc1 dorc15 3000).call 499 (argsV 11 t499_8.1) (heapT 5 (rgAt rgMax [] (-9223372036854775808, 1)) 11 t499_8.1)) = true := by kernel_rfl
theorem a499_8_1 : answerOk t499_8.2 ((K.turnK (envOf Tryz.prog) fns1 orc1 dorc15 3000).call 499 (argsV 11 t499_8.1) (heapT 5 (rgAt rgMax [] (2, 3)) 11 t499_8.1)) = true := by kernel_rfl
theorem a499_8_2 : answerOk t499_8.2 ((K.turnK (envOf Tryz.prog) fns1 orc1 dorc15 3000).call 499 (argsV 11 t499_8.1) (heapT 5 (rgAt rgMax [] (4, 9223372036854775807)) 11 t499_8.1)) = true := by kernel_rfl
theorem a499_9_0 : answerOk t499_9.2 ((K.turnK (envOf Tryz.prog) fns1 orc1 dorc15 3000).call 499 (argsV 11 t499_9.1) (heapT 5 (rgAt rgMax [] (-9223372036854775808, 1)) 11 t499_9.1)) = true := by kernel_rfl
theorem a499_9_1 : answerOk t499_9.2 ((K.turnK (envOf Tryz.prog) fns1 orc1 dorc15 3000).call 499 (argsV 11 t499_9.1) (heapT 5 (rgAt rgMax [] (2, 3)) 11 t499_9.1)) = true := by kernel_rfl
theorem a499_9_2 : answerOk t499_9.2 ((K.turnK (envOf Tryz.prog) fns1 orc1 dorc15 3000).call 499 (argsV 11 t499_9.1) (heapT 5 (rgAt rgMax [] (4, 9223372036854775807)) 11 t499_9.1)) = true := by kernel_rfl
theorem a499_10_0 : answerOk t499_10.2 ((K.turnK (envOf Tryz.prog) fns1 orc1 dorc15 3000).call 499 (argsV 11 t499_10.1) (heapT 5 (rgAt rgMax [] (-9223372036854775808, 1)) 11 t499_10.1)) = true := by kernel_rfl
theorem a499_10_1 : answerOk t499_10.2 ((K.turnK (envOf Tryz.prog) fns1 orc1 dorc15 3000).call 499 (argsV 11 t499_10.1) (heapT 5 (rgAt rgMax [] (2, 3)) 11 t499_10.1)) = true := by kernel_rfl
theorem a499_10_2 : answerOk t499_10.2 ((K.turnK (envOf Tryz.prog) fns1 orc1 dorc15 3000).call 499 (argsV 11 t499_10.1) (heapT 5 (rgAt rgMax [] (4, 9223372036854775807)) 11 t499_10.1)) = true := by kernel_rfl
theorem a499_11_0 : answerOk t499_11.2 ((K.turnK (envOf Tryz.prog) fns1 orc1 dorc15 3000).call 499 (argsV 11 t499_11.1) (heapT 5 (rgAt rgMax [] (-9223372036854775808, 1)) 11 t499_11.1)) = true := by kernel_rfl
theorem a499_11_1 : answerOk t499_11.2 ((K.turnK (envOf Tryz.prog) fns1 orc1 dorc15 3000).call 499 (argsV 11 t499_11.1) (heapT 5 (rgAt rgMax [] (2, 3)) 11 t499_11.1)) = true := by kernel_rfl
theorem a499_11_2 : answerOk t499_11.2 ((K.turnK (envOf Tryz.prog) fns1 orc1 dorc15 3000).call 499 (argsV 11 t499_11.1) (heapT 5 (rgAt rgMax [] (4, 9223372036854775807)) 11 t499_11.1)) = true := by kernel_rfl
theorem a499_12_0 : answerOk t499_12.2 ((K.turnK (envOf Tryz.prog) fns1 orc1 dorc15 3000).call 499 (argsV 11 t499_12.1) (heapT 5 (rgAt rgMax [] (-9223372036854775808, 1)) 11 t499_12.1)) = true := by kernel_rfl
theorem a499_12_1 : answerOk t499_12.2 ((K.turnK (envOf Tryz.prog) fns1 orc1 dorc15 3000).call 499 (argsV 11 t499_12.1) (heapT 5 (rgAt rgMax [] (2, 3)) 11 t499_12.1)) = true := by kernel_rfl
theorem a499_12_2 : answerOk t499_12.2 ((K.turnK (envOf Tryz.prog) fns1 orc1 dorc15 3000).call 499 (argsV 11 t499_12.1) (heapT 5 (rgAt rgMax [] (4, 9223372036854775807)) 11 t499_12.1)) = true := by kernel_rfl
theorem a499_13_0 : answerOk t499_13.2 ((K.turnK (envOf Tryz.prog) fns1 orc1 dorc15 3000).call 499 (argsV 11 t499_13.1) (heapT 5 (rgAt rgMax [] (-9223372036854775808, 1)) 11 t499_13.1)) = true := by kernel_rfl
theorem a499_13_1 : answerOk t499_13.2 ((K.turnK (envOf Tryz.prog) fns1 orc1 dorc15 3000).call 499 (argsV 11 t499_13.1) (heapT 5 (rgAt rgMax [] (2, 3)) 11 t499_13.1)) = true := by kernel_rfl
theorem a499_13_2 : answerOk t499_13.2 ((K.turnK (envOf Tryz.prog) fns1 orc1 dorc15 3000).call 499 (argsV 11 t499_13.1) (heapT 5 (rgAt rgMax [] (4, 9223372036854775807)) 11 t499_13.1)) = true := by kernel_rfl
theorem a499_14_0 : answerOk t499_14.2 ((K.turnK (envOf Tryz.prog) fns1 orc1 dorc15 3000).call 499 (argsV 11 t499_14.1) (heapT 5 (rgAt rgMax [] (-9223372036854775808, 1)) 11 t499_14.1)) = true := by kernel_rfl
theorem a499_14_1 : answerOk t499_14.2 ((K.turnK (envOf Tryz.prog) fns1 orc1 dorc15 3000).call 499 (argsV 11 t499_14.1) (heapT 5 (rgAt rgMax [] (2, 3)) 11 t499_14.1)) = true := by kernel_rfl
theorem a499_14_2 : answerOk t499_14.2 ((K.turnK (envOf Tryz.prog) fns1 orc1 dorc15 3000).call 499 (argsV 11 t499_14.1) (heapT 5 (rgAt rgMax [] (4, 9223372036854775807)) 11 t499_14.1)) = true := by kernel_rfl
theorem a499_15_0 : answerOk t499_15.2 ((K.turnK (envOf Tryz.prog) fns1 orc1 dorc15 3000).call 499 (argsV 11 t499_15.1) (heapT 5 (rgAt rgMax [] (-9223372036854775808, 1)) 11 t499_15.1)) = true := by kernel_rfl
theorem a499_15_1 : answerOk t499_15.2 ((K.turnK (envOf Tryz.prog) fns1 orc1 dorc15 3000).call 499 (argsV 11 t499_15.1) (heapT 5 (rgAt rgMax [] (2, 3)) 11 t499_15.1)) = true := by kernel_rfl
theorem a499_15_2 : answerOk t499_15.2 ((K.turnK (envOf Tryz.prog) fns1 orc1 dorc15 3000).call 499 (argsV 11 t499_15.1) (heapT 5 (rgAt rgMax [] (4, 9223372036854775807)) 11 t499_15.1)) = true := by kernel_rfl
theorem a499_16_0 : answerOk t499_16.2 ((K.turnK (envOf Tryz.prog) fns1 orc1 dorc15 3000).call 499 (argsV 11 t499_16.1) (heapT 5 (rgAt rgMax [] (-9223372036854775808, 1)) 11 t499_16.1)) = true := by kernel_rfl
theorem a499_16_1 : answerOk t499_16.2 ((K.turnK (envOf Tryz.prog) fns1 orc1 dorc15 3000).call 499 (argsV 11 t499_16.1) (heapT 5 (rgAt rgMax [] (2, 3)) 11 t499_16.1)) = true := by kernel_rfl
theorem a499_16_2 : answerOk t499_16.2 ((K.turnK (envOf Tryz.prog) fns1 orc1 dorc15 3000).call 499 (argsV 11 t499_16.1) (heapT 5 (rgAt rgMax [] (4, 9223372036854775807)) 11 t499_16.1)) = true := by kernel_rfl
theorem a499_17_0 : answerOk t499_17.2 ((K.turnK (envOf Tryz.prog) fns1 orc1 dorc15 3000).call 499 (argsV 11 t499_17.1) (heapT 5 (rgAt rgMax [] (-9223372036854775808, 1)) 11 t499_17.1)) = true := by kernel_rfl
theorem a499_17_1 : answerOk t499_17.2 ((K.turnK (envOf Tryz.prog) fns1 orc1 dorc15 3000).call 499 (argsV 11 t499_17.1) (heapT 5 (rgAt rgMax [] (2, 3)) 11 t499_17.1)) = true := by kernel_rfl
theorem a499_17_2 : answerOk t499_17.2 ((K.turnK (envOf Tryz.prog) fns1 orc1 dorc15 3000).call 499 (argsV 11 t499_17.1) (heapT 5 (rgAt rgMax [] (4, 9223372036854775807)) 11 t499_17.1)) = true := by kernel_rfl
theorem a499_18_0 : answerOk t499_18.2 ((K.turnK (envOf Tryz.prog) fns1 orc1 dorc15 3000).call 499 (argsV 11 t499_18.1) (heapT 5 (rgAt rgMax [] (-9223372036854775808, 1)) 11 t499_18.1)) = true := by kernel_rfl
theorem a499_18_1 : answerOk t499_18.2 ((K.turnK (envOf Tryz.prog) fns1 orc1 dorc15 3000).call 499 (argsV 11 t499_18.1) (heapT 5 (rgAt rgMax [] (2, 3)) 11 t499_18.1)) = true := by kernel_rfl
theorem a499_18_2 : answerOk t499_18.2 ((K.turnK (envOf Tryz.prog) fns1 orc1 dorc15 3000).call 499 (argsV 11 t499_18.1) (heapT 5 (rgAt rgMax [] (4, 9223372036854775807)) 11 t499_18.1)) = true := by kernel_rfl
theorem a499_19_0 : answerOk t499_19.2 ((K.turnK (envOf Tryz.prog) fns1 orc1 dorc15 3000).call 499 (argsV 11 t499_19.1) (heapT 5 (rgAt rgMax [] (-9223372036854775808, 1)) 11 t499_19.1)) = true := by kernel_rfl
theorem a499_19_1 : answerOk t499_19.2 ((K.turnK (envOf Tryz.prog) fns1 orc1 dorc15 3000).call 499 (argsV 11 t499_19.1) (heapT 5 (rgAt rgMax [] (2, 3)) 11 t499_19.1)) = true := by kernel_rfl
theorem a499_19_2 : answerOk t499_19.2 ((K.turnK (envOf Tryz.prog) fns1 orc1 dorc15 3000).call 499 (argsV 11 t499_19.1) (heapT 5 (rgAt rgMax [] (4, 9223372036854775807)) 11 t499_19.1)) = true := by kernel_rfl
theorem a230_0_0 : answerOk t230_0.2 ((K.turnK (envOf Tryz.prog) fns1 orc1 dorc15 3000).call 230 (argsV 11 t230_0.1) (heapT 5 (rgAt rgMax [] (-9223372036854775808, 1)) 11 t230_0.1)) = true := by kernel_rfl
theorem a230_0_1 : answerOk t230_0.2 ((K.turnK (envOf Tryz.prog) fns1 orc1 dorc15 3000).call 230 (argsV 11 t230_0.1) (heapT 5 (rgAt rgMax [] (2, 3)) 11 t230_0.1)) = true := by kernel_rfl
theorem a230_0_2 : answerOk t230_0.2 ((K.turnK (envOf Tryz.prog) fns1 orc1 dorc15 3000).call 230 (argsV 11 t230_0.1) (heapT 5 (rgAt rgMax [] (4, 9223372036854775807)) 11 t230_0.1)) = true := by kernel_rfl
theorem a230_1_0 : answerOk t230_1.2 ((K.turnK (envOf Tryz.prog) fns1 orc1 dorc15 3000).call 230 (argsV 11 t230_1.1) (heapT 5 (rgAt rgMax [] (-9223372036854775808, 1)) 11 t230_1.1)) = true := by kernel_rfl
theorem a230_1_1 : answerOk t230_1.2 ((K.turnK (envOf Tryz.prog) fns1 orc1 dorc15 3000).call 230 (argsV 11 t230_1.1) (heapT 5 (rgAt rgMax [] (2, 3)) 11 t230_1.1)) = true := by kernel_rfl
theorem a230_1_2 : answerOk t230_1.2 ((K.turnK (envOf Tryz.prog) fns1 orc1 dorc15 3000).call 230 (argsV 11 t230_1.1) (heapT 5 (rgAt rgMax [] (4, 9223372036854775807)) 11 t230_1.1)) = true := by kernel_rfl
theorem a230_2_0 : answerOk t230_2.2 ((K.turnK (envOf Tryz.prog) fns1 orc1 dorc15 3000).call 230 (argsV 11 t230_2.1) (heapT 5 (rgAt rgMax [] (-9223372036854775808, 1)) 11 t230_2.1)) = true := by kernel_rfl
theorem a230_2_1 : answerOk t230_2.2 ((K.turnK (envOf Tryz.prog) fns1 orc1 dorc15 3000).call 230 (argsV 11 t230_2.1) (heapT 5 (rgAt rgMax [] (2, 3)) 11 t230_2.1)) = true := by kernel_rfl
theorem a230_2_2 : answerOk t230_2.2 ((K.turnK (envOf Tryz.prog) fns1 orc1 dorc15 3000).call 230 (argsV 11 t230_2.1) (heapT 5 (rgAt rgMax [] (4, 9223372036854775807)) 11 t230_2.1)) = true := by kernel_rfl
end PK
