/-
  What was run piece by piece is joined: plain.Awake comes to true.
-/
import Derived.Test.YtkaoagmdhlpfoaaGreatDoorAE
import Derived.Test.YtkaoagmdhlpfoaaGreatDoorPB
import Derived.Test.YtkaoagmdhlpfoaaGreatDoorPA
import Derived.Test.YtkaoagmdhlpfoaaGreatDoorPD
import Derived.Test.YtkaoagmdhlpfoaaGreatDoorPC
import Derived.Test.YtkaoagmdhlpfoaaGreatDoorPG
import Derived.Test.YtkaoagmdhlpfoaaGreatDoorPI
import Derived.Test.YtkaoagmdhlpfoaaGreatDoorPE
import Derived.Test.YtkaoagmdhlpfoaaGreatDoorPH
import Derived.Test.YtkaoagmdhlpfoaaGreatDoorPF
import Derived.Test.YtkaoagmdhlpfoaaGreatDoorPJ
namespace PK
open Go Go.Dx Go.RowKit Go.Proofs

noncomputable def callR2 : Nat → Orc := fun m => (turn (envOf Tryz.prog) fns2 orc2 dorc15 m).call
def GoodM (e : Memo) : Prop := formOk e = true ∧ ∃ callL : Orc, SimCall callL callR2 ∧ endOk e (callL e.f e.args (heapOf e.inn e.next)) = true
theorem base2 : BaseLoc fns2 orc2 := orc_loc (ids := ids2) (by kernel_rfl)
theorem dorcLoc : DorcLoc dorc15 := by
  refine ⟨fun f args h k h' hr S => ?_, fun f args h k hr S => ?_⟩
  · unfold dorc15 at hr ⊢
    split at hr
    · cases hr; exact ⟨k, rfl, Aft.refl S⟩
    · cases hr
  · unfold dorc15 at hr ⊢
    split at hr
    · cases hr
    · rfl
theorem simOf {es : List Memo} (h : ∀ e ∈ es, GoodM e) : SimCall (K.turnK (envOf Tryz.prog) fns2 (orcM (memoOf es) orc2) dorc15 3000).call callR2 := by
  rw [K.turnK_eq]
  exact (turn_sim base2 dorcLoc (memoOf_sim h) 3000).2
theorem pieceOf {m : Memo} {es : List Memo} (h : ∀ e ∈ es, GoodM e) (hf : formOk m = true) (he : endOk m ((K.turnK (envOf Tryz.prog) fns2 (orcM (memoOf es) orc2) dorc15 3000).call m.f m.args (heapOf m.inn m.next)) = true) : GoodM m :=
  ⟨hf, _, simOf h, he⟩
theorem good0 : GoodM m0 := pieceOf (fun e he => by cases he) form0 end0
theorem good1 : GoodM m1 := pieceOf (fun e he => by cases he) form1 end1
theorem good2 : GoodM m2 := pieceOf (fun e he => by cases he) form2 end2
theorem good3 : GoodM m3 := pieceOf (fun e he => by cases he) form3 end3
theorem good4 : GoodM m4 := pieceOf (fun e he => by cases he) form4 end4
theorem good5 : GoodM m5 := pieceOf (fun e he => by cases he) form5 end5
theorem good6 : GoodM m6 := pieceOf (fun e he => by
    simp only [List.mem_cons, List.not_mem_nil, or_false] at he
    rcases he with rfl | rfl
    · exact good5
    · exact good4) form6 end6
theorem good7 : GoodM m7 := pieceOf (fun e he => by
    simp only [List.mem_cons, List.not_mem_nil, or_false] at he
    rcases he with rfl | rfl | rfl | rfl
    · exact good6
    · exact good3
    · exact good2
    · exact good1) form7 end7
theorem good8 : GoodM m8 := pieceOf (fun e he => by cases he) form8 end8
theorem good9 : GoodM m9 := pieceOf (fun e he => by cases he) form9 end9
theorem good10 : GoodM m10 := pieceOf (fun e he => by cases he) form10 end10
theorem good11 : GoodM m11 := pieceOf (fun e he => by
    simp only [List.mem_cons, List.not_mem_nil, or_false] at he
    rcases he with rfl
    · exact good10) form11 end11
theorem good12 : GoodM m12 := pieceOf (fun e he => by cases he) form12 end12
theorem good13 : GoodM m13 := pieceOf (fun e he => by cases he) form13 end13
theorem good14 : GoodM m14 := pieceOf (fun e he => by
    simp only [List.mem_cons, List.not_mem_nil, or_false] at he
    rcases he with rfl | rfl | rfl | rfl | rfl
    · exact good13
    · exact good12
    · exact good11
    · exact good9
    · exact good8) form14 end14

def errObj : Dx.Obj := .cells [(.iface 181 (.agg [(.ptr q10 58)]))] 118 0 .no
def powObj : Dx.Obj := .cells [.int .u64 1, .int .u64 10, .int .u64 100, .int .u64 1000, .int .u64 10000, .int .u64 100000, .int .u64 1000000, .int .u64 10000000, .int .u64 100000000, .int .u64 1000000000, .int .u64 10000000000, .int .u64 100000000000, .int .u64 1000000000000, .int .u64 10000000000000, .int .u64 100000000000000, .int .u64 1000000000000000, .int .u64 10000000000000000, .int .u64 100000000000000000, .int .u64 1000000000000000000, .int .u64 10000000000000000000] 521 0 .no
def awGl : List (Lb × Dx.Obj) := [(q0, errObj), (q1, roundsObj), (q3, powObj)]
def awT : List (List Key × V) := [([], .bool true)]
theorem awake_run : answerOk (.bool true) ((K.turnK (envOf Tryz.prog) fns2 (orcM (memoOf [m14, m7, m0]) orc2) dorc15 3000).call 15 [] (heapT 5 (rgAt rgMax awGl (-9223372036854775808, 9223372036854775807)) 11 [])) = true := by kernel_rfl
theorem heap_old : ∀ l o, (heapT 5 (rgAt rgMax awGl (-9223372036854775808, 9223372036854775807)) 11 []).get l = some o → val l < val (heapT 5 (rgAt rgMax awGl (-9223372036854775808, 9223372036854775807)) 11 []).next := by
  intro l o h
  have h2 := ofL_get (r := rgAt rgMax awGl (-9223372036854775808, 9223372036854775807)) h
  have hb : glBelow 11 (rgAt rgMax awGl (-9223372036854775808, 9223372036854775807)) = true := by kernel_rfl
  have := (glBelow_mem hb l o h2).1
  exact this
theorem awake_tab : ExtOk Tryz.prog 11 15 (.tab 5 awGl rgMax awT) := by
  refine ext_tab (vs := [(-9223372036854775808, 9223372036854775807)]) (by decide) (by kernel_rfl) (by kernel_rfl) (by kernel_rfl) fun e he => ?_
  simp only [awT, List.mem_cons, List.not_mem_nil, or_false] at he
  subst he
  refine ⟨by decide, fun p hp => ?_⟩
  simp only [List.mem_cons, List.not_mem_nil, or_false] at hp
  subst hp
  have run := awake_run
  unfold answerOk at run
  split at run
  · rename_i u h' hr
    obtain ⟨k', N, hk, _⟩ := simOf (fun e he => by
    simp only [List.mem_cons, List.not_mem_nil, or_false] at he
    rcases he with rfl | rfl | rfl
    · exact good14
    · exact good7
    · exact good0) _ _ _ _ _ _ hr (Sub.refl heap_old)
    refine ⟨callR2 N, call2_ok N, ?_⟩
    have hk := hk N (Nat.le_refl _)
    show answerOk (.bool true) (callR2 N 15 [] _) = true
    have e : callR2 N 15 [] (heapT 5 (rgAt rgMax awGl (-9223372036854775808, 9223372036854775807)) 11 []) = some (u, k') := hk
    rw [e]
    exact run
  · cases run
end PK
