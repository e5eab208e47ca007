/-
  ClientWaits: its walk: the two Waits, and awake.
-/
import Derived.Test.YtlfbedifolcjcaaGreatDoorKDw
import Derived.Handy
namespace Go.Proofs
open Go Go.RowKit

/-- How long a client waits. -/
def Cw.wt (n : Int) : Int := if n ≤ 0 then 100 else if n = 1 then 200 else if n = 2 then 400 else if n = 3 then 800 else if n = 4 then 1600 else if n = 5 then 3200 else if n = 6 then 6400 else if n = 7 then 12800 else 25600

theorem Cw.wt_shift {n : Int} (h0 : 0 < n) (h8 : n ≤ 8) : wrap64 (100 * 2 ^ n.toNat) = Cw.wt n := by
  have : n = 1 ∨ n = 2 ∨ n = 3 ∨ n = 4 ∨ n = 5 ∨ n = 6 ∨ n = 7 ∨ n = 8 := by omega
  rcases this with rfl | rfl | rfl | rfl | rfl | rfl | rfl | rfl <;> (show _ = _; kernel_rfl)

theorem Cw.ret_of {x : Value} {c n : Int} {w : World} (hx : x = .int .i64 c) (hc : c = Cw.wt n) : Ending.returned x = .returned (.int .i64 (Cw.wt n)) ∧ w = w := by rw [hx, hc]; exact ⟨rfl, rfl⟩

set_option maxHeartbeats 1000000 in
theorem Cw.wait4 (n : Int) (w : World) : Calls Tryz.prog 4 #[.int .i64 n] w fun e w' => e = .returned (.int .i64 (Cw.wt n)) ∧ w' = w := by
  go_enter Tryz.func4, Tryz.ntmps4
  go_wp2
  all_goals go_ret
  · refine Cw.ret_of (c := wrap64 25600) rfl ?_
    rw [show wrap64 25600 = 25600 by kernel_rfl]
    unfold Cw.wt; repeat' split
    all_goals omega
  · exact Cw.ret_of (c := wrap64 (100 * 2 ^ n.toNat)) rfl (Cw.wt_shift (by split at * <;> omega) (by omega))
  · refine Cw.ret_of (c := wrap64 100) rfl ?_
    rw [show wrap64 100 = 100 by kernel_rfl]
    unfold Cw.wt
    split at * <;> split <;> omega

set_option maxHeartbeats 4000000 in
theorem Cw.wait5 (n : Int) (w : World) : Calls Tryz.prog 5 #[.int .i64 n] w fun e w' => e = .returned (.int .i64 (Cw.wt n)) ∧ w' = w := by
  go_enter Tryz.func5, Tryz.ntmps5
  go_wp2
  go_rounds 9
  all_goals go_ret
  all_goals (refine Cw.ret_of rfl ?_; unfold Cw.wt; repeat' split)
  all_goals omega

set_option maxHeartbeats 4000000 in
theorem Cw.wt_mono {a b : Int} (h : a ≤ b) : Cw.wt a ≤ Cw.wt b := by
  unfold Cw.wt; repeat' split
  all_goals omega
set_option maxHeartbeats 4000000 in
theorem Cw.wt_ge (a : Int) : 100 ≤ Cw.wt a := by
  unfold Cw.wt; repeat' split
  all_goals omega
set_option maxHeartbeats 4000000 in
theorem Cw.wt_le (a : Int) : Cw.wt a ≤ 25600 := by
  unfold Cw.wt; repeat' split
  all_goals omega

set_option maxRecDepth 100000 in
set_option maxHeartbeats 4000000 in
theorem Cw.law (n m : Int) (w : World) (hg : w.cell? ⟨0, 0, none⟩ = some (.iface 200 (.agg #[.pointer (some ⟨7, 30, none⟩)]))) :
    Calls Tryz.prog 3 #[.int .i64 n, .int .i64 m] w fun e w' => e = .returned (.bool true) ∧ Below w.heap.size w w' := by
  go_enter Tryz.func3, Tryz.ntmps3
  go_wp2_with (first
    | (go_at_call 4; refine (Cw.wait4 _ _).mono ?_; rintro e w' ⟨rfl, rfl⟩)
    | (go_at_call 5; refine (Cw.wait5 _ _).mono ?_; rintro e w' ⟨rfl, rfl⟩)
    | (go_at_call 6; refine (KD.awake_ok _ hg).mono ?_; rintro e w' ⟨rfl, hb⟩))
  all_goals go_ret
  all_goals first
    | exact ⟨rfl, hb⟩
    | (exfalso
       have h1 := Cw.wt_ge n
       have h2 := Cw.wt_ge m
       have h3 := Cw.wt_le n
       have h4 := Cw.wt_le m
       have h5 := @Cw.wt_mono n m
       have h6 := @Cw.wt_mono m n
       omega)
end Go.Proofs
