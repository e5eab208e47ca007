/-
  errors.As of an api.Fault into a variable of its type: the walk (after the kit's worked example ToyasAs).
-/
import Derived.Test.YtknfcfeldncbiaaGreatDoorCnTz25
namespace Go.Proofs
open Go.RowKit Go.Extern.Stop Go.Stop Go.Extern

set_option maxRecDepth 100000 in
set_option maxHeartbeats 4000000 in
/-- errors.as: one round. -/
theorem Tz.as61 (x y : Value) (hx : x.oneCell' = true) (hy : y.oneCell' = true) (tg : Value) (tb to_ vb : Nat) (w : World) (hv : w.cell? ⟨vb, 0, none⟩ = some (.pointer (some ⟨tb, to_, none⟩))) (hvl : vb < w.heap.size)
    (ht : ∀ j, j < 2 → (w.cell? ⟨tb, to_ + j, none⟩).isSome = true) (hf : ∀ j, j < 2 → w.frozen? ⟨tb, to_ + j, none⟩ = false) :
    Calls Tryz.prog 69 #[.iface 77 (.agg #[x, y]), tg, .agg #[.pointer (some ⟨7, 79, none⟩), .pointer (some ⟨vb, 0, none⟩), .int .u64 150], .iface 214 (.agg #[.pointer (some ⟨7, 77, none⟩)])] w
      fun ev w' => ev = .returned (.bool true) ∧ w' = ((w.alloc (.cells #[.pointer (some ⟨7, 79, none⟩), .pointer (some ⟨vb, 0, none⟩), .int .u64 150] 140)).alloc (.cells #[x, y] 77)).setCells tb to_ [x, y] := by
  have h6 := @run_callFunc_extern Tryz.prog 66 _ (fun args => ReflectliteValue.unpack (args.getD 0 (.tuple #[]))) Tryz.func66 (by kernel_rfl) (by kernel_rfl) (by kernel_rfl) (by kernel_rfl)
  have h10 := @run_callFunc_extern Tryz.prog 70 _ ReflectliteType.typeOf Tryz.func70 (by kernel_rfl) (by kernel_rfl) (by kernel_rfl) (by kernel_rfl)
  have h35 := @run_callFunc_extern Tryz.prog 354 _ (ReflectliteType.relation "AssignableTo" ReflectliteType.assignableTo) Tryz.func354 (by kernel_rfl) (by kernel_rfl) (by kernel_rfl) (by kernel_rfl)
  have h11 := @run_callFunc_extern Tryz.prog 122 _ (ReflectliteValue.method (ReflectliteValue.valueError "reflectlite.Value.Elem" 0) ReflectliteValue.elem) Tryz.func122 (by kernel_rfl) (by kernel_rfl) (by kernel_rfl) (by kernel_rfl)
  have h12 := @run_callFunc_extern Tryz.prog 123 _ ReflectliteValue.set Tryz.func123 (by kernel_rfl) (by kernel_rfl) (by kernel_rfl) (by kernel_rfl)
  have tO := Tz.typeOf66
  have mA := Tz.methodAssignableTo
  have a66 := Tz.assignable66
  have v66 := Tz.valueOf66
  go_enter Tryz.func69, Tryz.ntmps69
  have el := Tz.elemV68 ⟨vb, 0, none⟩ ⟨tb, to_, none⟩ (w.alloc (.cells #[.pointer (some ⟨7, 79, none⟩), .pointer (some ⟨vb, 0, none⟩), .int .u64 150] 140)) (by rw [World.cell?_alloc_lt _ _ ⟨vb, 0, none⟩ hvl]; exact hv)
  have htl : tb < w.heap.size := by
    have := ht 0 (by omega)
    rcases Nat.lt_or_ge tb w.heap.size with h | h
    · exact h
    · simp [World.cell?, Array.getElem?_eq_none h] at this
  have st := Tz.set66 tb to_ (w.heap.size + 1) x y ((w.alloc (.cells #[.pointer (some ⟨7, 79, none⟩), .pointer (some ⟨vb, 0, none⟩), .int .u64 150] 140)).alloc (.cells #[x, y] 77)) (fun j v hv => by
      have := Go.Dx.cell_alloc_cells (w.alloc (.cells #[.pointer (some ⟨7, 79, none⟩), .pointer (some ⟨vb, 0, none⟩), .int .u64 150] 140)) #[x, y] 77 (0 + j)
      rw [World.size_alloc] at this
      rw [this, Nat.zero_add]
      simpa using hv)
    (fun j hj => by rw [World.cell?_alloc_lt _ _ ⟨tb, to_ + j, none⟩ (by simp; omega), World.cell?_alloc_lt _ _ ⟨tb, to_ + j, none⟩ htl]; exact ht j hj)
    (fun j hj => by rw [World.frozen?_alloc_old _ _ ⟨tb, to_ + j, none⟩ (by simp; omega), World.frozen?_alloc_old _ _ ⟨tb, to_ + j, none⟩ (Nat.ne_of_lt htl)]; exact hf j hj) hx hy
  go_wp2
  refine wp_loop_rounds 1 ?_
  rw [rounds_succ]
  go_wp2
  go_ret
  exact ⟨rfl, rfl⟩

abbrev Tz.VV (vb : Nat) : Obj := .cells #[.pointer (some ⟨7, 79, none⟩), .pointer (some ⟨vb, 0, none⟩), .int .u64 150] 140

set_option maxRecDepth 100000 in
set_option maxHeartbeats 4000000 in
/-- errors.As. -/
theorem Tz.as_hit (x y : Value) (hx : x.oneCell' = true) (hy : y.oneCell' = true) (tb to_ : Nat) (w : World) (hg : w.cell? ⟨0, 0, none⟩ = some (.iface 214 (.agg #[.pointer (some ⟨7, 35, none⟩)])))
    (ht : ∀ j, j < 2 → (w.cell? ⟨tb, to_ + j, none⟩).isSome = true) (hf : ∀ j, j < 2 → w.frozen? ⟨tb, to_ + j, none⟩ = false) :
    Calls Tryz.prog 28 #[.iface 77 (.agg #[x, y]), .iface 79 (.pointer (some ⟨tb, to_, none⟩))] w fun ev w' => ev = .returned (.bool true) ∧
      w' = ((((w.alloc (.cells #[.pointer (some ⟨tb, to_, none⟩)] 79)).alloc (Tz.VV w.heap.size)).alloc (Tz.VV w.heap.size)).alloc (.cells #[x, y] 77)).setCells tb to_ [x, y] := by
  have h6 := @run_callFunc_extern Tryz.prog 66 _ (fun args => ReflectliteValue.unpack (args.getD 0 (.tuple #[]))) Tryz.func66 (by kernel_rfl) (by kernel_rfl) (by kernel_rfl) (by kernel_rfl)
  have h7 := @run_callFunc_extern Tryz.prog 67 _ (ReflectliteValue.methodAny (ReflectliteValue.valueError "reflectlite.Value.Type" 0) (fun t _ _ _ => ReflectliteType.toType t)) Tryz.func67 (by kernel_rfl) (by kernel_rfl) (by kernel_rfl) (by kernel_rfl)
  have h8 := @run_callFunc_extern Tryz.prog 68 _ (ReflectliteValue.method (ReflectliteValue.valueError "reflectlite.Value.IsNil" 0) ReflectliteValue.isNil) Tryz.func68 (by kernel_rfl) (by kernel_rfl) (by kernel_rfl) (by kernel_rfl)
  have h27 := @run_callFunc_extern Tryz.prog 341 _ (ReflectliteType.abiMethod fun t => do pure (.int .u8 (← Rtype.kind t))) Tryz.func341 (by kernel_rfl) (by kernel_rfl) (by kernel_rfl) (by kernel_rfl)
  have h37 := @run_callFunc_extern Tryz.prog 356 _ (ReflectliteType.method ReflectliteType.elem) Tryz.func356 (by kernel_rfl) (by kernel_rfl) (by kernel_rfl) (by kernel_rfl)
  have h38 := @run_callFunc_extern Tryz.prog 357 _ (ReflectliteType.relation "Implements" ReflectliteType.implements_) Tryz.func357 (by kernel_rfl) (by kernel_rfl) (by kernel_rfl) (by kernel_rfl)
  have f6 := Tz.valueOf68
  have f7 := Tz.type68
  have mK := Tz.methodKind
  have mE := Tz.methodElem
  have mI := Tz.methodImplements
  have k68 := Tz.kind68
  have k66 := Tz.kind66
  have e68 := Tz.elem68
  have i66 := Tz.implements66
  have hlt : 0 < w.heap.size := by
    rcases Nat.eq_zero_or_pos w.heap.size with h0 | h
    · simp [World.cell?, h0] at hg
    · exact h
  have htl : tb < w.heap.size := by
    have := ht 0 (by omega)
    rcases Nat.lt_or_ge tb w.heap.size with h | h
    · exact h
    · simp [World.cell?, Array.getElem?_eq_none h] at this
  have n8 := Tz.isNil68 ⟨w.heap.size, 0, none⟩ ⟨tb, to_, none⟩ ((w.alloc (.cells #[.pointer (some ⟨tb, to_, none⟩)] 79)).alloc (Tz.VV w.heap.size)) (by rw [World.cell?_alloc_lt _ _ ⟨w.heap.size, 0, none⟩ (by simp)]; simp)
  have hg2 : ((w.alloc (.cells #[.pointer (some ⟨tb, to_, none⟩)] 79)).alloc (Tz.VV w.heap.size)).cell? ⟨0, 0, none⟩ = some (.iface 214 (.agg #[.pointer (some ⟨7, 35, none⟩)])) := by
    rw [World.cell?_alloc_lt _ _ ⟨0, 0, none⟩ (by simp), World.cell?_alloc_lt _ _ ⟨0, 0, none⟩ hlt]; exact hg
  have c61 := Tz.as61 x y hx hy (.iface 79 (.pointer (some ⟨tb, to_, none⟩))) tb to_ w.heap.size ((w.alloc (.cells #[.pointer (some ⟨tb, to_, none⟩)] 79)).alloc (Tz.VV w.heap.size))
    (by rw [World.cell?_alloc_lt _ _ ⟨w.heap.size, 0, none⟩ (by simp)]; simp) (by simp; omega)
    (fun j hj => by rw [World.cell?_alloc_lt _ _ ⟨tb, to_ + j, none⟩ (by simp; omega), World.cell?_alloc_lt _ _ ⟨tb, to_ + j, none⟩ htl]; exact ht j hj)
    (fun j hj => by rw [World.frozen?_alloc_old _ _ ⟨tb, to_ + j, none⟩ (by simp; omega), World.frozen?_alloc_old _ _ ⟨tb, to_ + j, none⟩ (Nat.ne_of_lt htl)]; exact hf j hj)
  go_enter Tryz.func28, Tryz.ntmps28
  go_wp2_with (go_at_call 69; refine c61.mono ?_; rintro e w' ⟨rfl, rfl⟩)
  go_ret
  exact ⟨rfl, rfl⟩
end Go.Proofs
