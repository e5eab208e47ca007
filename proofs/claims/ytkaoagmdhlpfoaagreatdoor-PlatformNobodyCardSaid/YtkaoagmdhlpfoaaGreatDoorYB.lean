/-
  errors.As of an api.Fault into a variable of its type, by the contracts of what it calls (after the kit's worked example ToyasAs).
  errors.As of an api.Fault into a variable of its type: the walk (after the kit's worked example ToyasAs).
  errors.As of an api.Errno: into a variable of its type; into one of api.Fault's (no).
  errors.As as the machine takes it.
-/
import Derived.Test.YtkaoagmdhlpfoaaGreatDoorXG
import Derived.Test.YtkaoagmdhlpfoaaGreatDoorProg
import Derived.WalkKit
import Derived.LaidEql
import Derived.Stop.Asserts
import Derived.RowKitTokens
namespace Go.Proofs
open Go.RowKit Go.Extern.Stop Go.Stop Go.Extern

theorem Tz.as_nil (t : Value) (w : World) : Calls Tryz.prog 22 #[.nilIface, t] w fun e w' => e = .returned (.bool false) ∧ w' = w := by
  go_enter Tryz.func22, Tryz.ntmps22
  go_wp2
  go_ret
  exact ⟨rfl, rfl⟩

theorem Tz.valueOf68 (t : Addr) (w : World) : (ReflectliteValue.unpack (.iface 64 (.pointer (some t)))).run Tryz.prog w
    = .ok (.agg #[.pointer (some ⟨10, 64, none⟩), .pointer (some ⟨w.heap.size, 0, none⟩), .int .u64 150]) (w.alloc (.cells #[.pointer (some t)] 64)) := by kernel_rfl
theorem Tz.type68 (a : Addr) (w : World) : (ReflectliteValue.methodAny (ReflectliteValue.valueError "reflectlite.Value.Type" 0) (fun t _ _ _ => ReflectliteType.toType t) #[.agg #[.pointer (some ⟨10, 64, none⟩), .pointer (some a), .int .u64 150]]).run Tryz.prog w
    = .ok (.iface 181 (.agg #[.pointer (some ⟨10, 64, none⟩)])) w := by kernel_rfl
theorem Tz.methodKind (h : Value) (w : World) : (Go.method 788 181 (.agg #[h]) "Kind").run Tryz.prog w = .ok (586, h) w := by kernel_rfl
theorem Tz.kind68 (w : World) : ((ReflectliteType.abiMethod fun t => (fun a : Nat => Value.int IntKind.u8 (a : Int)) <$> Rtype.kind t) #[.pointer (some ⟨10, 64, none⟩)]).run Tryz.prog w = .ok (.int .u8 22) w := by kernel_rfl
theorem Tz.kind66 (w : World) : ((ReflectliteType.abiMethod fun t => (fun a : Nat => Value.int IntKind.u8 (a : Int)) <$> Rtype.kind t) #[.pointer (some ⟨10, 62, none⟩)]).run Tryz.prog w = .ok (.int .u8 25) w := by kernel_rfl
theorem Tz.rlm (z : Sem Value) (f : TypeId → Addr → Nat → Nat → Sem Value) (v : Value) :
    ReflectliteValue.method z f #[v] = (do match ← ReflectliteValue.parts v with | none => z | some (t, a, fl) => f t a fl (fl % 32)) := rfl
theorem Tz.parts68 (a : Addr) (w : World) : (ReflectliteValue.parts (.agg #[.pointer (some ⟨10, 64, none⟩), .pointer (some a), .int .u64 150])).run Tryz.prog w = .ok (some (64, a, 150)) w := by kernel_rfl
theorem Tz.isNil68 (a p : Addr) (W : World) (ha : W.cell? a = some (.pointer (some p))) :
    (ReflectliteValue.method (ReflectliteValue.valueError "reflectlite.Value.IsNil" 0) ReflectliteValue.isNil #[.agg #[.pointer (some ⟨10, 64, none⟩), .pointer (some a), .int .u64 150]]).run Tryz.prog W = .ok (.bool false) W := by
  rw [Tz.rlm]
  simp only [Sem.run_bind, Tz.parts68, Result.andThen]
  simp [ReflectliteValue.isNil, loadVar, isAgg, underlying, Tryz.underlying64, ha, Result.andThen]
theorem Tz.methodElem (h : Value) (w : World) : (Go.method 788 181 (.agg #[h]) "Elem").run Tryz.prog w = .ok (601, .agg #[h]) w := by kernel_rfl
theorem Tz.methodImplements (h : Value) (w : World) : (Go.method 788 181 (.agg #[h]) "Implements").run Tryz.prog w = .ok (602, .agg #[h]) w := by kernel_rfl
theorem Tz.methodAssignableTo (h : Value) (w : World) : (Go.method 788 181 (.agg #[h]) "AssignableTo").run Tryz.prog w = .ok (599, .agg #[h]) w := by kernel_rfl
theorem Tz.elem68 (w : World) : (ReflectliteType.method ReflectliteType.elem #[.agg #[.pointer (some ⟨10, 64, none⟩)]]).run Tryz.prog w = .ok (.iface 181 (.agg #[.pointer (some ⟨10, 62, none⟩)])) w := by kernel_rfl
theorem Tz.implements66 (w : World) : (ReflectliteType.relation "Implements" ReflectliteType.implements_ #[.agg #[.pointer (some ⟨10, 62, none⟩)], .iface 181 (.agg #[.pointer (some ⟨10, 58, none⟩)])]).run Tryz.prog w = .ok (.bool true) w := by kernel_rfl
theorem Tz.typeOf66 (v : Value) (w : World) : (ReflectliteType.typeOf #[.iface 62 v]).run Tryz.prog w = .ok (.iface 181 (.agg #[.pointer (some ⟨10, 62, none⟩)])) w := by kernel_rfl
theorem Tz.assignable66 (w : World) : (ReflectliteType.relation "AssignableTo" ReflectliteType.assignableTo #[.agg #[.pointer (some ⟨10, 62, none⟩)], .iface 181 (.agg #[.pointer (some ⟨10, 62, none⟩)])]).run Tryz.prog w = .ok (.bool true) w := by kernel_rfl
theorem Tz.valueOf66 (x y : Value) (w : World) : (ReflectliteValue.unpack (.iface 62 (.agg #[x, y]))).run Tryz.prog w
    = .ok (.agg #[.pointer (some ⟨10, 62, none⟩), .pointer (some ⟨w.heap.size, 0, none⟩), .int .u64 153]) (w.alloc (.cells #[x, y] 62)) := by kernel_rfl
theorem Tz.elemOf68 (w : World) : (Rtype.elem? 64).run Tryz.prog w = .ok (some 62) w := by kernel_rfl
theorem Tz.mk66 (p : Addr) (w : World) : (ReflectliteValue.mk 62 p ReflectliteValue.flagAddr).run Tryz.prog w = .ok (.agg #[.pointer (some ⟨10, 62, none⟩), .pointer (some p), .int .u64 409]) w := by kernel_rfl
theorem Tz.elemV68 (a p : Addr) (W : World) (ha : W.cell? a = some (.pointer (some p))) :
    (ReflectliteValue.method (ReflectliteValue.valueError "reflectlite.Value.Elem" 0) ReflectliteValue.elem #[.agg #[.pointer (some ⟨10, 64, none⟩), .pointer (some a), .int .u64 150]]).run Tryz.prog W
      = .ok (.agg #[.pointer (some ⟨10, 62, none⟩), .pointer (some p), .int .u64 409]) W := by
  rw [Tz.rlm]
  simp only [Sem.run_bind, Tz.parts68, Result.andThen]
  simp [ReflectliteValue.elem, loadVar, isAgg, underlying, Tryz.underlying64, ha, Result.andThen, Tz.elemOf68, Tz.mk66]
theorem Tz.parts66a (a : Addr) (w : World) : (ReflectliteValue.parts (.agg #[.pointer (some ⟨10, 62, none⟩), .pointer (some a), .int .u64 409])).run Tryz.prog w = .ok (some (62, a, 409)) w := by kernel_rfl
theorem Tz.parts66 (a : Addr) (w : World) : (ReflectliteValue.parts (.agg #[.pointer (some ⟨10, 62, none⟩), .pointer (some a), .int .u64 153])).run Tryz.prog w = .ok (some (62, a, 153)) w := by kernel_rfl
theorem Tz.direct66 (w : World) : (Rtype.directlyAssignable 62 62).run Tryz.prog w = .ok true w := by kernel_rfl

theorem Tz.rls (v x : Value) : ReflectliteValue.set #[v, x] = (do
    let (some (dst, a, fl), some (src, b, _)) := (← ReflectliteValue.parts v, ← ReflectliteValue.parts x)
      | unsupported (.noEntry "extern/(internal/reflectlite.Value).Set.zeroValue")
    if fl / ReflectliteValue.flagAddr % 2 == 0 then unsupported (.noEntry "extern/(internal/reflectlite.Value).Set.unaddressable")
    let val ← loadVar src b
    if ← Rtype.directlyAssignable dst src then storeVar dst a val
    else if ← Rtype.implements dst src then
      if (← Rtype.kind src) == 20 then
        match val with
        | .nilIface => unsupported (.noEntry "extern/reflectlite: a nil value of one interface type handed on as a value of another")
        | _ => storeVar dst a val
      else storeVar dst a (.iface src val)
    else panicString ("reflectlite.Set: value of type " ++ (← Rtype.spelt src) ++ " is not assignable to type " ++ (← Rtype.spelt dst))
    pure (.tuple #[])) := rfl
theorem Tz.size66 (w : World) : (sizeOf 62).run Tryz.prog w = .ok 2 w := by kernel_rfl
theorem Tz.agg66 (w : World) : (isAgg 62).run Tryz.prog w = .ok true w := by kernel_rfl
theorem Tz.set66 (tb to_ b : Nat) (x y : Value) (W : World) (hb : W.rangeAt b 0 [x, y]) (ht : ∀ j, j < 2 → (W.cell? ⟨tb, to_ + j, none⟩).isSome = true) (hf : ∀ j, j < 2 → W.frozen? ⟨tb, to_ + j, none⟩ = false) (hx : x.oneCell' = true) (hy : y.oneCell' = true) :
    (ReflectliteValue.set #[.agg #[.pointer (some ⟨10, 62, none⟩), .pointer (some ⟨tb, to_, none⟩), .int .u64 409], .agg #[.pointer (some ⟨10, 62, none⟩), .pointer (some ⟨b, 0, none⟩), .int .u64 153]]).run Tryz.prog W
      = .ok (.tuple #[]) (W.setCells tb to_ [x, y]) := by
  have hl : (loadCells ⟨b, 0, none⟩ 2).run Tryz.prog W = .ok #[x, y] W := by
    have := run_loadCells_list (P := Tryz.prog) W ⟨b, 0, none⟩ [x, y] (fun j v hv => by rw [Go.Dx.addr_add]; exact hb j v hv)
    simpa using this
  have hs : (storeCells ⟨tb, to_, none⟩ [x, y]).run Tryz.prog W = .ok () (W.setCells tb to_ [x, y]) := by
    have := run_storeCells_cells (P := Tryz.prog) tb to_ [x, y] 0 W (by simpa using ht) (by simpa using hf) (by intro z hz; simp at hz; rcases hz with rfl | rfl <;> assumption)
    simpa using this
  rw [Tz.rls]
  simp only [Sem.run_bind, Tz.parts66a, Tz.parts66, Result.andThen]
  simp [ReflectliteValue.flagAddr, loadVar, hl, Tz.direct66, storeVar, hs, Value.cells]

end Go.Proofs
namespace Go.Proofs
open Go.RowKit Go.Extern.Stop Go.Stop Go.Extern

set_option maxRecDepth 100000 in
set_option maxHeartbeats 4000000 in
/-- errors.as: one round. -/
theorem Tz.as61 (x y : Value) (hx : x.oneCell' = true) (hy : y.oneCell' = true) (tg : Value) (tb to_ vb : Nat) (w : World) (hv : w.cell? ⟨vb, 0, none⟩ = some (.pointer (some ⟨tb, to_, none⟩))) (hvl : vb < w.heap.size)
    (ht : ∀ j, j < 2 → (w.cell? ⟨tb, to_ + j, none⟩).isSome = true) (hf : ∀ j, j < 2 → w.frozen? ⟨tb, to_ + j, none⟩ = false) :
    Calls Tryz.prog 49 #[.iface 62 (.agg #[x, y]), tg, .agg #[.pointer (some ⟨10, 64, none⟩), .pointer (some ⟨vb, 0, none⟩), .int .u64 150], .iface 181 (.agg #[.pointer (some ⟨10, 62, none⟩)])] w
      fun ev w' => ev = .returned (.bool true) ∧ w' = ((w.alloc (.cells #[.pointer (some ⟨10, 64, none⟩), .pointer (some ⟨vb, 0, none⟩), .int .u64 150] 115)).alloc (.cells #[x, y] 62)).setCells tb to_ [x, y] := by
  have h6 := @run_callFunc_extern Tryz.prog 46 _ (fun args => ReflectliteValue.unpack (args.getD 0 (.tuple #[]))) Tryz.func46 (by kernel_rfl) (by kernel_rfl) (by kernel_rfl) (by kernel_rfl)
  have h10 := @run_callFunc_extern Tryz.prog 88 _ ReflectliteType.typeOf Tryz.func88 (by kernel_rfl) (by kernel_rfl) (by kernel_rfl) (by kernel_rfl)
  have h35 := @run_callFunc_extern Tryz.prog 599 _ (ReflectliteType.relation "AssignableTo" ReflectliteType.assignableTo) Tryz.func599 (by kernel_rfl) (by kernel_rfl) (by kernel_rfl) (by kernel_rfl)
  have h11 := @run_callFunc_extern Tryz.prog 89 _ (ReflectliteValue.method (ReflectliteValue.valueError "reflectlite.Value.Elem" 0) ReflectliteValue.elem) Tryz.func89 (by kernel_rfl) (by kernel_rfl) (by kernel_rfl) (by kernel_rfl)
  have h12 := @run_callFunc_extern Tryz.prog 90 _ ReflectliteValue.set Tryz.func90 (by kernel_rfl) (by kernel_rfl) (by kernel_rfl) (by kernel_rfl)
  have tO := Tz.typeOf66
  have mA := Tz.methodAssignableTo
  have a66 := Tz.assignable66
  have v66 := Tz.valueOf66
  go_enter Tryz.func49, Tryz.ntmps49
  have el := Tz.elemV68 ⟨vb, 0, none⟩ ⟨tb, to_, none⟩ (w.alloc (.cells #[.pointer (some ⟨10, 64, none⟩), .pointer (some ⟨vb, 0, none⟩), .int .u64 150] 115)) (by rw [World.cell?_alloc_lt _ _ ⟨vb, 0, none⟩ hvl]; exact hv)
  have htl : tb < w.heap.size := by
    have := ht 0 (by omega)
    rcases Nat.lt_or_ge tb w.heap.size with h | h
    · exact h
    · simp [World.cell?, Array.getElem?_eq_none h] at this
  have st := Tz.set66 tb to_ (w.heap.size + 1) x y ((w.alloc (.cells #[.pointer (some ⟨10, 64, none⟩), .pointer (some ⟨vb, 0, none⟩), .int .u64 150] 115)).alloc (.cells #[x, y] 62)) (fun j v hv => by
      have := Go.Dx.cell_alloc_cells (w.alloc (.cells #[.pointer (some ⟨10, 64, none⟩), .pointer (some ⟨vb, 0, none⟩), .int .u64 150] 115)) #[x, y] 62 (0 + j)
      rw [World.size_alloc] at this
      rw [this, Nat.zero_add]
      simpa using hv)
    (fun j hj => by rw [World.cell?_alloc_lt _ _ ⟨tb, to_ + j, none⟩ (by simp; omega), World.cell?_alloc_lt _ _ ⟨tb, to_ + j, none⟩ htl]; exact ht j hj)
    (fun j hj => by rw [World.frozen?_alloc_old _ _ ⟨tb, to_ + j, none⟩ (by simp; omega), World.frozen?_alloc_old _ _ ⟨tb, to_ + j, none⟩ (Nat.ne_of_lt htl)]; exact hf j hj) hx hy
  go_wp2
  refine wp_loop_rounds 1 ?_
  rw [rounds_succ]
  go_wp2
  go_ret
  exact ⟨rfl, rfl⟩

abbrev Tz.VV (vb : Nat) : Obj := .cells #[.pointer (some ⟨10, 64, none⟩), .pointer (some ⟨vb, 0, none⟩), .int .u64 150] 115

set_option maxRecDepth 100000 in
set_option maxHeartbeats 4000000 in
/-- errors.As. -/
theorem Tz.as_hit (x y : Value) (hx : x.oneCell' = true) (hy : y.oneCell' = true) (tb to_ : Nat) (w : World) (hg : w.cell? ⟨0, 0, none⟩ = some (.iface 181 (.agg #[.pointer (some ⟨10, 58, none⟩)])))
    (ht : ∀ j, j < 2 → (w.cell? ⟨tb, to_ + j, none⟩).isSome = true) (hf : ∀ j, j < 2 → w.frozen? ⟨tb, to_ + j, none⟩ = false) :
    Calls Tryz.prog 22 #[.iface 62 (.agg #[x, y]), .iface 64 (.pointer (some ⟨tb, to_, none⟩))] w fun ev w' => ev = .returned (.bool true) ∧
      w' = ((((w.alloc (.cells #[.pointer (some ⟨tb, to_, none⟩)] 64)).alloc (Tz.VV w.heap.size)).alloc (Tz.VV w.heap.size)).alloc (.cells #[x, y] 62)).setCells tb to_ [x, y] := by
  have h6 := @run_callFunc_extern Tryz.prog 46 _ (fun args => ReflectliteValue.unpack (args.getD 0 (.tuple #[]))) Tryz.func46 (by kernel_rfl) (by kernel_rfl) (by kernel_rfl) (by kernel_rfl)
  have h7 := @run_callFunc_extern Tryz.prog 47 _ (ReflectliteValue.methodAny (ReflectliteValue.valueError "reflectlite.Value.Type" 0) (fun t _ _ _ => ReflectliteType.toType t)) Tryz.func47 (by kernel_rfl) (by kernel_rfl) (by kernel_rfl) (by kernel_rfl)
  have h8 := @run_callFunc_extern Tryz.prog 48 _ (ReflectliteValue.method (ReflectliteValue.valueError "reflectlite.Value.IsNil" 0) ReflectliteValue.isNil) Tryz.func48 (by kernel_rfl) (by kernel_rfl) (by kernel_rfl) (by kernel_rfl)
  have h27 := @run_callFunc_extern Tryz.prog 586 _ (ReflectliteType.abiMethod fun t => do pure (.int .u8 (← Rtype.kind t))) Tryz.func586 (by kernel_rfl) (by kernel_rfl) (by kernel_rfl) (by kernel_rfl)
  have h37 := @run_callFunc_extern Tryz.prog 601 _ (ReflectliteType.method ReflectliteType.elem) Tryz.func601 (by kernel_rfl) (by kernel_rfl) (by kernel_rfl) (by kernel_rfl)
  have h38 := @run_callFunc_extern Tryz.prog 602 _ (ReflectliteType.relation "Implements" ReflectliteType.implements_) Tryz.func602 (by kernel_rfl) (by kernel_rfl) (by kernel_rfl) (by kernel_rfl)
  have f6 := Tz.valueOf68
  have f10 := Tz.type68
  have mK := Tz.methodKind
  have mE := Tz.methodElem
  have mI := Tz.methodImplements
  have k68 := Tz.kind68
  have k66 := Tz.kind66
  have e68 := Tz.elem68
  have i66 := Tz.implements66
  have hlt : 0 < w.heap.size := by
    rcases Nat.eq_zero_or_pos w.heap.size with h0 | h
    · simp [World.cell?, h0] at hg
    · exact h
  have htl : tb < w.heap.size := by
    have := ht 0 (by omega)
    rcases Nat.lt_or_ge tb w.heap.size with h | h
    · exact h
    · simp [World.cell?, Array.getElem?_eq_none h] at this
  have n8 := Tz.isNil68 ⟨w.heap.size, 0, none⟩ ⟨tb, to_, none⟩ ((w.alloc (.cells #[.pointer (some ⟨tb, to_, none⟩)] 64)).alloc (Tz.VV w.heap.size)) (by rw [World.cell?_alloc_lt _ _ ⟨w.heap.size, 0, none⟩ (by simp)]; simp)
  have hg2 : ((w.alloc (.cells #[.pointer (some ⟨tb, to_, none⟩)] 64)).alloc (Tz.VV w.heap.size)).cell? ⟨0, 0, none⟩ = some (.iface 181 (.agg #[.pointer (some ⟨10, 58, none⟩)])) := by
    rw [World.cell?_alloc_lt _ _ ⟨0, 0, none⟩ (by simp), World.cell?_alloc_lt _ _ ⟨0, 0, none⟩ hlt]; exact hg
  have c61 := Tz.as61 x y hx hy (.iface 64 (.pointer (some ⟨tb, to_, none⟩))) tb to_ w.heap.size ((w.alloc (.cells #[.pointer (some ⟨tb, to_, none⟩)] 64)).alloc (Tz.VV w.heap.size))
    (by rw [World.cell?_alloc_lt _ _ ⟨w.heap.size, 0, none⟩ (by simp)]; simp) (by simp; omega)
    (fun j hj => by rw [World.cell?_alloc_lt _ _ ⟨tb, to_ + j, none⟩ (by simp; omega), World.cell?_alloc_lt _ _ ⟨tb, to_ + j, none⟩ htl]; exact ht j hj)
    (fun j hj => by rw [World.frozen?_alloc_old _ _ ⟨tb, to_ + j, none⟩ (by simp; omega), World.frozen?_alloc_old _ _ ⟨tb, to_ + j, none⟩ (Nat.ne_of_lt htl)]; exact hf j hj)
  go_enter Tryz.func22, Tryz.ntmps22
  go_wp2_with (go_at_call 49; refine c61.mono ?_; rintro e w' ⟨rfl, rfl⟩)
  go_ret
  exact ⟨rfl, rfl⟩
end Go.Proofs
namespace Go.Proofs
open Go.RowKit Go.Extern.Stop Go.Stop Go.Extern

theorem Tz.valueOf65 (t : Addr) (w : World) : (ReflectliteValue.unpack (.iface 65 (.pointer (some t)))).run Tryz.prog w
    = .ok (.agg #[.pointer (some ⟨10, 65, none⟩), .pointer (some ⟨w.heap.size, 0, none⟩), .int .u64 150]) (w.alloc (.cells #[.pointer (some t)] 65)) := by kernel_rfl
theorem Tz.type65 (a : Addr) (w : World) : (ReflectliteValue.methodAny (ReflectliteValue.valueError "reflectlite.Value.Type" 0) (fun t _ _ _ => ReflectliteType.toType t) #[.agg #[.pointer (some ⟨10, 65, none⟩), .pointer (some a), .int .u64 150]]).run Tryz.prog w
    = .ok (.iface 181 (.agg #[.pointer (some ⟨10, 65, none⟩)])) w := by kernel_rfl
theorem Tz.kind65 (w : World) : ((ReflectliteType.abiMethod fun t => (fun a : Nat => Value.int IntKind.u8 (a : Int)) <$> Rtype.kind t) #[.pointer (some ⟨10, 65, none⟩)]).run Tryz.prog w = .ok (.int .u8 22) w := by kernel_rfl
theorem Tz.kind38 (w : World) : ((ReflectliteType.abiMethod fun t => (fun a : Nat => Value.int IntKind.u8 (a : Int)) <$> Rtype.kind t) #[.pointer (some ⟨10, 38, none⟩)]).run Tryz.prog w = .ok (.int .u8 2) w := by kernel_rfl
theorem Tz.parts65 (a : Addr) (w : World) : (ReflectliteValue.parts (.agg #[.pointer (some ⟨10, 65, none⟩), .pointer (some a), .int .u64 150])).run Tryz.prog w = .ok (some (65, a, 150)) w := by kernel_rfl
theorem Tz.isNil65 (a p : Addr) (W : World) (ha : W.cell? a = some (.pointer (some p))) :
    (ReflectliteValue.method (ReflectliteValue.valueError "reflectlite.Value.IsNil" 0) ReflectliteValue.isNil #[.agg #[.pointer (some ⟨10, 65, none⟩), .pointer (some a), .int .u64 150]]).run Tryz.prog W = .ok (.bool false) W := by
  rw [Tz.rlm]
  simp only [Sem.run_bind, Tz.parts65, Result.andThen]
  simp [ReflectliteValue.isNil, loadVar, isAgg, underlying, Tryz.underlying65, ha, Result.andThen]
theorem Tz.elem65 (w : World) : (ReflectliteType.method ReflectliteType.elem #[.agg #[.pointer (some ⟨10, 65, none⟩)]]).run Tryz.prog w = .ok (.iface 181 (.agg #[.pointer (some ⟨10, 38, none⟩)])) w := by kernel_rfl
theorem Tz.implements38 (w : World) : (ReflectliteType.relation "Implements" ReflectliteType.implements_ #[.agg #[.pointer (some ⟨10, 38, none⟩)], .iface 181 (.agg #[.pointer (some ⟨10, 58, none⟩)])]).run Tryz.prog w = .ok (.bool true) w := by kernel_rfl
theorem Tz.typeOf38 (v : Value) (w : World) : (ReflectliteType.typeOf #[.iface 38 v]).run Tryz.prog w = .ok (.iface 181 (.agg #[.pointer (some ⟨10, 38, none⟩)])) w := by kernel_rfl
theorem Tz.assignable38 (w : World) : (ReflectliteType.relation "AssignableTo" ReflectliteType.assignableTo #[.agg #[.pointer (some ⟨10, 38, none⟩)], .iface 181 (.agg #[.pointer (some ⟨10, 38, none⟩)])]).run Tryz.prog w = .ok (.bool true) w := by kernel_rfl
theorem Tz.assignableNo (w : World) : (ReflectliteType.relation "AssignableTo" ReflectliteType.assignableTo #[.agg #[.pointer (some ⟨10, 38, none⟩)], .iface 181 (.agg #[.pointer (some ⟨10, 62, none⟩)])]).run Tryz.prog w = .ok (.bool false) w := by kernel_rfl
theorem Tz.valueOf38 (n : Int) (w : World) : (ReflectliteValue.unpack (.iface 38 (.int .i64 n))).run Tryz.prog w
    = .ok (.agg #[.pointer (some ⟨10, 38, none⟩), .pointer (some ⟨w.heap.size, 0, none⟩), .int .u64 130]) (w.alloc (.cells #[.int .i64 n] 38)) := by kernel_rfl
theorem Tz.elemOf65 (w : World) : (Rtype.elem? 65).run Tryz.prog w = .ok (some 38) w := by kernel_rfl
theorem Tz.mk38 (p : Addr) (w : World) : (ReflectliteValue.mk 38 p ReflectliteValue.flagAddr).run Tryz.prog w = .ok (.agg #[.pointer (some ⟨10, 38, none⟩), .pointer (some p), .int .u64 386]) w := by kernel_rfl
theorem Tz.elemV65 (a p : Addr) (W : World) (ha : W.cell? a = some (.pointer (some p))) :
    (ReflectliteValue.method (ReflectliteValue.valueError "reflectlite.Value.Elem" 0) ReflectliteValue.elem #[.agg #[.pointer (some ⟨10, 65, none⟩), .pointer (some a), .int .u64 150]]).run Tryz.prog W
      = .ok (.agg #[.pointer (some ⟨10, 38, none⟩), .pointer (some p), .int .u64 386]) W := by
  rw [Tz.rlm]
  simp only [Sem.run_bind, Tz.parts65, Result.andThen]
  simp [ReflectliteValue.elem, loadVar, isAgg, underlying, Tryz.underlying65, ha, Result.andThen, Tz.elemOf65, Tz.mk38]
theorem Tz.parts38a (a : Addr) (w : World) : (ReflectliteValue.parts (.agg #[.pointer (some ⟨10, 38, none⟩), .pointer (some a), .int .u64 386])).run Tryz.prog w = .ok (some (38, a, 386)) w := by kernel_rfl
theorem Tz.parts38 (a : Addr) (w : World) : (ReflectliteValue.parts (.agg #[.pointer (some ⟨10, 38, none⟩), .pointer (some a), .int .u64 130])).run Tryz.prog w = .ok (some (38, a, 130)) w := by kernel_rfl
theorem Tz.direct38 (w : World) : (Rtype.directlyAssignable 38 38).run Tryz.prog w = .ok true w := by kernel_rfl
theorem Tz.size38 (w : World) : (sizeOf 38).run Tryz.prog w = .ok 1 w := by kernel_rfl
theorem Tz.agg38 (w : World) : (isAgg 38).run Tryz.prog w = .ok false w := by kernel_rfl
theorem Tz.set38 (tb to_ b : Nat) (n : Int) (W : World) (hb : W.cell? ⟨b, 0, none⟩ = some (.int .i64 n)) (ht : (W.cell? ⟨tb, to_, none⟩).isSome = true) (hf : W.frozen? ⟨tb, to_, none⟩ = false) :
    (ReflectliteValue.set #[.agg #[.pointer (some ⟨10, 38, none⟩), .pointer (some ⟨tb, to_, none⟩), .int .u64 386], .agg #[.pointer (some ⟨10, 38, none⟩), .pointer (some ⟨b, 0, none⟩), .int .u64 130]]).run Tryz.prog W
      = .ok (.tuple #[]) (W.setCells tb to_ [.int .i64 n]) := by
  have hs : (storeCells ⟨tb, to_, none⟩ [.int .i64 n]).run Tryz.prog W = .ok () (W.setCells tb to_ [.int .i64 n]) := by
    have := run_storeCells_cells (P := Tryz.prog) tb to_ [.int .i64 n] 0 W (by simpa using ht) (by simpa using hf) (by intro z hz; simp at hz; subst hz; rfl)
    simpa using this
  rw [Tz.rls]
  simp only [Sem.run_bind, Tz.parts38a, Tz.parts38, Result.andThen]
  simp [ReflectliteValue.flagAddr, loadVar, hb, Tz.direct38, storeVar, hs, Value.cells]

set_option maxRecDepth 100000 in
set_option maxHeartbeats 4000000 in
/-- errors.as: one round, of the same type. -/
theorem Tz.as49e (n : Int) (tg : Value) (tb to_ vb : Nat) (w : World) (hv : w.cell? ⟨vb, 0, none⟩ = some (.pointer (some ⟨tb, to_, none⟩))) (hvl : vb < w.heap.size)
    (ht : (w.cell? ⟨tb, to_, none⟩).isSome = true) (hf : w.frozen? ⟨tb, to_, none⟩ = false) :
    Calls Tryz.prog 49 #[.iface 38 (.int .i64 n), tg, .agg #[.pointer (some ⟨10, 65, none⟩), .pointer (some ⟨vb, 0, none⟩), .int .u64 150], .iface 181 (.agg #[.pointer (some ⟨10, 38, none⟩)])] w
      fun ev w' => ev = .returned (.bool true) ∧ w' = ((w.alloc (.cells #[.pointer (some ⟨10, 65, none⟩), .pointer (some ⟨vb, 0, none⟩), .int .u64 150] 115)).alloc (.cells #[.int .i64 n] 38)).setCells tb to_ [.int .i64 n] := by
  have h6 := @run_callFunc_extern Tryz.prog 46 _ (fun args => ReflectliteValue.unpack (args.getD 0 (.tuple #[]))) Tryz.func46 (by kernel_rfl) (by kernel_rfl) (by kernel_rfl) (by kernel_rfl)
  have h10 := @run_callFunc_extern Tryz.prog 88 _ ReflectliteType.typeOf Tryz.func88 (by kernel_rfl) (by kernel_rfl) (by kernel_rfl) (by kernel_rfl)
  have h35 := @run_callFunc_extern Tryz.prog 599 _ (ReflectliteType.relation "AssignableTo" ReflectliteType.assignableTo) Tryz.func599 (by kernel_rfl) (by kernel_rfl) (by kernel_rfl) (by kernel_rfl)
  have h11 := @run_callFunc_extern Tryz.prog 89 _ (ReflectliteValue.method (ReflectliteValue.valueError "reflectlite.Value.Elem" 0) ReflectliteValue.elem) Tryz.func89 (by kernel_rfl) (by kernel_rfl) (by kernel_rfl) (by kernel_rfl)
  have h12 := @run_callFunc_extern Tryz.prog 90 _ ReflectliteValue.set Tryz.func90 (by kernel_rfl) (by kernel_rfl) (by kernel_rfl) (by kernel_rfl)
  have tO := Tz.typeOf38
  have mA := Tz.methodAssignableTo
  have a38 := Tz.assignable38
  have v38 := Tz.valueOf38
  go_enter Tryz.func49, Tryz.ntmps49
  have el := Tz.elemV65 ⟨vb, 0, none⟩ ⟨tb, to_, none⟩ (w.alloc (.cells #[.pointer (some ⟨10, 65, none⟩), .pointer (some ⟨vb, 0, none⟩), .int .u64 150] 115)) (by rw [World.cell?_alloc_lt _ _ ⟨vb, 0, none⟩ hvl]; exact hv)
  have htl : tb < w.heap.size := by
    rcases Nat.lt_or_ge tb w.heap.size with h | h
    · exact h
    · simp [World.cell?, Array.getElem?_eq_none h] at ht
  have st := Tz.set38 tb to_ (w.heap.size + 1) n ((w.alloc (.cells #[.pointer (some ⟨10, 65, none⟩), .pointer (some ⟨vb, 0, none⟩), .int .u64 150] 115)).alloc (.cells #[.int .i64 n] 38)) (by
      have := Go.Dx.cell_alloc_cells (w.alloc (.cells #[.pointer (some ⟨10, 65, none⟩), .pointer (some ⟨vb, 0, none⟩), .int .u64 150] 115)) #[.int .i64 n] 38 0
      rw [World.size_alloc] at this
      rw [this]; rfl)
    (by rw [World.cell?_alloc_lt _ _ ⟨tb, to_, none⟩ (by simp; omega), World.cell?_alloc_lt _ _ ⟨tb, to_, none⟩ htl]; exact ht)
    (by rw [World.frozen?_alloc_old _ _ ⟨tb, to_, none⟩ (by simp; omega), World.frozen?_alloc_old _ _ ⟨tb, to_, none⟩ (Nat.ne_of_lt htl)]; exact hf)
  go_wp2
  refine wp_loop_rounds 1 ?_
  rw [rounds_succ]
  go_wp2
  go_ret
  exact ⟨rfl, rfl⟩

set_option maxRecDepth 100000 in
set_option maxHeartbeats 4000000 in
/-- errors.as: one round, of another type. -/
theorem Tz.as49no (n : Int) (tg : Value) (vb : Nat) (w : World) :
    Calls Tryz.prog 49 #[.iface 38 (.int .i64 n), tg, .agg #[.pointer (some ⟨10, 64, none⟩), .pointer (some ⟨vb, 0, none⟩), .int .u64 150], .iface 181 (.agg #[.pointer (some ⟨10, 62, none⟩)])] w
      fun ev w' => ev = .returned (.bool false) ∧ w' = w.alloc (.cells #[.pointer (some ⟨10, 64, none⟩), .pointer (some ⟨vb, 0, none⟩), .int .u64 150] 115) := by
  have h10 := @run_callFunc_extern Tryz.prog 88 _ ReflectliteType.typeOf Tryz.func88 (by kernel_rfl) (by kernel_rfl) (by kernel_rfl) (by kernel_rfl)
  have h35 := @run_callFunc_extern Tryz.prog 599 _ (ReflectliteType.relation "AssignableTo" ReflectliteType.assignableTo) Tryz.func599 (by kernel_rfl) (by kernel_rfl) (by kernel_rfl) (by kernel_rfl)
  have tO := Tz.typeOf38
  have mA := Tz.methodAssignableTo
  have a38 := Tz.assignableNo
  have t1 : ∀ w, (Instr.typeAssert (.iface 38 (.int .i64 n)) 58 186 true).run Tryz.prog w = .ok (.tuple #[.nilIface, .bool false]) w := fun w => run_typeAssert_lacksB Tryz.underlying186 (by kernel_rfl) (by kernel_rfl) (.int .i64 n) 58 w
  have t2 : ∀ w, (Instr.typeAssert (.iface 38 (.int .i64 n)) 58 189 true).run Tryz.prog w = .ok (.tuple #[.nilIface, .bool false]) w := fun w => run_typeAssert_lacksB Tryz.underlying189 (by kernel_rfl) (by kernel_rfl) (.int .i64 n) 58 w
  have t3 : ∀ w, (Instr.typeAssert (.iface 38 (.int .i64 n)) 58 191 true).run Tryz.prog w = .ok (.tuple #[.nilIface, .bool false]) w := fun w => run_typeAssert_lacksB Tryz.underlying191 (by kernel_rfl) (by kernel_rfl) (.int .i64 n) 58 w
  go_enter Tryz.func49, Tryz.ntmps49
  go_wp2
  refine wp_loop_rounds 1 ?_
  rw [rounds_succ]
  go_wp2
  go_ret
  exact ⟨rfl, rfl⟩
abbrev Tz.VV65 (vb : Nat) : Obj := .cells #[.pointer (some ⟨10, 65, none⟩), .pointer (some ⟨vb, 0, none⟩), .int .u64 150] 115

set_option maxRecDepth 100000 in
set_option maxHeartbeats 4000000 in
/-- errors.As, of the same type. -/
theorem Tz.as_hitE (n : Int) (tb to_ : Nat) (w : World) (hg : w.cell? ⟨0, 0, none⟩ = some (.iface 181 (.agg #[.pointer (some ⟨10, 58, none⟩)])))
    (ht : (w.cell? ⟨tb, to_, none⟩).isSome = true) (hf : w.frozen? ⟨tb, to_, none⟩ = false) :
    Calls Tryz.prog 22 #[.iface 38 (.int .i64 n), .iface 65 (.pointer (some ⟨tb, to_, none⟩))] w fun ev w' => ev = .returned (.bool true) ∧
      w' = ((((w.alloc (.cells #[.pointer (some ⟨tb, to_, none⟩)] 65)).alloc (Tz.VV65 w.heap.size)).alloc (Tz.VV65 w.heap.size)).alloc (.cells #[.int .i64 n] 38)).setCells tb to_ [.int .i64 n] := by
  have h6 := @run_callFunc_extern Tryz.prog 46 _ (fun args => ReflectliteValue.unpack (args.getD 0 (.tuple #[]))) Tryz.func46 (by kernel_rfl) (by kernel_rfl) (by kernel_rfl) (by kernel_rfl)
  have h7 := @run_callFunc_extern Tryz.prog 47 _ (ReflectliteValue.methodAny (ReflectliteValue.valueError "reflectlite.Value.Type" 0) (fun t _ _ _ => ReflectliteType.toType t)) Tryz.func47 (by kernel_rfl) (by kernel_rfl) (by kernel_rfl) (by kernel_rfl)
  have h8 := @run_callFunc_extern Tryz.prog 48 _ (ReflectliteValue.method (ReflectliteValue.valueError "reflectlite.Value.IsNil" 0) ReflectliteValue.isNil) Tryz.func48 (by kernel_rfl) (by kernel_rfl) (by kernel_rfl) (by kernel_rfl)
  have h27 := @run_callFunc_extern Tryz.prog 586 _ (ReflectliteType.abiMethod fun t => do pure (.int .u8 (← Rtype.kind t))) Tryz.func586 (by kernel_rfl) (by kernel_rfl) (by kernel_rfl) (by kernel_rfl)
  have h37 := @run_callFunc_extern Tryz.prog 601 _ (ReflectliteType.method ReflectliteType.elem) Tryz.func601 (by kernel_rfl) (by kernel_rfl) (by kernel_rfl) (by kernel_rfl)
  have h38 := @run_callFunc_extern Tryz.prog 602 _ (ReflectliteType.relation "Implements" ReflectliteType.implements_) Tryz.func602 (by kernel_rfl) (by kernel_rfl) (by kernel_rfl) (by kernel_rfl)
  have f6 := Tz.valueOf65
  have f7 := Tz.type65
  have mK := Tz.methodKind
  have mE := Tz.methodElem
  have mI := Tz.methodImplements
  have k65 := Tz.kind65
  have k38 := Tz.kind38
  have e65 := Tz.elem65
  have i38 := Tz.implements38
  have hlt : 0 < w.heap.size := by
    rcases Nat.eq_zero_or_pos w.heap.size with h0 | h
    · simp [World.cell?, h0] at hg
    · exact h
  have htl : tb < w.heap.size := by
    rcases Nat.lt_or_ge tb w.heap.size with h | h
    · exact h
    · simp [World.cell?, Array.getElem?_eq_none h] at ht
  have n8 := Tz.isNil65 ⟨w.heap.size, 0, none⟩ ⟨tb, to_, none⟩ ((w.alloc (.cells #[.pointer (some ⟨tb, to_, none⟩)] 65)).alloc (Tz.VV65 w.heap.size)) (by rw [World.cell?_alloc_lt _ _ ⟨w.heap.size, 0, none⟩ (by simp)]; simp)
  have hg2 : ((w.alloc (.cells #[.pointer (some ⟨tb, to_, none⟩)] 65)).alloc (Tz.VV65 w.heap.size)).cell? ⟨0, 0, none⟩ = some (.iface 181 (.agg #[.pointer (some ⟨10, 58, none⟩)])) := by
    rw [World.cell?_alloc_lt _ _ ⟨0, 0, none⟩ (by simp), World.cell?_alloc_lt _ _ ⟨0, 0, none⟩ hlt]; exact hg
  have c49 := Tz.as49e n (.iface 65 (.pointer (some ⟨tb, to_, none⟩))) tb to_ w.heap.size ((w.alloc (.cells #[.pointer (some ⟨tb, to_, none⟩)] 65)).alloc (Tz.VV65 w.heap.size))
    (by rw [World.cell?_alloc_lt _ _ ⟨w.heap.size, 0, none⟩ (by simp)]; simp) (by simp; omega)
    (by rw [World.cell?_alloc_lt _ _ ⟨tb, to_, none⟩ (by simp; omega), World.cell?_alloc_lt _ _ ⟨tb, to_, none⟩ htl]; exact ht)
    (by rw [World.frozen?_alloc_old _ _ ⟨tb, to_, none⟩ (by simp; omega), World.frozen?_alloc_old _ _ ⟨tb, to_, none⟩ (Nat.ne_of_lt htl)]; exact hf)
  go_enter Tryz.func22, Tryz.ntmps22
  go_wp2_with (go_at_call 49; refine c49.mono ?_; rintro e w' ⟨rfl, rfl⟩)
  go_ret
  exact ⟨rfl, rfl⟩

set_option maxRecDepth 100000 in
set_option maxHeartbeats 4000000 in
/-- errors.As, of another type. -/
theorem Tz.as_no (n : Int) (tb to_ : Nat) (w : World) (hg : w.cell? ⟨0, 0, none⟩ = some (.iface 181 (.agg #[.pointer (some ⟨10, 58, none⟩)]))) :
    Calls Tryz.prog 22 #[.iface 38 (.int .i64 n), .iface 64 (.pointer (some ⟨tb, to_, none⟩))] w fun ev w' => ev = .returned (.bool false) ∧
      w' = ((w.alloc (.cells #[.pointer (some ⟨tb, to_, none⟩)] 64)).alloc (Tz.VV w.heap.size)).alloc (Tz.VV w.heap.size) := by
  have h6 := @run_callFunc_extern Tryz.prog 46 _ (fun args => ReflectliteValue.unpack (args.getD 0 (.tuple #[]))) Tryz.func46 (by kernel_rfl) (by kernel_rfl) (by kernel_rfl) (by kernel_rfl)
  have h7 := @run_callFunc_extern Tryz.prog 47 _ (ReflectliteValue.methodAny (ReflectliteValue.valueError "reflectlite.Value.Type" 0) (fun t _ _ _ => ReflectliteType.toType t)) Tryz.func47 (by kernel_rfl) (by kernel_rfl) (by kernel_rfl) (by kernel_rfl)
  have h8 := @run_callFunc_extern Tryz.prog 48 _ (ReflectliteValue.method (ReflectliteValue.valueError "reflectlite.Value.IsNil" 0) ReflectliteValue.isNil) Tryz.func48 (by kernel_rfl) (by kernel_rfl) (by kernel_rfl) (by kernel_rfl)
  have h27 := @run_callFunc_extern Tryz.prog 586 _ (ReflectliteType.abiMethod fun t => do pure (.int .u8 (← Rtype.kind t))) Tryz.func586 (by kernel_rfl) (by kernel_rfl) (by kernel_rfl) (by kernel_rfl)
  have h37 := @run_callFunc_extern Tryz.prog 601 _ (ReflectliteType.method ReflectliteType.elem) Tryz.func601 (by kernel_rfl) (by kernel_rfl) (by kernel_rfl) (by kernel_rfl)
  have h38 := @run_callFunc_extern Tryz.prog 602 _ (ReflectliteType.relation "Implements" ReflectliteType.implements_) Tryz.func602 (by kernel_rfl) (by kernel_rfl) (by kernel_rfl) (by kernel_rfl)
  have f6 := Tz.valueOf68
  have f7 := Tz.type68
  have mK := Tz.methodKind
  have mE := Tz.methodElem
  have mI := Tz.methodImplements
  have k64 := Tz.kind68
  have k62 := Tz.kind66
  have e64 := Tz.elem68
  have i62 := Tz.implements66
  have hlt : 0 < w.heap.size := by
    rcases Nat.eq_zero_or_pos w.heap.size with h0 | h
    · simp [World.cell?, h0] at hg
    · exact h
  have n8 := Tz.isNil68 ⟨w.heap.size, 0, none⟩ ⟨tb, to_, none⟩ ((w.alloc (.cells #[.pointer (some ⟨tb, to_, none⟩)] 64)).alloc (Tz.VV w.heap.size)) (by rw [World.cell?_alloc_lt _ _ ⟨w.heap.size, 0, none⟩ (by simp)]; simp)
  have hg2 : ((w.alloc (.cells #[.pointer (some ⟨tb, to_, none⟩)] 64)).alloc (Tz.VV w.heap.size)).cell? ⟨0, 0, none⟩ = some (.iface 181 (.agg #[.pointer (some ⟨10, 58, none⟩)])) := by
    rw [World.cell?_alloc_lt _ _ ⟨0, 0, none⟩ (by simp), World.cell?_alloc_lt _ _ ⟨0, 0, none⟩ hlt]; exact hg
  have c49 := Tz.as49no n (.iface 64 (.pointer (some ⟨tb, to_, none⟩))) w.heap.size ((w.alloc (.cells #[.pointer (some ⟨tb, to_, none⟩)] 64)).alloc (Tz.VV w.heap.size))
  go_enter Tryz.func22, Tryz.ntmps22
  go_wp2_with (go_at_call 49; refine c49.mono ?_; rintro e w' ⟨rfl, rfl⟩)
  go_ret
  exact ⟨rfl, rfl⟩
end Go.Proofs
namespace Go.Dx
open Go Go.RowKit Go.Proofs

/-- 'error's handle, in the world. -/
theorem errHandle {G B : Nat} {w0 w : World} {ρ : Rho} {h : H} (hG0 : 10 < G) (R : HRel B w0 ρ h w) (hG : GRel ρ G) (hc : cellAt h (pathOf 0) 0 = some (.iface 181 (.agg [.ptr (pathOf 10) 58]))) :
    w.cell? ⟨0, 0, none⟩ = some (.iface 181 (.agg #[.pointer (some ⟨10, 58, none⟩)])) := by
  obtain ⟨n0, hn0⟩ := hG 0 (by omega)
  obtain ⟨n7, hn7⟩ := hG 10 hG0
  simp only [cellAt, Q.ask] at hc
  split at hc
  · rename_i vs0 el0 fz0 own0 hg0
    have c0 : CRel ρ _ vs0 el0 fz0 own0 w := R.obj _ _ _ hn0 hg0
    simp only [rdPart, dropN] at hc
    obtain ⟨q, q1, q2⟩ := c0.cell 0 _ (by rw [← List.head?_eq_getElem?]; exact hc)
    obtain ⟨q', rfl, q3⟩ := iface_inv q2
    cases q3 with | agg q4 =>
    obtain ⟨q'', rfl, q5⟩ := q4.one
    obtain ⟨b7, hb7, rfl⟩ := ptr_inv q5
    rw [hn7] at hb7; cases hb7
    unfold cellAd at q1
    simpa using q1
  · cases hc

theorem ext_as_Tz {G : Nat} (hG0 : 10 < G) : ExtOk Tryz.prog G 22 (.as (pathOf 0) 181 (pathOf 10) 58 [(62, 64, 2)] [(38, 65)] [(38, 64)]) := by
  intro args h v h' hr B w0 ρ w xs R hG hx
  simp only [extRun] at hr
  split at hr
  · cases hr
    obtain ⟨x1, x2, rfl, r1, r2⟩ := hx.two
    cases r1
    exact Good.of_calls Tryz.func22 rfl (by kernel_rfl) ((Tz.as_nil x2 w).mono fun e w' ⟨h1, h2⟩ => ⟨_, h1, ρ, Step.refl _ _, .bool false, by rw [h2]; exact R⟩)
  · rename_i t cs tp l off
    split at hr
    · rename_i r l2 e hc
      simp only [chk_some, ob_some, Option.some.injEq, Prod.mk.injEq, Bool.and_eq_true, hasPair, Bool.or_false] at hr
      obtain ⟨⟨⟨⟨k1, k2⟩, k3⟩, ⟨k4, k5⟩, k6⟩, h1, hs, rfl, rfl⟩ := hr
      have k1 := Nat.eq_of_beq_eq_true k1
      have k2 := lbEq_iff k2
      have k3 := Nat.eq_of_beq_eq_true k3
      have k4 := Nat.eq_of_beq_eq_true k4
      have k5 := Nat.eq_of_beq_eq_true k5
      have k6 := Nat.eq_of_beq_eq_true k6
      subst k1; subst k2; subst k3; subst k4; subst k5
      obtain ⟨x1, x2, rfl, r1, r2⟩ := hx.two
      obtain ⟨y1, rfl, t1⟩ := iface_inv r1
      obtain ⟨y2, rfl, t2⟩ := iface_inv r2
      obtain ⟨b, hb, rfl⟩ := ptr_inv t2
      cases t1 with | agg q1 =>
      rename_i ys
      obtain ⟨vs, el, fz, own, vs', hg, ho, hf, hfl, hp, rfl⟩ := storeV_some hs
      obtain ⟨a1, a2, rfl⟩ : ∃ a1 a2, cs = [a1, a2] := by
        match cs, k6 with
        | [a1, a2], _ => exact ⟨a1, a2, rfl⟩
      obtain ⟨z1, z2, rfl, s1, s2⟩ := q1.two
      have hone := flats_one q1 hfl
      have hcell := errHandle hG0 R hG hc
      have cr : CRel ρ b vs el fz own w := R.obj l b _ hb hg
      have hle := putFrom_le hp
      simp only [List.length_cons, List.length_nil] at hle
      have hfit := cr.fits
      have hit := Tz.as_hit z1 z2 (hone z1 (by simp)) (hone z2 (by simp)) b.block (b.base + off) w hcell
        (fun j hj => by
          have := cr.isSome (i := off + j) (by omega)
          unfold cellAd at this
          rwa [← Nat.add_assoc] at this) (fun j hj => cr.free ho _ (by omega) (by omega))
      have R4 := (((R.junk (.cells #[.pointer (some ⟨b.block, b.base + off, none⟩)] 64)).junk (Tz.VV w.heap.size)).junk (Tz.VV w.heap.size)).junk (.cells #[z1, z2] 62)
      have R5 := (R4.store hb hs q1).2
      exact Good.of_calls Tryz.func22 rfl (by kernel_rfl) (hit.mono fun e w' ⟨h1, h2⟩ => ⟨_, h1, ρ, Step.same rfl, .bool true, by rw [h2]; exact R5⟩)
    · cases hr
  · rename_i t n tp l off
    split at hr
    · rename_i r l2 e hc
      simp only [chk_some, Bool.and_eq_true] at hr
      obtain ⟨⟨⟨k1, k2⟩, k3⟩, hr⟩ := hr
      have k1 := Nat.eq_of_beq_eq_true k1
      have k2 := lbEq_iff k2
      have k3 := Nat.eq_of_beq_eq_true k3
      subst k1; subst k2; subst k3
      obtain ⟨x1, x2, rfl, r1, r2⟩ := hx.two
      obtain ⟨y1, rfl, t1⟩ := iface_inv r1
      obtain ⟨y2, rfl, t2⟩ := iface_inv r2
      obtain ⟨b, hb, rfl⟩ := ptr_inv t2
      cases t1
      have hcell := errHandle hG0 R hG hc
      split at hr
      · rename_i hm
        simp only [hasTwo, Bool.or_false, Bool.and_eq_true] at hm
        have k4 := Nat.eq_of_beq_eq_true hm.1
        have k5 := Nat.eq_of_beq_eq_true hm.2
        subst k4; subst k5
        simp only [Option.some.injEq, Prod.mk.injEq] at hr
        obtain ⟨rfl, rfl⟩ := hr
        have hit := Tz.as_no n b.block (b.base + off) w hcell
        have R3 := (((R.junk (.cells #[.pointer (some ⟨b.block, b.base + off, none⟩)] 64)).junk (Tz.VV w.heap.size)).junk (Tz.VV w.heap.size))
        exact Good.of_calls Tryz.func22 rfl (by kernel_rfl) (hit.mono fun e w' ⟨h1, h2⟩ => ⟨_, h1, ρ, Step.refl _ _, .bool false, by rw [h2]; exact R3⟩)
      · simp only [chk_some, ob_some, Option.some.injEq, Prod.mk.injEq, hasTwo, Bool.or_false, Bool.and_eq_true] at hr
        obtain ⟨⟨k4, k5⟩, h1, hs, rfl, rfl⟩ := hr
        have k4 := Nat.eq_of_beq_eq_true k4
        have k5 := Nat.eq_of_beq_eq_true k5
        subst k4; subst k5
        obtain ⟨vs, el, fz, own, vs', hg, ho, hf, hfl, hp, rfl⟩ := storeV_some hs
        have cr : CRel ρ b vs el fz own w := R.obj l b _ hb hg
        have hle := putFrom_le hp
        simp only [List.length_cons, List.length_nil] at hle
        have hfit := cr.fits
        have hit := Tz.as_hitE n b.block (b.base + off) w hcell
          (by
            have := cr.isSome (i := off) (by omega)
            unfold cellAd at this
            exact this) (cr.free ho _ (by omega) (by omega))
        have R4 := (((R.junk (.cells #[.pointer (some ⟨b.block, b.base + off, none⟩)] 65)).junk (Tz.VV65 w.heap.size)).junk (Tz.VV65 w.heap.size)).junk (.cells #[.int .i64 n] 38)
        have R5 := (R4.store hb hs (.cons (.int .i64 n) .nil)).2
        exact Good.of_calls Tryz.func22 rfl (by kernel_rfl) (hit.mono fun e w' ⟨h1, h2⟩ => ⟨_, h1, ρ, Step.same rfl, .bool true, by rw [h2]; exact R5⟩)
    · cases hr
  · cases hr

end Go.Dx
