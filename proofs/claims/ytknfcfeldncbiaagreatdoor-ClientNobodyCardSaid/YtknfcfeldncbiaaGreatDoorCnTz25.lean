/-
  errors.As of an api.Fault into a variable of its type, by the contracts of what it calls (after the kit's worked example ToyasAs).
-/
import Derived.Test.YtknfcfeldncbiaaGreatDoorDxOrc
import Derived.Test.YtknfcfeldncbiaaGreatDoorProg
import Derived.WalkKit
import Derived.LaidEql
import Derived.Stop.Asserts
import Derived.RowKitTokens
namespace Go.Proofs
open Go.RowKit Go.Extern.Stop Go.Stop Go.Extern

theorem Tz.as_nil (t : Value) (w : World) : Calls Tryz.prog 28 #[.nilIface, t] w fun e w' => e = .returned (.bool false) ∧ w' = w := by
  go_enter Tryz.func28, Tryz.ntmps28
  go_wp2
  go_ret
  exact ⟨rfl, rfl⟩

theorem Tz.valueOf68 (t : Addr) (w : World) : (ReflectliteValue.unpack (.iface 79 (.pointer (some t)))).run Tryz.prog w
    = .ok (.agg #[.pointer (some ⟨7, 79, none⟩), .pointer (some ⟨w.heap.size, 0, none⟩), .int .u64 150]) (w.alloc (.cells #[.pointer (some t)] 79)) := by kernel_rfl
theorem Tz.type68 (a : Addr) (w : World) : (ReflectliteValue.methodAny (ReflectliteValue.valueError "reflectlite.Value.Type" 0) (fun t _ _ _ => ReflectliteType.toType t) #[.agg #[.pointer (some ⟨7, 79, none⟩), .pointer (some a), .int .u64 150]]).run Tryz.prog w
    = .ok (.iface 214 (.agg #[.pointer (some ⟨7, 79, none⟩)])) w := by kernel_rfl
theorem Tz.methodKind (h : Value) (w : World) : (Go.method 541 214 (.agg #[h]) "Kind").run Tryz.prog w = .ok (341, h) w := by kernel_rfl
theorem Tz.kind68 (w : World) : ((ReflectliteType.abiMethod fun t => (fun a : Nat => Value.int IntKind.u8 (a : Int)) <$> Rtype.kind t) #[.pointer (some ⟨7, 79, none⟩)]).run Tryz.prog w = .ok (.int .u8 22) w := by kernel_rfl
theorem Tz.kind66 (w : World) : ((ReflectliteType.abiMethod fun t => (fun a : Nat => Value.int IntKind.u8 (a : Int)) <$> Rtype.kind t) #[.pointer (some ⟨7, 77, none⟩)]).run Tryz.prog w = .ok (.int .u8 25) w := by kernel_rfl
theorem Tz.rlm (z : Sem Value) (f : TypeId → Addr → Nat → Nat → Sem Value) (v : Value) :
    ReflectliteValue.method z f #[v] = (do match ← ReflectliteValue.parts v with | none => z | some (t, a, fl) => f t a fl (fl % 32)) := rfl
theorem Tz.parts68 (a : Addr) (w : World) : (ReflectliteValue.parts (.agg #[.pointer (some ⟨7, 79, none⟩), .pointer (some a), .int .u64 150])).run Tryz.prog w = .ok (some (79, a, 150)) w := by kernel_rfl
theorem Tz.isNil68 (a p : Addr) (W : World) (ha : W.cell? a = some (.pointer (some p))) :
    (ReflectliteValue.method (ReflectliteValue.valueError "reflectlite.Value.IsNil" 0) ReflectliteValue.isNil #[.agg #[.pointer (some ⟨7, 79, none⟩), .pointer (some a), .int .u64 150]]).run Tryz.prog W = .ok (.bool false) W := by
  rw [Tz.rlm]
  simp only [Sem.run_bind, Tz.parts68, Result.andThen]
  simp [ReflectliteValue.isNil, loadVar, isAgg, underlying, Tryz.underlying79, ha, Result.andThen]
theorem Tz.methodElem (h : Value) (w : World) : (Go.method 541 214 (.agg #[h]) "Elem").run Tryz.prog w = .ok (356, .agg #[h]) w := by kernel_rfl
theorem Tz.methodImplements (h : Value) (w : World) : (Go.method 541 214 (.agg #[h]) "Implements").run Tryz.prog w = .ok (357, .agg #[h]) w := by kernel_rfl
theorem Tz.methodAssignableTo (h : Value) (w : World) : (Go.method 541 214 (.agg #[h]) "AssignableTo").run Tryz.prog w = .ok (354, .agg #[h]) w := by kernel_rfl
theorem Tz.elem68 (w : World) : (ReflectliteType.method ReflectliteType.elem #[.agg #[.pointer (some ⟨7, 79, none⟩)]]).run Tryz.prog w = .ok (.iface 214 (.agg #[.pointer (some ⟨7, 77, none⟩)])) w := by kernel_rfl
theorem Tz.implements66 (w : World) : (ReflectliteType.relation "Implements" ReflectliteType.implements_ #[.agg #[.pointer (some ⟨7, 77, none⟩)], .iface 214 (.agg #[.pointer (some ⟨7, 35, none⟩)])]).run Tryz.prog w = .ok (.bool true) w := by kernel_rfl
theorem Tz.typeOf66 (v : Value) (w : World) : (ReflectliteType.typeOf #[.iface 77 v]).run Tryz.prog w = .ok (.iface 214 (.agg #[.pointer (some ⟨7, 77, none⟩)])) w := by kernel_rfl
theorem Tz.assignable66 (w : World) : (ReflectliteType.relation "AssignableTo" ReflectliteType.assignableTo #[.agg #[.pointer (some ⟨7, 77, none⟩)], .iface 214 (.agg #[.pointer (some ⟨7, 77, none⟩)])]).run Tryz.prog w = .ok (.bool true) w := by kernel_rfl
theorem Tz.valueOf66 (x y : Value) (w : World) : (ReflectliteValue.unpack (.iface 77 (.agg #[x, y]))).run Tryz.prog w
    = .ok (.agg #[.pointer (some ⟨7, 77, none⟩), .pointer (some ⟨w.heap.size, 0, none⟩), .int .u64 153]) (w.alloc (.cells #[x, y] 77)) := by kernel_rfl
theorem Tz.elemOf68 (w : World) : (Rtype.elem? 79).run Tryz.prog w = .ok (some 77) w := by kernel_rfl
theorem Tz.mk66 (p : Addr) (w : World) : (ReflectliteValue.mk 77 p ReflectliteValue.flagAddr).run Tryz.prog w = .ok (.agg #[.pointer (some ⟨7, 77, none⟩), .pointer (some p), .int .u64 409]) w := by kernel_rfl
theorem Tz.elemV68 (a p : Addr) (W : World) (ha : W.cell? a = some (.pointer (some p))) :
    (ReflectliteValue.method (ReflectliteValue.valueError "reflectlite.Value.Elem" 0) ReflectliteValue.elem #[.agg #[.pointer (some ⟨7, 79, none⟩), .pointer (some a), .int .u64 150]]).run Tryz.prog W
      = .ok (.agg #[.pointer (some ⟨7, 77, none⟩), .pointer (some p), .int .u64 409]) W := by
  rw [Tz.rlm]
  simp only [Sem.run_bind, Tz.parts68, Result.andThen]
  simp [ReflectliteValue.elem, loadVar, isAgg, underlying, Tryz.underlying79, ha, Result.andThen, Tz.elemOf68, Tz.mk66]
theorem Tz.parts66a (a : Addr) (w : World) : (ReflectliteValue.parts (.agg #[.pointer (some ⟨7, 77, none⟩), .pointer (some a), .int .u64 409])).run Tryz.prog w = .ok (some (77, a, 409)) w := by kernel_rfl
theorem Tz.parts66 (a : Addr) (w : World) : (ReflectliteValue.parts (.agg #[.pointer (some ⟨7, 77, none⟩), .pointer (some a), .int .u64 153])).run Tryz.prog w = .ok (some (77, a, 153)) w := by kernel_rfl
theorem Tz.direct66 (w : World) : (Rtype.directlyAssignable 77 77).run Tryz.prog w = .ok true w := by kernel_rfl

theorem Tz.rls (v x : Value) : ReflectliteValue.set #[v, x] = (do
    let (some (dst, a, fl), some (src, b, _)) := (← ReflectliteValue.parts v, ← ReflectliteValue.parts x)
      | unsupported (.noEntry "extern/(internal/reflectlite.Value).Set.zeroValue")
    if fl / ReflectliteValue.flagAddr % 2 == 0 then unsupported (.noEntry "extern/(internal/reflectlite.Value).Set.unaddressable")
    let val ← loadVar src b
    if ← Rtype.directlyAssignable dst src then storeVar dst a val
    else if ← Rtype.implements dst src then
      if (← Rtype.kind src) == 20 then
        match val with
        | .nilIface => unsupported (.noEntry "extern/reflectlite: a nil value of one interface type handed on as a value of another")
        | _ => storeVar dst a val
      else storeVar dst a (.iface src val)
    else panicString ("reflectlite.Set: value of type " ++ (← Rtype.spelt src) ++ " is not assignable to type " ++ (← Rtype.spelt dst))
    pure (.tuple #[])) := rfl
theorem Tz.size66 (w : World) : (sizeOf 77).run Tryz.prog w = .ok 2 w := by kernel_rfl
theorem Tz.agg66 (w : World) : (isAgg 77).run Tryz.prog w = .ok true w := by kernel_rfl
theorem Tz.set66 (tb to_ b : Nat) (x y : Value) (W : World) (hb : W.rangeAt b 0 [x, y]) (ht : ∀ j, j < 2 → (W.cell? ⟨tb, to_ + j, none⟩).isSome = true) (hf : ∀ j, j < 2 → W.frozen? ⟨tb, to_ + j, none⟩ = false) (hx : x.oneCell' = true) (hy : y.oneCell' = true) :
    (ReflectliteValue.set #[.agg #[.pointer (some ⟨7, 77, none⟩), .pointer (some ⟨tb, to_, none⟩), .int .u64 409], .agg #[.pointer (some ⟨7, 77, none⟩), .pointer (some ⟨b, 0, none⟩), .int .u64 153]]).run Tryz.prog W
      = .ok (.tuple #[]) (W.setCells tb to_ [x, y]) := by
  have hl : (loadCells ⟨b, 0, none⟩ 2).run Tryz.prog W = .ok #[x, y] W := by
    have := run_loadCells_list (P := Tryz.prog) W ⟨b, 0, none⟩ [x, y] (fun j v hv => by rw [Go.Dx.addr_add]; exact hb j v hv)
    simpa using this
  have hs : (storeCells ⟨tb, to_, none⟩ [x, y]).run Tryz.prog W = .ok () (W.setCells tb to_ [x, y]) := by
    have := run_storeCells_cells (P := Tryz.prog) tb to_ [x, y] 0 W (by simpa using ht) (by simpa using hf) (by intro z hz; simp at hz; rcases hz with rfl | rfl <;> assumption)
    simpa using this
  rw [Tz.rls]
  simp only [Sem.run_bind, Tz.parts66a, Tz.parts66, Result.andThen, Sem.run_pure]
  simp [ReflectliteValue.flagAddr, loadVar, Tz.agg66, Tz.size66, hl, Tz.direct66, storeVar, hs, Value.cells]

end Go.Proofs
