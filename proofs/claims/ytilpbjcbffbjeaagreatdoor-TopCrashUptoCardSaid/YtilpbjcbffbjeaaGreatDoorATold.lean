/- The audit's told: errors.As into a fault. -/
import Derived.Test.YtilpbjcbffbjeaaGreatDoorPkH
import Derived.Test.YtilpbjcbffbjeaaGreatDoorARead
namespace Go.Proofs.YtilpbjcbffbjeaaGreatDoor
set_option linter.unusedVariables false
set_option maxRecDepth 100000
open Go.RowKit Go.Extern.Stop Go.Stop Go.Extern
theorem asNil (t : Value) (w : World) : Calls Tryz.prog 87 #[.nilIface, t] w fun e w' => e = .returned (.bool false) ∧ w' = w := by
  go_enter Tryz.func87, Tryz.ntmps87
  go_wp2
  go_ret
  exact ⟨rfl, rfl⟩
theorem asValueOfP (t : Addr) (w : World) : (ReflectliteValue.unpack (.iface 154 (.pointer (some t)))).run Tryz.prog w = .ok (.agg #[.pointer (some ⟨5, 154, none⟩), .pointer (some ⟨w.heap.size, 0, none⟩), .int .u64 150]) (w.alloc (.cells #[.pointer (some t)] 154)) := by kernel_rfl
theorem asTypeP (a : Addr) (w : World) : (ReflectliteValue.methodAny (ReflectliteValue.valueError "reflectlite.Value.Type" 0) (fun t _ _ _ => ReflectliteType.toType t) #[.agg #[.pointer (some ⟨5, 154, none⟩), .pointer (some a), .int .u64 150]]).run Tryz.prog w = .ok (.iface 209 (.agg #[.pointer (some ⟨5, 154, none⟩)])) w := by kernel_rfl
theorem asMethodKind (h : Value) (w : World) : (Go.method 409 209 (.agg #[h]) "Kind").run Tryz.prog w = .ok (197, h) w := by kernel_rfl
theorem asKindP (w : World) : ((ReflectliteType.abiMethod fun t => (fun a : Nat => Value.int IntKind.u8 (a : Int)) <$> Rtype.kind t) #[.pointer (some ⟨5, 154, none⟩)]).run Tryz.prog w = .ok (.int .u8 22) w := by kernel_rfl
theorem asKindS (w : World) : ((ReflectliteType.abiMethod fun t => (fun a : Nat => Value.int IntKind.u8 (a : Int)) <$> Rtype.kind t) #[.pointer (some ⟨5, 151, none⟩)]).run Tryz.prog w = .ok (.int .u8 25) w := by kernel_rfl
theorem asMethodElem (h : Value) (w : World) : (Go.method 409 209 (.agg #[h]) "Elem").run Tryz.prog w = .ok (221, .agg #[h]) w := by kernel_rfl
theorem asMethodImplements (h : Value) (w : World) : (Go.method 409 209 (.agg #[h]) "Implements").run Tryz.prog w = .ok (222, .agg #[h]) w := by kernel_rfl
theorem asMethodAssignableTo (h : Value) (w : World) : (Go.method 409 209 (.agg #[h]) "AssignableTo").run Tryz.prog w = .ok (219, .agg #[h]) w := by kernel_rfl
theorem asElemP (w : World) : (ReflectliteType.method ReflectliteType.elem #[.agg #[.pointer (some ⟨5, 154, none⟩)]]).run Tryz.prog w = .ok (.iface 209 (.agg #[.pointer (some ⟨5, 151, none⟩)])) w := by kernel_rfl
theorem asImplementsS (w : World) : (ReflectliteType.relation "Implements" ReflectliteType.implements_ #[.agg #[.pointer (some ⟨5, 151, none⟩)], .iface 209 (.agg #[.pointer (some ⟨5, 103, none⟩)])]).run Tryz.prog w = .ok (.bool true) w := by kernel_rfl
theorem asTypeOfS (v : Value) (w : World) : (ReflectliteType.typeOf #[.iface 151 v]).run Tryz.prog w = .ok (.iface 209 (.agg #[.pointer (some ⟨5, 151, none⟩)])) w := by kernel_rfl
theorem asTypeOfG (v : Value) (w : World) : (ReflectliteType.typeOf #[.iface 153 v]).run Tryz.prog w = .ok (.iface 209 (.agg #[.pointer (some ⟨5, 153, none⟩)])) w := by kernel_rfl
theorem asAssignableS (w : World) : (ReflectliteType.relation "AssignableTo" ReflectliteType.assignableTo #[.agg #[.pointer (some ⟨5, 151, none⟩)], .iface 209 (.agg #[.pointer (some ⟨5, 151, none⟩)])]).run Tryz.prog w = .ok (.bool true) w := by kernel_rfl
theorem asAssignableG (w : World) : (ReflectliteType.relation "AssignableTo" ReflectliteType.assignableTo #[.agg #[.pointer (some ⟨5, 153, none⟩)], .iface 209 (.agg #[.pointer (some ⟨5, 151, none⟩)])]).run Tryz.prog w = .ok (.bool false) w := by kernel_rfl
theorem asValueOfS (x y : Int) (w : World) : (ReflectliteValue.unpack (.iface 151 (.agg #[.int .i64 x, .int .i64 y]))).run Tryz.prog w = .ok (.agg #[.pointer (some ⟨5, 151, none⟩), .pointer (some ⟨w.heap.size, 0, none⟩), .int .u64 153]) (w.alloc (.cells #[.int .i64 x, .int .i64 y] 151)) := by kernel_rfl
theorem asPartsP (a : Addr) (w : World) : (ReflectliteValue.parts (.agg #[.pointer (some ⟨5, 154, none⟩), .pointer (some a), .int .u64 150])).run Tryz.prog w = .ok (some (154, a, 150)) w := by kernel_rfl
theorem asPartsSa (a : Addr) (w : World) : (ReflectliteValue.parts (.agg #[.pointer (some ⟨5, 151, none⟩), .pointer (some a), .int .u64 409])).run Tryz.prog w = .ok (some (151, a, 409)) w := by kernel_rfl
theorem asPartsS (a : Addr) (w : World) : (ReflectliteValue.parts (.agg #[.pointer (some ⟨5, 151, none⟩), .pointer (some a), .int .u64 153])).run Tryz.prog w = .ok (some (151, a, 153)) w := by kernel_rfl
theorem asElemOfP (w : World) : (Rtype.elem? 154).run Tryz.prog w = .ok (some 151) w := by kernel_rfl
theorem asMkS (p : Addr) (w : World) : (ReflectliteValue.mk 151 p ReflectliteValue.flagAddr).run Tryz.prog w = .ok (.agg #[.pointer (some ⟨5, 151, none⟩), .pointer (some p), .int .u64 409]) w := by kernel_rfl
theorem asDirectS (w : World) : (Rtype.directlyAssignable 151 151).run Tryz.prog w = .ok true w := by kernel_rfl
theorem asNoAs (v : Value) (xT : TypeId) (w : World) : (Instr.typeAssert (.iface 153 v) xT 213 true).run Tryz.prog w = .ok (.tuple #[.nilIface, .bool false]) w := run_typeAssert_lacksB Tryz.underlying213 (by kernel_rfl) (by kernel_rfl) v xT w
theorem asHasUnwrap (v : Value) (xT : TypeId) (w : World) : (Instr.typeAssert (.iface 153 v) xT 216 true).run Tryz.prog w = .ok (.tuple #[.iface 153 v, .bool true]) w := run_typeAssert_hasB Tryz.underlying216 (by kernel_rfl) v xT w
theorem asMethodUnwrap (v : Value) (w : World) : (Go.method 409 153 v "Unwrap").run Tryz.prog w = .ok (208, v) w := by kernel_rfl
theorem awUnwrapW (t : ByteArray) (v : Value) (w : World) : Calls Tryz.prog 208 #[.agg #[.string t, v]] w fun e w' => e = .returned v ∧ w' = w.alloc (.cells #[.string t, v] 153) := by
  go_enter Tryz.func208, Tryz.ntmps208
  go_wp2
  go_ret
  exact ⟨rfl, rfl⟩
/-- (Value).IsNil at the Value of a *fault that is not nil. -/
theorem asRlm (z : Sem Value) (f : TypeId → Addr → Nat → Nat → Sem Value) (v : Value) :
    ReflectliteValue.method z f #[v] = (do match ← ReflectliteValue.parts v with | none => z | some (t, a, fl) => f t a fl (fl % 32)) := rfl
theorem asIsNilP (a p : Addr) (W : World) (ha : W.cell? a = some (.pointer (some p))) :
    (ReflectliteValue.method (ReflectliteValue.valueError "reflectlite.Value.IsNil" 0) ReflectliteValue.isNil #[.agg #[.pointer (some ⟨5, 154, none⟩), .pointer (some a), .int .u64 150]]).run Tryz.prog W = .ok (.bool false) W := by
  rw [asRlm]
  simp only [Sem.run_bind, asPartsP, Result.andThen]
  simp [ReflectliteValue.isNil, loadVar, isAgg, underlying, Tryz.underlying154, ha, Result.andThen]
theorem asElemVP (a p : Addr) (W : World) (ha : W.cell? a = some (.pointer (some p))) :
    (ReflectliteValue.method (ReflectliteValue.valueError "reflectlite.Value.Elem" 0) ReflectliteValue.elem #[.agg #[.pointer (some ⟨5, 154, none⟩), .pointer (some a), .int .u64 150]]).run Tryz.prog W = .ok (.agg #[.pointer (some ⟨5, 151, none⟩), .pointer (some p), .int .u64 409]) W := by
  rw [asRlm]
  simp only [Sem.run_bind, asPartsP, Result.andThen]
  simp [ReflectliteValue.elem, loadVar, isAgg, underlying, Tryz.underlying154, ha, Result.andThen, asElemOfP, asMkS]
end Go.Proofs.YtilpbjcbffbjeaaGreatDoor
