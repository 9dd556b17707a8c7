/- The audit's told: errors.As into a fault. -/
import Derived.Test.YtilpbjcbffbjeaaDoorPkH
import Derived.Test.YtilpbjcbffbjeaaDoorARead
namespace Go.Proofs.YtilpbjcbffbjeaaDoor
set_option linter.unusedVariables false
set_option maxRecDepth 100000
open Go.RowKit Go.Extern.Stop Go.Stop Go.Extern
theorem asNil (t : Value) (w : World) : Calls Tryd.prog 62 #[.nilIface, t] w fun e w' => e = .returned (.bool false) ∧ w' = w := by
  go_enter Tryd.func62, Tryd.ntmps62
  go_wp2
  go_ret
  exact ⟨rfl, rfl⟩
theorem asValueOfP (t : Addr) (w : World) : (ReflectliteValue.unpack (.iface 103 (.pointer (some t)))).run Tryd.prog w = .ok (.agg #[.pointer (some ⟨5, 103, none⟩), .pointer (some ⟨w.heap.size, 0, none⟩), .int .u64 150]) (w.alloc (.cells #[.pointer (some t)] 103)) := by kernel_rfl
theorem asTypeP (a : Addr) (w : World) : (ReflectliteValue.methodAny (ReflectliteValue.valueError "reflectlite.Value.Type" 0) (fun t _ _ _ => ReflectliteType.toType t) #[.agg #[.pointer (some ⟨5, 103, none⟩), .pointer (some a), .int .u64 150]]).run Tryd.prog w = .ok (.iface 168 (.agg #[.pointer (some ⟨5, 103, none⟩)])) w := by kernel_rfl
theorem asMethodKind (h : Value) (w : World) : (Go.method 331 168 (.agg #[h]) "Kind").run Tryd.prog w = .ok (136, h) w := by kernel_rfl
theorem asKindP (w : World) : ((ReflectliteType.abiMethod fun t => (fun a : Nat => Value.int IntKind.u8 (a : Int)) <$> Rtype.kind t) #[.pointer (some ⟨5, 103, none⟩)]).run Tryd.prog w = .ok (.int .u8 22) w := by kernel_rfl
theorem asKindS (w : World) : ((ReflectliteType.abiMethod fun t => (fun a : Nat => Value.int IntKind.u8 (a : Int)) <$> Rtype.kind t) #[.pointer (some ⟨5, 99, none⟩)]).run Tryd.prog w = .ok (.int .u8 25) w := by kernel_rfl
theorem asMethodElem (h : Value) (w : World) : (Go.method 331 168 (.agg #[h]) "Elem").run Tryd.prog w = .ok (156, .agg #[h]) w := by kernel_rfl
theorem asMethodImplements (h : Value) (w : World) : (Go.method 331 168 (.agg #[h]) "Implements").run Tryd.prog w = .ok (157, .agg #[h]) w := by kernel_rfl
theorem asMethodAssignableTo (h : Value) (w : World) : (Go.method 331 168 (.agg #[h]) "AssignableTo").run Tryd.prog w = .ok (154, .agg #[h]) w := by kernel_rfl
theorem asElemP (w : World) : (ReflectliteType.method ReflectliteType.elem #[.agg #[.pointer (some ⟨5, 103, none⟩)]]).run Tryd.prog w = .ok (.iface 168 (.agg #[.pointer (some ⟨5, 99, none⟩)])) w := by kernel_rfl
theorem asImplementsS (w : World) : (ReflectliteType.relation "Implements" ReflectliteType.implements_ #[.agg #[.pointer (some ⟨5, 99, none⟩)], .iface 168 (.agg #[.pointer (some ⟨5, 72, none⟩)])]).run Tryd.prog w = .ok (.bool true) w := by kernel_rfl
theorem asTypeOfS (v : Value) (w : World) : (ReflectliteType.typeOf #[.iface 99 v]).run Tryd.prog w = .ok (.iface 168 (.agg #[.pointer (some ⟨5, 99, none⟩)])) w := by kernel_rfl
theorem asTypeOfG (v : Value) (w : World) : (ReflectliteType.typeOf #[.iface 101 v]).run Tryd.prog w = .ok (.iface 168 (.agg #[.pointer (some ⟨5, 101, none⟩)])) w := by kernel_rfl
theorem asAssignableS (w : World) : (ReflectliteType.relation "AssignableTo" ReflectliteType.assignableTo #[.agg #[.pointer (some ⟨5, 99, none⟩)], .iface 168 (.agg #[.pointer (some ⟨5, 99, none⟩)])]).run Tryd.prog w = .ok (.bool true) w := by kernel_rfl
theorem asAssignableG (w : World) : (ReflectliteType.relation "AssignableTo" ReflectliteType.assignableTo #[.agg #[.pointer (some ⟨5, 101, none⟩)], .iface 168 (.agg #[.pointer (some ⟨5, 99, none⟩)])]).run Tryd.prog w = .ok (.bool false) w := by kernel_rfl
theorem asValueOfS (x y : Int) (w : World) : (ReflectliteValue.unpack (.iface 99 (.agg #[.int .i64 x, .int .i64 y]))).run Tryd.prog w = .ok (.agg #[.pointer (some ⟨5, 99, none⟩), .pointer (some ⟨w.heap.size, 0, none⟩), .int .u64 153]) (w.alloc (.cells #[.int .i64 x, .int .i64 y] 99)) := by kernel_rfl
theorem asPartsP (a : Addr) (w : World) : (ReflectliteValue.parts (.agg #[.pointer (some ⟨5, 103, none⟩), .pointer (some a), .int .u64 150])).run Tryd.prog w = .ok (some (103, a, 150)) w := by kernel_rfl
theorem asPartsSa (a : Addr) (w : World) : (ReflectliteValue.parts (.agg #[.pointer (some ⟨5, 99, none⟩), .pointer (some a), .int .u64 409])).run Tryd.prog w = .ok (some (99, a, 409)) w := by kernel_rfl
theorem asPartsS (a : Addr) (w : World) : (ReflectliteValue.parts (.agg #[.pointer (some ⟨5, 99, none⟩), .pointer (some a), .int .u64 153])).run Tryd.prog w = .ok (some (99, a, 153)) w := by kernel_rfl
theorem asElemOfP (w : World) : (Rtype.elem? 103).run Tryd.prog w = .ok (some 99) w := by kernel_rfl
theorem asMkS (p : Addr) (w : World) : (ReflectliteValue.mk 99 p ReflectliteValue.flagAddr).run Tryd.prog w = .ok (.agg #[.pointer (some ⟨5, 99, none⟩), .pointer (some p), .int .u64 409]) w := by kernel_rfl
theorem asDirectS (w : World) : (Rtype.directlyAssignable 99 99).run Tryd.prog w = .ok true w := by kernel_rfl
theorem asNoAs (v : Value) (xT : TypeId) (w : World) : (Instr.typeAssert (.iface 101 v) xT 172 true).run Tryd.prog w = .ok (.tuple #[.nilIface, .bool false]) w := run_typeAssert_lacksB Tryd.underlying172 (by kernel_rfl) (by kernel_rfl) v xT w
theorem asHasUnwrap (v : Value) (xT : TypeId) (w : World) : (Instr.typeAssert (.iface 101 v) xT 175 true).run Tryd.prog w = .ok (.tuple #[.iface 101 v, .bool true]) w := run_typeAssert_hasB Tryd.underlying175 (by kernel_rfl) v xT w
theorem asMethodUnwrap (v : Value) (w : World) : (Go.method 331 101 v "Unwrap").run Tryd.prog w = .ok (142, v) w := by kernel_rfl
theorem awUnwrapW (t : ByteArray) (v : Value) (w : World) : Calls Tryd.prog 142 #[.agg #[.string t, v]] w fun e w' => e = .returned v ∧ w' = w.alloc (.cells #[.string t, v] 101) := by
  go_enter Tryd.func142, Tryd.ntmps142
  go_wp2
  go_ret
  exact ⟨rfl, rfl⟩
/-- (Value).IsNil at the Value of a *fault that is not nil. -/
theorem asRlm (z : Sem Value) (f : TypeId → Addr → Nat → Nat → Sem Value) (v : Value) :
    ReflectliteValue.method z f #[v] = (do match ← ReflectliteValue.parts v with | none => z | some (t, a, fl) => f t a fl (fl % 32)) := rfl
theorem asIsNilP (a p : Addr) (W : World) (ha : W.cell? a = some (.pointer (some p))) :
    (ReflectliteValue.method (ReflectliteValue.valueError "reflectlite.Value.IsNil" 0) ReflectliteValue.isNil #[.agg #[.pointer (some ⟨5, 103, none⟩), .pointer (some a), .int .u64 150]]).run Tryd.prog W = .ok (.bool false) W := by
  rw [asRlm]
  simp only [Sem.run_bind, asPartsP, Result.andThen]
  simp [ReflectliteValue.isNil, loadVar, isAgg, underlying, Tryd.underlying103, ha, Result.andThen]
theorem asElemVP (a p : Addr) (W : World) (ha : W.cell? a = some (.pointer (some p))) :
    (ReflectliteValue.method (ReflectliteValue.valueError "reflectlite.Value.Elem" 0) ReflectliteValue.elem #[.agg #[.pointer (some ⟨5, 103, none⟩), .pointer (some a), .int .u64 150]]).run Tryd.prog W = .ok (.agg #[.pointer (some ⟨5, 99, none⟩), .pointer (some p), .int .u64 409]) W := by
  rw [asRlm]
  simp only [Sem.run_bind, asPartsP, Result.andThen]
  simp [ReflectliteValue.elem, loadVar, isAgg, underlying, Tryd.underlying103, ha, Result.andThen, asElemOfP, asMkS]
end Go.Proofs.YtilpbjcbffbjeaaDoor
