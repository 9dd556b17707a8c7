/- The store's found: errors.As into a fault of one cell, at one word and at two. (Written by gen_sfound.py.) -/
import Derived.Test.YtilpbjcbffbjeaaGreatDoorPkS
import Derived.Test.YtilpbjcbffbjeaaGreatDoorATold2
namespace Go.Proofs.YtilpbjcbffbjeaaGreatDoor
set_option linter.unusedVariables false
set_option maxRecDepth 100000
open Go.RowKit Go.Extern.Stop Go.Stop Go.Extern
theorem sfValueOfP (t : Addr) (w : World) : (ReflectliteValue.unpack (.iface 146 (.pointer (some t)))).run Tryz.prog w = .ok (.agg #[.pointer (some ⟨5, 146, none⟩), .pointer (some ⟨w.heap.size, 0, none⟩), .int .u64 150]) (w.alloc (.cells #[.pointer (some t)] 146)) := by kernel_rfl
theorem sfTypeP (a : Addr) (w : World) : (ReflectliteValue.methodAny (ReflectliteValue.valueError "reflectlite.Value.Type" 0) (fun t _ _ _ => ReflectliteType.toType t) #[.agg #[.pointer (some ⟨5, 146, none⟩), .pointer (some a), .int .u64 150]]).run Tryz.prog w = .ok (.iface 209 (.agg #[.pointer (some ⟨5, 146, none⟩)])) w := by kernel_rfl
theorem sfMethodKind (h : Value) (w : World) : (Go.method 409 209 (.agg #[h]) "Kind").run Tryz.prog w = .ok (197, h) w := by kernel_rfl
theorem sfKindP (w : World) : ((ReflectliteType.abiMethod fun t => (fun a : Nat => Value.int IntKind.u8 (a : Int)) <$> Rtype.kind t) #[.pointer (some ⟨5, 146, none⟩)]).run Tryz.prog w = .ok (.int .u8 22) w := by kernel_rfl
theorem sfKindS (w : World) : ((ReflectliteType.abiMethod fun t => (fun a : Nat => Value.int IntKind.u8 (a : Int)) <$> Rtype.kind t) #[.pointer (some ⟨5, 142, none⟩)]).run Tryz.prog w = .ok (.int .u8 25) w := by kernel_rfl
theorem sfMethodElem (h : Value) (w : World) : (Go.method 409 209 (.agg #[h]) "Elem").run Tryz.prog w = .ok (221, .agg #[h]) w := by kernel_rfl
theorem sfMethodImplements (h : Value) (w : World) : (Go.method 409 209 (.agg #[h]) "Implements").run Tryz.prog w = .ok (222, .agg #[h]) w := by kernel_rfl
theorem sfMethodAssignableTo (h : Value) (w : World) : (Go.method 409 209 (.agg #[h]) "AssignableTo").run Tryz.prog w = .ok (219, .agg #[h]) w := by kernel_rfl
theorem sfElemP (w : World) : (ReflectliteType.method ReflectliteType.elem #[.agg #[.pointer (some ⟨5, 146, none⟩)]]).run Tryz.prog w = .ok (.iface 209 (.agg #[.pointer (some ⟨5, 142, none⟩)])) w := by kernel_rfl
theorem sfImplementsS (w : World) : (ReflectliteType.relation "Implements" ReflectliteType.implements_ #[.agg #[.pointer (some ⟨5, 142, none⟩)], .iface 209 (.agg #[.pointer (some ⟨5, 103, none⟩)])]).run Tryz.prog w = .ok (.bool true) w := by kernel_rfl
theorem sfTypeOfS (v : Value) (w : World) : (ReflectliteType.typeOf #[.iface 142 v]).run Tryz.prog w = .ok (.iface 209 (.agg #[.pointer (some ⟨5, 142, none⟩)])) w := by kernel_rfl
theorem sfTypeOfG (v : Value) (w : World) : (ReflectliteType.typeOf #[.iface 144 v]).run Tryz.prog w = .ok (.iface 209 (.agg #[.pointer (some ⟨5, 144, none⟩)])) w := by kernel_rfl
theorem sfAssignableS (w : World) : (ReflectliteType.relation "AssignableTo" ReflectliteType.assignableTo #[.agg #[.pointer (some ⟨5, 142, none⟩)], .iface 209 (.agg #[.pointer (some ⟨5, 142, none⟩)])]).run Tryz.prog w = .ok (.bool true) w := by kernel_rfl
theorem sfAssignableG (w : World) : (ReflectliteType.relation "AssignableTo" ReflectliteType.assignableTo #[.agg #[.pointer (some ⟨5, 144, none⟩)], .iface 209 (.agg #[.pointer (some ⟨5, 142, none⟩)])]).run Tryz.prog w = .ok (.bool false) w := by kernel_rfl
theorem sfValueOfS (x : Int) (w : World) : (ReflectliteValue.unpack (.iface 142 (.agg #[.int .i64 x]))).run Tryz.prog w = .ok (.agg #[.pointer (some ⟨5, 142, none⟩), .pointer (some ⟨w.heap.size, 0, none⟩), .int .u64 153]) (w.alloc (.cells #[.int .i64 x] 142)) := by kernel_rfl
theorem sfPartsP (a : Addr) (w : World) : (ReflectliteValue.parts (.agg #[.pointer (some ⟨5, 146, none⟩), .pointer (some a), .int .u64 150])).run Tryz.prog w = .ok (some (146, a, 150)) w := by kernel_rfl
theorem sfPartsSa (a : Addr) (w : World) : (ReflectliteValue.parts (.agg #[.pointer (some ⟨5, 142, none⟩), .pointer (some a), .int .u64 409])).run Tryz.prog w = .ok (some (142, a, 409)) w := by kernel_rfl
theorem sfPartsS (a : Addr) (w : World) : (ReflectliteValue.parts (.agg #[.pointer (some ⟨5, 142, none⟩), .pointer (some a), .int .u64 153])).run Tryz.prog w = .ok (some (142, a, 153)) w := by kernel_rfl
theorem sfElemOfP (w : World) : (Rtype.elem? 146).run Tryz.prog w = .ok (some 142) w := by kernel_rfl
theorem sfMkS (p : Addr) (w : World) : (ReflectliteValue.mk 142 p ReflectliteValue.flagAddr).run Tryz.prog w = .ok (.agg #[.pointer (some ⟨5, 142, none⟩), .pointer (some p), .int .u64 409]) w := by kernel_rfl
theorem sfDirectS (w : World) : (Rtype.directlyAssignable 142 142).run Tryz.prog w = .ok true w := by kernel_rfl
theorem sfNoAs (v : Value) (xT : TypeId) (w : World) : (Instr.typeAssert (.iface 144 v) xT 213 true).run Tryz.prog w = .ok (.tuple #[.nilIface, .bool false]) w := run_typeAssert_lacksB Tryz.underlying213 (by kernel_rfl) (by kernel_rfl) v xT w
theorem sfHasUnwrap (v : Value) (xT : TypeId) (w : World) : (Instr.typeAssert (.iface 144 v) xT 216 true).run Tryz.prog w = .ok (.tuple #[.iface 144 v, .bool true]) w := run_typeAssert_hasB Tryz.underlying216 (by kernel_rfl) v xT w
theorem sfMethodUnwrap (v : Value) (w : World) : (Go.method 409 144 v "Unwrap").run Tryz.prog w = .ok (205, v) w := by kernel_rfl
theorem sUnwrapW (t : ByteArray) (v : Value) (w : World) : Calls Tryz.prog 205 #[.agg #[.string t, v]] w fun e w' => e = .returned v ∧ w' = w.alloc (.cells #[.string t, v] 144) := by
  go_enter Tryz.func205, Tryz.ntmps205
  go_wp2
  go_ret
  exact ⟨rfl, rfl⟩
theorem sfIsNilP (a p : Addr) (W : World) (ha : W.cell? a = some (.pointer (some p))) :
    (ReflectliteValue.method (ReflectliteValue.valueError "reflectlite.Value.IsNil" 0) ReflectliteValue.isNil #[.agg #[.pointer (some ⟨5, 146, none⟩), .pointer (some a), .int .u64 150]]).run Tryz.prog W = .ok (.bool false) W := by
  rw [asRlm]
  simp only [Sem.run_bind, sfPartsP, Result.andThen]
  simp [ReflectliteValue.isNil, loadVar, isAgg, underlying, Tryz.underlying146, ha, Result.andThen]
theorem sfElemVP (a p : Addr) (W : World) (ha : W.cell? a = some (.pointer (some p))) :
    (ReflectliteValue.method (ReflectliteValue.valueError "reflectlite.Value.Elem" 0) ReflectliteValue.elem #[.agg #[.pointer (some ⟨5, 146, none⟩), .pointer (some a), .int .u64 150]]).run Tryz.prog W = .ok (.agg #[.pointer (some ⟨5, 142, none⟩), .pointer (some p), .int .u64 409]) W := by
  rw [asRlm]
  simp only [Sem.run_bind, sfPartsP, Result.andThen]
  simp [ReflectliteValue.elem, loadVar, isAgg, underlying, Tryz.underlying146, ha, Result.andThen, sfElemOfP, sfMkS]
theorem sfLoadS (bb : Nat) (x : Int) (W : World) (h0 : W.cell? ⟨bb, 0, none⟩ = some (.int .i64 x)) : (loadVar 142 ⟨bb, 0, none⟩).run Tryz.prog W = .ok (.agg #[.int .i64 x]) W := by
  simp [loadVar, isAgg, underlying, Tryz.underlying142, Result.andThen, loadCells, loadCellsFrom, Addr.add, run_load, h0]
theorem sfStoreS (tb : Nat) (x : Int) (o0 : Value) (W : World) (h0 : W.cell? ⟨tb, 0, none⟩ = some o0) (f0 : W.frozen? ⟨tb, 0, none⟩ = false) :
    (storeVar 142 ⟨tb, 0, none⟩ (.agg #[.int .i64 x])).run Tryz.prog W = .ok () (W.setCell ⟨tb, 0, none⟩ (.int .i64 x)) := by
  simp [storeVar, Value.cells, storeCells, Addr.add]
  rw [run_store Tryz.prog W _ _ _ (by rfl)]
  simp only [h0, f0, Bool.false_eq_true, if_false]
theorem sfSetS (tb bb : Nat) (x : Int) (o0 : Value) (W : World) (hb0 : W.cell? ⟨bb, 0, none⟩ = some (.int .i64 x)) (h0 : W.cell? ⟨tb, 0, none⟩ = some o0) (f0 : W.frozen? ⟨tb, 0, none⟩ = false) :
    (ReflectliteValue.set #[.agg #[.pointer (some ⟨5, 142, none⟩), .pointer (some ⟨tb, 0, none⟩), .int .u64 409], .agg #[.pointer (some ⟨5, 142, none⟩), .pointer (some ⟨bb, 0, none⟩), .int .u64 153]]).run Tryz.prog W
      = .ok (.tuple #[]) (W.setCell ⟨tb, 0, none⟩ (.int .i64 x)) := by
  rw [asRls]
  simp only [Sem.run_bind, sfPartsSa, sfPartsS, Result.andThen]
  simp [ReflectliteValue.flagAddr, sfLoadS bb x W hb0, Result.andThen, sfDirectS, sfStoreS tb x o0 W h0 f0]
set_option maxHeartbeats 4000000 in
theorem sasW1 (s : ByteArray) (e : Int) (tb : Nat) (o0 : Value) (w : World) (hgl : ErrT w) (ht0 : w.cell? ⟨tb, 0, none⟩ = some o0) (hf0 : w.frozen? ⟨tb, 0, none⟩ = false) :
    Calls Tryz.prog 87 #[.iface 144 (.agg #[.string s, .iface 142 (.agg #[.int .i64 e])]), .iface 146 (.pointer (some ⟨tb, 0, none⟩))] w fun ev w' => ev = .returned (.bool true) ∧ w'.cell? ⟨tb, 0, none⟩ = some (.int .i64 e) ∧ ∀ B, B ≤ tb → Below B w w' := by
  have hg : w.cell? ⟨0, 0, none⟩ = some (.iface 209 (.agg #[.pointer (some ⟨5, 103, none⟩)])) := hgl
  have h6 := @run_callFunc_extern Tryz.prog 111 _ (fun args => ReflectliteValue.unpack (args.getD 0 (.tuple #[]))) Tryz.func111 (by kernel_rfl) (by kernel_rfl) (by kernel_rfl) (by kernel_rfl)
  have h7 := @run_callFunc_extern Tryz.prog 112 _ (ReflectliteValue.methodAny (ReflectliteValue.valueError "reflectlite.Value.Type" 0) (fun t _ _ _ => ReflectliteType.toType t)) Tryz.func112 (by kernel_rfl) (by kernel_rfl) (by kernel_rfl) (by kernel_rfl)
  have h8 := @run_callFunc_extern Tryz.prog 113 _ (ReflectliteValue.method (ReflectliteValue.valueError "reflectlite.Value.IsNil" 0) ReflectliteValue.isNil) Tryz.func113 (by kernel_rfl) (by kernel_rfl) (by kernel_rfl) (by kernel_rfl)
  have h27 := @run_callFunc_extern Tryz.prog 197 _ (ReflectliteType.abiMethod fun t => do pure (.int .u8 (← Rtype.kind t))) Tryz.func197 (by kernel_rfl) (by kernel_rfl) (by kernel_rfl) (by kernel_rfl)
  have h37 := @run_callFunc_extern Tryz.prog 221 _ (ReflectliteType.method ReflectliteType.elem) Tryz.func221 (by kernel_rfl) (by kernel_rfl) (by kernel_rfl) (by kernel_rfl)
  have h38 := @run_callFunc_extern Tryz.prog 222 _ (ReflectliteType.relation "Implements" ReflectliteType.implements_) Tryz.func222 (by kernel_rfl) (by kernel_rfl) (by kernel_rfl) (by kernel_rfl)
  have h10 := @run_callFunc_extern Tryz.prog 131 _ ReflectliteType.typeOf Tryz.func131 (by kernel_rfl) (by kernel_rfl) (by kernel_rfl) (by kernel_rfl)
  have h35 := @run_callFunc_extern Tryz.prog 219 _ (ReflectliteType.relation "AssignableTo" ReflectliteType.assignableTo) Tryz.func219 (by kernel_rfl) (by kernel_rfl) (by kernel_rfl) (by kernel_rfl)
  have h11 := @run_callFunc_extern Tryz.prog 133 _ (ReflectliteValue.method (ReflectliteValue.valueError "reflectlite.Value.Elem" 0) ReflectliteValue.elem) Tryz.func133 (by kernel_rfl) (by kernel_rfl) (by kernel_rfl) (by kernel_rfl)
  have h12 := @run_callFunc_extern Tryz.prog 134 _ ReflectliteValue.set Tryz.func134 (by kernel_rfl) (by kernel_rfl) (by kernel_rfl) (by kernel_rfl)
  have tT := sfTypeOfG
  have tW := sfTypeOfS
  have mA := sfMethodAssignableTo
  have aT := sfAssignableG
  have aW := sfAssignableS
  have vW := sfValueOfS
  have f6 := sfValueOfP
  have f7 := sfTypeP
  have mK := sfMethodKind
  have mE := sfMethodElem
  have mI := sfMethodImplements
  have mU := sfMethodUnwrap
  have k27 := sfKindP
  have k25 := sfKindS
  have e27 := sfElemP
  have i25 := sfImplementsS
  have nA := sfNoAs
  have hU := sfHasUnwrap
  have n8 := sfIsNilP ⟨w.heap.size, 0, none⟩ ⟨tb, 0, none⟩ ((w.alloc (.cells #[.pointer (some ⟨tb, 0, none⟩)] 146)).alloc (.cells #[.pointer (some ⟨5, 146, none⟩), .pointer (some ⟨w.heap.size, 0, none⟩), .int .u64 150] 177)) (by simp)
  have hlt : 0 < w.heap.size := by
    rcases Nat.eq_zero_or_pos w.heap.size with h0 | h
    · simp [World.cell?, h0] at hg
    · exact h
  have hg2 : ((w.alloc (.cells #[.pointer (some ⟨tb, 0, none⟩)] 146)).alloc (.cells #[.pointer (some ⟨5, 146, none⟩), .pointer (some ⟨w.heap.size, 0, none⟩), .int .u64 150] 177)).cell? ⟨0, 0, none⟩ = some (.iface 209 (.agg #[.pointer (some ⟨5, 103, none⟩)])) := by
    rw [World.cell?_alloc_lt _ _ ⟨0, 0, none⟩ (by simp), World.cell?_alloc_lt _ _ ⟨0, 0, none⟩ hlt]; exact hg
  have htl : tb < w.heap.size := by
    rcases Nat.lt_or_ge tb w.heap.size with h | h
    · exact h
    · simp [World.cell?, Array.getElem?_eq_none h] at ht0
  go_enter Tryz.func87, Tryz.ntmps87
  go_wp2
  refine wp_loop_rounds 2 ?_
  rw [rounds_succ]
  go_wp2_with (go_at_call 205; refine (sUnwrapW _ _ _).mono ?_; rintro e w' ⟨rfl, rfl⟩)
  rw [rounds_succ]
  have el := sfElemVP ⟨w.heap.size, 0, none⟩ ⟨tb, 0, none⟩ ((((w.alloc (.cells #[.pointer (some ⟨tb, 0, none⟩)] 146)).alloc (.cells #[.pointer (some ⟨5, 146, none⟩), .pointer (some ⟨w.heap.size, 0, none⟩), .int .u64 150] 177)).alloc (.cells #[.pointer (some ⟨5, 146, none⟩), .pointer (some ⟨w.heap.size, 0, none⟩), .int .u64 150] 177)).alloc (.cells #[.string s, .iface 142 (.agg #[.int .i64 e])] 144))
    (by rw [World.cell?_alloc_lt _ _ ⟨w.heap.size, 0, none⟩ (by simp; omega), World.cell?_alloc_lt _ _ ⟨w.heap.size, 0, none⟩ (by simp; omega)]; simp)
  have hB5 : Below w.heap.size w (((((w.alloc (.cells #[.pointer (some ⟨tb, 0, none⟩)] 146)).alloc (.cells #[.pointer (some ⟨5, 146, none⟩), .pointer (some ⟨w.heap.size, 0, none⟩), .int .u64 150] 177)).alloc (.cells #[.pointer (some ⟨5, 146, none⟩), .pointer (some ⟨w.heap.size, 0, none⟩), .int .u64 150] 177)).alloc (.cells #[.string s, .iface 142 (.agg #[.int .i64 e])] 144)).alloc (.cells #[.int .i64 e] 142)) := ((((((Below.refl _ w).alloc (Nat.le_refl _) _).alloc (by simp only [World.size_alloc]; omega) _).alloc (by simp only [World.size_alloc]; omega) _).alloc (by simp only [World.size_alloc]; omega) _).alloc (by simp only [World.size_alloc]; omega) _)
  have st := sfSetS tb (w.heap.size + 1 + 1 + 1 + 1) e o0 (((((w.alloc (.cells #[.pointer (some ⟨tb, 0, none⟩)] 146)).alloc (.cells #[.pointer (some ⟨5, 146, none⟩), .pointer (some ⟨w.heap.size, 0, none⟩), .int .u64 150] 177)).alloc (.cells #[.pointer (some ⟨5, 146, none⟩), .pointer (some ⟨w.heap.size, 0, none⟩), .int .u64 150] 177)).alloc (.cells #[.string s, .iface 142 (.agg #[.int .i64 e])] 144)).alloc (.cells #[.int .i64 e] 142))
    (by rw [World.cell?_alloc_at _ _ _ _ (by simp)]; rfl)
    ((hB5.cell (p := ⟨tb, 0, none⟩) htl).trans ht0) ((hB5.frozen (p := ⟨tb, 0, none⟩) htl).trans hf0)
  have hc0 := (hB5.cell (p := ⟨tb, 0, none⟩) htl).trans ht0
  go_wp2
  go_ret
  refine ⟨rfl, World.cell?_setCell_same' _ _ _ ?_, fun B hB => ?_⟩
  · rw [hc0]; rfl
  · exact (hB5.mono (by omega)).setCell (p := ⟨tb, 0, none⟩) hB _
set_option maxHeartbeats 4000000 in
theorem sasW2 (s s2 : ByteArray) (e : Int) (tb : Nat) (o0 : Value) (w : World) (hgl : ErrT w) (ht0 : w.cell? ⟨tb, 0, none⟩ = some o0) (hf0 : w.frozen? ⟨tb, 0, none⟩ = false) :
    Calls Tryz.prog 87 #[.iface 144 (.agg #[.string s, .iface 144 (.agg #[.string s2, .iface 142 (.agg #[.int .i64 e])])]), .iface 146 (.pointer (some ⟨tb, 0, none⟩))] w fun ev w' => ev = .returned (.bool true) ∧ w'.cell? ⟨tb, 0, none⟩ = some (.int .i64 e) ∧ ∀ B, B ≤ tb → Below B w w' := by
  have hg : w.cell? ⟨0, 0, none⟩ = some (.iface 209 (.agg #[.pointer (some ⟨5, 103, none⟩)])) := hgl
  have h6 := @run_callFunc_extern Tryz.prog 111 _ (fun args => ReflectliteValue.unpack (args.getD 0 (.tuple #[]))) Tryz.func111 (by kernel_rfl) (by kernel_rfl) (by kernel_rfl) (by kernel_rfl)
  have h7 := @run_callFunc_extern Tryz.prog 112 _ (ReflectliteValue.methodAny (ReflectliteValue.valueError "reflectlite.Value.Type" 0) (fun t _ _ _ => ReflectliteType.toType t)) Tryz.func112 (by kernel_rfl) (by kernel_rfl) (by kernel_rfl) (by kernel_rfl)
  have h8 := @run_callFunc_extern Tryz.prog 113 _ (ReflectliteValue.method (ReflectliteValue.valueError "reflectlite.Value.IsNil" 0) ReflectliteValue.isNil) Tryz.func113 (by kernel_rfl) (by kernel_rfl) (by kernel_rfl) (by kernel_rfl)
  have h27 := @run_callFunc_extern Tryz.prog 197 _ (ReflectliteType.abiMethod fun t => do pure (.int .u8 (← Rtype.kind t))) Tryz.func197 (by kernel_rfl) (by kernel_rfl) (by kernel_rfl) (by kernel_rfl)
  have h37 := @run_callFunc_extern Tryz.prog 221 _ (ReflectliteType.method ReflectliteType.elem) Tryz.func221 (by kernel_rfl) (by kernel_rfl) (by kernel_rfl) (by kernel_rfl)
  have h38 := @run_callFunc_extern Tryz.prog 222 _ (ReflectliteType.relation "Implements" ReflectliteType.implements_) Tryz.func222 (by kernel_rfl) (by kernel_rfl) (by kernel_rfl) (by kernel_rfl)
  have h10 := @run_callFunc_extern Tryz.prog 131 _ ReflectliteType.typeOf Tryz.func131 (by kernel_rfl) (by kernel_rfl) (by kernel_rfl) (by kernel_rfl)
  have h35 := @run_callFunc_extern Tryz.prog 219 _ (ReflectliteType.relation "AssignableTo" ReflectliteType.assignableTo) Tryz.func219 (by kernel_rfl) (by kernel_rfl) (by kernel_rfl) (by kernel_rfl)
  have h11 := @run_callFunc_extern Tryz.prog 133 _ (ReflectliteValue.method (ReflectliteValue.valueError "reflectlite.Value.Elem" 0) ReflectliteValue.elem) Tryz.func133 (by kernel_rfl) (by kernel_rfl) (by kernel_rfl) (by kernel_rfl)
  have h12 := @run_callFunc_extern Tryz.prog 134 _ ReflectliteValue.set Tryz.func134 (by kernel_rfl) (by kernel_rfl) (by kernel_rfl) (by kernel_rfl)
  have tT := sfTypeOfG
  have tW := sfTypeOfS
  have mA := sfMethodAssignableTo
  have aT := sfAssignableG
  have aW := sfAssignableS
  have vW := sfValueOfS
  have f6 := sfValueOfP
  have f7 := sfTypeP
  have mK := sfMethodKind
  have mE := sfMethodElem
  have mI := sfMethodImplements
  have mU := sfMethodUnwrap
  have k27 := sfKindP
  have k25 := sfKindS
  have e27 := sfElemP
  have i25 := sfImplementsS
  have nA := sfNoAs
  have hU := sfHasUnwrap
  have n8 := sfIsNilP ⟨w.heap.size, 0, none⟩ ⟨tb, 0, none⟩ ((w.alloc (.cells #[.pointer (some ⟨tb, 0, none⟩)] 146)).alloc (.cells #[.pointer (some ⟨5, 146, none⟩), .pointer (some ⟨w.heap.size, 0, none⟩), .int .u64 150] 177)) (by simp)
  have hlt : 0 < w.heap.size := by
    rcases Nat.eq_zero_or_pos w.heap.size with h0 | h
    · simp [World.cell?, h0] at hg
    · exact h
  have hg2 : ((w.alloc (.cells #[.pointer (some ⟨tb, 0, none⟩)] 146)).alloc (.cells #[.pointer (some ⟨5, 146, none⟩), .pointer (some ⟨w.heap.size, 0, none⟩), .int .u64 150] 177)).cell? ⟨0, 0, none⟩ = some (.iface 209 (.agg #[.pointer (some ⟨5, 103, none⟩)])) := by
    rw [World.cell?_alloc_lt _ _ ⟨0, 0, none⟩ (by simp), World.cell?_alloc_lt _ _ ⟨0, 0, none⟩ hlt]; exact hg
  have htl : tb < w.heap.size := by
    rcases Nat.lt_or_ge tb w.heap.size with h | h
    · exact h
    · simp [World.cell?, Array.getElem?_eq_none h] at ht0
  go_enter Tryz.func87, Tryz.ntmps87
  go_wp2
  refine wp_loop_rounds 3 ?_
  rw [rounds_succ]
  go_wp2_with (go_at_call 205; refine (sUnwrapW _ _ _).mono ?_; rintro e w' ⟨rfl, rfl⟩)
  rw [rounds_succ]
  go_wp2_with (go_at_call 205; refine (sUnwrapW _ _ _).mono ?_; rintro e w' ⟨rfl, rfl⟩)
  rw [rounds_succ]
  have el := sfElemVP ⟨w.heap.size, 0, none⟩ ⟨tb, 0, none⟩ (((((w.alloc (.cells #[.pointer (some ⟨tb, 0, none⟩)] 146)).alloc (.cells #[.pointer (some ⟨5, 146, none⟩), .pointer (some ⟨w.heap.size, 0, none⟩), .int .u64 150] 177)).alloc (.cells #[.pointer (some ⟨5, 146, none⟩), .pointer (some ⟨w.heap.size, 0, none⟩), .int .u64 150] 177)).alloc (.cells #[.string s, .iface 144 (.agg #[.string s2, .iface 142 (.agg #[.int .i64 e])])] 144)).alloc (.cells #[.string s2, .iface 142 (.agg #[.int .i64 e])] 144))
    (by rw [World.cell?_alloc_lt _ _ ⟨w.heap.size, 0, none⟩ (by simp; omega), World.cell?_alloc_lt _ _ ⟨w.heap.size, 0, none⟩ (by simp; omega), World.cell?_alloc_lt _ _ ⟨w.heap.size, 0, none⟩ (by simp; omega)]; simp)
  have hB5 : Below w.heap.size w ((((((w.alloc (.cells #[.pointer (some ⟨tb, 0, none⟩)] 146)).alloc (.cells #[.pointer (some ⟨5, 146, none⟩), .pointer (some ⟨w.heap.size, 0, none⟩), .int .u64 150] 177)).alloc (.cells #[.pointer (some ⟨5, 146, none⟩), .pointer (some ⟨w.heap.size, 0, none⟩), .int .u64 150] 177)).alloc (.cells #[.string s, .iface 144 (.agg #[.string s2, .iface 142 (.agg #[.int .i64 e])])] 144)).alloc (.cells #[.string s2, .iface 142 (.agg #[.int .i64 e])] 144)).alloc (.cells #[.int .i64 e] 142)) := (((((((Below.refl _ w).alloc (Nat.le_refl _) _).alloc (by simp only [World.size_alloc]; omega) _).alloc (by simp only [World.size_alloc]; omega) _).alloc (by simp only [World.size_alloc]; omega) _).alloc (by simp only [World.size_alloc]; omega) _).alloc (by simp only [World.size_alloc]; omega) _)
  have st := sfSetS tb (w.heap.size + 1 + 1 + 1 + 1 + 1) e o0 ((((((w.alloc (.cells #[.pointer (some ⟨tb, 0, none⟩)] 146)).alloc (.cells #[.pointer (some ⟨5, 146, none⟩), .pointer (some ⟨w.heap.size, 0, none⟩), .int .u64 150] 177)).alloc (.cells #[.pointer (some ⟨5, 146, none⟩), .pointer (some ⟨w.heap.size, 0, none⟩), .int .u64 150] 177)).alloc (.cells #[.string s, .iface 144 (.agg #[.string s2, .iface 142 (.agg #[.int .i64 e])])] 144)).alloc (.cells #[.string s2, .iface 142 (.agg #[.int .i64 e])] 144)).alloc (.cells #[.int .i64 e] 142))
    (by rw [World.cell?_alloc_at _ _ _ _ (by simp)]; rfl)
    ((hB5.cell (p := ⟨tb, 0, none⟩) htl).trans ht0) ((hB5.frozen (p := ⟨tb, 0, none⟩) htl).trans hf0)
  have hc0 := (hB5.cell (p := ⟨tb, 0, none⟩) htl).trans ht0
  go_wp2
  go_ret
  refine ⟨rfl, World.cell?_setCell_same' _ _ _ ?_, fun B hB => ?_⟩
  · rw [hc0]; rfl
  · exact (hB5.mono (by omega)).setCell (p := ⟨tb, 0, none⟩) hB _
/-- An error with two words ahead. -/
def sErr2 (s s2 : ByteArray) (e : Int) : Value := .iface 144 (.agg #[.string s, sErr s2 e])
theorem sfoundW1 (s : ByteArray) (e : Int) (w : World) (hgl : ErrT w) :
    Calls Tryz.prog 52 #[sErr s e] w fun ev w' => ev = .returned (.int .i64 e) ∧ Below w.heap.size w w' := by
  have hlt : 0 < w.heap.size := by
    rcases Nat.eq_zero_or_pos w.heap.size with h0 | h
    · simp [ErrT, World.cell?, h0] at hgl
    · exact h
  have hg : ErrT (w.alloc (.cells #[.int .i64 0] 142)) := (World.cell?_alloc_lt _ _ ⟨0, 0, none⟩ hlt).trans hgl
  have ha := Lib.hid (sasW1 s e w.heap.size (.int .i64 0) _ hg (by simp) (by simp))
  unfold sErr
  go_enter Tryz.func52, Tryz.ntmps52
  go_wp2_with (go_at_call 87; refine ha.out.mono ?_; rintro ev w' ⟨rfl, hc, hb⟩)
  go_ret
  exact ⟨rfl, ((Below.refl _ _).alloc (Nat.le_refl _) _).trans (hb _ (Nat.le_refl _))⟩
theorem sfoundW2 (s s2 : ByteArray) (e : Int) (w : World) (hgl : ErrT w) :
    Calls Tryz.prog 52 #[sErr2 s s2 e] w fun ev w' => ev = .returned (.int .i64 e) ∧ Below w.heap.size w w' := by
  have hlt : 0 < w.heap.size := by
    rcases Nat.eq_zero_or_pos w.heap.size with h0 | h
    · simp [ErrT, World.cell?, h0] at hgl
    · exact h
  have hg : ErrT (w.alloc (.cells #[.int .i64 0] 142)) := (World.cell?_alloc_lt _ _ ⟨0, 0, none⟩ hlt).trans hgl
  have ha := Lib.hid (sasW2 s s2 e w.heap.size (.int .i64 0) _ hg (by simp) (by simp))
  unfold sErr2 sErr
  go_enter Tryz.func52, Tryz.ntmps52
  go_wp2_with (go_at_call 87; refine ha.out.mono ?_; rintro ev w' ⟨rfl, hc, hb⟩)
  go_ret
  exact ⟨rfl, ((Below.refl _ _).alloc (Nat.le_refl _) _).trans (hb _ (Nat.le_refl _))⟩
end Go.Proofs.YtilpbjcbffbjeaaGreatDoor
