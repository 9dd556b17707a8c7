/- The audit's told: errors.As into a fault, the walk. -/
import Derived.Test.YtilpbjcbffbjeaaGreatDoorATold
namespace Go.Proofs.YtilpbjcbffbjeaaGreatDoor
set_option linter.unusedVariables false
set_option maxRecDepth 100000
open Go.RowKit Go.Extern.Stop Go.Stop Go.Extern
theorem asRls (v x : Value) : ReflectliteValue.set #[v, x] = (do
    let (some (dst, a, fl), some (src, b, _)) := (← ReflectliteValue.parts v, ← ReflectliteValue.parts x)
      | unsupported (.noEntry "extern/(internal/reflectlite.Value).Set.zeroValue")
    if fl / ReflectliteValue.flagAddr % 2 == 0 then unsupported (.noEntry "extern/(internal/reflectlite.Value).Set.unaddressable")
    let val ← loadVar src b
    if ← Rtype.directlyAssignable dst src then storeVar dst a val
    else if ← Rtype.implements dst src then
      if (← Rtype.kind src) == 20 then
        match val with
        | .nilIface => unsupported (.noEntry "extern/reflectlite: a nil value of one interface type handed on as a value of another")
        | _ => storeVar dst a val
      else storeVar dst a (.iface src val)
    else panicString ("reflectlite.Set: value of type " ++ (← Rtype.spelt src) ++ " is not assignable to type " ++ (← Rtype.spelt dst))
    pure (.tuple #[])) := rfl
theorem asLoadS (bb : Nat) (x y : Int) (W : World) (h0 : W.cell? ⟨bb, 0, none⟩ = some (.int .i64 x)) (h1 : W.cell? ⟨bb, 1, none⟩ = some (.int .i64 y)) :
    (loadVar 151 ⟨bb, 0, none⟩).run Tryz.prog W = .ok (.agg #[.int .i64 x, .int .i64 y]) W := by
  simp [loadVar, isAgg, underlying, Tryz.underlying151, Result.andThen, loadCells, loadCellsFrom, Addr.add, run_load, h0, h1]
theorem asStoreS (tb : Nat) (x y : Int) (o0 o1 : Value) (W : World) (h0 : W.cell? ⟨tb, 0, none⟩ = some o0) (h1 : W.cell? ⟨tb, 1, none⟩ = some o1) (f0 : W.frozen? ⟨tb, 0, none⟩ = false) (f1 : W.frozen? ⟨tb, 1, none⟩ = false) :
    (storeVar 151 ⟨tb, 0, none⟩ (.agg #[.int .i64 x, .int .i64 y])).run Tryz.prog W = .ok () ((W.setCell ⟨tb, 0, none⟩ (.int .i64 x)).setCell ⟨tb, 1, none⟩ (.int .i64 y)) := by
  have h1' : (W.setCell ⟨tb, 0, none⟩ (.int .i64 x)).cell? ⟨tb, 1, none⟩ = some o1 := (World.cell?_setCell_other _ _ _ _ (by simp)).trans h1
  have f1' : (W.setCell ⟨tb, 0, none⟩ (.int .i64 x)).frozen? ⟨tb, 1, none⟩ = false := by rw [World.frozen?_setCell]; exact f1
  simp [storeVar, Value.cells, storeCells, Addr.add]
  rw [run_store Tryz.prog W _ _ _ (by rfl)]
  simp only [h0, f0, Result.andThen, Bool.false_eq_true, if_false]
  rw [run_store Tryz.prog _ _ _ _ (by rfl)]
  simp only [h1', f1', Bool.false_eq_true, if_false]
theorem asSetS (tb bb : Nat) (x y : Int) (o0 o1 : Value) (W : World) (hb0 : W.cell? ⟨bb, 0, none⟩ = some (.int .i64 x)) (hb1 : W.cell? ⟨bb, 1, none⟩ = some (.int .i64 y)) (h0 : W.cell? ⟨tb, 0, none⟩ = some o0) (h1 : W.cell? ⟨tb, 1, none⟩ = some o1) (f0 : W.frozen? ⟨tb, 0, none⟩ = false) (f1 : W.frozen? ⟨tb, 1, none⟩ = false) :
    (ReflectliteValue.set #[.agg #[.pointer (some ⟨5, 151, none⟩), .pointer (some ⟨tb, 0, none⟩), .int .u64 409], .agg #[.pointer (some ⟨5, 151, none⟩), .pointer (some ⟨bb, 0, none⟩), .int .u64 153]]).run Tryz.prog W
      = .ok (.tuple #[]) ((W.setCell ⟨tb, 0, none⟩ (.int .i64 x)).setCell ⟨tb, 1, none⟩ (.int .i64 y)) := by
  rw [asRls]
  simp only [Sem.run_bind, asPartsSa, asPartsS, Result.andThen]
  simp [ReflectliteValue.flagAddr, asLoadS bb x y W hb0 hb1, Result.andThen, asDirectS, asStoreS tb x y o0 o1 W h0 h1 f0 f1]
/-- The variable errors.errorType. -/
def ErrT (w : World) : Prop := w.cell? ⟨0, 0, none⟩ = some (.iface 209 (.agg #[.pointer (some ⟨5, 103, none⟩)]))
set_option maxHeartbeats 4000000 in
/-- errors.As at an error of this package: the inner one is told. -/
theorem asW (s : ByteArray) (i : Nat) (e : Int) (tb : Nat) (o0 o1 : Value) (w : World) (hgl : ErrT w) (ht0 : w.cell? ⟨tb, 0, none⟩ = some o0) (ht1 : w.cell? ⟨tb, 1, none⟩ = some o1) (hf0 : w.frozen? ⟨tb, 0, none⟩ = false) (hf1 : w.frozen? ⟨tb, 1, none⟩ = false) :
    Calls Tryz.prog 87 #[errV s i e, .iface 154 (.pointer (some ⟨tb, 0, none⟩))] w fun ev w' => ev = .returned (.bool true) ∧ w'.cell? ⟨tb, 1, none⟩ = some (.int .i64 e) ∧ ∀ B, B ≤ tb → Below B w w' := by
  have hg : w.cell? ⟨0, 0, none⟩ = some (.iface 209 (.agg #[.pointer (some ⟨5, 103, none⟩)])) := hgl
  have h6 := @run_callFunc_extern Tryz.prog 111 _ (fun args => ReflectliteValue.unpack (args.getD 0 (.tuple #[]))) Tryz.func111 (by kernel_rfl) (by kernel_rfl) (by kernel_rfl) (by kernel_rfl)
  have h7 := @run_callFunc_extern Tryz.prog 112 _ (ReflectliteValue.methodAny (ReflectliteValue.valueError "reflectlite.Value.Type" 0) (fun t _ _ _ => ReflectliteType.toType t)) Tryz.func112 (by kernel_rfl) (by kernel_rfl) (by kernel_rfl) (by kernel_rfl)
  have h8 := @run_callFunc_extern Tryz.prog 113 _ (ReflectliteValue.method (ReflectliteValue.valueError "reflectlite.Value.IsNil" 0) ReflectliteValue.isNil) Tryz.func113 (by kernel_rfl) (by kernel_rfl) (by kernel_rfl) (by kernel_rfl)
  have h27 := @run_callFunc_extern Tryz.prog 197 _ (ReflectliteType.abiMethod fun t => do pure (.int .u8 (← Rtype.kind t))) Tryz.func197 (by kernel_rfl) (by kernel_rfl) (by kernel_rfl) (by kernel_rfl)
  have h37 := @run_callFunc_extern Tryz.prog 221 _ (ReflectliteType.method ReflectliteType.elem) Tryz.func221 (by kernel_rfl) (by kernel_rfl) (by kernel_rfl) (by kernel_rfl)
  have h38 := @run_callFunc_extern Tryz.prog 222 _ (ReflectliteType.relation "Implements" ReflectliteType.implements_) Tryz.func222 (by kernel_rfl) (by kernel_rfl) (by kernel_rfl) (by kernel_rfl)
  have h10 := @run_callFunc_extern Tryz.prog 131 _ ReflectliteType.typeOf Tryz.func131 (by kernel_rfl) (by kernel_rfl) (by kernel_rfl) (by kernel_rfl)
  have h35 := @run_callFunc_extern Tryz.prog 219 _ (ReflectliteType.relation "AssignableTo" ReflectliteType.assignableTo) Tryz.func219 (by kernel_rfl) (by kernel_rfl) (by kernel_rfl) (by kernel_rfl)
  have h11 := @run_callFunc_extern Tryz.prog 133 _ (ReflectliteValue.method (ReflectliteValue.valueError "reflectlite.Value.Elem" 0) ReflectliteValue.elem) Tryz.func133 (by kernel_rfl) (by kernel_rfl) (by kernel_rfl) (by kernel_rfl)
  have h12 := @run_callFunc_extern Tryz.prog 134 _ ReflectliteValue.set Tryz.func134 (by kernel_rfl) (by kernel_rfl) (by kernel_rfl) (by kernel_rfl)
  have tT := asTypeOfG
  have tW := asTypeOfS
  have mA := asMethodAssignableTo
  have aT := asAssignableG
  have aW := asAssignableS
  have vW := asValueOfS
  have f6 := asValueOfP
  have f7 := asTypeP
  have mK := asMethodKind
  have mE := asMethodElem
  have mI := asMethodImplements
  have mU := asMethodUnwrap
  have k27 := asKindP
  have k25 := asKindS
  have e27 := asElemP
  have i25 := asImplementsS
  have nA := asNoAs
  have hU := asHasUnwrap
  have n8 := asIsNilP ⟨w.heap.size, 0, none⟩ ⟨tb, 0, none⟩ ((w.alloc (.cells #[.pointer (some ⟨tb, 0, none⟩)] 154)).alloc (.cells #[.pointer (some ⟨5, 154, none⟩), .pointer (some ⟨w.heap.size, 0, none⟩), .int .u64 150] 177)) (by simp)
  have hlt : 0 < w.heap.size := by
    rcases Nat.eq_zero_or_pos w.heap.size with h0 | h
    · simp [World.cell?, h0] at hg
    · exact h
  have hg2 : ((w.alloc (.cells #[.pointer (some ⟨tb, 0, none⟩)] 154)).alloc (.cells #[.pointer (some ⟨5, 154, none⟩), .pointer (some ⟨w.heap.size, 0, none⟩), .int .u64 150] 177)).cell? ⟨0, 0, none⟩ = some (.iface 209 (.agg #[.pointer (some ⟨5, 103, none⟩)])) := by
    rw [World.cell?_alloc_lt _ _ ⟨0, 0, none⟩ (by simp), World.cell?_alloc_lt _ _ ⟨0, 0, none⟩ hlt]; exact hg
  have htl : tb < w.heap.size := by
    rcases Nat.lt_or_ge tb w.heap.size with h | h
    · exact h
    · simp [World.cell?, Array.getElem?_eq_none h] at ht0
  unfold errV
  go_enter Tryz.func87, Tryz.ntmps87
  go_wp2
  refine wp_loop_rounds 2 ?_
  rw [rounds_succ]
  go_wp2_with (go_at_call 208; refine (awUnwrapW _ _ _).mono ?_; rintro e w' ⟨rfl, rfl⟩)
  rw [rounds_succ]
  have el := asElemVP ⟨w.heap.size, 0, none⟩ ⟨tb, 0, none⟩ ((((w.alloc (.cells #[.pointer (some ⟨tb, 0, none⟩)] 154)).alloc (.cells #[.pointer (some ⟨5, 154, none⟩), .pointer (some ⟨w.heap.size, 0, none⟩), .int .u64 150] 177)).alloc (.cells #[.pointer (some ⟨5, 154, none⟩), .pointer (some ⟨w.heap.size, 0, none⟩), .int .u64 150] 177)).alloc (.cells #[.string s, .iface 151 (.agg #[.int .i64 (i : Nat), .int .i64 e])] 153))
    (by rw [World.cell?_alloc_lt _ _ ⟨w.heap.size, 0, none⟩ (by simp; omega), World.cell?_alloc_lt _ _ ⟨w.heap.size, 0, none⟩ (by simp; omega)]; simp)
  have hB5 : Below w.heap.size w (((((w.alloc (.cells #[.pointer (some ⟨tb, 0, none⟩)] 154)).alloc (.cells #[.pointer (some ⟨5, 154, none⟩), .pointer (some ⟨w.heap.size, 0, none⟩), .int .u64 150] 177)).alloc (.cells #[.pointer (some ⟨5, 154, none⟩), .pointer (some ⟨w.heap.size, 0, none⟩), .int .u64 150] 177)).alloc (.cells #[.string s, .iface 151 (.agg #[.int .i64 (i : Nat), .int .i64 e])] 153)).alloc (.cells #[.int .i64 (i : Nat), .int .i64 e] 151)) := (((((Below.refl _ w).alloc (Nat.le_refl _) _).alloc (by simp) _).alloc (by simp only [World.size_alloc]; omega) _).alloc (by simp only [World.size_alloc]; omega) _).alloc (by simp only [World.size_alloc]; omega) _
  have st := asSetS tb (w.heap.size + 1 + 1 + 1 + 1) (i : Nat) e o0 o1 (((((w.alloc (.cells #[.pointer (some ⟨tb, 0, none⟩)] 154)).alloc (.cells #[.pointer (some ⟨5, 154, none⟩), .pointer (some ⟨w.heap.size, 0, none⟩), .int .u64 150] 177)).alloc (.cells #[.pointer (some ⟨5, 154, none⟩), .pointer (some ⟨w.heap.size, 0, none⟩), .int .u64 150] 177)).alloc (.cells #[.string s, .iface 151 (.agg #[.int .i64 (i : Nat), .int .i64 e])] 153)).alloc (.cells #[.int .i64 (i : Nat), .int .i64 e] 151))
    (by rw [World.cell?_alloc_at _ _ _ _ (by simp)]; rfl) (by rw [World.cell?_alloc_at _ _ _ _ (by simp)]; rfl)
    ((hB5.cell (p := ⟨tb, 0, none⟩) htl).trans ht0) ((hB5.cell (p := ⟨tb, 1, none⟩) htl).trans ht1) ((hB5.frozen (p := ⟨tb, 0, none⟩) htl).trans hf0) ((hB5.frozen (p := ⟨tb, 1, none⟩) htl).trans hf1)
  have hc1 := (hB5.cell (p := ⟨tb, 1, none⟩) htl).trans ht1
  go_wp2
  go_ret
  refine ⟨rfl, World.cell?_setCell_same' _ _ _ ?_, fun B hB => ?_⟩
  · have hcc := (World.cell?_setCell_other _ ⟨tb, 0, none⟩ ⟨tb, 1, none⟩ (.int .i64 (i : Nat)) (by simp)).trans hc1
    rw [hcc]; rfl
  · exact ((hB5.mono (by omega)).setCell (p := ⟨tb, 0, none⟩) hB _).setCell (p := ⟨tb, 1, none⟩) hB _

/-- told: what is wrong within. -/
theorem atoldW (s : ByteArray) (i : Nat) (e : Int) (w : World) (hgl : ErrT w) :
    Calls Tryz.prog 55 #[errV s i e] w fun ev w' => ev = .returned (.int .i64 e) ∧ Below w.heap.size w w' := by
  have hlt : 0 < w.heap.size := by
    rcases Nat.eq_zero_or_pos w.heap.size with h0 | h
    · simp [ErrT, World.cell?, h0] at hgl
    · exact h
  have hg : ErrT (w.alloc (.cells #[.int .i64 0, .int .i64 0] 151)) := (World.cell?_alloc_lt _ _ ⟨0, 0, none⟩ hlt).trans hgl
  have ha := Lib.hid (asW s i e w.heap.size (.int .i64 0) (.int .i64 0) _ hg (by simp) (by simp) (by simp) (by simp))
  go_enter Tryz.func55, Tryz.ntmps55
  go_wp2_with (go_at_call 87; refine ha.out.mono ?_; rintro ev w' ⟨rfl, hc, hb⟩)
  go_ret
  exact ⟨rfl, ((Below.refl _ _).alloc (Nat.le_refl _) _).trans (hb _ (Nat.le_refl _))⟩
theorem atoldNil (w : World) : Calls Tryz.prog 55 #[.nilIface] w fun ev w' => ev = .returned (.int .i64 0) ∧ Below w.heap.size w w' := by
  have ha := Lib.hid (fun t w => asNil t w)
  go_enter Tryz.func55, Tryz.ntmps55
  go_wp2_with (go_at_call 87; refine (ha.out _ _).mono ?_; rintro ev w' ⟨rfl, rfl⟩)
  go_ret
  exact ⟨rfl, (Below.refl _ _).alloc (Nat.le_refl _) _⟩
end Go.Proofs.YtilpbjcbffbjeaaGreatDoor
