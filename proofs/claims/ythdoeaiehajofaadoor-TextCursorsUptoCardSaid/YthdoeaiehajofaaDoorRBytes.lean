/- append of a string to loose bytes (the bytes of a []byte(s)). -/
import Derived.Test.YthdoeaiehajofaaDoorLoose
import Derived.Test.YthdoeaiehajofaaDoorStrs
import Derived.Lib.AppendStr
namespace Go.Proofs.YthdoeaiehajofaaDoor
set_option linter.unusedVariables false
open Go.RowKit
theorem nums_strCells (s : ByteArray) : nums .u8 (bs s) = Lib.strCells s := by simp [nums, Lib.strCells, bs]
theorem run_append_room_str {P : Program} (w : World) (t u ty : TypeId) (i : TypeInfo) (ht : P.underlying t = some (.slice 5)) (hu : P.underlying u = some .string) (hi : P.info? 5 = some i) (hs1 : i.size = 1)
    (b sLen sCap : Nat) (s : ByteArray) (hroom : sLen + s.size ≤ sCap) (hc : ∀ j, j < (Lib.strCells s).length → (w.cell? ⟨b, sLen + j, none⟩).isSome = true) (hf : ∀ j, j < (Lib.strCells s).length → w.frozen? ⟨b, sLen + j, none⟩ = false) :
    (Builtin.append_ #[t, u] ty #[.slice (some ⟨b, 0, none⟩) sLen sCap, .string s]).run P w = .ok (.slice (some ⟨b, 0, none⟩) (sLen + s.size) sCap) (w.setCells b sLen (Lib.strCells s)) := by
  have hfc := Lib.run_firstCells_string (P := P) w 1 s
  have hst := run_storeCells_cells (P := P) b sLen (Lib.strCells s) 0 w (by simpa using hc) (by simpa using hf) (Lib.strCells_oneCell s)
  simp only [Nat.add_zero] at hst
  simp [Builtin.append_, run_underlying ht, run_underlying hu, sizeOf, typeInfo, hi, hs1, Builtin.lenOf, hroom, hfc, Addr.add_lit, hst]
theorem wpList_append_loose_str {P : Program} {ops : Array Oper} {rest : List Oper} {o : Oper} {a : Act} {w : World} {Q : Exit → Act → World → Prop} {base : Nat} {v : Value} {l : List Nat}
    (hgd : o.guard = none) (sl x : Operand) (t u : TypeId) (ho : o.op = .call { callee := .builtin .append, args := #[sl, x], argTypes := #[t, u] })
    (ht : P.underlying t = some (.slice 5)) (hu : P.underlying u = some .string) (hi : (P.info? 5).map (fun i => (i.zero, i.size, i.bytes)) = some (some (.int .u8 0), 1, 1))
    (hs : a.eval sl = v) (hown : Loose w base v l) (s : ByteArray) (hx : a.eval x = .string s) (hsz : l.length + s.size ≤ 140737488355328) (hbase : base ≤ w.heap.size)
    (h : ∀ v' w', Loose w' base v' (l ++ bs s) → w.grownBy w' v.ownBlock → wpList P ops Q rest (a.put o.dst v') w') : wpList P ops Q (o :: rest) a w := by
  obtain ⟨i0, hi0, hz0, hz1, hz2⟩ := info_parts hi
  obtain ⟨g, cap, rfl, hl⟩ := hown
  have hlb : (bs s).length = s.size := length_bs s
  have hlc : (Lib.strCells s).length = s.size := by rw [← nums_strCells, length_nums, hlb]
  refine wpList_plain hgd fun K hK => ?_
  by_cases hr : l.length + s.size ≤ cap
  · have hin : ∀ j, j < (nums .u8 (bs s)).length → (w.cell? ⟨g, l.length + j, none⟩).isSome = true := fun j hj => hl.room _ (by rw [length_nums] at hj; omega)
    have hrun := run_append_room_str (P := P) w t u o.type i0 ht hu hi0 hz1 g l.length cap s hr (fun j hj => hl.room _ (by omega)) (fun j hj => hl.free _ (by omega))
    rw [← nums_strCells] at hrun
    have hgr := grownBy_setCells g (nums .u8 (bs s)) l.length w
    have hv := h (.slice (some ⟨g, 0, none⟩) (l ++ bs s).length cap) _ ⟨g, cap, rfl, hl.b, by rw [List.length_append]; omega, fun j hj => ?_, fun j hj => ?_, fun j hj => by rw [World.frozen?_setCells]; exact hl.free j hj, Nat.lt_of_lt_of_le hl.lt hgr.size⟩ hgr
    · rw [List.length_append, hlb] at hv
      unfold Oper.wp execOp
      simp only [ho, resolve, invoke, builtin, Sem.run_bind, Sem.run_pure, Result.andThen_ok, List.map_toArray, List.map_cons, List.map_nil, hs, hx, hrun]
      exact hK _ _ hv
    · rw [List.length_append] at hj
      by_cases h1 : j < l.length
      · rw [World.cell?_setCells_out g _ _ _ _ (fun _ _ => .inl (by show j < _; omega)), hl.cells j h1, List.getD_eq_getElem?_getD, List.getD_eq_getElem?_getD, List.getElem?_append_left h1]
      · have h2 : j = l.length + (j - l.length) := by omega
        have h3 : j - l.length < (nums .u8 (bs s)).length := by rw [length_nums]; omega
        have h4 := World.cell?_setCells_in g (nums .u8 (bs s)) l.length w hin (j - l.length) h3
        rw [← h2] at h4
        rw [h4, List.getD_eq_getElem?_getD, List.getElem?_append_right (by omega)]
        have h5 : j - l.length < (bs s).length := by omega
        simp [nums, h5]
    · by_cases h1 : j < l.length
      · rw [World.cell?_setCells_out g _ _ _ _ (fun _ _ => .inl (by show j < _; omega))]; exact hl.room j hj
      · by_cases h2 : j < l.length + (bs s).length
        · have e2 : j = l.length + (j - l.length) := by omega
          have h3 : j - l.length < (nums .u8 (bs s)).length := by rw [length_nums]; omega
          have h4 := World.cell?_setCells_in g (nums .u8 (bs s)) l.length w hin (j - l.length) h3
          rw [← e2] at h4
          rw [h4]; rfl
        · rw [World.cell?_setCells_out g _ _ _ _ (fun _ _ => .inr (by show _ ≤ j; rw [length_nums]; omega))]; exact hl.room j hj
  · have hrun := Lib.run_append_grow_string (P := P) w t u o.type 5 i0 (.int .u8 0) ht hu hi0 hz0 ⟨g, 0, none⟩ l.length cap (nums .u8 l) (by rw [hz1, length_nums, Nat.mul_one]) (fun j y hy => by
      have hj : j < l.length := by rw [← length_nums .u8 l]; exact (List.getElem?_eq_some_iff.1 hy).1
      rw [show (⟨g, 0, none⟩ : Addr).add j = ⟨g, j, none⟩ by unfold Addr.add; split <;> simp_all, hl.cells j hj, ← hy]; simp [nums, hj]) s (by omega) (by omega) (by rw [hz2]; exact growslice_fits (by omega) (by omega))
    have hge := grownCap_ge w (l.length + s.size) cap 5
    have hcm : grownCap w (l.length + s.size) cap 5 ≤ maxLen := grownCap_le_maxLen w (l.length + s.size) cap 5 (by unfold maxLen; omega)
    have hO : Owns (w.drew.alloc (.cells ((nums .u8 l).toArray ++ (Lib.strCells s).toArray ++ Builtin.zeroCells (Value.int .u8 0).cells (grownCap w (l.length + s.size) cap 5 - (l.length + s.size))) 5)) w.heap.size 5 (.slice (some ⟨w.heap.size, 0, none⟩) (l.length + s.size) (grownCap w (l.length + s.size) cap 5)) (l ++ bs s) := by
      unfold Owns
      rw [List.length_append, hlb]
      refine ⟨by rw [length_nums, List.length_append, hlb, Nat.mul_one], .inr ⟨w.heap.size, _, _, rfl, Nat.le_refl _, heap_alloc_new w.drew _, hge, hcm, ?_, ?_⟩⟩
      · simp only [Array.size_append, List.size_toArray, size_zeroCells, hlc, length_nums]
        show _ + _ + _ * 1 = _
        omega
      · have e : nums .u8 (l ++ bs s) = nums .u8 l ++ Lib.strCells s := by rw [← nums_strCells]; simp [nums]
        rw [e]
        simp [List.take_append, length_nums, hlc]
        rw [List.take_of_length_le (by rw [length_nums]; omega)]
    obtain ⟨g', cap', hv, h4⟩ := hO.loose (by rw [List.length_append]; omega)
    have hk := h _ _ ⟨g', cap', hv, ⟨Nat.le_trans hbase h4.b, h4.n, h4.cells, h4.room, h4.free, h4.lt⟩⟩ ⟨rfl, rfl, rfl, by simp, fun k hk _ => heap_lt (w := w.drew) hk⟩
    unfold Oper.wp execOp
    simp only [ho, resolve, invoke, builtin, Sem.run_bind, Sem.run_pure, Result.andThen_ok, List.map_toArray, List.map_cons, List.map_nil, hs, hx, hrun]
    exact hK _ _ hk
end Go.Proofs.YthdoeaiehajofaaDoor
