/- A slice of bytes that the call made, told by its cells alone: it may lie in a block that a conversion of a string made. No function of the program in sight. -/
import Derived.Test.YtamaefnlicloaaaDoorStrs
import Derived.ArgAppend
import Derived.Lib.ConvBytes
import Derived.Lib.SmallJoins
namespace Go.Proofs.YtamaefnlicloaaaDoor
open Go.RowKit
/-- v holds the bytes l, from the head of a block from base on, and may be written as far as its capacity. -/
structure LooseAt (w : World) (base g cap : Nat) (l : List Nat) : Prop where
  b : base ≤ g
  n : l.length ≤ cap
  cells : ∀ j, j < l.length → w.cell? ⟨g, j, none⟩ = some (.int .u8 (l.getD j 0 : Nat))
  room : ∀ j, j < cap → (w.cell? ⟨g, j, none⟩).isSome = true
  free : ∀ j, j < cap → w.frozen? ⟨g, j, none⟩ = false
  lt : g < w.heap.size
def Loose (w : World) (base : Nat) (v : Value) (l : List Nat) : Prop := ∃ g cap, v = .slice (some ⟨g, 0, none⟩) l.length cap ∧ LooseAt w base g cap l
section
variable {w w' : World} {base g cap : Nat} {v : Value} {l : List Nat}
theorem LooseAt.grown (h : LooseAt w base g cap l) {r : Option Nat} (hg : w.grownBy w' r) (hr : r ≠ some g) : LooseAt w' base g cap l := by
  have e := hg.block g h.lt (fun e => hr e.symm)
  have ec : ∀ j, w'.cell? ⟨g, j, none⟩ = w.cell? ⟨g, j, none⟩ := fun j => by unfold World.cell?; rw [e]
  have ef : ∀ j, w'.frozen? ⟨g, j, none⟩ = w.frozen? ⟨g, j, none⟩ := fun j => by unfold World.frozen?; rw [e]
  exact ⟨h.b, h.n, fun j hj => by rw [ec]; exact h.cells j hj, fun j hj => by rw [ec]; exact h.room j hj, fun j hj => by rw [ef]; exact h.free j hj, Nat.lt_of_lt_of_le h.lt hg.size⟩
theorem Loose.grown (h : Loose w base v l) {r : Option Nat} (hg : w.grownBy w' r) (hr : v.ownBlock ≠ r) : Loose w' base v l := by
  obtain ⟨g, cap, rfl, h⟩ := h
  exact ⟨g, cap, rfl, h.grown hg (fun e => hr e.symm)⟩
theorem Loose.below (h : Loose w base v l) (hb : Below w.heap.size w w') : Loose w' base v l := by
  obtain ⟨g, cap, rfl, h⟩ := h
  exact ⟨g, cap, rfl, h.grown (r := none) ⟨hb.os, hb.tape, hb.output, hb.size, fun k hk _ => hb.block k hk⟩ (by simp)⟩
theorem Loose.alloc (h : Loose w base v l) (o : Obj) : Loose (w.alloc o) base v l := h.below ((Below.refl _ _).alloc (Nat.le_refl _) o)
theorem Loose.block (h : Loose w base v l) {k : Nat} (hk : v.ownBlock = some k) : base ≤ k ∧ k < w.heap.size := by
  obtain ⟨g, cap, rfl, h⟩ := h
  simp only [Value.ownBlock, Option.some.injEq] at hk
  subst hk
  exact ⟨h.b, h.lt⟩
theorem Owns.loose (h : Owns w base 5 v l) (h0 : 0 < l.length) : Loose w base v l := by
  rcases h.2 with ⟨_, hn⟩ | ⟨g, cap, cur, rfl, hb, hg, hnc, hcm, hcs, htake⟩
  · omega
  · have hc : ∀ j, w.cell? ⟨g, j, none⟩ = cur[j]? := fun j => cell_of_row w g j cur 5 _ hg
    refine ⟨g, cap, rfl, hb, hnc, fun j hj => ?_, fun j hj => ?_, fun j hj => frozen_of_row w g j cur 5 hg, (Array.getElem?_eq_some_iff.1 hg).1⟩
    · have h1 := World.ownsRow.cellAt (w := w) (base := base) (e := 5) (size := 1) (g := g) (cap := cap) (n := l.length) (xs := nums .u8 l) h j (by omega)
      rw [h1]
      simp [nums, hj]
    · rw [hc, Array.getElem?_eq_getElem (by omega)]; rfl
/-- []byte(s). -/
theorem loose_bytes (w : World) (s : ByteArray) : Loose (Lib.bytesWorld w 5 s) w.heap.size (.slice (some ⟨w.heap.size, 0, none⟩) s.size (grownCap w s.size 0 5)) (bs s) := by
  have hge := grownCap_ge w s.size 0 5
  have hsz : (Lib.bytesCells w 5 s).size = grownCap w s.size 0 5 := by
    simp only [Lib.bytesCells, Array.size_append, Array.size_map, Array.size_replicate]
    have : s.data.size = s.size := rfl
    omega
  have hat := Lib.bytesWorld_at_new w 5 s
  refine ⟨_, _, by rw [length_bs], Nat.le_refl _, by rw [length_bs]; exact hge, fun j hj => ?_, fun j hj => ?_, fun j hj => ?_, by rw [Lib.bytesWorld_size]; omega⟩
  · rw [length_bs] at hj
    rw [Lib.bytesWorld_cell w 5 s j hj]
    have : j < s.data.size := hj
    have e : s.data[j]? = some s.data[j] := Array.getElem?_eq_getElem this
    simp [bs, List.getD_eq_getElem?_getD, e]
  · rw [cell_of_row _ _ j _ 5 _ hat, Array.getElem?_eq_getElem (by omega)]; rfl
  · unfold World.frozen?
    rw [hat]
    simp
    omega
end
theorem grownBy_setCells (g : Nat) : ∀ (vs : List Value) (o : Nat) (w : World), w.grownBy (w.setCells g o vs) (some g)
  | [], _, w => ⟨rfl, rfl, rfl, Nat.le_refl _, fun _ _ _ => rfl⟩
  | v :: r, o, w => by
    have h := grownBy_setCells g r (o + 1) (w.setCell ⟨g, o, none⟩ v)
    have hs : (w.setCell ⟨g, o, none⟩ v).heap.size = w.heap.size := by simp [World.setCell]
    refine ⟨h.os, h.tape, h.output, by have := h.size; rw [hs] at this; exact this, fun k hk hne => ?_⟩
    exact (h.block k (by omega) hne).trans (heap_setCell_other w _ k v (fun e => hne (by rw [e])))
/-- append of bytes, to bytes. -/
theorem wpList_append_loose {P : Program} {ops : Array Oper} {rest : List Oper} {o : Oper} {a : Act} {w : World} {Q : Exit → Act → World → Prop} {base : Nat} {v : Value} {l : List Nat}
    (hgd : o.guard = none) (s x : Operand) (t : TypeId) (ho : o.op = .call { callee := .builtin .append, args := #[s, x], argTypes := #[t, t] })
    (ht : P.underlying t = some (.slice 5)) (hi : (P.info? 5).map (fun i => (i.zero, i.size, i.bytes)) = some (some (.int .u8 0), 1, 1))
    (hs : a.eval s = v) (hown : Loose w base v l) (ad : Addr) (m c : Nat) (news : List Nat) (hx : a.eval x = .slice (some ad) m c) (hm : news.length = m) (hm0 : 0 < m)
    (hnews : ∀ j, j < m → w.cell? (ad.add j) = some (.int .u8 (news.getD j 0 : Nat))) (hsz : l.length + m ≤ 140737488355328) (hbase : base ≤ w.heap.size)
    (h : ∀ v' w', Loose w' base v' (l ++ news) → w.grownBy w' v.ownBlock → (v'.ownBlock = v.ownBlock ∨ ∃ k, v'.ownBlock = some k ∧ w.heap.size ≤ k) → wpList P ops Q rest (a.put o.dst v') w') : wpList P ops Q (o :: rest) a w := by
  obtain ⟨i0, hi0, hz0, hz1, hz2⟩ := info_parts hi
  obtain ⟨g, cap, rfl, hl⟩ := hown
  have hoc : ∀ (l : List Nat) (b : Nat), (∀ j, j < l.length → w.cell? ⟨g, b + j, none⟩ = some (.int .u8 (l.getD j 0 : Nat))) → ∀ j u, (nums .u8 l)[j]? = some u → w.cell? ⟨g, b + j, none⟩ = some u := by
    intro l b hc j u hu
    have hj : j < l.length := by rw [← length_nums .u8 l]; exact (List.getElem?_eq_some_iff.1 hu).1
    rw [hc j hj, ← hu]; simp [nums, hj]
  refine wpList_append_arg w hgd s x t ho 5 i0 (.int .u8 0) 1 1 ht hi0 hz0 hz1 hz2 rfl (by decide) g 0 l.length cap (nums .u8 l) hs (by rw [length_nums]; omega) (hoc l 0 (fun j hj => by rw [Nat.zero_add]; exact hl.cells j hj)) ad m c (nums .u8 news) hx (by rw [length_nums]; omega)
    (fun j u hu => by
      have hj : j < news.length := by rw [← length_nums .u8 news]; exact (List.getElem?_eq_some_iff.1 hu).1
      rw [hnews j (by omega), ← hu]; simp [nums, hj]) (oneCell_nums .u8 news) (fun hr j hj => by
      rw [length_nums] at hj
      exact ⟨hl.room _ (by omega), hl.free _ (by omega)⟩) (by unfold maxLen; omega) (by omega) (fun hr => ?_) (fun hg v' w' h1 h2 => ?_)
  · have hin : ∀ j, j < (nums .u8 news).length → (w.cell? ⟨g, (0 + l.length * 1) + j, none⟩).isSome = true := fun j hj => hl.room _ (by rw [length_nums] at hj; omega)
    have hgr := grownBy_setCells g (nums .u8 news) (0 + l.length * 1) w
    have hv := h (.slice (some ⟨g, 0, none⟩) (l ++ news).length cap) _ ⟨g, cap, rfl, hl.b, by rw [List.length_append]; omega, fun j hj => ?_, fun j hj => ?_, fun j hj => by rw [World.frozen?_setCells]; exact hl.free j hj, Nat.lt_of_lt_of_le hl.lt hgr.size⟩ hgr (.inl rfl)
    · rw [List.length_append, hm] at hv
      exact hv
    · rw [List.length_append] at hj
      by_cases h1 : j < l.length
      · rw [World.cell?_setCells_out g _ _ _ _ (fun _ _ => .inl (by show j < _; omega)), hl.cells j h1, List.getD_eq_getElem?_getD, List.getD_eq_getElem?_getD, List.getElem?_append_left h1]
      · have h2 : j = (0 + l.length * 1) + (j - l.length) := by omega
        have h3 : j - l.length < (nums .u8 news).length := by rw [length_nums]; omega
        have h4 := World.cell?_setCells_in g (nums .u8 news) (0 + l.length * 1) w hin (j - l.length) h3
        rw [← h2] at h4
        rw [h4, List.getD_eq_getElem?_getD, List.getElem?_append_right (by omega)]
        have h5 : j - l.length < news.length := by omega
        simp [nums, h5]
    · by_cases h1 : j < l.length
      · rw [World.cell?_setCells_out g _ _ _ _ (fun _ _ => .inl (by show j < _; omega))]; exact hl.room j hj
      · by_cases h2 : j < l.length + news.length
        · have e2 : j = (0 + l.length * 1) + (j - l.length) := by omega
          have h3 : j - l.length < (nums .u8 news).length := by rw [length_nums]; omega
          have h4 := World.cell?_setCells_in g (nums .u8 news) (0 + l.length * 1) w hin (j - l.length) h3
          rw [← e2] at h4
          rw [h4]; rfl
        · rw [World.cell?_setCells_out g _ _ _ _ (fun _ _ => .inr (by show _ ≤ j; rw [length_nums]; omega))]; exact hl.room j hj
  · refine h v' w' ?_ ⟨h2.os, h2.tape, h2.output, h2.size, fun k hk _ => h2.block k hk (by simp)⟩ ?_
    · have h3 : Owns w' w.heap.size 5 v' (l ++ news) := by
        unfold Owns
        rw [List.length_append, hm]
        have : nums .u8 (l ++ news) = nums .u8 l ++ nums .u8 news := by simp [nums]
        rw [this]; exact h1
      obtain ⟨g', cap', rfl, h4⟩ := h3.loose (by rw [List.length_append]; omega)
      exact ⟨g', cap', rfl, ⟨Nat.le_trans hbase h4.b, h4.n, h4.cells, h4.room, h4.free, h4.lt⟩⟩
    · obtain ⟨k, hk⟩ : ∃ k, v'.ownBlock = some k := by
        rcases h1.2 with ⟨_, hn⟩ | ⟨g', cap', cur, rfl, _⟩
        · omega
        · exact ⟨g', rfl⟩
      exact .inr ⟨k, hk, (World.ownsRow.lt h1 k hk).1⟩
/-- []byte(s), at the operation. -/
theorem wpList_string_bytes {P : Program} {ops : Array Oper} {rest : List Oper} {o : Oper} {a : Act} {w : World} {Q : Exit → Act → World → Prop} (hgd : o.guard = none) (src dst : TypeId) (x : Operand) (ho : o.op = .convert src dst x)
    (hs : P.underlying src = some .string) (hd : P.underlying dst = some (.slice 5)) (he : P.underlying 5 = some (.int .u8)) (s : ByteArray) (hx : a.eval x = .string s)
    (h : ∀ v' w', Loose w' w.heap.size v' (bs s) → Below w.heap.size w w' → wpList P ops Q rest (a.put o.dst v') w') : wpList P ops Q (o :: rest) a w := by
  refine wpList_run hgd _ _ ?_ (h _ _ (loose_bytes w s) (Go.Joins.below_bytesWorld w.heap.size w 5 s (Nat.le_refl _)))
  unfold execOp
  simp only [ho, hx, Sem.run_bind, Lib.run_convert_string_bytes (P := P) w src dst 5 s hs hd he, Result.andThen_ok, Sem.run_pure]
end Go.Proofs.YtamaefnlicloaaaDoor
