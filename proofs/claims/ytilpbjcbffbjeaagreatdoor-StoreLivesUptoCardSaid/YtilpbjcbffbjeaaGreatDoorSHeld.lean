/- What the law keeps of its tenants: a row of its own, made whole or appended to. -/
import Derived.Test.YtilpbjcbffbjeaaGreatDoorSLApart
namespace Go.Proofs.YtilpbjcbffbjeaaGreatDoor
set_option linter.unusedVariables false
set_option maxRecDepth 100000
open Go.RowKit
theorem infoHeld : (Tryz.prog.info? 87).map (fun i => (i.zero, i.size, i.bytes)) = some (some (.agg #[.int .i64 0, .string ⟨#[]⟩]), 2, 24) := by kernel_rfl
theorem makeHeld (u : World) (n : Nat) (hn : n ≤ 1000) : (Instr.makeSlice 85 (.int .i64 (n : Int)) (.int .i64 (n : Int))).run Tryz.prog u = .ok (.slice (some ⟨u.heap.size, 0, none⟩) n n) (u.alloc (.cells (madeCells #[.int .i64 0, .string ⟨#[]⟩] (n * 2)) 87)) := by
  obtain ⟨i0, hi0, hz0, hz1, hz2⟩ := info_parts infoHeld
  have h := run_make (P := Tryz.prog) u 85 87 i0 _ Tryz.underlying85 hi0 hz0 .i64 .i64 (n : Int) (n : Int) (by omega) (by omega) (by rw [hz2]; omega) (by omega)
  rw [hz1] at h
  simpa [Value.cells] using h
/-- A tenant's generation and text each. -/
structure Held (B : Nat) (w : World) (nb ten : Nat) (n : Nat → Nat) (tx : Nat → ByteArray) : Prop where
  blk : ∃ cv : Array Value, w.heap[nb]? = some (.cells cv 87 (0, 0)) ∧ ∀ t, t < ten → cv[t * 2]? = some (.int .i64 (n (t + 1) : Nat)) ∧ cv[t * 2 + 1]? = some (.string (tx (t + 1)))
  ge : B ≤ nb
section
variable {B nb ten t : Nat} {n : Nat → Nat} {tx : Nat → ByteArray} {w w' : World} {S : Nat → Prop}
theorem Held.lt (h : Held B w nb ten n tx) : nb < w.heap.size := by
  obtain ⟨cv, h1, _⟩ := h.blk
  exact (Array.getElem?_eq_some_iff.1 h1).1
theorem Held.free (h : Held B w nb ten n tx) (j : Nat) : w.frozen? ⟨nb, j, none⟩ = false := by
  obtain ⟨cv, h1, _⟩ := h.blk
  exact frozen_of_row w nb j _ _ h1
theorem Held.gen (h : Held B w nb ten n tx) (ht : t < ten) : w.cell? ⟨nb, t * 2, none⟩ = some (.int .i64 (n (t + 1) : Nat)) := by
  obtain ⟨cv, h1, h2⟩ := h.blk
  rw [cell_of_row w nb _ _ _ _ h1]
  exact (h2 t ht).1
theorem Held.text (h : Held B w nb ten n tx) (ht : t < ten) : w.cell? ⟨nb, t * 2 + 1, none⟩ = some (.string (tx (t + 1))) := by
  obtain ⟨cv, h1, h2⟩ := h.blk
  rw [cell_of_row w nb _ _ _ _ h1]
  exact (h2 t ht).2
theorem Held.keep (h : Held B w nb ten n tx) (hc : Chg S w w') (hn : ¬ S nb) : Held B w' nb ten n tx := by
  obtain ⟨cv, h1, h2⟩ := h.blk
  exact ⟨⟨cv, (hc.block nb h.lt hn).trans h1, h2⟩, h.ge⟩
theorem Held.below (h : Held B w nb ten n tx) (hb : Below w.heap.size w w') : Held B w' nb ten n tx := by
  obtain ⟨cv, h1, h2⟩ := h.blk
  exact ⟨⟨cv, (hb.block nb h.lt).trans h1, h2⟩, h.ge⟩
theorem Held.muts (h : Held B w nb ten n tx) : Muts (fun k => k = nb) w := by
  obtain ⟨cv, h1, h2⟩ := h.blk
  intro k _ hk cur T fr hh
  subst hk
  rw [h1] at hh
  injection hh with hh
  injection hh with _ hT _
  subst hT
  unfold Fix
  decide
theorem Held.set (h : Held B w nb ten n tx) (ht : t < ten) (m : Nat) (u : ByteArray) : Held B ((w.setCell ⟨nb, t * 2, none⟩ (.int .i64 (m : Nat))).setCell ⟨nb, t * 2 + 1, none⟩ (.string u)) nb ten (upd n (t + 1) m) (upd tx (t + 1) u) := by
  obtain ⟨cv, h1, h2⟩ := h.blk
  have e1 := setCell_blk w nb (t * 2) (.int .i64 (m : Nat)) h1
  have e2 := setCell_blk _ nb (t * 2 + 1) (.string u) e1
  refine ⟨⟨_, e2, fun k hk => ?_⟩, h.ge⟩
  have b1 := (Array.getElem?_eq_some_iff.1 (h2 t ht).1).1
  have b2 := (Array.getElem?_eq_some_iff.1 (h2 t ht).2).1
  by_cases hkt : k = t
  · subst hkt
    rw [upd_same, upd_same]
    refine ⟨?_, ?_⟩
    · rw [Array.getElem?_setIfInBounds_ne (by omega), Array.getElem?_setIfInBounds_self_of_lt b1]
    · rw [Array.getElem?_setIfInBounds_self_of_lt (by rw [Array.size_setIfInBounds]; exact b2)]
  · rw [upd_other n m (by omega), upd_other tx u (by omega)]
    refine ⟨?_, ?_⟩
    · rw [Array.getElem?_setIfInBounds_ne (by omega), Array.getElem?_setIfInBounds_ne (by omega)]; exact (h2 k hk).1
    · rw [Array.getElem?_setIfInBounds_ne (by omega), Array.getElem?_setIfInBounds_ne (by omega)]; exact (h2 k hk).2
theorem Held.made (u : World) (hB : B ≤ u.heap.size) (ten : Nat) {n : Nat → Nat} {tx : Nat → ByteArray} (hn : ∀ t, n (t + 1) = 0) (ht : ∀ t, tx (t + 1) = ⟨#[]⟩) : Held B (u.alloc (.cells (madeCells #[.int .i64 0, .string ⟨#[]⟩] (ten * 2)) 87)) u.heap.size ten n tx := by
  refine ⟨⟨_, heap_alloc_new u _, fun t h => ?_⟩, hB⟩
  rw [hn, ht]
  have m1 : t * 2 % 2 = 0 := by omega
  have m2 : (t * 2 + 1) % 2 = 1 := by omega
  refine ⟨?_, ?_⟩
  · rw [madeCells, Array.getElem?_map, Array.getElem?_range, if_pos (by omega)]
    simp [m1]
  · rw [madeCells, Array.getElem?_map, Array.getElem?_range, if_pos (by omega)]
    simp [m2]
end
end Go.Proofs.YtilpbjcbffbjeaaGreatDoor
