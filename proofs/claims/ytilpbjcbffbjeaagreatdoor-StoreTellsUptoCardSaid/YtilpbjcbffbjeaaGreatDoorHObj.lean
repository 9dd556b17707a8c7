/- The object Hash in memory: its kind's numbers, the two states, the block under way, how many bytes were written. No function of the program in sight. -/
import Derived.Test.YtilpbjcbffbjeaaGreatDoorHState
import Derived.Test.YtilpbjcbffbjeaaGreatDoorPkA
import Derived.Lib.Strings
namespace Go.Proofs.YtilpbjcbffbjeaaGreatDoor
set_option linter.unusedVariables false
open Go.RowKit
def kc32 : List Value := [.int .i64 32, .int .i64 7, .int .i64 18, .int .i64 3, .int .i64 17, .int .i64 19, .int .i64 10, .int .i64 6, .int .i64 11, .int .i64 25, .int .i64 2, .int .i64 13, .int .i64 22, .int .i64 64, .int .i64 32, .int .i64 8]
def kc64 : List Value := [.int .i64 64, .int .i64 1, .int .i64 8, .int .i64 7, .int .i64 19, .int .i64 61, .int .i64 6, .int .i64 14, .int .i64 18, .int .i64 41, .int .i64 28, .int .i64 34, .int .i64 39, .int .i64 128, .int .i64 48, .int .i64 16]
def hcells (ks : List Value) (v32 v64 blk : Nat → Nat) (size : Nat) : List Value := ks ++ (rowOf .u32 8 v32 ++ (rowOf .u64 8 v64 ++ (rowOf .u8 128 blk ++ [.int .i64 (size : Int)])))
structure HBlk (w : World) (B : Nat) (ks : List Value) (v32 v64 blk : Nat → Nat) (size : Nat) : Prop where
  len : ks.length = 16
  one : ∀ v ∈ ks, v.oneCell' = true
  at_ : w.heap[B]? = some (.cells (hcells ks v32 v64 blk size).toArray 249 (0, 0))
section
variable {w w' : World} {B : Nat} {ks : List Value} {v32 v64 blk : Nat → Nat} {size : Nat}
theorem length_hcells (hl : ks.length = 16) : (hcells ks v32 v64 blk size).length = 161 := by simp [hcells, length_rowOf, hl]
theorem hc_k (hl : ks.length = 16) {j : Nat} (hj : j < 16) : (hcells ks v32 v64 blk size)[j]? = ks[j]? := by
  unfold hcells; rw [List.getElem?_append_left (by omega)]
theorem hc_32 (hl : ks.length = 16) {j : Nat} (hj : j < 8) : (hcells ks v32 v64 blk size)[16 + j]? = some (.int .u32 (v32 j : Nat)) := by
  unfold hcells
  rw [List.getElem?_append_right (by omega), hl, Nat.add_sub_cancel_left, List.getElem?_append_left (by rw [length_rowOf]; omega), getElem?_rowOf _ _ _ _ hj]
theorem hc_64 (hl : ks.length = 16) {j : Nat} (hj : j < 8) : (hcells ks v32 v64 blk size)[24 + j]? = some (.int .u64 (v64 j : Nat)) := by
  unfold hcells
  rw [List.getElem?_append_right (by omega), List.getElem?_append_right (by rw [length_rowOf]; omega), length_rowOf, hl, show 24 + j - 16 - 8 = j by omega, List.getElem?_append_left (by rw [length_rowOf]; omega), getElem?_rowOf _ _ _ _ hj]
theorem hc_b (hl : ks.length = 16) {j : Nat} (hj : j < 128) : (hcells ks v32 v64 blk size)[32 + j]? = some (.int .u8 (blk j : Nat)) := by
  unfold hcells
  rw [List.getElem?_append_right (by omega), List.getElem?_append_right (by rw [length_rowOf]; omega), List.getElem?_append_right (by rw [length_rowOf, length_rowOf]; omega), length_rowOf, length_rowOf, hl, show 32 + j - 16 - 8 - 8 = j by omega,
    List.getElem?_append_left (by rw [length_rowOf]; omega), getElem?_rowOf _ _ _ _ hj]
theorem hc_s (hl : ks.length = 16) : (hcells ks v32 v64 blk size)[160]? = some (.int .i64 (size : Nat)) := by
  unfold hcells
  rw [List.getElem?_append_right (by omega), List.getElem?_append_right (by rw [length_rowOf]; omega), List.getElem?_append_right (by rw [length_rowOf, length_rowOf]; omega), List.getElem?_append_right (by rw [length_rowOf, length_rowOf, length_rowOf]; omega), length_rowOf, length_rowOf, length_rowOf, hl]
  rfl
/-- Two such lists are one if they agree part by part. -/
theorem hcells_ext (hl : ks.length = 16) {l : List Value} (hll : l.length = 161) (h0 : ∀ j, j < 16 → l[j]? = ks[j]?) (h1 : ∀ j, j < 8 → l[16 + j]? = some (.int .u32 (v32 j : Nat))) (h2 : ∀ j, j < 8 → l[24 + j]? = some (.int .u64 (v64 j : Nat)))
    (h3 : ∀ j, j < 128 → l[32 + j]? = some (.int .u8 (blk j : Nat))) (h4 : l[160]? = some (.int .i64 (size : Nat))) : l = hcells ks v32 v64 blk size := by
  refine List.ext_getElem? fun j => ?_
  by_cases c0 : j < 16
  · rw [h0 j c0, hc_k hl c0]
  · by_cases c1 : j < 24
    · obtain ⟨i, rfl⟩ : ∃ i, j = 16 + i := ⟨j - 16, by omega⟩
      rw [h1 i (by omega), hc_32 hl (by omega)]
    · by_cases c2 : j < 32
      · obtain ⟨i, rfl⟩ : ∃ i, j = 24 + i := ⟨j - 24, by omega⟩
        rw [h2 i (by omega), hc_64 hl (by omega)]
      · by_cases c3 : j < 160
        · obtain ⟨i, rfl⟩ : ∃ i, j = 32 + i := ⟨j - 32, by omega⟩
          rw [h3 i (by omega), hc_b hl (by omega)]
        · by_cases c4 : j = 160
          · subst c4; rw [h4, hc_s hl]
          · rw [List.getElem?_eq_none (by omega), List.getElem?_eq_none (by rw [length_hcells hl]; omega)]
theorem HBlk.lt (h : HBlk w B ks v32 v64 blk size) : B < w.heap.size := (Array.getElem?_eq_some_iff.1 h.at_).1
theorem HBlk.same (h : HBlk w B ks v32 v64 blk size) (e : w'.heap[B]? = w.heap[B]?) : HBlk w' B ks v32 v64 blk size := ⟨h.len, h.one, by rw [e]; exact h.at_⟩
theorem HBlk.grow (h : HBlk w B ks v32 v64 blk size) (t : Grow w) : HBlk t.val B ks v32 v64 blk size := h.same (t.below.block B h.lt)
theorem HBlk.cell (h : HBlk w B ks v32 v64 blk size) (j : Nat) : w.cell? ⟨B, j, none⟩ = (hcells ks v32 v64 blk size)[j]? := by
  rw [cell_of_row w B j _ 249 (0, 0) h.at_, List.getElem?_toArray]
theorem HBlk.kcell (h : HBlk w B ks v32 v64 blk size) {j : Nat} {v : Value} (hj : ks[j]? = some v) : w.cell? ⟨B, j, none⟩ = some v := by
  have : j < 16 := by rw [← h.len]; exact (List.getElem?_eq_some_iff.1 hj).1
  rw [h.cell, hc_k h.len this, hj]
theorem HBlk.scell (h : HBlk w B ks v32 v64 blk size) : w.cell? ⟨B, 160, none⟩ = some (.int .i64 (size : Nat)) := by rw [h.cell, hc_s h.len]
theorem HBlk.bcell (h : HBlk w B ks v32 v64 blk size) {j : Nat} (hj : j < 128) : w.cell? ⟨B, 32 + j, none⟩ = some (.int .u8 (blk j : Nat)) := by rw [h.cell, hc_b h.len hj]
theorem HBlk.free (h : HBlk w B ks v32 v64 blk size) (j : Nat) : w.frozen? ⟨B, j, none⟩ = false := frozen_of_row w B j _ 249 h.at_
theorem HBlk.range_k (h : HBlk w B ks v32 v64 blk size) : w.rangeAt B 0 ks := fun j v hv => by rw [Nat.zero_add]; exact h.kcell hv
theorem HBlk.range32 (h : HBlk w B ks v32 v64 blk size) : w.rangeAt B 16 (rowOf .u32 8 v32) := fun j v hv => by
  have hj : j < 8 := by rw [← length_rowOf .u32 8 v32]; exact (List.getElem?_eq_some_iff.1 hv).1
  rw [h.cell, hc_32 h.len hj, ← hv, getElem?_rowOf _ _ _ _ hj]
theorem HBlk.range64 (h : HBlk w B ks v32 v64 blk size) : w.rangeAt B 24 (rowOf .u64 8 v64) := fun j v hv => by
  have hj : j < 8 := by rw [← length_rowOf .u64 8 v64]; exact (List.getElem?_eq_some_iff.1 hv).1
  rw [h.cell, hc_64 h.len hj, ← hv, getElem?_rowOf _ _ _ _ hj]
theorem HBlk.setSize (h : HBlk w B ks v32 v64 blk size) (n : Nat) : HBlk (w.setCell ⟨B, 160, none⟩ (.int .i64 (n : Int))) B ks v32 v64 blk n := by
  refine ⟨h.len, h.one, ?_⟩
  rw [heap_setCell_same w B 160 _ 249 _ h.at_]
  refine congrArg some ?_
  refine congrArg (fun c => Obj.cells c 249 (0, 0)) ?_
  rw [List.setIfInBounds_toArray]
  refine congrArg List.toArray (hcells_ext h.len (by rw [List.length_set]; exact length_hcells h.len) ?_ ?_ ?_ ?_ ?_)
  · intro j hj; rw [List.getElem?_set_ne (by omega), hc_k h.len hj]
  · intro j hj; rw [List.getElem?_set_ne (by omega), hc_32 h.len hj]
  · intro j hj; rw [List.getElem?_set_ne (by omega), hc_64 h.len hj]
  · intro j hj; rw [List.getElem?_set_ne (by omega), hc_b h.len hj]
  · rw [List.getElem?_set_self (by rw [length_hcells h.len]; omega)]
end
section
variable {P : Program} {ops : Array Oper} {rest : List Oper} {o : Oper} {a : Act} {w : World} {Q : Exit → Act → World → Prop} {B : Nat} {ks : List Value} {v32 v64 blk : Nat → Nat} {size : Nat}
theorem getElem?_mid {α : Type} (L cs : List α) (off j : Nat) (h : off + cs.length ≤ L.length) : (L.take off ++ cs ++ L.drop (off + cs.length))[j]? = if off ≤ j ∧ j < off + cs.length then cs[j - off]? else L[j]? := by
  rw [List.append_assoc]
  have e1 : (L.take off).length = off := by rw [List.length_take]; omega
  by_cases h1 : j < off
  · rw [List.getElem?_append_left (by omega), List.getElem?_take, if_pos h1, if_neg (by omega)]
  · rw [List.getElem?_append_right (by omega), e1]
    by_cases h2 : j < off + cs.length
    · rw [List.getElem?_append_left (by omega), if_pos (by omega)]
    · rw [List.getElem?_append_right (by omega), if_neg (by omega), List.getElem?_drop]
      congr 1; omega
theorem wpList_store_v32 (hgd : o.guard = none) (ty : TypeId) (x y : Operand) (ho : o.op = .store ty x y) {f : Nat → Nat}
    (hx : a.eval x = .pointer (some ⟨B, 16, none⟩)) (hy : a.eval y = .agg (rowOf .u32 8 f).toArray) (hg : HBlk w B ks v32 v64 blk size) (hi : (P.info? ty).map (·.size) = some 8)
    (h : ∀ w', HBlk w' B ks f v64 blk size → w.grownBy w' (some B) → w'.heap.size = w.heap.size → wpList P ops Q rest (a.put o.dst undef) w') : wpList P ops Q (o :: rest) a w := by
  have hl := length_hcells (v32 := v32) (v64 := v64) (blk := blk) (size := size) hg.len
  refine wpList_store_blk hgd ty x y ho B 16 _ hx hy _ 249 hg.at_ (by simp only [List.size_toArray, length_rowOf, hl]; omega) (by simpa [length_rowOf] using hi) (fun v hv => oneCell_nums .u32 _ v (by simpa [rowOf] using hv))
    fun w' h1 h2 h3 => h w' ⟨hg.len, hg.one, ?_⟩ h2 h3
  rw [h1]
  refine congrArg (fun l : List Value => some (Obj.cells l.toArray 249 (0, 0))) ?_
  have hm := fun j => getElem?_mid (hcells ks v32 v64 blk size) (rowOf .u32 8 f) 16 j (by rw [length_rowOf, hl]; omega)
  simp only [length_rowOf] at hm
  simp only [List.size_toArray, length_rowOf]
  refine hcells_ext hg.len (by simp [length_rowOf, hl]) ?_ ?_ ?_ ?_ ?_
  · intro j hj; rw [hm, if_neg (by omega), hc_k hg.len hj]
  · intro j hj; rw [hm, if_pos (by omega), Nat.add_sub_cancel_left, getElem?_rowOf _ _ _ _ hj]
  · intro j hj; rw [hm, if_neg (by omega), hc_64 hg.len hj]
  · intro j hj; rw [hm, if_neg (by omega), hc_b hg.len hj]
  · rw [hm, if_neg (by omega), hc_s hg.len]
theorem wpList_store_v64 (hgd : o.guard = none) (ty : TypeId) (x y : Operand) (ho : o.op = .store ty x y) {f : Nat → Nat}
    (hx : a.eval x = .pointer (some ⟨B, 24, none⟩)) (hy : a.eval y = .agg (rowOf .u64 8 f).toArray) (hg : HBlk w B ks v32 v64 blk size) (hi : (P.info? ty).map (·.size) = some 8)
    (h : ∀ w', HBlk w' B ks v32 f blk size → w.grownBy w' (some B) → w'.heap.size = w.heap.size → wpList P ops Q rest (a.put o.dst undef) w') : wpList P ops Q (o :: rest) a w := by
  have hl := length_hcells (v32 := v32) (v64 := v64) (blk := blk) (size := size) hg.len
  refine wpList_store_blk hgd ty x y ho B 24 _ hx hy _ 249 hg.at_ (by simp only [List.size_toArray, length_rowOf, hl]; omega) (by simpa [length_rowOf] using hi) (fun v hv => oneCell_nums .u64 _ v (by simpa [rowOf] using hv))
    fun w' h1 h2 h3 => h w' ⟨hg.len, hg.one, ?_⟩ h2 h3
  rw [h1]
  refine congrArg (fun l : List Value => some (Obj.cells l.toArray 249 (0, 0))) ?_
  have hm := fun j => getElem?_mid (hcells ks v32 v64 blk size) (rowOf .u64 8 f) 24 j (by rw [length_rowOf, hl]; omega)
  simp only [length_rowOf] at hm
  simp only [List.size_toArray, length_rowOf]
  refine hcells_ext hg.len (by simp [length_rowOf, hl]) ?_ ?_ ?_ ?_ ?_
  · intro j hj; rw [hm, if_neg (by omega), hc_k hg.len hj]
  · intro j hj; rw [hm, if_neg (by omega), hc_32 hg.len hj]
  · intro j hj; rw [hm, if_pos (by omega), Nat.add_sub_cancel_left, getElem?_rowOf _ _ _ _ hj]
  · intro j hj; rw [hm, if_neg (by omega), hc_b hg.len hj]
  · rw [hm, if_neg (by omega), hc_s hg.len]
/-- copy(h.block[r:..], s): n bytes of s go over. -/
theorem wpList_copy_blk (hgd : o.guard = none) (d s : Operand) (dT sT : TypeId) (ho : o.op = .call { callee := .builtin .copy, args := #[d, s], argTypes := #[dT, sT] }) {elem : TypeId} (hu : P.underlying dT = some (.slice elem)) (hsz : (P.info? elem).map (·.size) = some 1)
    (r dLen dCap : Nat) (str : ByteArray) (hd : a.eval d = .slice (some ⟨B, 32 + r, none⟩) dLen dCap) (hs : a.eval s = .string str) (hg : HBlk w B ks v32 v64 blk size) (n : Nat) (hn : n = Nat.min str.size dLen) (hfit : r + n ≤ 128)
    (h : ∀ w', HBlk w' B ks v32 v64 (fun j => if r ≤ j ∧ j < r + n then (bs str).getD (j - r) 0 else blk j) size → w.grownBy w' (some B) → w'.heap.size = w.heap.size → wpList P ops Q rest (a.put o.dst (goInt n)) w') : wpList P ops Q (o :: rest) a w := by
  have hl := length_hcells (v32 := v32) (v64 := v64) (blk := blk) (size := size) hg.len
  have hnl : ((nums .u8 (bs str)).take n).length = n := by rw [List.length_take, length_nums, length_bs]; have : n ≤ str.size := hn ▸ Nat.min_le_left _ _; omega
  have hst := run_storeCells_at P B (32 + r) 249 ((nums .u8 (bs str)).take n) 0 (hcells ks v32 v64 blk size).toArray w hg.at_ (by rw [hnl, List.size_toArray, hl]; omega) (fun v hv => oneCell_nums .u8 _ v (List.mem_of_mem_take hv))
  rw [hnl] at hst
  simp only [Nat.add_zero] at hst
  have htk : List.take n (List.map (fun b : UInt8 => Value.int IntKind.u8 (b.toNat : Int)) str.data.toList) = (nums .u8 (bs str)).take n := by simp only [nums, bs, List.map_map]; rfl
  refine wpList_run hgd _ (w.setRow B ((hcells ks v32 v64 blk size).toArray.toList.take (32 + r) ++ (nums .u8 (bs str)).take n ++ (hcells ks v32 v64 blk size).toArray.toList.drop (32 + r + n)).toArray) ?_ (h _ ⟨hg.len, hg.one, ?_⟩ ⟨rfl, rfl, rfl, by simp, fun k _ hk => setRow_other w B k _ (fun e => hk (by rw [e]))⟩ (by simp))
  · cases hq : P.info? elem with
    | none => simp [hq] at hsz
    | some i0 =>
      have hi0 : i0.size = 1 := by simpa [hq] using hsz
      have hrun : (Builtin.copy_ #[dT, sT] o.type #[.slice (some ⟨B, 32 + r, none⟩) dLen dCap, .string str]).run P w = .ok (goInt n) (w.setRow B ((hcells ks v32 v64 blk size).toArray.toList.take (32 + r) ++ (nums .u8 (bs str)).take n ++ (hcells ks v32 v64 blk size).toArray.toList.drop (32 + r + n)).toArray) := by
        simp [Builtin.copy_, run_underlying hu, Builtin.lenOf, Builtin.firstCells, sizeOf, typeInfo, hq]
        rw [← hn, htk, hst]
        simp [Result.andThen]
      unfold execOp
      simp only [ho, resolve, invoke, builtin, Sem.run_bind, Sem.run_pure, Result.andThen_ok, List.map_toArray, List.map_cons, List.map_nil, hd, hs, hrun]
  · rw [setRow_heap w B _ _ 249 _ hg.at_]
    refine congrArg (fun l : List Value => some (Obj.cells l.toArray 249 (0, 0))) ?_
    have hm := fun j => getElem?_mid (hcells ks v32 v64 blk size) ((nums .u8 (bs str)).take n) (32 + r) j (by rw [hnl, hl]; omega)
    simp only [hnl] at hm
    refine hcells_ext hg.len (by simp [hl, length_nums, length_bs]; have : n ≤ str.size := hn ▸ Nat.min_le_left _ _; omega) ?_ ?_ ?_ ?_ ?_
    · intro j hj; rw [hm, if_neg (by omega), hc_k hg.len hj]
    · intro j hj; rw [hm, if_neg (by omega), hc_32 hg.len hj]
    · intro j hj; rw [hm, if_neg (by omega), hc_64 hg.len hj]
    · intro j hj
      rw [hm]
      by_cases c : r ≤ j ∧ j < r + n
      · rw [if_pos (by omega), if_pos c, show 32 + j - (32 + r) = j - r by omega, List.getElem?_take, if_pos (by omega)]
        have : j - r < (bs str).length := by rw [length_bs]; have : n ≤ str.size := hn ▸ Nat.min_le_left _ _; omega
        simp [nums, this]
      · rw [if_neg (by omega), if_neg c, hc_b hg.len hj]
    · rw [hm, if_neg (by omega), hc_s hg.len]
end
/-- x[lo:hi] of an array behind an address. -/
theorem run_sliceAt_array {P : Program} {T e : TypeId} {N B off : Nat} (hu : P.underlying T = some (.array N e)) (hi : (P.info? e).map (·.size) = some 1) (lo hi' : Nat) (h1 : lo ≤ hi') (h2 : hi' ≤ N) (h3 : lo < N) (w : World) :
    (Instr.sliceAt T (.pointer (some ⟨B, off, none⟩)) (some (.int .i64 (lo : Int))) (some (.int .i64 (hi' : Int))) none).run P w = .ok (.slice (some ⟨B, off + lo, none⟩) (hi' - lo) (N - lo)) w := by
  cases hq : P.info? e with
  | none => simp [hq] at hi
  | some i0 =>
    have hs : i0.size = 1 := by simpa [hq] using hi
    have hadd : (⟨B, off, none⟩ : Addr).add lo = ⟨B, off + lo, none⟩ := Addr.add_mid B off lo
    have hne : ¬ N = lo := by omega
    have h2' : (hi' : Int) ≤ (N : Int) := by omega
    have h1' : (lo : Int) ≤ (hi' : Int) := by omega
    simp [Instr.sliceAt, run_underlying hu, Instr.sureAddr, Instr.sliceBounds, Instr.sliceBound, asIntOf, sizeOf, typeInfo, hq, hs, hadd, hne, h1, h2]
end Go.Proofs.YtilpbjcbffbjeaaGreatDoor
