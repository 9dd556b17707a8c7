/- Rows of numbers in memory, and the model's integer operations as operations on natural numbers. No function of the program in sight. -/
import Derived.Test.YtamaefnlicloaaaDoorLib
import Derived.Deep.MidRow
import Derived.Laws.CopyOwn
import Derived.Lib.Hide
namespace Go.Proofs.YtamaefnlicloaaaDoor
open Go.RowKit

/-- An operation that yields a known value and leaves the world alone. -/
theorem wpList_pure {P : Program} {ops : Array Oper} {Q : Exit → Act → World → Prop} {a : Act} {w : World} {rest : List Oper} {o : Oper} (hgd : o.guard = none) (v : Value) (hrun : ∀ w, (execOp a.eval o).run P w = .ok (.value v) w)
    (h : wpList P ops Q rest (a.put o.dst v) w) : wpList P ops Q (o :: rest) a w := wpList_run hgd v w (hrun w) h

/-! ### numbers -/
theorem toNat_ofInt_nat (n a : Nat) (ha : a < 2 ^ n) : (BitVec.ofInt n (a : Int)).toNat = a := by
  rw [BitVec.ofInt_natCast, BitVec.toNat_ofNat, Nat.mod_eq_of_lt ha]
theorem wrap_u8_nat (a : Nat) (ha : a < 2 ^ 8) : IntKind.u8.wrap (a : Int) = a := by rw [IntKind.wrap_u8]; omega
theorem wrap_u32_nat (a : Nat) (ha : a < 2 ^ 32) : IntKind.u32.wrap (a : Int) = a := by rw [IntKind.wrap_u32]; omega
theorem wrap_u64_nat (a : Nat) (ha : a < 2 ^ 64) : IntKind.u64.wrap (a : Int) = a := by rw [IntKind.wrap_u64]; omega
theorem or_u32 (a b : Nat) (ha : a < 2 ^ 32) (hb : b < 2 ^ 32) : bits .or .u32 (a : Int) (b : Int) = ((a ||| b : Nat) : Int) := by
  show IntKind.u32.wrap ((BitVec.ofInt 32 (a : Int) ||| BitVec.ofInt 32 (b : Int)).toNat : Int) = _
  rw [BitVec.toNat_or, toNat_ofInt_nat 32 a ha, toNat_ofInt_nat 32 b hb]; exact wrap_u32_nat _ (Nat.or_lt_two_pow ha hb)
theorem xor_u32 (a b : Nat) (ha : a < 2 ^ 32) (hb : b < 2 ^ 32) : bits .xor .u32 (a : Int) (b : Int) = ((a ^^^ b : Nat) : Int) := by
  show IntKind.u32.wrap ((BitVec.ofInt 32 (a : Int) ^^^ BitVec.ofInt 32 (b : Int)).toNat : Int) = _
  rw [BitVec.toNat_xor, toNat_ofInt_nat 32 a ha, toNat_ofInt_nat 32 b hb]; exact wrap_u32_nat _ (Nat.xor_lt_two_pow ha hb)
theorem and_u32 (a b : Nat) (ha : a < 2 ^ 32) (hb : b < 2 ^ 32) : bits .and .u32 (a : Int) (b : Int) = ((a &&& b : Nat) : Int) := by
  show IntKind.u32.wrap ((BitVec.ofInt 32 (a : Int) &&& BitVec.ofInt 32 (b : Int)).toNat : Int) = _
  rw [BitVec.toNat_and, toNat_ofInt_nat 32 a ha, toNat_ofInt_nat 32 b hb]; exact wrap_u32_nat _ (Nat.and_lt_two_pow _ hb)
theorem or_u64 (a b : Nat) (ha : a < 2 ^ 64) (hb : b < 2 ^ 64) : bits .or .u64 (a : Int) (b : Int) = ((a ||| b : Nat) : Int) := by
  show IntKind.u64.wrap ((BitVec.ofInt 64 (a : Int) ||| BitVec.ofInt 64 (b : Int)).toNat : Int) = _
  rw [BitVec.toNat_or, toNat_ofInt_nat 64 a ha, toNat_ofInt_nat 64 b hb]; exact wrap_u64_nat _ (Nat.or_lt_two_pow ha hb)
theorem xor_u64 (a b : Nat) (ha : a < 2 ^ 64) (hb : b < 2 ^ 64) : bits .xor .u64 (a : Int) (b : Int) = ((a ^^^ b : Nat) : Int) := by
  show IntKind.u64.wrap ((BitVec.ofInt 64 (a : Int) ^^^ BitVec.ofInt 64 (b : Int)).toNat : Int) = _
  rw [BitVec.toNat_xor, toNat_ofInt_nat 64 a ha, toNat_ofInt_nat 64 b hb]; exact wrap_u64_nat _ (Nat.xor_lt_two_pow ha hb)
theorem and_u64 (a b : Nat) (ha : a < 2 ^ 64) (hb : b < 2 ^ 64) : bits .and .u64 (a : Int) (b : Int) = ((a &&& b : Nat) : Int) := by
  show IntKind.u64.wrap ((BitVec.ofInt 64 (a : Int) &&& BitVec.ofInt 64 (b : Int)).toNat : Int) = _
  rw [BitVec.toNat_and, toNat_ofInt_nat 64 a ha, toNat_ofInt_nat 64 b hb]; exact wrap_u64_nat _ (Nat.and_lt_two_pow _ hb)
theorem xor_u8 (a b : Nat) (ha : a < 2 ^ 8) (hb : b < 2 ^ 8) : bits .xor .u8 (a : Int) (b : Int) = ((a ^^^ b : Nat) : Int) := by
  show IntKind.u8.wrap ((BitVec.ofInt 8 (a : Int) ^^^ BitVec.ofInt 8 (b : Int)).toNat : Int) = _
  rw [BitVec.toNat_xor, toNat_ofInt_nat 8 a ha, toNat_ofInt_nat 8 b hb]; exact wrap_u8_nat _ (Nat.xor_lt_two_pow ha hb)

/-! ### a row of numbers: block B holds N numbers of kind k, the j-th is f j -/
def nums (k : IntKind) (l : List Nat) : List Value := l.map fun (n : Nat) => Value.int k (n : Int)
def rowOf (k : IntKind) (N : Nat) (f : Nat → Nat) : List Value := nums k ((List.range N).map f)
def Row (w : World) (B : Nat) (T : TypeId) (k : IntKind) (N : Nat) (f : Nat → Nat) : Prop := w.heap[B]? = some (.cells (rowOf k N f).toArray T (0, 0))

theorem length_rowOf (k : IntKind) (N : Nat) (f : Nat → Nat) : (rowOf k N f).length = N := by simp [rowOf, nums]
theorem getElem?_rowOf (k : IntKind) (N : Nat) (f : Nat → Nat) (j : Nat) (hj : j < N) : (rowOf k N f)[j]? = some (.int k (f j : Int)) := by
  simp [rowOf, nums, hj]
theorem rowOf_congr {k : IntKind} {N : Nat} {f g : Nat → Nat} (h : ∀ j, j < N → f j = g j) : rowOf k N f = rowOf k N g := by
  unfold rowOf nums
  rw [List.map_map, List.map_map]
  exact List.map_congr_left fun j hj => by have := h j (List.mem_range.1 hj); simp [this]
theorem rowOf_list (k : IntKind) (l : List Nat) : rowOf k l.length (fun j => l.getD j 0) = nums k l := by
  refine List.ext_getElem? fun j => ?_
  by_cases hj : j < l.length
  · rw [getElem?_rowOf k _ _ j hj]; simp [nums, hj]
  · rw [List.getElem?_eq_none (by rw [length_rowOf]; omega), List.getElem?_eq_none (by simp [nums]; omega)]

theorem Row.of {w : World} {B : Nat} {T : TypeId} {k : IntKind} {N : Nat} {f : Nat → Nat} (h : w.heap[B]? = some (.cells (rowOf k N f).toArray T (0, 0))) : Row w B T k N f := h
theorem Row.heap {w : World} {B : Nat} {T : TypeId} {k : IntKind} {N : Nat} {f : Nat → Nat} (h : Row w B T k N f) : w.heap[B]? = some (.cells (rowOf k N f).toArray T (0, 0)) := h
section
variable {w w' : World} {B : Nat} {T : TypeId} {k : IntKind} {N : Nat} {f : Nat → Nat}
theorem Row.congr {g : Nat → Nat} (h : Row w B T k N f) (e : ∀ j, j < N → f j = g j) : Row w B T k N g := by unfold Row at *; rw [← rowOf_congr e]; exact h
theorem Row.lt (h : Row w B T k N f) : B < w.heap.size := (Array.getElem?_eq_some_iff.1 h).1
theorem Row.cell (h : Row w B T k N f) {j : Nat} (hj : j < N) : w.cell? ⟨B, j, none⟩ = some (.int k (f j : Int)) := by
  rw [cell_of_row w B j _ T (0, 0) h, List.getElem?_toArray, getElem?_rowOf k N f j hj]
theorem Row.free (h : Row w B T k N f) (j : Nat) : w.frozen? ⟨B, j, none⟩ = false := frozen_of_row w B j _ T h
theorem Row.set (h : Row w B T k N f) {i : Nat} (hi : i < N) (v : Nat) : Row (w.setCell ⟨B, i, none⟩ (.int k (v : Int))) B T k N (fun j => if j = i then v else f j) := by
  unfold Row
  rw [heap_setCell_same w B i _ T _ h]
  congr 2
  refine Array.ext_getElem? fun j => ?_
  rw [Array.getElem?_setIfInBounds]
  by_cases hj : j < N
  · by_cases e : i = j
    · subst e; rw [if_pos rfl, if_pos (by simpa [length_rowOf] using hj), List.getElem?_toArray, getElem?_rowOf _ _ _ _ hj]; simp
    · rw [if_neg e]; simp [getElem?_rowOf, hj, Ne.symm e]
  · rw [List.getElem?_toArray, List.getElem?_eq_none (by rw [length_rowOf]; omega), List.getElem?_toArray, List.getElem?_eq_none (by rw [length_rowOf]; omega)]
    split
    · rw [if_neg (by simp only [List.size_toArray, length_rowOf]; omega)]
    · rfl
theorem Row.same (h : Row w B T k N f) (e : w'.heap[B]? = w.heap[B]?) : Row w' B T k N f := by unfold Row at *; rw [e]; exact h
theorem Row.below {A : Nat} (h : Row w B T k N f) (hb : Below A w w') (hB : B < A) : Row w' B T k N f := h.same (hb.block B hB)
theorem Row.alloc (h : Row w B T k N f) (o : Obj) : Row (w.alloc o) B T k N f := h.same (Below.heap_alloc w o B h.lt)
theorem Row.drew (h : Row w B T k N f) : Row w.drew B T k N f := h
theorem Row.other (h : Row w B T k N f) (a : Addr) (v : Value) (hne : B ≠ a.block) : Row (w.setCell a v) B T k N f := h.same (heap_setCell_other w a B v hne)
theorem Row.new (w : World) (T : TypeId) (k : IntKind) (N : Nat) (f : Nat → Nat) (c : Array Value) (hc : c = (rowOf k N f).toArray) : Row (w.alloc (.cells c T)) w.heap.size T k N f := by
  subst hc; exact heap_alloc_new w _
end
theorem heap_at {w : World} {o : Obj} {n : Nat} (hn : w.heap.size = n) : (w.alloc o).heap[n]? = some o := by subst hn; exact heap_alloc_new w o
theorem heap_lt {w : World} {o : Obj} {n : Nat} (hn : n < w.heap.size) : (w.alloc o).heap[n]? = w.heap[n]? := Below.heap_alloc w o n hn
theorem oneCell_nums (k : IntKind) (l : List Nat) : ∀ v ∈ nums k l, v.oneCell' = true := by
  intro v hv
  obtain ⟨n, _, rfl⟩ := List.mem_map.1 hv
  rfl

section
variable {P : Program} {ops : Array Oper} {rest : List Oper} {o : Oper} {a : Act} {w : World} {Q : Exit → Act → World → Prop}
/-- A whole aggregate is stored into a block that is known whole. -/
theorem wpList_store_blk (hgd : o.guard = none) (ty : TypeId) (x y : Operand) (ho : o.op = .store ty x y) (g off : Nat) (cells : Array Value)
    (hx : a.eval x = .pointer (some ⟨g, off, none⟩)) (hy : a.eval y = .agg cells) (cur : Array Value) (T : TypeId) (hg : w.heap[g]? = some (.cells cur T (0, 0))) (hfit : off + cells.size ≤ cur.size)
    (hi : (P.info? ty).map (·.size) = some cells.size) (h1 : ∀ v ∈ cells.toList, v.oneCell' = true)
    (h : ∀ w', w'.heap[g]? = some (.cells (cur.toList.take off ++ cells.toList ++ cur.toList.drop (off + cells.size)).toArray T (0, 0)) → w.grownBy w' (some g) → w'.heap.size = w.heap.size → wpList P ops Q rest (a.put o.dst undef) w') :
    wpList P ops Q (o :: rest) a w := by
  refine wpList_plain hgd fun K hK => ?_
  have hst := run_storeCells_at P g off T cells.toList 0 cur w hg (by simpa using hfit) h1
  simp only [Nat.add_zero, Array.length_toList] at hst
  have hrun : (storeVar ty ⟨g, off, none⟩ (.agg cells)).run P w = .ok () (w.setRow g (cur.toList.take off ++ cells.toList ++ cur.toList.drop (off + cells.size)).toArray) := by
    cases hq : P.info? ty with
    | none => simp [hq] at hi
    | some i =>
      have hs : cells.size = i.size := by simp [hq] at hi; omega
      simp [storeVar, sizeOf, typeInfo, hq, Value.cells, hs]
      simpa [hs] using hst
  unfold Oper.wp execOp
  simp only [ho, hx, hy, Instr.storeAt, Instr.sureAddr, Sem.run_bind, Sem.run_pure, Result.andThen_ok, hrun]
  exact hK _ _ (h _ (setRow_heap w g cur _ T _ hg) ⟨rfl, rfl, rfl, by simp, fun k _ hk => setRow_other w g k _ (fun e => hk (by rw [e]))⟩ (by simp))
theorem wpList_store_Row (hgd : o.guard = none) (ty : TypeId) (x y : Operand) (ho : o.op = .store ty x y) (g : Nat) {k : IntKind} {N : Nat} {f f' : Nat → Nat} {T : TypeId}
    (hx : a.eval x = .pointer (some ⟨g, 0, none⟩)) (hy : a.eval y = .agg (rowOf k N f').toArray) (hg : Row w g T k N f) (hi : (P.info? ty).map (·.size) = some N)
    (h : ∀ w', Row w' g T k N f' → w.grownBy w' (some g) → w'.heap.size = w.heap.size → wpList P ops Q rest (a.put o.dst undef) w') : wpList P ops Q (o :: rest) a w := by
  refine wpList_store_blk hgd ty x y ho g 0 _ hx hy _ T hg.heap (by simp [length_rowOf]) (by simpa [length_rowOf] using hi) (fun v hv => oneCell_nums k _ v (by simpa [rowOf] using hv)) fun w' h1 h2 h3 => h w' (Row.of ?_) h2 h3
  rw [h1]
  simp [length_rowOf]
theorem wpList_load_Row (hgd : o.guard = none) (ty : TypeId) (x : Operand) (ho : o.op = .load ty x) (g : Nat) {k : IntKind} {N : Nat} {f : Nat → Nat} {T e : TypeId}
    (hx : a.eval x = .pointer (some ⟨g, 0, none⟩)) (hg : Row w g T k N f) (hu : P.underlying ty = some (.array N e)) (hi : (P.info? ty).map (·.size) = some N)
    (h : wpList P ops Q rest (a.put o.dst (.agg (rowOf k N f).toArray)) w) : wpList P ops Q (o :: rest) a w :=
  wpList_load_row hgd ty x ho g hx T _ (0, 0) _ hg.heap hu rfl (by simpa [length_rowOf] using hi) h
end
/-- 'copy' into a row, the source's cells being numbers of the row's kind. -/
theorem wpList_copy_Row {P : Program} {ops : Array Oper} {rest : List Oper} {o : Oper} {a : Act} {w : World} {Q : Exit → Act → World → Prop} (hgd : o.guard = none) (d s : Operand) (dT sT : TypeId)
    (ho : o.op = .call { callee := .builtin .copy, args := #[d, s], argTypes := #[dT, sT] }) (elem : TypeId) (hu : P.underlying dT = some (.slice elem)) (hsz : (P.info? elem).map (·.size) = some 1)
    (g off dLen dCap : Nat) (ad : Addr) (sLen sCap : Nat) (hd : a.eval d = .slice (some ⟨g, off, none⟩) dLen dCap) (hs : a.eval s = .slice (some ad) sLen sCap)
    {T : TypeId} {k : IntKind} {N : Nat} {f : Nat → Nat} (hg : Row w g T k N f) (h' : Nat → Nat) (n : Nat) (hn : n = Nat.min sLen dLen)
    (hsrc : ∀ j, j < n → w.cell? (ad.add j) = some (.int k (h' j : Nat))) (hfit : off + n ≤ N)
    (h : ∀ w', Row w' g T k N (fun j => if off ≤ j ∧ j < off + n then h' (j - off) else f j) → w.grownBy w' (some g) → w'.heap.size = w.heap.size → wpList P ops Q rest (a.put o.dst (goInt n)) w') : wpList P ops Q (o :: rest) a w := by
  have hlen : (rowOf k n h').length = n := length_rowOf k n h'
  refine wpList_copy_own hgd d s dT sT ho elem hu hsz g off dLen dCap ad sLen sCap hd hs _ T hg.heap (rowOf k n h') (by rw [hlen, hn]) ?_ (by simp [length_rowOf]; exact hfit) (fun v hv => oneCell_nums k _ v (by simpa [rowOf] using hv)) ?_
  · intro j v hv
    have hj : j < n := by rw [← hlen]; exact (List.getElem?_eq_some_iff.1 hv).1
    rw [getElem?_rowOf k n h' j hj] at hv
    rw [hsrc j hj, ← hv]
  · have e := h (w.setRow g ((rowOf k N f).toArray.toList.take off ++ (rowOf k n h' ++ (rowOf k N f).toArray.toList.drop (off + (rowOf k n h').length))).toArray) (Row.of ?_)
      ⟨rfl, rfl, rfl, by simp, fun k _ hk => setRow_other w g k _ (fun e => hk (by rw [e]))⟩ (by simp)
    · rw [hlen] at e ⊢; exact e
    · rw [setRow_heap w g _ _ T _ hg.heap]
      refine congrArg (fun l : List Value => some (Obj.cells l.toArray T (0, 0))) ?_
      refine List.ext_getElem? fun j => ?_
      simp only [hlen]
      by_cases h1 : j < off
      · rw [List.getElem?_append_left (by simp [length_rowOf]; omega), getElem?_rowOf _ _ _ _ (by omega), if_neg (by omega)]
        simp [h1, getElem?_rowOf _ _ _ _ (show j < N by omega)]
      · rw [List.getElem?_append_right (by simp [length_rowOf]; omega)]
        have e1 : ((rowOf k N f).take off).length = off := by simp [length_rowOf]; omega
        simp only [e1]
        by_cases h2 : j < off + n
        · rw [List.getElem?_append_left (by rw [hlen]; omega), getElem?_rowOf _ _ _ _ (by omega), getElem?_rowOf _ _ _ _ (by omega), if_pos (by omega)]
        · rw [List.getElem?_append_right (by rw [hlen]; omega), hlen, List.getElem?_drop, show off + n + (j - off - n) = j by omega]
          by_cases h3 : j < N
          · rw [getElem?_rowOf _ _ _ _ h3, getElem?_rowOf _ _ _ _ h3, if_neg (by omega)]
          · rw [List.getElem?_eq_none (by rw [length_rowOf]; omega), List.getElem?_eq_none (by rw [length_rowOf]; omega)]

theorem Row.grown {w w' : World} {B : Nat} {T : TypeId} {k : IntKind} {N : Nat} {f : Nat → Nat} {r : Option Nat} (h : Row w B T k N f) (hg : w.grownBy w' r) (hne : some B ≠ r) : Row w' B T k N f := h.same (hg.block B h.lt hne)
theorem grown_below {w w' : World} {g A : Nat} (hg : w.grownBy w' (some g)) (hA : A ≤ g) (hs : A ≤ w.heap.size) : Below A w w' :=
  ⟨hg.os, hg.tape, hg.output, hg.size, fun k hk => hg.block k (by omega) (fun e => by injection e; omega)⟩
attribute [irreducible] Row
theorem below_drewN {B : Nat} {w w' : World} (h : Below B w w') (n : Nat) : Below B w (w'.drewN n) := h.trans ⟨rfl, rfl, rfl, Nat.le_refl _, fun _ _ => rfl⟩

/-- The worlds that have all that w has, and perhaps more. -/
def Grow (w : World) : Type := { w' : World // Below w.heap.size w w' }
def Grow.val {w : World} (t : Grow w) : World := t.1
theorem Grow.below {w : World} (t : Grow w) : Below w.heap.size w t.val := t.2
theorem Grow.cell {w : World} (t : Grow w) {a : Addr} {v : Value} (h : w.cell? a = some v) : t.val.cell? a = some v := (t.below.cell (block_lt_of_cell h)).trans h
theorem Grow.row {w : World} (t : Grow w) {B T k N f} (h : Row w B T k N f) : Row t.val B T k N f := h.below t.below h.lt
theorem Grow.start (w : World) : ∃ t : Grow w, w.drew = t.val := ⟨⟨w.drew, (Below.refl _ _).drew⟩, rfl⟩
theorem Grow.again {w : World} (t : Grow w) : ∃ t' : Grow w, t.val.drew = t'.val := ⟨⟨t.val.drew, t.below.drew⟩, rfl⟩
instance (w : World) : Nonempty (Grow w) := ⟨⟨w, Below.refl _ _⟩⟩
theorem Grow.more {w : World} (t : Grow w) : ∀ w', Below t.val.heap.size t.val w' → ∃ t' : Grow w, w' = t'.val := fun w' h => ⟨⟨w', t.below.trans (h.mono t.below.size)⟩, rfl⟩
end Go.Proofs.YtamaefnlicloaaaDoor
