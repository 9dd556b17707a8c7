/- Cursors over bytes: the program's and the document's. -/
import Derived.Test.YthdoeaiehajofaaDoorTAs
import Derived.RegionTactic
namespace Go.Proofs.YthdoeaiehajofaaDoor
set_option linter.unusedVariables false
open Go.RowKit
/-- A cursor's block: the bytes, and where it stands. -/
structure IsC (w : World) (b T : Nat) (s : ByteArray) (k : Nat) : Prop where
  blk : w.heap[b]? = some (.cells #[.string s, .int .i64 (k : Nat)] T (0, 0))
  le : k ≤ s.size
  small : s.size ≤ 4611686018427387904
section
variable {w w' : World} {b T : Nat} {s : ByteArray} {k : Nat}
theorem IsC.lt (h : IsC w b T s k) : b < w.heap.size := (Array.getElem?_eq_some_iff.1 h.blk).1
theorem IsC.c0 (h : IsC w b T s k) : w.cell? ⟨b, 0, none⟩ = some (.string s) := by rw [cell_of_row w b 0 _ T (0, 0) h.blk]; rfl
theorem IsC.c1 (h : IsC w b T s k) : w.cell? ⟨b, 1, none⟩ = some (.int .i64 (k : Nat)) := by rw [cell_of_row w b 1 _ T (0, 0) h.blk]; rfl
theorem IsC.free (h : IsC w b T s k) (j : Nat) : w.frozen? ⟨b, j, none⟩ = false := frozen_of_row w b j _ T h.blk
theorem IsC.same (h : IsC w b T s k) (e : w'.heap[b]? = w.heap[b]?) : IsC w' b T s k := ⟨by rw [e]; exact h.blk, h.le, h.small⟩
theorem IsC.below (h : IsC w b T s k) {B : Nat} (hb : Below B w w') (hB : b < B) : IsC w' b T s k := h.same (hb.block b hB)
theorem IsC.drew (h : IsC w b T s k) : IsC w.drew b T s k := ⟨h.blk, h.le, h.small⟩
theorem IsC.set (h : IsC w b T s k) (m : Nat) (hm : m ≤ s.size) : IsC (w.setCell ⟨b, 1, none⟩ (.int .i64 (m : Nat))) b T s m :=
  ⟨by rw [heap_setCell_same w b 1 _ T _ h.blk]; rfl, hm, h.small⟩
end
theorem IsC.new (w : World) (T : Nat) (s : ByteArray) (hs : s.size ≤ 4611686018427387904) : IsC (w.alloc (.cells #[.string s, .int .i64 0] T)) w.heap.size T s 0 :=
  ⟨heap_alloc_new w _, Nat.zero_le _, hs⟩
/-- What Take answers: the bytes, the error, where the cursor stands then. -/
def took (s : ByteArray) (k : Nat) (n : Int) : ByteArray × Int × Nat :=
  if n < 0 then (⟨#[]⟩, 16, k) else if (s.size : Int) - k < n then (⟨#[]⟩, 15, k) else (s.extract k (k + n.toNat), 0, k + n.toNat)

theorem grown_drew {w w' : World} {row : Option Nat} (h : w.grownBy w' row) : w.grownBy w'.drew row := ⟨h.os, h.tape, h.output, h.size, h.block⟩
theorem grown_set {w w' : World} {b : Nat} (h : w.grownBy w' (some b)) (a : Addr) (ha : a.block = b) (v : Value) : w.grownBy (w'.setCell a v) (some b) :=
  ⟨h.os, h.tape, h.output, by rw [show (w'.setCell a v).heap.size = w'.heap.size by simp]; exact h.size, fun k hk hne => by
    rw [Below.heap_setCell _ _ _ _ (by rintro rfl; exact hne (by rw [ha]))]; exact h.block k hk hne⟩
/-- A string cut. -/
theorem cutS (s : ByteArray) (lo hi : Int) (l h : Nat) (hl : lo = l) (hh : hi = h) (h1 : l ≤ h) (h2 : h ≤ s.size) (w : World) :
    (Instr.slice 9 (.string s) (some (.int .i64 lo)) (some (.int .i64 hi)) none).run Tryd.prog w = .ok (.string (s.extract l h)) w := by
  subst hl hh
  simp [Instr.slice, run_underlying Tryd.underlying9, Instr.sliceBounds, Instr.sliceBound, asIntOf, h1, h2]
theorem cutFrom (s : ByteArray) (lo : Int) (l : Nat) (hl : lo = l) (h2 : l ≤ s.size) (w : World) :
    (Instr.slice 9 (.string s) (some (.int .i64 lo)) none none).run Tryd.prog w = .ok (.string (s.extract l s.size)) w := by
  subst hl
  simp [Instr.slice, run_underlying Tryd.underlying9, Instr.sliceBounds, Instr.sliceBound, asIntOf, h2]
theorem cutTo (s : ByteArray) (hi : Int) (h : Nat) (hh : hi = h) (h2 : h ≤ s.size) (w : World) :
    (Instr.slice 9 (.string s) none (some (.int .i64 hi)) none).run Tryd.prog w = .ok (.string (s.extract 0 h)) w := by
  subst hh
  simp [Instr.slice, run_underlying Tryd.underlying9, Instr.sliceBounds, Instr.sliceBound, asIntOf, h2]
theorem openW (s : ByteArray) (w : World) : Calls Tryd.prog 20 #[.string s] w fun e w' => e = .returned (.pointer (some ⟨w.heap.size, 0, none⟩)) ∧ w' = w.alloc (.cells #[.string s, .int .i64 0] 70) := by
  go_enter Tryd.func20, Tryd.ntmps20
  go_wp2
  go_ret
  exact ⟨rfl, rfl⟩
theorem atCW {b : Nat} {s : ByteArray} {k : Nat} (w : World) (h : IsC w b 70 s k) : Calls Tryd.prog 24 #[.pointer (some ⟨b, 0, none⟩)] w fun e w' => e = .returned (.int .i64 (k : Nat)) ∧ w' = w := by
  have c1 := h.c1
  go_enter Tryd.func24, Tryd.ntmps24
  go_wp2
  go_ret
  exact ⟨rfl, rfl⟩
theorem leftCW {b : Nat} {s : ByteArray} {k : Nat} (w : World) (h : IsC w b 70 s k) : Calls Tryd.prog 21 #[.pointer (some ⟨b, 0, none⟩)] w fun e w' => e = .returned (.int .i64 ((s.size : Int) - (k : Nat))) ∧ w' = w.drew := by
  have c1 := h.c1
  have c0 := h.c0
  have h1 := h.le
  have h2 := h.small
  go_enter Tryd.func21, Tryd.ntmps21
  go_wp2_with fail
  go_region
  go_wp2_with fail
  go_ret
  exact ⟨rfl, rfl⟩
end Go.Proofs.YthdoeaiehajofaaDoor
