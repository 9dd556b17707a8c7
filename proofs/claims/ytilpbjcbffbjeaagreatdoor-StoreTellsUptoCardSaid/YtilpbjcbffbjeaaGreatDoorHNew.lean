/- The walks of New, Size, Clone. -/
import Derived.Test.YtilpbjcbffbjeaaGreatDoorHWrite32
namespace Go.Proofs.YtilpbjcbffbjeaaGreatDoor
set_option linter.unusedVariables false
open Go.RowKit
def i32 (j : Nat) : Nat := Sha.k32.init.getD j 0
def i64 (j : Nat) : Nat := Sha.k64.init.getD j 0
def zf (_ : Nat) : Nat := 0
/-- A new object of the kind: at block b. -/
def NewBlk (ks : List Value) (v32 v64 : Nat → Nat) (w : World) (e : Ending) (w' : World) : Prop :=
  ∃ b, e = .returned (.tuple #[.pointer (some ⟨b, 0, none⟩), .int .i64 0]) ∧ HBlk w' b ks v32 v64 zf 0 ∧ Below w.heap.size w w' ∧ w.heap.size ≤ b
theorem one_kc32 : ∀ v ∈ kc32, v.oneCell' = true := by decide
theorem one_kc64 : ∀ v ∈ kc64, v.oneCell' = true := by decide
set_option maxRecDepth 100000 in
set_option maxHeartbeats 400000 in
theorem new0 (w : World) : Calls Tryz.prog 138 #[.int .i64 0] w (NewBlk kc32 i32 zf w) := by
  go_enter Tryz.func138, Tryz.ntmps138
  go_wp2_with (first | (go_at_call 150; refine (kindW32 _).mono ?_; rintro e w1 ⟨rfl, hb⟩) | (with_reducible refine wpList_pure (o := ⟨some 8, _, _, _, _, _⟩) rfl (.agg (rowOf .u32 8 i32).toArray) (fun _ => by kernel_rfl) ?_) | (with_reducible refine wpList_pure (o := ⟨some 9, _, _, _, _, _⟩) rfl (.agg (hcells kc32 i32 zf zf 0).toArray) (fun _ => by kernel_rfl) ?_))
  go_ret2
  exact ⟨_, rfl, ⟨rfl, one_kc32, heap_at rfl⟩, hb.alloc hb.size _, hb.size⟩
set_option maxRecDepth 100000 in
set_option maxHeartbeats 400000 in
theorem new1 (w : World) : Calls Tryz.prog 138 #[.int .i64 1] w (NewBlk kc64 zf i64 w) := by
  go_enter Tryz.func138, Tryz.ntmps138
  go_wp2_with (first | (go_at_call 151; refine (kindW64 _).mono ?_; rintro e w1 ⟨rfl, hb⟩) | (with_reducible refine wpList_pure (o := ⟨some 14, _, _, _, _, _⟩) rfl (.agg (rowOf .u64 8 i64).toArray) (fun _ => by kernel_rfl) ?_) | (with_reducible refine wpList_pure (o := ⟨some 15, _, _, _, _, _⟩) rfl (.agg (hcells kc64 zf i64 zf 0).toArray) (fun _ => by kernel_rfl) ?_))
  go_ret2
  exact ⟨_, rfl, ⟨rfl, one_kc64, heap_at rfl⟩, hb.alloc hb.size _, hb.size⟩
set_option maxHeartbeats 400000 in
theorem newNo (k : Int) (h0 : k ≠ 0) (h1 : k ≠ 1) (w : World) : Calls Tryz.prog 138 #[.int .i64 k] w fun e w' => e = .returned (.tuple #[.pointer none, .int .i64 20]) ∧ w = w' := by
  have e0 : (k == 0) = false := by simp [h0]
  have e1 : (k == 1) = false := by simp [h1]
  go_enter Tryz.func138, Tryz.ntmps138
  go_wp2_with fail
  go_ret2
  exact ⟨rfl, rfl⟩
def zk : List Value := [.int .i64 0, .int .i64 0, .int .i64 0, .int .i64 0, .int .i64 0, .int .i64 0, .int .i64 0, .int .i64 0, .int .i64 0, .int .i64 0, .int .i64 0, .int .i64 0, .int .i64 0, .int .i64 0, .int .i64 0, .int .i64 0]
theorem one_hcells {ks : List Value} {v32 v64 blk : Nat → Nat} {size : Nat} (h : ∀ v ∈ ks, v.oneCell' = true) : ∀ v ∈ hcells ks v32 v64 blk size, v.oneCell' = true := by
  intro v hv
  unfold hcells at hv
  simp only [List.mem_append, List.mem_singleton] at hv
  rcases hv with hv | hv | hv | hv | rfl
  · exact h v hv
  · exact oneCell_nums .u32 _ v (by simpa [rowOf] using hv)
  · exact oneCell_nums .u64 _ v (by simpa [rowOf] using hv)
  · exact oneCell_nums .u8 _ v (by simpa [rowOf] using hv)
  · rfl
/-- What stands behind 'c := *h'. -/
theorem wpList_new_blk {P : Program} {ops : Array Oper} {rest : List Oper} {o : Oper} {a : Act} {w0 w : World} {Q : Exit → Act → World → Prop} {ks : List Value} {v32 v64 blk : Nat → Nat} {size : Nat} (hl : ks.length = 16) (h1 : ∀ v ∈ ks, v.oneCell' = true) (hgd : o.guard = none) (ty : TypeId) (x y : Operand) (ho : o.op = .store ty x y)
    (hx : a.eval x = .pointer (some ⟨w0.heap.size, 0, none⟩)) (hy : a.eval y = .agg (hcells ks v32 v64 blk size).toArray) (hw : w = w0.alloc (.cells (hcells zk zf zf zf 0).toArray 249)) (hi : (P.info? ty).map (·.size) = some 161)
    (h : ∀ w', HBlk w' w0.heap.size ks v32 v64 blk size → Below w0.heap.size w0 w' → w'.heap.size = w0.heap.size + 1 → wpList P ops Q rest (a.put o.dst undef) w') : wpList P ops Q (o :: rest) a w := by
  subst hw
  refine wpList_store_blk hgd ty x y ho w0.heap.size 0 _ hx hy _ 249 (heap_at rfl) (by simp only [List.size_toArray, length_hcells hl, length_hcells (show zk.length = 16 from rfl)]; omega) (by rw [List.size_toArray, length_hcells hl]; exact hi) (by simpa using one_hcells h1) ?_
  intro w' e1 e2 e3
  refine h w' ⟨hl, h1, ?_⟩ (((Below.refl _ _).alloc (Nat.le_refl _) _).trans (grown_below e2 (Nat.le_refl _) (by simp))) (by rw [e3]; simp)
  rw [e1]
  simp [length_hcells hl, length_hcells (show zk.length = 16 from rfl)]
end Go.Proofs.YtilpbjcbffbjeaaGreatDoor
