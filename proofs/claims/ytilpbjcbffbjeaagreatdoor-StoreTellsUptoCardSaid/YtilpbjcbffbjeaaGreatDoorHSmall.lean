/- The walks of keys32, keys64, kind32, kind64. -/
import Derived.Test.YtilpbjcbffbjeaaGreatDoorHNext32
namespace Go.Proofs.YtilpbjcbffbjeaaGreatDoor
set_option linter.unusedVariables false
open Go.RowKit
def kf32 (j : Nat) : Nat := Sha.keys32.getD j 0
def kf64 (j : Nat) : Nat := Sha.keys64.getD j 0
set_option maxRecDepth 100000 in
set_option maxHeartbeats 400000 in
theorem keysW32 (w : World) : Calls Tryz.prog 152 #[] w fun e w' => e = .returned (.slice (some ⟨w.heap.size, 0, none⟩) 64 64) ∧ w' = w.alloc (.cells (rowOf .u32 64 kf32).toArray 237) := by
  go_enter Tryz.func152, Tryz.ntmps152
  go_wp2_with (refine wpList_run rfl (.slice (some ⟨w.heap.size, 0, none⟩) 64 64) (w.alloc (.cells (rowOf .u32 64 kf32).toArray 237)) (by kernel_rfl) ?_)
  go_ret
  exact ⟨rfl, rfl⟩
set_option maxRecDepth 100000 in
set_option maxHeartbeats 400000 in
theorem kindW32 (w : World) : Calls Tryz.prog 150 #[] w fun e w' => e = .returned (.agg #[.int .i64 32, .int .i64 7, .int .i64 18, .int .i64 3, .int .i64 17, .int .i64 19, .int .i64 10, .int .i64 6, .int .i64 11, .int .i64 25, .int .i64 2, .int .i64 13, .int .i64 22, .int .i64 64, .int .i64 32, .int .i64 8]) ∧ Below w.heap.size w w' := by
  go_enter Tryz.func150, Tryz.ntmps150
  go_wp2_with (first | (with_reducible refine wpList_pure (o := ⟨some 1, _, _, _, _, _⟩) rfl (.agg #[.int .i64 7, .int .i64 18, .int .i64 3]) (fun _ => by kernel_rfl) ?_) | (with_reducible refine wpList_pure (o := ⟨some 2, _, _, _, _, _⟩) rfl (.agg #[.int .i64 17, .int .i64 19, .int .i64 10]) (fun _ => by kernel_rfl) ?_) | (with_reducible refine wpList_pure (o := ⟨some 3, _, _, _, _, _⟩) rfl (.agg #[.int .i64 6, .int .i64 11, .int .i64 25]) (fun _ => by kernel_rfl) ?_) | (with_reducible refine wpList_pure (o := ⟨some 4, _, _, _, _, _⟩) rfl (.agg #[.int .i64 2, .int .i64 13, .int .i64 22]) (fun _ => by kernel_rfl) ?_) | (with_reducible refine wpList_pure (o := ⟨some 5, _, _, _, _, _⟩) rfl (.agg #[.int .i64 32, .int .i64 7, .int .i64 18, .int .i64 3, .int .i64 17, .int .i64 19, .int .i64 10, .int .i64 6, .int .i64 11, .int .i64 25, .int .i64 2, .int .i64 13, .int .i64 22, .int .i64 64, .int .i64 32, .int .i64 8]) (fun _ => by kernel_rfl) ?_) | (refine wpList_store_blk rfl 243 _ _ rfl w.heap.size 0 #[.int .i64 32, .int .i64 7, .int .i64 18, .int .i64 3, .int .i64 17, .int .i64 19, .int .i64 10, .int .i64 6, .int .i64 11, .int .i64 25, .int .i64 2, .int .i64 13, .int .i64 22, .int .i64 64, .int .i64 32, .int .i64 8] rfl rfl #[.int .i64 0, .int .i64 0, .int .i64 0, .int .i64 0, .int .i64 0, .int .i64 0, .int .i64 0, .int .i64 0, .int .i64 0, .int .i64 0, .int .i64 0, .int .i64 0, .int .i64 0, .int .i64 0, .int .i64 0, .int .i64 0] 243 (heap_at rfl) (by decide) (by kernel_rfl) (by simp [Value.oneCell']) ?_; intro w1 h1 h2 h3))
  refine bodyPost_ret (v := .agg #[.int .i64 32, .int .i64 7, .int .i64 18, .int .i64 3, .int .i64 17, .int .i64 19, .int .i64 10, .int .i64 6, .int .i64 11, .int .i64 25, .int .i64 2, .int .i64 13, .int .i64 22, .int .i64 64, .int .i64 32, .int .i64 8]) (results_cell_row rfl _ _ w.heap.size 243 _ (0, 0) _ rfl h1 Tryz.underlying243 rfl (by kernel_rfl)) rfl ⟨rfl, ?_⟩
  exact ((Below.refl _ _).alloc (Nat.le_refl _) _).trans (grown_below h2 (Nat.le_refl _) (by simp))
set_option maxRecDepth 100000 in
set_option maxHeartbeats 400000 in
theorem keysW64 (w : World) : Calls Tryz.prog 153 #[] w fun e w' => e = .returned (.slice (some ⟨w.heap.size, 0, none⟩) 80 80) ∧ w' = w.alloc (.cells (rowOf .u64 80 kf64).toArray 199) := by
  go_enter Tryz.func153, Tryz.ntmps153
  go_wp2_with (refine wpList_run rfl (.slice (some ⟨w.heap.size, 0, none⟩) 80 80) (w.alloc (.cells (rowOf .u64 80 kf64).toArray 199)) (by kernel_rfl) ?_)
  go_ret
  exact ⟨rfl, rfl⟩
set_option maxRecDepth 100000 in
set_option maxHeartbeats 400000 in
theorem kindW64 (w : World) : Calls Tryz.prog 151 #[] w fun e w' => e = .returned (.agg #[.int .i64 64, .int .i64 1, .int .i64 8, .int .i64 7, .int .i64 19, .int .i64 61, .int .i64 6, .int .i64 14, .int .i64 18, .int .i64 41, .int .i64 28, .int .i64 34, .int .i64 39, .int .i64 128, .int .i64 48, .int .i64 16]) ∧ Below w.heap.size w w' := by
  go_enter Tryz.func151, Tryz.ntmps151
  go_wp2_with (first | (with_reducible refine wpList_pure (o := ⟨some 1, _, _, _, _, _⟩) rfl (.agg #[.int .i64 1, .int .i64 8, .int .i64 7]) (fun _ => by kernel_rfl) ?_) | (with_reducible refine wpList_pure (o := ⟨some 2, _, _, _, _, _⟩) rfl (.agg #[.int .i64 19, .int .i64 61, .int .i64 6]) (fun _ => by kernel_rfl) ?_) | (with_reducible refine wpList_pure (o := ⟨some 3, _, _, _, _, _⟩) rfl (.agg #[.int .i64 14, .int .i64 18, .int .i64 41]) (fun _ => by kernel_rfl) ?_) | (with_reducible refine wpList_pure (o := ⟨some 4, _, _, _, _, _⟩) rfl (.agg #[.int .i64 28, .int .i64 34, .int .i64 39]) (fun _ => by kernel_rfl) ?_) | (with_reducible refine wpList_pure (o := ⟨some 5, _, _, _, _, _⟩) rfl (.agg #[.int .i64 64, .int .i64 1, .int .i64 8, .int .i64 7, .int .i64 19, .int .i64 61, .int .i64 6, .int .i64 14, .int .i64 18, .int .i64 41, .int .i64 28, .int .i64 34, .int .i64 39, .int .i64 128, .int .i64 48, .int .i64 16]) (fun _ => by kernel_rfl) ?_) | (refine wpList_store_blk rfl 243 _ _ rfl w.heap.size 0 #[.int .i64 64, .int .i64 1, .int .i64 8, .int .i64 7, .int .i64 19, .int .i64 61, .int .i64 6, .int .i64 14, .int .i64 18, .int .i64 41, .int .i64 28, .int .i64 34, .int .i64 39, .int .i64 128, .int .i64 48, .int .i64 16] rfl rfl #[.int .i64 0, .int .i64 0, .int .i64 0, .int .i64 0, .int .i64 0, .int .i64 0, .int .i64 0, .int .i64 0, .int .i64 0, .int .i64 0, .int .i64 0, .int .i64 0, .int .i64 0, .int .i64 0, .int .i64 0, .int .i64 0] 243 (heap_at rfl) (by decide) (by kernel_rfl) (by simp [Value.oneCell']) ?_; intro w1 h1 h2 h3))
  refine bodyPost_ret (v := .agg #[.int .i64 64, .int .i64 1, .int .i64 8, .int .i64 7, .int .i64 19, .int .i64 61, .int .i64 6, .int .i64 14, .int .i64 18, .int .i64 41, .int .i64 28, .int .i64 34, .int .i64 39, .int .i64 128, .int .i64 48, .int .i64 16]) (results_cell_row rfl _ _ w.heap.size 243 _ (0, 0) _ rfl h1 Tryz.underlying243 rfl (by kernel_rfl)) rfl ⟨rfl, ?_⟩
  exact ((Below.refl _ _).alloc (Nat.le_refl _) _).trans (grown_below h2 (Nat.le_refl _) (by simp))
end Go.Proofs.YtilpbjcbffbjeaaGreatDoor
