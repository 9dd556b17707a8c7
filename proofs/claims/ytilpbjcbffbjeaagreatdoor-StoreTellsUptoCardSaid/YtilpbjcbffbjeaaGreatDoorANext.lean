/- The audit's first and next: a chain of sums. -/
import Derived.Test.YtilpbjcbffbjeaaGreatDoorHTop
import Derived.Test.YtilpbjcbffbjeaaGreatDoorPkF
import Derived.Test.YtilpbjcbffbjeaaGreatDoorPkB
namespace Go.Proofs.YtilpbjcbffbjeaaGreatDoor
set_option linter.unusedVariables false
set_option maxRecDepth 100000
open Go.RowKit
/-- The link behind a link and a text. -/
def nextL (link text : List Nat) : List Nat := Sha.sum Sha.k32 (link ++ (num text.length 4 ++ text))
def firstL : List Nat := List.replicate 32 0
theorem length_nextL (a b : List Nat) : (nextL a b).length = 32 := Sha.length_sum32 _
theorem nextL_lt (a b : List Nat) : ∀ c ∈ nextL a b, c < 256 := Sha.sum_lt _ _
theorem length_firstL : firstL.length = 32 := rfl
theorem firstL_lt : ∀ c ∈ firstL, c < 256 := by intro c hc; rw [List.eq_of_mem_replicate hc]; omega
theorem zs_firstL : zs 32 = strOf firstL := by decide
theorem afirstW (w : World) : Calls Tryz.prog 89 #[] w fun e w' => e = .returned (.string (strOf firstL)) ∧ Below w.heap.size w w' := by
  have H := Lib.hid (repeatW 32 w (by decide))
  go_enter Tryz.func89, Tryz.ntmps89
  go_wp2_with fail
  refine H.out.mono ?_
  rintro e w1 ⟨rfl, hb⟩
  rw [zs_firstL]
  go_wp2_with fail
  go_ret
  exact ⟨rfl, hb⟩
theorem u8_shr (n k : Nat) : IntKind.u8.wrap ((n : Int) / 2 ^ k) = ((n / 2 ^ k % 256 : Nat) : Int) := by rw [IntKind.wrap_u8, shrN]; omega
set_option maxHeartbeats 1000000 in
theorem anextW (l t : ByteArray) (w : World) (hl : l.size ≤ 1048576) (ht : t.size ≤ 1048576) :
    Calls Tryz.prog 60 #[.string l, .string t] w fun e w' => e = .returned (.string (strOf (nextL (bs l) (bs t)))) ∧ Below w.heap.size w w' := by
  obtain ⟨n, hn⟩ : ∃ n, n = t.size := ⟨_, rfl⟩
  obtain ⟨s, hs⟩ : ∃ s, s = l ++ strOf (num n 4) ++ t := ⟨_, rfl⟩
  have hsz : s.size ≤ 576460752303423488 := by rw [hs, ByteArray.size_append, ByteArray.size_append, size_strOf, length_num]; omega
  have hbs : Sha.sum Sha.k32 (bs s) = nextL (bs l) (bs t) := by
    rw [hs, bs_append, bs_append, bs_strOf _ (num_lt _ _), hn]; unfold nextL; rw [length_bs, List.append_assoc]
  have H := Lib.hid (fun w => sum256W s w hsz)
  rw [hbs] at H
  have hn' : n ≤ 1048576 := by omega
  have HS := Lib.hid hs.symm
  have HN := Lib.hid hn.symm
  have m1 : ¬ 9223372036854775807 < l.size + (strOf (num n 4)).size := by rw [size_strOf, length_num]; omega
  have m2 : ¬ 9223372036854775807 < (l ++ strOf (num n 4)).size + t.size := by rw [ByteArray.size_append, size_strOf, length_num]; omega
  clear hsz hbs hs hn
  go_enter Tryz.func60, Tryz.ntmps60
  go_wp2_with (with_reducible refine wpList_owned_string rfl 126 9 _ rfl Tryz.underlying126 Tryz.underlying5 Tryz.underlying9 rfl (Owns.lit w (num n 4) _ (Nat.le_refl _) ?lit (by rw [length_num]; decide)) ?_)
  case lit =>
    rw [HN.out]
    simp only [nums, num, List.map_cons, List.map_nil, List.toArray]
    have e1 : (n : Int) / 16777216 = ((n / 256 ^ 3 % 256 : Nat) : Int) := by omega
    have e2 : (n : Int) / 65536 = ((n / 256 ^ 2 % 256 : Nat) : Int) := by omega
    have e3 : (n : Int) / 256 % 256 = ((n / 256 ^ 1 % 256 : Nat) : Int) := by omega
    have e4 : (n : Int) % 256 = ((n / 256 ^ 0 % 256 : Nat) : Int) := by simp
    rw [e1, e2, e3, e4]
  rw [HS.out]
  refine (H.out _).mono ?_
  rintro e w1 ⟨rfl, hb⟩
  go_wp2_with fail
  go_ret
  exact ⟨rfl, ((Below.refl _ w).alloc (Nat.le_refl _) _).trans (hb.mono (by simp))⟩
end Go.Proofs.YtilpbjcbffbjeaaGreatDoor
