/- Plain laws on macs. -/
import Derived.Test.YtjlhckgokdjajaaUni
namespace Go.Proofs.Ytjlhckgokdjajaa
open Go.RowKit
theorem bs_append (s t : ByteArray) : bs (s ++ t) = bs s ++ bs t := by simp [bs]
theorem bs_nil : bs ⟨#[]⟩ = [] := rfl
namespace Sha
theorem mac_short (κ : Kind) (key s : List Nat) (h : key.length ≤ κ.block) : mac κ key s = sum κ (padded κ key 92 ++ sum κ (padded κ key 54 ++ s)) := by
  unfold mac short
  rw [if_neg (by omega)]
theorem mac_sum (κ : Kind) (key s : List Nat) (h : κ.block < key.length) (hl : (sum κ key).length ≤ κ.block) : mac κ (sum κ key) s = mac κ key s := by
  unfold mac
  have e : short κ (sum κ key) = short κ key := by
    unfold short
    rw [if_neg (by omega), if_pos h]
  rw [e]
theorem padded_zeros (κ : Kind) (key : List Nat) (n x : Nat) : padded κ (key ++ List.replicate n 0) x = padded κ key x := by
  unfold padded
  refine List.map_congr_left fun i _ => ?_
  congr 1
  by_cases h : i < key.length
  · rw [List.getD_eq_getElem?_getD, List.getD_eq_getElem?_getD, List.getElem?_append_left h]
  · rw [List.getD_eq_getElem?_getD, List.getElem?_append_right (by omega), getD_out (by omega), ← List.getD_eq_getElem?_getD]
    by_cases h2 : i - key.length < n
    · rw [List.getD_eq_getElem?_getD, List.getElem?_replicate, if_pos h2]; rfl
    · rw [getD_out (by rw [List.length_replicate]; omega)]
theorem mac_zeros (κ : Kind) (key s : List Nat) (n : Nat) (h : key.length + n ≤ κ.block) : mac κ (key ++ List.replicate n 0) s = mac κ key s := by
  rw [mac_short κ _ s (by rw [List.length_append, List.length_replicate]; omega), mac_short κ key s (by omega), padded_zeros, padded_zeros]
end Sha
theorem block_kd (k : Nat) (hk : k < 2) : (kd k).block = 64 + 64 * k := by
  rcases kd_lt2 hk with rfl | rfl <;> rfl
theorem sum_kd_le (k : Nat) (t : List Nat) : (Sha.sum (kd k) t).length ≤ 48 := by
  unfold kd
  split
  · rw [Sha.length_sum32]; decide
  · rw [Sha.length_sum64]; decide
end Go.Proofs.Ytjlhckgokdjajaa
