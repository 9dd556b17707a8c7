/- The program's of and Whole: what stands whole at a place. -/
import Derived.Test.YtamaefnlicloaaaDoorWNum
import Derived.Test.YtamaefnlicloaaaDoorLoose
import Derived.IntWalk
namespace Go.Proofs.YtamaefnlicloaaaDoor
set_option linter.unusedVariables false
set_option maxRecDepth 100000
open Go.RowKit
theorem recordBad (n : Int) (p : ByteArray) (w : World) (h : n < 1 ∨ 1099511627776 < n) :
    Calls Tryd.prog 8 #[.int .i64 n, .string p] w fun e w' => e = .returned (.tuple #[.string ⟨#[]⟩, .int .i64 1]) ∧ w = w' := by
  by_cases h1 : n < 1
  · go_enter Tryd.func8, Tryd.ntmps8
    go_wp2_with fail
    go_ret2
    exact ⟨rfl, rfl⟩
  · have h2 : 1099511627776 < n := by omega
    go_enter Tryd.func8, Tryd.ntmps8
    go_wp2_with fail
    go_ret2
    exact ⟨rfl, rfl⟩
theorem recordLong (n : Nat) (p : ByteArray) (w : World) (h1 : 1 ≤ n) (h2 : n ≤ 1099511627776) (hp : 16384 < p.size) :
    Calls Tryd.prog 8 #[.int .i64 (n : Nat), .string p] w fun e w' => e = .returned (.tuple #[.string ⟨#[]⟩, .int .i64 171]) ∧ w = w' := by
  go_enter Tryd.func8, Tryd.ntmps8
  go_wp2_with fail
  go_ret2
  exact ⟨rfl, rfl⟩
theorem or_u64c (x c : Nat) (hx : x < 72057594037927936) (hc : c < 256) : bits .or .u64 ((x : Int) * 256) (c : Int) = ((x * 256 + c : Nat) : Int) := by
  rw [show (x : Int) * 256 = ((x * 256 : Nat) : Int) by omega, or_u64 _ _ (by omega) (by omega), show x * 256 = x <<< 8 by rw [Nat.shiftLeft_eq], ← Nat.shiftLeft_add_eq_or_of_lt (by omega)]
theorem get_bsW (s : ByteArray) (i : Nat) (h : i < s.size) : s[i].toNat = (bs s).getD i 0 := by
  have h2 : i < s.data.toList.length := h
  rw [bs, List.getD_eq_getElem?_getD, List.getElem?_map, List.getElem?_eq_getElem h2]
  rfl
theorem val_take_succ (l : List Nat) (i : Nat) (h : i < l.length) : val (l.take (i + 1)) = val (l.take i) * 256 + l.getD i 0 := by
  rw [take_succ_getD l i 0 h, val, valF_snoc]; rfl
set_option maxHeartbeats 1000000 in
theorem ofW (s : ByteArray) (w : World) (hs : s.size = 8) :
    Calls Tryd.prog 38 #[.string s] w fun e w' => ∃ z, e = .returned (.tuple #[.int .i64 z, .bool (decide (1 ≤ val (bs s) ∧ val (bs s) ≤ 1099511627776))]) ∧ (∀ n : Nat, n ≤ 1099511627776 → (z = n ↔ val (bs s) = n)) ∧ w' = w := by
  have hlt := val_lt (bs s) (bs_lt s)
  rw [length_bs, hs] at hlt
  have HLT := Lib.hid hlt
  have HSS := Lib.hid hs
  have HW : Hid (∀ n : Nat, n ≤ 1099511627776 → (wrap64 (val (bs s) : Nat) = n ↔ val (bs s) = n)) := by
    unfold Hid
    intro n hn
    have h0 : val (bs s) < 18446744073709551616 := HLT.out
    unfold wrap64
    omega
  have hs2 : (s.size : Int) = 8 := by omega
  clear hlt
  go_enter Tryd.func38, Tryd.ntmps38
  go_wp2_with fail
  go_loopw [4, 8] (fun v4 v8 wr => ∃ i : Nat, i ≤ 8 ∧ v8 = .int .i64 (i : Nat) ∧ v4 = .int .u64 (val ((bs s).take i) : Nat) ∧ wr = w) (fun _ v _ => (8 - intOf v).toNat)
  case atStart => exact ⟨0, by omega, rfl, rfl, rfl⟩
  case round =>
    obtain ⟨i, hi, rfl, rfl, rfl⟩ := hrel
    by_cases h8 : i < 8
    · have h8' : i < s.size := by omega
      obtain ⟨x, hx⟩ : ∃ x, x = val ((bs s).take i) := ⟨_, rfl⟩
      obtain ⟨c, hc⟩ : ∃ c, c = s[i].toNat := ⟨_, rfl⟩
      have hxl : x < 72057594037927936 := by
        have := val_lt ((bs s).take i) (fun c hc => bs_lt s c (List.mem_of_mem_take hc))
        rw [← hx, List.length_take, length_bs, Nat.min_eq_left (by omega)] at this
        have : 256 ^ i ≤ 256 ^ 7 := Nat.pow_le_pow_right (by decide) (by omega)
        omega
      have hcl : c < 256 := by rw [hc]; exact UInt8.toNat_lt _
      have HN : Hid (val ((bs s).take (i + 1)) = x * 256 + c) := by
        unfold Hid; rw [val_take_succ _ _ (by rw [length_bs]; omega), hx, hc, get_bsW s i h8']
      have hor := or_u64c x c hxl hcl
      rw [← hx]
      have HX := Lib.hid hx
      clear hx
      go_wp2_with fail
      refine ⟨⟨i + 1, by omega, rfl, ?_, trivial⟩, by simp only [intOf]; omega⟩
      rw [HN.out, ← hc, hor]
    · obtain rfl : i = 8 := by omega
      rw [List.take_of_length_le (by rw [length_bs]; omega)]
      by_cases h1 : 1 ≤ val (bs s)
      · have e1 : Hid (decide (1 ≤ val (bs s) ∧ val (bs s) ≤ 1099511627776) = decide ((val (bs s) : Int) ≤ 1099511627776)) := by unfold Hid; rw [decide_eq_decide]; omega
        go_wp2_with fail
        go_ret2
        exact ⟨_, by rw [e1.out]; rfl, HW.out, rfl⟩
      · have e1 : Hid (decide (1 ≤ val (bs s) ∧ val (bs s) ≤ 1099511627776) = false) := by unfold Hid; rw [decide_eq_false_iff_not]; omega
        go_wp2_with fail
        go_ret2
        exact ⟨(val (bs s) : Nat), by first | (rw [e1.out]; rfl) | rfl, fun n _ => by omega, rfl⟩
end Go.Proofs.YtamaefnlicloaaaDoor
