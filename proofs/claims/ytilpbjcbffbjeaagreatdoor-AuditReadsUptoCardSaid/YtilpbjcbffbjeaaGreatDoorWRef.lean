/- The document's Num, Value, Record, Whole. -/
import Derived.Test.YtilpbjcbffbjeaaGreatDoorPkF
namespace Go.Proofs.YtilpbjcbffbjeaaGreatDoor
set_option linter.unusedVariables false
set_option maxRecDepth 100000
open Go.RowKit
theorem strOf_cons (c : Nat) (l : List Nat) : strOf [c] ++ strOf l = strOf (c :: l) := by
  unfold strOf
  apply ByteArray.ext
  simp
set_option maxHeartbeats 1000000 in
theorem rnumW (n k : Nat) (w : World) (hn : n < 9223372036854775808) (hk : k ≤ 8) :
    Calls Tryz.prog 123 #[.int .i64 (n : Nat), .int .i64 (k : Nat)] w fun e w' => e = .returned (.string (strOf (num n k))) ∧ Below w.heap.size w w' := by
  go_enter Tryz.func123, Tryz.ntmps123
  go_wp2_with fail
  go_loopw [0, 5, 6] (fun v0 v5 v6 wr => ∃ i : Nat, i ≤ k ∧ v6 = .int .i64 (i : Nat) ∧ v0 = .int .i64 ((n / 256 ^ i : Nat) : Int) ∧ v5 = .string (strOf (num n i)) ∧ Below w.heap.size w wr) (fun _ _ v _ => (k - intOf v).toNat)
  case atStart => exact ⟨0, Nat.zero_le _, rfl, by simp, rfl, Below.refl _ _⟩
  case round =>
    obtain ⟨i, hi, rfl, rfl, rfl, hb⟩ := hrel
    have HB := Lib.hid hb
    have hs0 := hb.size
    clear hb
    by_cases hlt : i < k
    · obtain ⟨q, hq⟩ : ∃ q, q = n / 256 ^ i := ⟨_, rfl⟩
      have hqn : q ≤ n := by rw [hq]; exact Nat.div_le_self _ _
      obtain ⟨c, hc⟩ : ∃ c, c = q % 256 := ⟨_, rfl⟩
      have HN : Hid (strOf [c] ++ strOf (num n i) = strOf (num n (i + 1))) := by unfold Hid; rw [strOf_cons, num_succ, hc, hq]
      have HQ : Hid (((n / 256 ^ (i + 1) : Nat) : Int) = (q : Int) / 256) := by unfold Hid; rw [Nat.pow_succ, ← Nat.div_div_eq_div_mul, ← hq]; omega
      rw [← hq]
      obtain ⟨t, ht⟩ : ∃ t, t = strOf (num n i) := ⟨_, rfl⟩
      have hts : t.size ≤ 8 := by rw [ht, size_strOf, length_num]; omega
      have hsc : (strOf [c]).size = 1 := rfl
      rw [← ht] at HN ⊢
      have e1 : (q : Int).tmod 256 = (c : Int) := by rw [Int.tmod_eq_emod_of_nonneg (by omega)]; omega
      have e2 : IntKind.u8.wrap (c : Int) = (c : Int) := by rw [IntKind.wrap_u8]; omega
      have hmx : ¬ 9223372036854775807 < (strOf [c]).size + t.size := by omega
      clear hq hc ht
      have hlti : (i : Int) < (k : Int) := by omega
      go_wp2_with (with_reducible refine wpList_bytes_string rfl 126 9 _ rfl Tryz.underlying126 Tryz.underlying5 Tryz.underlying9 wr.heap.size 0 1 1 rfl [c] rfl ?hc ?_)
      case hc => intro j hj; obtain rfl : j = 0 := by omega
                 simp
      go_wp2_with fail
      refine ⟨⟨i + 1, by omega, rfl, by rw [HQ.out], by rw [HN.out], HB.out.alloc HB.out.size _⟩, by simp only [intOf]; omega⟩
    · obtain rfl : i = k := by omega
      go_wp2_with fail
      go_ret
      exact ⟨rfl, HB.out⟩
theorem val_take_le (l : List Nat) (i : Nat) : val (l.take i) ≤ val l := by
  have h : valF 0 l = valF (valF 0 (l.take i)) (l.drop i) := by
    conv => lhs; rw [← List.take_append_drop i l]
    unfold valF
    rw [List.foldl_append]
  unfold val
  rw [h, valF_eq (l.drop i) (valF 0 (l.take i))]
  exact Nat.le_trans (Nat.le_mul_of_pos_right _ (Nat.pow_pos (show 0 < 256 by decide))) (Nat.le_add_right _ _)
set_option maxHeartbeats 1000000 in
theorem rvalueW (s : ByteArray) (w : World) (hs : s.size ≤ 8) :
    Calls Tryz.prog 121 #[.string s] w fun e w' => e = .returned (.int .i64 (if 1099511627776 < val (bs s) then -1 else (val (bs s) : Nat))) ∧ w' = w := by
  obtain ⟨Z, hZ⟩ : ∃ Z, Z = if 1099511627776 < val (bs s) then (-1 : Int) else (val (bs s) : Nat) := ⟨_, rfl⟩
  rw [← hZ]
  have HZ := Lib.hid hZ
  clear hZ
  go_enter Tryz.func121, Tryz.ntmps121
  go_wp2_with fail
  go_loopw [3, 4] (fun v3 v4 wr => ∃ i : Nat, i ≤ s.size ∧ v4 = .int .i64 (i : Nat) ∧ v3 = .int .u64 (val ((bs s).take i) : Nat) ∧ wr = w) (fun _ v _ => (s.size - intOf v).toNat)
  case atStart => exact ⟨0, Nat.zero_le _, rfl, rfl, rfl⟩
  case round =>
    obtain ⟨i, hi, rfl, rfl, rfl⟩ := hrel
    by_cases hlt : i < s.size
    · have hlti : (i : Int) < (s.size : Int) := by omega
      obtain ⟨x, hx⟩ : ∃ x, x = val ((bs s).take i) := ⟨_, rfl⟩
      by_cases hbig : 1099511627776 < x
      · have E : Hid ((if 1099511627776 < val (bs s) then (-1 : Int) else (val (bs s) : Nat)) = -1) := by
          unfold Hid; have := val_take_le (bs s) i; rw [if_pos (by omega)]
        rw [← hx]
        clear hx
        have hbi : (1099511627776 : Int) < (x : Int) := by omega
        go_wp2_with fail
        go_ret
        exact ⟨by rw [HZ.out, E.out]; rfl, rfl⟩
      · obtain ⟨c, hc⟩ : ∃ c, c = s[i].toNat := ⟨_, rfl⟩
        have hcl : c < 256 := by rw [hc]; exact UInt8.toNat_lt _
        have HN : Hid (val ((bs s).take (i + 1)) = x * 256 + c) := by
          unfold Hid; rw [val_take_succ _ _ (by rw [length_bs]; omega), hx, hc, get_bsW s i hlt]
        rw [← hx]
        clear hx
        have hbi : ¬ (1099511627776 : Int) < (x : Int) := by omega
        go_wp2_with fail
        refine ⟨⟨i + 1, by omega, rfl, ?_, trivial⟩, by simp only [intOf]; omega⟩
        rw [HN.out, show (256 * (x : Int) + (s[i].toNat : Int)) = ((x * 256 + c : Nat) : Int) by omega]
    · obtain rfl : i = s.size := by omega
      rw [List.take_of_length_le (by rw [length_bs]; omega)]
      by_cases hbig : 1099511627776 < val (bs s)
      · have E : Hid ((if 1099511627776 < val (bs s) then (-1 : Int) else (val (bs s) : Nat)) = -1) := by unfold Hid; rw [if_pos hbig]
        have hbi : (1099511627776 : Int) < (val (bs s) : Int) := by omega
        go_wp2_with fail
        go_ret
        exact ⟨by rw [HZ.out, E.out]; rfl, rfl⟩
      · have E : Hid ((if 1099511627776 < val (bs s) then (-1 : Int) else (val (bs s) : Nat)) = (val (bs s) : Nat)) := by unfold Hid; rw [if_neg hbig]
        have hbi : ¬ (1099511627776 : Int) < (val (bs s) : Int) := by omega
        have hwr : wrap64 (val (bs s) : Nat) = (val (bs s) : Nat) := by unfold wrap64; omega
        go_wp2_with fail
        go_ret
        exact ⟨by rw [HZ.out, E.out]; rfl, rfl⟩
theorem strOf_appendL (a b : List Nat) : strOf a ++ strOf b = strOf (a ++ b) := by
  unfold strOf
  apply ByteArray.ext
  simp
end Go.Proofs.YtilpbjcbffbjeaaGreatDoor
