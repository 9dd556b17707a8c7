/- The document's Num, Value, Record, Whole. -/
import Derived.Test.YtamaefnlicloaaaDoorWWhole2
namespace Go.Proofs.YtamaefnlicloaaaDoor
set_option linter.unusedVariables false
set_option maxRecDepth 100000
open Go.RowKit
theorem strOf_cons (c : Nat) (l : List Nat) : strOf [c] ++ strOf l = strOf (c :: l) := by
  unfold strOf
  apply ByteArray.ext
  simp
set_option maxHeartbeats 1000000 in
theorem rnumW (n k : Nat) (w : World) (hn : n < 9223372036854775808) (hk : k ≤ 8) :
    Calls Tryd.prog 37 #[.int .i64 (n : Nat), .int .i64 (k : Nat)] w fun e w' => e = .returned (.string (strOf (num n k))) ∧ Below w.heap.size w w' := by
  go_enter Tryd.func37, Tryd.ntmps37
  go_wp2_with fail
  go_loopw [0, 5, 6] (fun v0 v5 v6 wr => ∃ i : Nat, i ≤ k ∧ v6 = .int .i64 (i : Nat) ∧ v0 = .int .i64 ((n / 256 ^ i : Nat) : Int) ∧ v5 = .string (strOf (num n i)) ∧ Below w.heap.size w wr) (fun _ _ v _ => (k - intOf v).toNat)
  case atStart => exact ⟨0, Nat.zero_le _, rfl, by simp, rfl, Below.refl _ _⟩
  case round =>
    obtain ⟨i, hi, rfl, rfl, rfl, hb⟩ := hrel
    have HB := Lib.hid hb
    have hs0 := hb.size
    clear hb
    by_cases hlt : i < k
    · obtain ⟨q, hq⟩ : ∃ q, q = n / 256 ^ i := ⟨_, rfl⟩
      have hqn : q ≤ n := by rw [hq]; exact Nat.div_le_self _ _
      obtain ⟨c, hc⟩ : ∃ c, c = q % 256 := ⟨_, rfl⟩
      have HN : Hid (strOf [c] ++ strOf (num n i) = strOf (num n (i + 1))) := by unfold Hid; rw [strOf_cons, num_succ, hc, hq]
      have HQ : Hid (((n / 256 ^ (i + 1) : Nat) : Int) = (q : Int) / 256) := by unfold Hid; rw [Nat.pow_succ, ← Nat.div_div_eq_div_mul, ← hq]; omega
      rw [← hq]
      obtain ⟨t, ht⟩ : ∃ t, t = strOf (num n i) := ⟨_, rfl⟩
      have hts : t.size ≤ 8 := by rw [ht, size_strOf, length_num]; omega
      have hsc : (strOf [c]).size = 1 := rfl
      rw [← ht] at HN ⊢
      have e1 : (q : Int).tmod 256 = (c : Int) := by rw [Int.tmod_eq_emod_of_nonneg (by omega)]; omega
      have e2 : IntKind.u8.wrap (c : Int) = (c : Int) := by rw [IntKind.wrap_u8]; omega
      have hmx : ¬ 9223372036854775807 < (strOf [c]).size + t.size := by omega
      clear hq hc ht
      have hlti : (i : Int) < (k : Int) := by omega
      go_wp2_with (with_reducible refine wpList_bytes_string rfl 30 9 _ rfl Tryd.underlying30 Tryd.underlying5 Tryd.underlying9 wr.heap.size 0 1 1 rfl [c] rfl ?hc ?_)
      case hc => intro j hj; obtain rfl : j = 0 := by omega
                 simp
      go_wp2_with fail
      refine ⟨⟨i + 1, by omega, rfl, by rw [HQ.out], by rw [HN.out], HB.out.alloc HB.out.size _⟩, by simp only [intOf]; omega⟩
    · obtain rfl : i = k := by omega
      go_wp2_with fail
      go_ret
      exact ⟨rfl, HB.out⟩
theorem val_take_le (l : List Nat) (i : Nat) : val (l.take i) ≤ val l := by
  have h : valF 0 l = valF (valF 0 (l.take i)) (l.drop i) := by
    conv => lhs; rw [← List.take_append_drop i l]
    unfold valF
    rw [List.foldl_append]
  unfold val
  rw [h, valF_eq (l.drop i) (valF 0 (l.take i))]
  exact Nat.le_trans (Nat.le_mul_of_pos_right _ (Nat.pow_pos (show 0 < 256 by decide))) (Nat.le_add_right _ _)
set_option maxHeartbeats 1000000 in
theorem rvalueW (s : ByteArray) (w : World) (hs : s.size ≤ 8) :
    Calls Tryd.prog 39 #[.string s] w fun e w' => e = .returned (.int .i64 (if 1099511627776 < val (bs s) then -1 else (val (bs s) : Nat))) ∧ w' = w := by
  obtain ⟨Z, hZ⟩ : ∃ Z, Z = if 1099511627776 < val (bs s) then (-1 : Int) else (val (bs s) : Nat) := ⟨_, rfl⟩
  rw [← hZ]
  have HZ := Lib.hid hZ
  clear hZ
  go_enter Tryd.func39, Tryd.ntmps39
  go_wp2_with fail
  go_loopw [3, 4] (fun v3 v4 wr => ∃ i : Nat, i ≤ s.size ∧ v4 = .int .i64 (i : Nat) ∧ v3 = .int .u64 (val ((bs s).take i) : Nat) ∧ wr = w) (fun _ v _ => (s.size - intOf v).toNat)
  case atStart => exact ⟨0, Nat.zero_le _, rfl, rfl, rfl⟩
  case round =>
    obtain ⟨i, hi, rfl, rfl, rfl⟩ := hrel
    by_cases hlt : i < s.size
    · have hlti : (i : Int) < (s.size : Int) := by omega
      obtain ⟨x, hx⟩ : ∃ x, x = val ((bs s).take i) := ⟨_, rfl⟩
      by_cases hbig : 1099511627776 < x
      · have E : Hid ((if 1099511627776 < val (bs s) then (-1 : Int) else (val (bs s) : Nat)) = -1) := by
          unfold Hid; have := val_take_le (bs s) i; rw [if_pos (by omega)]
        rw [← hx]
        clear hx
        have hbi : (1099511627776 : Int) < (x : Int) := by omega
        go_wp2_with fail
        go_ret
        exact ⟨by rw [HZ.out, E.out]; rfl, rfl⟩
      · obtain ⟨c, hc⟩ : ∃ c, c = s[i].toNat := ⟨_, rfl⟩
        have hcl : c < 256 := by rw [hc]; exact UInt8.toNat_lt _
        have HN : Hid (val ((bs s).take (i + 1)) = x * 256 + c) := by
          unfold Hid; rw [val_take_succ _ _ (by rw [length_bs]; omega), hx, hc, get_bsW s i hlt]
        rw [← hx]
        clear hx
        have hbi : ¬ (1099511627776 : Int) < (x : Int) := by omega
        go_wp2_with fail
        refine ⟨⟨i + 1, by omega, rfl, ?_, trivial⟩, by simp only [intOf]; omega⟩
        rw [HN.out, show (256 * (x : Int) + (s[i].toNat : Int)) = ((x * 256 + c : Nat) : Int) by omega]
    · obtain rfl : i = s.size := by omega
      rw [List.take_of_length_le (by rw [length_bs]; omega)]
      by_cases hbig : 1099511627776 < val (bs s)
      · have E : Hid ((if 1099511627776 < val (bs s) then (-1 : Int) else (val (bs s) : Nat)) = -1) := by unfold Hid; rw [if_pos hbig]
        have hbi : (1099511627776 : Int) < (val (bs s) : Int) := by omega
        go_wp2_with fail
        go_ret
        exact ⟨by rw [HZ.out, E.out]; rfl, rfl⟩
      · have E : Hid ((if 1099511627776 < val (bs s) then (-1 : Int) else (val (bs s) : Nat)) = (val (bs s) : Nat)) := by unfold Hid; rw [if_neg hbig]
        have hbi : ¬ (1099511627776 : Int) < (val (bs s) : Int) := by omega
        have hwr : wrap64 (val (bs s) : Nat) = (val (bs s) : Nat) := by unfold wrap64; omega
        go_wp2_with fail
        go_ret
        exact ⟨by rw [HZ.out, E.out]; rfl, rfl⟩
theorem strOf_append (a b : List Nat) : strOf a ++ strOf b = strOf (a ++ b) := by
  unfold strOf
  apply ByteArray.ext
  simp
theorem rrecordBad (n : Int) (p : ByteArray) (w : World) (h : n < 1 ∨ 1099511627776 < n) :
    Calls Tryd.prog 9 #[.int .i64 n, .string p] w fun e w' => e = .returned (.tuple #[.string ⟨#[]⟩, .int .i64 1]) ∧ w = w' := by
  by_cases h1 : n < 1
  · go_enter Tryd.func9, Tryd.ntmps9
    go_wp2_with fail
    go_ret2
    exact ⟨rfl, rfl⟩
  · have h2 : 1099511627776 < n := by omega
    go_enter Tryd.func9, Tryd.ntmps9
    go_wp2_with fail
    go_ret2
    exact ⟨rfl, rfl⟩
theorem rrecordLong (n : Nat) (p : ByteArray) (w : World) (h1 : 1 ≤ n) (h2 : n ≤ 1099511627776) (hp : 16384 < p.size) :
    Calls Tryd.prog 9 #[.int .i64 (n : Nat), .string p] w fun e w' => e = .returned (.tuple #[.string ⟨#[]⟩, .int .i64 171]) ∧ w = w' := by
  go_enter Tryd.func9, Tryd.ntmps9
  go_wp2_with fail
  go_ret2
  exact ⟨rfl, rfl⟩
set_option maxHeartbeats 1000000 in
theorem rrecordW (n : Nat) (p : ByteArray) (w : World) (h1 : 1 ≤ n) (h2 : n ≤ 1099511627776) (hp : p.size ≤ 16384) :
    Calls Tryd.prog 9 #[.int .i64 (n : Nat), .string p] w fun e w' => e = .returned (.tuple #[.string (recS n p), .int .i64 0]) ∧ Below w.heap.size w w' := by
  have H1 := Lib.hid (rnumW p.size 3 w (by omega) (by omega))
  have H2 := Lib.hid (fun w => rnumW n 8 w (by omega) (by omega))
  obtain ⟨a, ha⟩ : ∃ a, a = strOf (num p.size 3) := ⟨_, rfl⟩
  obtain ⟨b, hb⟩ : ∃ a, a = strOf (num n 8) := ⟨_, rfl⟩
  have has : a.size = 3 := by rw [ha, size_strOf, length_num]
  have hbs : b.size = 8 := by rw [hb, size_strOf, length_num]
  have HE : Hid (a ++ b ++ p ++ b = recS n p) := by
    unfold Hid recS recL
    rw [ha, hb, length_bs]
    conv => lhs; rw [← strOf_bs p]
    rw [strOf_append, strOf_append, strOf_append]
    simp only [List.append_assoc]
    rw [strOf_bs]
  rw [← ha] at H1
  rw [← hb] at H2
  have m1 : ¬ 9223372036854775807 < a.size + b.size := by omega
  have m2 : ¬ 9223372036854775807 < (a ++ b).size + p.size := by rw [ByteArray.size_append]; omega
  have m3 : ¬ 9223372036854775807 < (a ++ b ++ p).size + b.size := by rw [ByteArray.size_append, ByteArray.size_append]; omega
  clear ha hb
  go_enter Tryd.func9, Tryd.ntmps9
  go_wp2_with fail
  refine H1.out.mono ?_
  rintro e w1 ⟨rfl, hb1⟩
  have HB := Lib.hid hb1
  clear hb1
  go_wp2_with fail
  refine (H2.out _).mono ?_
  rintro e w2 ⟨rfl, hb1⟩
  replace HB := Lib.hid (HB.out.trans (hb1.mono HB.out.size))
  clear hb1
  go_wp2_with fail
  refine (H2.out _).mono ?_
  rintro e w3 ⟨rfl, hb1⟩
  replace HB := Lib.hid (HB.out.trans (hb1.mono HB.out.size))
  clear hb1
  go_wp2_with fail
  go_ret2
  exact ⟨by rw [← HE.out]; rfl, HB.out⟩
end Go.Proofs.YtamaefnlicloaaaDoor
