/- The document's Base64, FromHex and FromBase64. -/
import Derived.Test.YthdoeaiehajofaaDoorTRead
import Derived.Test.YthdoeaiehajofaaDoorTB64
import Derived.Test.YthdoeaiehajofaaDoorTLBack
namespace Go.Proofs.YthdoeaiehajofaaDoor
set_option linter.unusedVariables false
set_option maxRecDepth 100000
open Go.RowKit
set_option maxHeartbeats 1000000 in
theorem rbitW (s : ByteArray) (k : Nat) (w : World) (hs : s.size ≤ 67108864) (hk : k ≤ 1099511627776) : Calls Tryd.prog 54 #[.string s, .int .i64 (k : Nat)] w fun e w' => e = .returned (.int .i64 (C.bit (bs s) k : Nat)) ∧ w' = w := by
  by_cases h : 8 * s.size ≤ k
  · rw [C.bit_out' _ _ (by rw [length_bs]; exact h)]
    have hi : 8 * (s.size : Int) ≤ (k : Int) := by omega
    go_enter Tryd.func54, Tryd.ntmps54
    go_wp2_with fail
    go_ret
    exact ⟨rfl, rfl⟩
  · have hi : ¬ 8 * (s.size : Int) ≤ (k : Int) := by omega
    obtain ⟨m, hm⟩ : ∃ m, m = k / 8 := ⟨_, rfl⟩
    obtain ⟨j, hj⟩ : ∃ j, j = 7 - k % 8 := ⟨_, rfl⟩
    have hms : m < s.size := by omega
    obtain ⟨x, hx⟩ : ∃ x, s[m].toNat = x := ⟨_, rfl⟩
    have bx : x < 256 := by rw [← hx]; exact UInt8.toNat_lt _
    obtain ⟨q, hq⟩ : ∃ q, q = x / 2 ^ j := ⟨_, rfl⟩
    have hqx : q ≤ x := by rw [hq]; exact Nat.div_le_self _ _
    obtain ⟨y, hy⟩ : ∃ y, y = q % 2 := ⟨_, rfl⟩
    have HY : Hid (C.bit (bs s) k = y) := by unfold Hid; rw [C.bit_eq, ← hm, ← hj, ← get_bs s m hms, hx, ← hq, ← hy]
    have e1 : (k : Int) / 8 = (m : Int) := by omega
    have e2 : (k : Int).tdiv 8 = (m : Int) := by rw [Int.tdiv_eq_ediv_of_nonneg (by omega)]; omega
    have e3 : (7 : Int) - (k : Int) % 8 = (j : Int) := by omega
    have e4 : (x : Int) / 2 ^ j = (q : Int) := by rw [hq]; simp
    have e5 : bits .and .i64 (q : Int) 1 = (y : Int) := by rw [hy]; exact and1 q (by omega)
    have e6 : (q : Int) % 2 = (y : Int) := by omega
    have hj7 : j ≤ 7 := by omega
    have hmi : (m : Int) < (s.size : Int) := by omega
    rw [HY.out]
    clear hm hj hq hy h
    go_enter Tryd.func54, Tryd.ntmps54
    go_wp2_with fail
    go_ret
    exact ⟨rfl, rfl⟩
theorem six_step (l : List Nat) (q j : Nat) : (List.range (j + 1)).foldl (fun n j => 2 * n + C.bit l (6 * q + j)) 0 = 2 * (List.range j).foldl (fun n j => 2 * n + C.bit l (6 * q + j)) 0 + C.bit l (6 * q + j) := by
  rw [List.range_succ, List.foldl_append]; rfl
theorem six_bd (l : List Nat) (q : Nat) : ∀ j, (List.range j).foldl (fun n j => 2 * n + C.bit l (6 * q + j)) 0 < 2 ^ j
  | 0 => by simp
  | j + 1 => by rw [six_step]; have := six_bd l q j; have := C.bit_le l (6 * q + j); rw [Nat.pow_succ]; omega
set_option maxHeartbeats 4000000 in
theorem rb64W (s : ByteArray) (w : World) (hs : s.size ≤ 67108864) : Calls Tryd.prog 37 #[.string s] w fun e w' => e = .returned (.string (b64S s)) ∧ Below w.heap.size w w' := by
  obtain ⟨n0, hn0⟩ : ∃ n, n = w.heap.size := ⟨_, rfl⟩
  rw [← hn0]
  have HN0 := Lib.hid hn0
  clear hn0
  obtain ⟨f, hf⟩ : ∃ f : Nat → Nat, f = fun q => C.lt.getD (C.six (bs s) q) 0 := ⟨_, rfl⟩
  have HF : Hid (∀ q, f q = C.lt.getD (C.six (bs s) q) 0) := fun q => by rw [hf]
  have HR : Hid (b64S s = strOf ((List.range ((4 * s.size + 2) / 3)).map f)) := by
    unfold Hid b64S C.b64Of
    rw [C.sext_six _ (bs_lt s), List.map_map, length_bs, hf]; rfl
  clear hf
  go_enter Tryd.func37, Tryd.ntmps37
  go_wp2_with fail
  go_loopw [3, 4] (fun v3 v4 wr => ∃ i : Nat, 6 * i ≤ 8 * s.size + 5 ∧ v4 = .int .i64 ((6 * i : Nat) : Int) ∧ Owns wr n0 5 v3 ((List.range i).map f) ∧ Below n0 w wr ∧ n0 ≤ wr.heap.size) (fun _ v4 _ => (8 * s.size - intOf v4).toNat)
  case atStart => exact ⟨0, by omega, rfl, Owns.lit (l := []) w _ (by rw [HN0.out]; exact Nat.le_refl _) (by simp [nums]) (by show 0 ≤ maxLen; decide), (Below.refl _ _).alloc (by rw [HN0.out]; exact Nat.le_refl _) _, by rw [szA, HN0.out]; omega⟩
  case round =>
    obtain ⟨i, hi, rfl, hown, hbe, hz⟩ := hrel
    obtain ⟨p3, c3, rfl⟩ := hown.shape
    obtain ⟨M, hM⟩ : ∃ M, M = ((List.range i).map f).length := ⟨_, rfl⟩
    rw [← hM] at hown ⊢
    have hMi : M = i := by rw [hM]; simp
    have HO := Lib.hid hown
    have HE := Lib.hid hbe
    have HZ := Lib.hid hz
    have HM := Lib.hid hM
    have HMI := Lib.hid hMi
    obtain ⟨k, hk⟩ : ∃ k, k = 6 * i := ⟨_, rfl⟩
    rw [← hk] at hi ⊢
    have HK := Lib.hid hk
    have hk2 : k ≤ 536870917 := by omega
    clear hown hbe hz hM hMi hk
    by_cases hlt : k < 8 * s.size
    · have hli : (k : Int) < 8 * (s.size : Int) := by omega
      go_wp2_with fail
      go_loop [5, 6] (fun v5 v6 => ∃ j n : Nat, j ≤ 6 ∧ v6 = .int .i64 (j : Nat) ∧ v5 = .int .i64 (n : Nat) ∧ n < 64 ∧ n = (List.range j).foldl (fun n j => 2 * n + C.bit (bs s) (6 * i + j)) 0) (fun _ v6 => (6 - intOf v6).toNat)
      case atStart => exact ⟨0, 0, by omega, rfl, rfl, by omega, by simp⟩
      case round =>
        obtain ⟨j, n, hj, rfl, rfl, hn, hnv⟩ := hrel
        have HNV := Lib.hid hnv
        clear hnv
        by_cases hj6 : j < 6
        · obtain ⟨y, hy⟩ : ∃ y, y = C.bit (bs s) (k + j) := ⟨_, rfl⟩
          have hy1 : y ≤ 1 := by rw [hy]; exact C.bit_le _ _
          have HC : Hid (Calls Tryd.prog 54 #[.string s, .int .i64 ((k : Int) + (j : Int))] wr fun e w' => e = .returned (.int .i64 (y : Int)) ∧ w' = wr) := by
            rw [hy]; exact rbitW s (k + j) wr hs (by omega)
          have HSTEP : Hid ((List.range (j + 1)).foldl (fun n j => 2 * n + C.bit (bs s) (6 * i + j)) 0 = 2 * n + y) := by unfold Hid; rw [six_step, HNV.out, hy, HK.out]
          have HBD := Lib.hid (six_bd (bs s) i (j + 1))
          clear hy
          go_wp2_with fail
          refine HC.out.mono ?_
          rintro e w1 ⟨rfl, h1⟩
          rw [h1]
          clear h1
          go_wp2_with fail
          go_round
          case rel =>
            refine ⟨j + 1, 2 * n + y, by omega, by go_num, by go_num, ?_, HSTEP.out.symm⟩
            have h := HBD.out
            rw [HSTEP.out] at h
            have : 2 ^ (j + 1) ≤ 2 ^ 6 := Nat.pow_le_pow_right (by omega) (by omega)
            omega
          case measure => simp [intOf]; omega
        · have hje : j = 6 := by omega
          subst hje
          have HV : Hid (n = C.six (bs s) i) := HNV.out
          have i1 := fun w => idxLt .i64 (n : Int) n rfl (by omega) w
          unfold ltS at i1
          obtain ⟨y, hy⟩ : ∃ y, C.lt.getD n 0 = y := ⟨_, rfl⟩
          rw [hy] at i1
          have HY : Hid (f i = y) := by unfold Hid; rw [HF.out, ← HV.out, hy]
          clear hy
          go_wp2_with (at_builtin; refine wpList_append_bytes rfl (.tmp 27) (.tmp 30) 36 rfl Tryd.underlying36 infoU8 rfl (HO.out.alloc _) ⟨wr.heap.size, 0, none⟩ 1 1 [y] rfl rfl ?n2 ?n3 ?n4 ?_)
          try (case n2 => intro j hj; obtain rfl : j = 0 := (by omega); simp [Addr.add])
          try (case n3 => have h1 := HK.out; first | (rw [← HM.out, HMI.out]; omega) | (simp; omega) | omega)
          try (case n4 => have := HZ.out; simp; omega)
          intro v5 w5 ho5 hg5 hv5
          have HO5 := Lib.hid ho5
          have HB5 := Lib.hid ((HE.out.alloc HZ.out (.cells #[.int .u8 (y : Int)] 5)).grown hg5 (by have := HZ.out; simp; omega) (fun x hx => (HO.out.block hx).1))
          have HZ5 : Hid (n0 ≤ w5.heap.size) := by unfold Hid; have h1 := hg5.size; rw [szA] at h1; have := HZ.out; omega
          clear ho5 hg5 hv5
          go_wp2_with fail
          refine ⟨⟨i + 1, by have := HK.out; omega, by rw [HK.out]; congr 1, ?_, HB5.out, HZ5.out⟩, by simp [intOf]; omega⟩
          rw [List.range_succ, List.map_append]
          have h := HO5.out
          rw [← HY.out] at h
          exact h
    · have hli : ¬ (k : Int) < 8 * (s.size : Int) := by omega
      have hie : i = (4 * s.size + 2) / 3 := by have := HK.out; omega
      rw [hie] at HO
      clear hie
      go_wp2_with (with_reducible refine wpList_owned_string rfl 36 9 _ rfl Tryd.underlying36 Tryd.underlying5 Tryd.underlying9 rfl HO.out ?_)
      go_ret
      exact ⟨by rw [HR.out]; rfl, HE.out⟩
end Go.Proofs.YthdoeaiehajofaaDoor
