/- The document's FromUnits. -/
import Derived.Test.YthdoeaiehajofaaDoorTFrom
namespace Go.Proofs.YthdoeaiehajofaaDoor
set_option linter.unusedVariables false
set_option maxRecDepth 20000
open Go.RowKit
theorem lowW (z : Int) (w : World) : Calls Tryd.prog 42 #[.int .i64 z] w fun e w' => e = .returned (.bool (decide (U.low z))) ∧ w' = w := by
  by_cases a : 56320 ≤ z
  · by_cases b : z ≤ 57343
    · rw [decide_eq_true (show U.low z from ⟨a, b⟩)]
      go_enter Tryd.func42, Tryd.ntmps42
      go_wp2_with fail
      go_ret
      exact ⟨rfl, rfl⟩
    · rw [decide_eq_false (show ¬ U.low z from fun h => b h.2)]
      go_enter Tryd.func42, Tryd.ntmps42
      go_wp2_with fail
      go_ret
      exact ⟨rfl, rfl⟩
  · rw [decide_eq_false (show ¬ U.low z from fun h => a h.1)]
    go_enter Tryd.func42, Tryd.ntmps42
    go_wp2_with fail
    go_ret
    exact ⟨rfl, rfl⟩
theorem highW (z : Int) (w : World) : Calls Tryd.prog 43 #[.int .i64 z] w fun e w' => e = .returned (.bool (decide (U.high z))) ∧ w' = w := by
  by_cases a : 55296 ≤ z
  · by_cases b : z ≤ 56319
    · rw [decide_eq_true (show U.high z from ⟨a, b⟩)]
      go_enter Tryd.func43, Tryd.ntmps43
      go_wp2_with fail
      go_ret
      exact ⟨rfl, rfl⟩
    · rw [decide_eq_false (show ¬ U.high z from fun h => b h.2)]
      go_enter Tryd.func43, Tryd.ntmps43
      go_wp2_with fail
      go_ret
      exact ⟨rfl, rfl⟩
  · rw [decide_eq_false (show ¬ U.high z from fun h => a h.1)]
    go_enter Tryd.func43, Tryd.ntmps43
    go_wp2_with fail
    go_ret
    exact ⟨rfl, rfl⟩
theorem encs_le (rs : List Nat) : (U.encs rs).length ≤ 4 * rs.length := by
  induction rs with
  | nil => simp [U.encs]
  | cons r rs ih => rw [U.encs_cons, List.length_append, List.length_cons]; have := (U.enc_length r).2; omega
set_option maxHeartbeats 4000000 in
theorem rFromUnitsW (v : Value) (zs : List Int) (w : World) (h : Ints w v zs) (hs : zs.length ≤ 16777216) : Calls Tryd.prog 15 #[v] w (FUPost w zs) := by
  obtain ⟨p, c, rfl, hc⟩ := h.form
  obtain ⟨N, hN⟩ : ∃ N, N = zs.length := ⟨_, rfl⟩
  rw [← hN] at hs ⊢
  have HN := Lib.hid hN
  have HC := Lib.hid hc
  obtain ⟨F, hF⟩ : ∃ F, F = fu zs := ⟨_, rfl⟩
  unfold FUPost
  rw [← hF]
  have HF := Lib.hid hF
  clear h hc hN hF
  go_enter Tryd.func15, Tryd.ntmps15
  go_wp2_with fail
  go_loopw [4, 5] (fun v4 v5 wr => ∃ (i : Nat) (acc : List Nat), i ≤ N ∧ v5 = .int .i64 (i : Nat) ∧ JS zs i acc ∧ acc.length ≤ i ∧ Owns wr w.heap.size 5 v4 (U.encs acc) ∧ Below w.heap.size w wr) (fun _ v5 _ => (N - intOf v5).toNat)
  case atStart => exact ⟨0, [], Nat.zero_le _, rfl, JS.zero _, Nat.zero_le _, Owns.lit (l := []) w _ (Nat.le_refl _) (by simp [nums]) (by decide), (Below.refl _ _).alloc (Nat.le_refl _) _⟩
  case round =>
    obtain ⟨i, acc, hi, rfl, hj, hal, ho, hb⟩ := hrel
    obtain ⟨vp, vc, rfl⟩ := ho.shape
    obtain ⟨L, hL⟩ : ∃ L, L = (U.encs acc).length := ⟨_, rfl⟩
    rw [← hL] at ho ⊢
    have hLL : L ≤ 67108864 := by rw [hL]; have := encs_le acc; omega
    have HL := Lib.hid hL
    have HJ := Lib.hid hj
    have HO := Lib.hid ho
    have HB := Lib.hid hb
    have HAL := Lib.hid hal
    clear hj ho hb hL hal
    by_cases hlt : i < N
    · obtain ⟨b, off, rfl, hcell⟩ := HC.out i (by rw [← HN.out]; exact hlt)
      have c0 := (HB.out.cell (p := ⟨b, off + i, none⟩) (block_lt_of_cell hcell)).trans hcell
      obtain ⟨z, hz⟩ : ∃ z, z = zs.getD i 0 := ⟨_, rfl⟩
      rw [← hz] at c0
      have HZ := Lib.hid hz
      have HLT : Hid (i < zs.length) := by unfold Hid; rw [← HN.out]; exact hlt
      clear hcell hz
      have hlow := Lib.hid (lowW z)
      have hhigh := Lib.hid (highW z)
      by_cases hz0 : z < 0
      · go_wp2_with fail
        go_ret2
        have e := HJ.out.bad HLT.out (.inl (by rw [← HZ.out]; exact hz0))
        exact ⟨HB.out, by rw [HF.out]; unfold fu; rw [e]; rfl⟩
      · by_cases hz1 : 65535 < z
        · go_wp2_with fail
          go_ret2
          have e := HJ.out.bad HLT.out (.inr (by rw [← HZ.out]; exact hz1))
          exact ⟨HB.out, by rw [HF.out]; unfold fu; rw [e]; rfl⟩
        · have hzb : 0 ≤ z := by omega
          have hzc : z ≤ 65535 := by omega
          have HZI : Hid (¬ (zs.getD i 0 < 0 ∨ 65535 < zs.getD i 0)) := by unfold Hid; rw [← HZ.out]; omega
          clear hz0 hz1
          by_cases hlo : U.low z
          · rw [decide_eq_true hlo] at hlow
            have E4 : Hid ((U.jn zs).1 = 14) := HJ.out.low HLT.out HZI.out (by rw [← HZ.out]; exact hlo)
            clear hlo
            go_wp2_with (go_at_call 42; refine (hlow.out _).mono ?_; rintro e w' ⟨rfl, rfl⟩)
            go_ret2
            exact ⟨HB.out, by rw [HF.out]; unfold fu; rw [E4.out]; rfl⟩
          · rw [decide_eq_false hlo] at hlow
            by_cases hhi : U.high z
            · rw [decide_eq_true hhi] at hhigh
              have HHI : Hid (U.high (zs.getD i 0)) := by unfold Hid; rw [← HZ.out]; exact hhi
              have hz2 : 55296 ≤ z := hhi.1
              have hz3 : z ≤ 56319 := hhi.2
              clear hlo hhi
              by_cases hend : i + 1 = N
              · have hbe : (N : Int) ≤ (i : Int) + 1 := by omega
                have E4 : Hid ((U.jn zs).1 = 14) := HJ.out.alone HLT.out HHI.out (.inl (by rw [← HN.out]; exact hend))
                clear hend
                go_wp2_with (first | (go_at_call 42; refine (hlow.out _).mono ?_; rintro e w' ⟨rfl, rfl⟩) | (go_at_call 43; refine (hhigh.out _).mono ?_; rintro e w' ⟨rfl, rfl⟩))
                go_ret2
                exact ⟨HB.out, by rw [HF.out]; unfold fu; rw [E4.out]; rfl⟩
              · have hlt1 : i + 1 < N := by omega
                obtain ⟨b2, off2, hbo, hcell1⟩ := HC.out (i + 1) (by rw [← HN.out]; exact hlt1)
                obtain ⟨rfl, rfl⟩ : b = b2 ∧ off = off2 := by injection hbo with h1; injection h1 with h2 h3; exact ⟨h2, h3⟩
                have c1 := (HB.out.cell (p := ⟨b, off + (i + 1), none⟩) (block_lt_of_cell hcell1)).trans hcell1
                obtain ⟨y, hy⟩ : ∃ y, y = zs.getD (i + 1) 0 := ⟨_, rfl⟩
                rw [← hy] at c1
                have HY := Lib.hid hy
                have i1 : (i : Int) + 1 < (N : Int) := by omega
                have i0 : (0 : Int) ≤ (i : Int) + 1 := by omega
                have i3 : ((i : Int) + 1).toNat = i + 1 := by omega
                have hlowy := Lib.hid (lowW y)
                clear hcell1 hy hbo hend
                by_cases hyl : U.low y
                · rw [decide_eq_true hyl] at hlowy
                  obtain ⟨hy0, hy1⟩ := hyl
                  have HJ2 := Lib.hid (HJ.out.pair (by rw [← HN.out]; exact hlt1) HHI.out (by rw [← HY.out]; exact ⟨hy0, hy1⟩))
                  rw [← HZ.out, ← HY.out] at HJ2
                  obtain ⟨n, hn⟩ : ∃ n : Nat, n = (65536 + (z - 55296) * 1024 + (y - 56320)).toNat := ⟨_, rfl⟩
                  rw [← hn] at HJ2
                  have hne : 65536 + (z - 55296) * 1024 + (y - 56320) = (n : Int) := by omega
                  have hmay : U.may n := ⟨by omega, by omega⟩
                  obtain ⟨u, hu⟩ : ∃ u, u = strOf (U.enc n) := ⟨_, rfl⟩
                  have HRU : Hid (∀ w, Calls Tryd.prog 44 #[.int .i64 (n : Int)] w fun e w' => e = .returned (.string u) ∧ Below w.heap.size w w') := fun w => by rw [hu]; exact rRuneW n hmay.1 w
                  have HBU : Hid (bs u = U.enc n) := by unfold Hid; rw [hu, bs_strOf _ (U.enc_lt n hmay)]
                  have HUS : Hid (u.size ≤ 4) := by unfold Hid; rw [← length_bs, HBU.out]; exact (U.enc_length n).2
                  clear hn hmay hu
                  go_wp2_with (first | (go_at_call 42; refine (hlow.out _).mono ?_; rintro e w' ⟨rfl, rfl⟩) | (go_at_call 42; refine (hlowy.out _).mono ?_; rintro e w' ⟨rfl, rfl⟩) | (go_at_call 43; refine (hhigh.out _).mono ?_; rintro e w' ⟨rfl, rfl⟩))
                  refine (HRU.out _).mono ?_
                  rintro e w3 ⟨rfl, hb3⟩
                  have HO3 := Lib.hid (HO.out.below hb3)
                  have HB3 := Lib.hid (HB.out.trans (hb3.mono HB.out.size))
                  clear hb3 HO HB
                  go_wp2_with (at_builtin; refine wpList_append_str rfl _ _ 36 9 rfl Tryd.underlying36 Tryd.underlying9 infoU8 rfl HO3.out u rfl (by have := HUS.out; rw [← HL.out]; omega) HB3.out.size ?_)
                  intro v5 w5 ho5 hg5 hv5
                  have HO5 := Lib.hid ho5
                  have HB5 := Lib.hid (HB3.out.grown hg5 HB3.out.size (fun k hk => (HO3.out.block hk).1))
                  clear ho5 hg5 hv5 HO3 HB3
                  go_wp2_with fail
                  refine ⟨⟨i + 2, _, by omega, by simp; omega, HJ2.out, by have := HAL.out; simp; omega, ?_, HB5.out⟩, by simp [intOf]; omega⟩
                  rw [U.encs_append, show U.encs [n] = U.enc n by simp [U.encs], ← HBU.out]
                  exact HO5.out
                · rw [decide_eq_false hyl] at hlowy
                  have E4 : Hid ((U.jn zs).1 = 14) := HJ.out.alone HLT.out HHI.out (.inr (by rw [← HY.out]; exact hyl))
                  clear hyl
                  go_wp2_with (first | (go_at_call 42; refine (hlow.out _).mono ?_; rintro e w' ⟨rfl, rfl⟩) | (go_at_call 42; refine (hlowy.out _).mono ?_; rintro e w' ⟨rfl, rfl⟩) | (go_at_call 43; refine (hhigh.out _).mono ?_; rintro e w' ⟨rfl, rfl⟩))
                  go_ret2
                  exact ⟨HB.out, by rw [HF.out]; unfold fu; rw [E4.out]; rfl⟩
            · rw [decide_eq_false hhi] at hhigh
              have HJ2 := Lib.hid (HJ.out.one HLT.out HZI.out (by rw [← HZ.out]; exact hlo) (by rw [← HZ.out]; exact hhi))
              rw [← HZ.out] at HJ2
              obtain ⟨n, hn⟩ : ∃ n : Nat, n = z.toNat := ⟨_, rfl⟩
              rw [← hn] at HJ2
              have hne : z = (n : Int) := by omega
              have hmay : U.may n := ⟨by omega, by unfold U.low at hlo; unfold U.high at hhi; omega⟩
              obtain ⟨u, hu⟩ : ∃ u, u = strOf (U.enc n) := ⟨_, rfl⟩
              have HRU : Hid (∀ w, Calls Tryd.prog 44 #[.int .i64 z] w fun e w' => e = .returned (.string u) ∧ Below w.heap.size w w') := fun w => by rw [hu, hne]; exact rRuneW n hmay.1 w
              have HBU : Hid (bs u = U.enc n) := by unfold Hid; rw [hu, bs_strOf _ (U.enc_lt n hmay)]
              have HUS : Hid (u.size ≤ 4) := by unfold Hid; rw [← length_bs, HBU.out]; exact (U.enc_length n).2
              clear hn hmay hu hne hlo hhi
              go_wp2_with (first | (go_at_call 42; refine (hlow.out _).mono ?_; rintro e w' ⟨rfl, rfl⟩) | (go_at_call 43; refine (hhigh.out _).mono ?_; rintro e w' ⟨rfl, rfl⟩))
              refine (HRU.out _).mono ?_
              rintro e w3 ⟨rfl, hb3⟩
              have HO3 := Lib.hid (HO.out.below hb3)
              have HB3 := Lib.hid (HB.out.trans (hb3.mono HB.out.size))
              clear hb3 HO HB
              go_wp2_with (at_builtin; refine wpList_append_str rfl _ _ 36 9 rfl Tryd.underlying36 Tryd.underlying9 infoU8 rfl HO3.out u rfl (by have := HUS.out; rw [← HL.out]; omega) HB3.out.size ?_)
              intro v5 w5 ho5 hg5 hv5
              have HO5 := Lib.hid ho5
              have HB5 := Lib.hid (HB3.out.grown hg5 HB3.out.size (fun k hk => (HO3.out.block hk).1))
              clear ho5 hg5 hv5 HO3 HB3
              go_wp2_with fail
              refine ⟨⟨i + 1, _, by omega, rfl, HJ2.out, by have := HAL.out; simp; omega, ?_, HB5.out⟩, by simp [intOf]; omega⟩
              rw [U.encs_append, show U.encs [n] = U.enc n by simp [U.encs], ← HBU.out]
              exact HO5.out
    · obtain ⟨e1, e2⟩ := HJ.out.done (by rw [← HN.out]; exact hlt)
      have HE : Hid (F = strOf (U.encs acc)) := by unfold Hid; rw [HF.out]; unfold fu; rw [if_pos e1, e2]
      have E0 := Lib.hid e1
      clear e1 e2
      go_wp2_with (with_reducible refine wpList_owned_string (o := ⟨some 66, _, _, _, _, _⟩) rfl 36 9 _ rfl Tryd.underlying36 Tryd.underlying5 Tryd.underlying9 rfl HO.out ?_)
      go_ret2
      exact ⟨HB.out, by rw [HE.out, E0.out]; rfl⟩
end Go.Proofs.YthdoeaiehajofaaDoor
