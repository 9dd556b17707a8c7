/- The document's Whole. -/
import Derived.Test.YtilpbjcbffbjeaaGreatDoorWRef
namespace Go.Proofs.YtilpbjcbffbjeaaGreatDoor
set_option linter.unusedVariables false
set_option maxRecDepth 100000
open Go.RowKit
theorem toList_beqW (s t : ByteArray) : (s.toList == t.toList) = decide (s = t) := by
  by_cases h : s = t
  · subst h; simp
  · have h1 : s.toList ≠ t.toList := fun e => h (by
      rw [Lib.toList_data, Lib.toList_data] at e
      exact ByteArray.ext (Array.toList_inj.1 e))
    rw [decide_eq_false h]
    exact beq_eq_false_iff_ne.2 h1
theorem cutSW (s : ByteArray) (lo hi : Int) (l h : Nat) (hl : lo = l) (hh : hi = h) (h1 : l ≤ h) (h2 : h ≤ s.size) (w : World) :
    (Instr.slice 9 (.string s) (some (.int .i64 lo)) (some (.int .i64 hi)) none).run Tryz.prog w = .ok (.string (s.extract l h)) w := by
  subst hl hh
  simp [Instr.slice, run_underlying Tryz.underlying9, Instr.sliceBounds, Instr.sliceBound, asIntOf, h1, h2]
set_option maxHeartbeats 2000000 in
theorem rWholeLW (s : ByteArray) (a : Int) (w : World) (hs : s.size ≤ 1099511627776) (ha : -9223372036854775808 ≤ a ∧ a ≤ 9223372036854775807) :
    Calls Tryz.prog 96 #[.string s, .int .i64 a] w fun e w' => e = .returned (wholeV (wholeAt s a)) ∧ Below w.heap.size w w' := by
  by_cases hbad : a < 0 ∨ (s.size : Int) < a
  · have E : wholeAt s a = none := by unfold wholeAt; rw [if_pos hbad]
    rw [E]
    unfold wholeV
    rcases hbad with h | h
    · go_enter Tryz.func96, Tryz.ntmps96
      go_wp2_with fail
      (try simp only [Exit.inBlock, Exit.then]); refine bodyPost_ret (results_tmp4 rfl _ _ _) rfl ?_
      exact ⟨rfl, Below.refl _ _⟩
    · have h1 : ¬ a < 0 := by omega
      go_enter Tryz.func96, Tryz.ntmps96
      go_wp2_with fail
      (try simp only [Exit.inBlock, Exit.then]); refine bodyPost_ret (results_tmp4 rfl _ _ _) rfl ?_
      exact ⟨rfl, Below.refl _ _⟩
  obtain ⟨n0, rfl⟩ := Int.eq_ofNat_of_zero_le (show 0 ≤ a by omega)
  have hle : n0 ≤ s.size := by omega
  have E : wholeAt s (n0 : Nat) = (whole ((bs s).drop n0)).map fun x => (x.1, x.2, n0 + (19 + x.2.length)) := by
    unfold wholeAt; rw [if_neg (by omega), Int.toNat_natCast]
  rw [E]
  clear E
  have h1 : ¬ (n0 : Int) < 0 := by omega
  have h2 : ¬ (s.size : Int) < (n0 : Int) := by omega
  by_cases h19 : s.size - n0 < 19
  · rw [whole_short _ (by rw [List.length_drop, length_bs]; omega)]
    unfold wholeV
    dsimp only [Option.map]
    have h3 : (s.size : Int) - (n0 : Int) < 19 := by omega
    go_enter Tryz.func96, Tryz.ntmps96
    go_wp2_with fail
    (try simp only [Exit.inBlock, Exit.then]); refine bodyPost_ret (results_tmp4 rfl _ _ _) rfl ?_
    exact ⟨rfl, Below.refl _ _⟩
  have h3 : ¬ (s.size : Int) - (n0 : Int) < 19 := by omega
  obtain ⟨M, hM⟩ : ∃ M, M = (bs s).drop n0 := ⟨_, rfl⟩
  have hMl : M.length = s.size - n0 := by rw [hM, List.length_drop, length_bs]
  rw [← hM]
  have hMb : ∀ c ∈ M, c < 256 := fun c hc => bs_lt s c (List.mem_of_mem_drop (hM ▸ hc))
  -- the three strings
  obtain ⟨T, hT⟩ : ∃ T, T = s.extract n0 (n0 + 3) := ⟨_, rfl⟩
  obtain ⟨X, hX⟩ : ∃ T, T = s.extract (n0 + 3) (n0 + 11) := ⟨_, rfl⟩
  have bT : bs T = M.take 3 := by rw [hT, bs_extract, hM, show n0 + 3 - n0 = 3 by omega]
  have bX : bs X = (M.drop 3).take 8 := by rw [hX, bs_extract, hM, show n0 + 11 - (n0 + 3) = 8 by omega, List.drop_drop]
  have sT : T.size = 3 := by rw [← length_bs, bT, List.length_take]; omega
  have sX : X.size = 8 := by rw [← length_bs, bX, List.length_take, List.length_drop]; omega
  obtain ⟨L, hL⟩ : ∃ L, L = val (M.take 3) := ⟨_, rfl⟩
  have hLl : L < 16777216 := by
    have := val_lt (M.take 3) (fun c hc => hMb c (List.mem_of_mem_take hc))
    rw [List.length_take, Nat.min_eq_left (by omega), ← hL] at this
    exact this
  obtain ⟨n, hn⟩ : ∃ n, n = val ((M.drop 3).take 8) := ⟨_, rfl⟩
  have HVT := Lib.hid (fun w => rvalueW T w (by omega))
  rw [bT, ← hL, if_neg (by omega)] at HVT
  have HVX := Lib.hid (fun w => rvalueW X w (by omega))
  rw [bX, ← hn] at HVX
  obtain ⟨z, hz⟩ : ∃ z, z = if 1099511627776 < n then (-1 : Int) else (n : Nat) := ⟨_, rfl⟩
  rw [← hz] at HVX
  have HW : Hid (whole M = if 16384 < L ∨ M.length < 19 + L then none else if n < 1 ∨ 1099511627776 < n ∨ (M.drop 3).take 8 ≠ (M.drop (11 + L)).take 8 then none else some (n, (M.drop 11).take L)) := by
    unfold Hid
    conv => lhs; unfold whole
    rw [if_neg (by omega), ← hL, ← hn]
  have hT' : ∀ w, (Instr.slice 9 (.string s) (some (.int .i64 (n0 : Int))) (some (.int .i64 ((n0 : Int) + 3))) none).run Tryz.prog w = .ok (.string T) w := fun w => by rw [hT]; exact cutSW s _ _ n0 (n0 + 3) rfl (by omega) (by omega) (by omega) w
  have hX' : ∀ w, (Instr.slice 9 (.string s) (some (.int .i64 ((n0 : Int) + 3))) (some (.int .i64 ((n0 : Int) + 11))) none).run Tryz.prog w = .ok (.string X) w := fun w => by rw [hX]; exact cutSW s _ _ (n0 + 3) (n0 + 11) (by omega) (by omega) (by omega) (by omega) w
  have HZ := Lib.hid hz
  have HMl := Lib.hid hMl
  have HM := Lib.hid hM
  have HbX := Lib.hid bX
  clear hbad hT hX bT bX sT sX hL hn hz hM hMl hMb
  by_cases hlong : 16384 < L
  · have hl1 : (16384 : Int) < (L : Int) := by omega
    have HN : Hid (whole M = none) := by unfold Hid; rw [HW.out, if_pos (.inl hlong)]
    go_enter Tryz.func96, Tryz.ntmps96
    go_wp2_with fail
    refine (HVT.out _).mono ?_
    rintro e w1 ⟨rfl, rfl⟩
    go_wp2_with fail
    (try simp only [Exit.inBlock, Exit.then]); refine bodyPost_ret (results_tmp4 rfl _ _ _) rfl ?_
    exact ⟨by rw [HN.out]; rfl, Below.refl _ _⟩
  have hl1 : ¬ (16384 : Int) < (L : Int) := by omega
  by_cases hshort : s.size - n0 < 19 + L
  · have hl2 : (s.size : Int) - (n0 : Int) < 19 + (L : Int) := by omega
    have HN : Hid (whole M = none) := by unfold Hid; rw [HW.out, if_pos (.inr (by rw [HMl.out]; exact hshort))]
    go_enter Tryz.func96, Tryz.ntmps96
    go_wp2_with fail
    refine (HVT.out _).mono ?_
    rintro e w1 ⟨rfl, rfl⟩
    go_wp2_with fail
    (try simp only [Exit.inBlock, Exit.then]); refine bodyPost_ret (results_tmp4 rfl _ _ _) rfl ?_
    exact ⟨by rw [HN.out]; rfl, Below.refl _ _⟩
  have hl2 : ¬ (s.size : Int) - (n0 : Int) < 19 + (L : Int) := by omega
  obtain ⟨Y, hY⟩ : ∃ T, T = s.extract (n0 + 11 + L) (n0 + 19 + L) := ⟨_, rfl⟩
  have bY : bs Y = (M.drop (11 + L)).take 8 := by rw [hY, bs_extract, HM.out, show n0 + 19 + L - (n0 + 11 + L) = 8 by omega, List.drop_drop, show n0 + (11 + L) = n0 + 11 + L by omega]
  obtain ⟨P, hP⟩ : ∃ T, T = s.extract (n0 + 11) (n0 + 11 + L) := ⟨_, rfl⟩
  have bP : bs P = (M.drop 11).take L := by rw [hP, bs_extract, HM.out, show n0 + 11 + L - (n0 + 11) = L by omega, List.drop_drop]
  have hY' : ∀ w, (Instr.slice 9 (.string s) (some (.int .i64 ((n0 : Int) + 11 + (L : Int)))) (some (.int .i64 ((n0 : Int) + 19 + (L : Int)))) none).run Tryz.prog w = .ok (.string Y) w := fun w => by rw [hY]; exact cutSW s _ _ (n0 + 11 + L) (n0 + 19 + L) (by omega) (by omega) (by omega) (by omega) w
  have hP' : ∀ w, (Instr.slice 9 (.string s) (some (.int .i64 ((n0 : Int) + 11))) (some (.int .i64 ((n0 : Int) + 11 + (L : Int)))) none).run Tryz.prog w = .ok (.string P) w := fun w => by rw [hP]; exact cutSW s _ _ (n0 + 11) (n0 + 11 + L) (by omega) (by omega) (by omega) (by omega) w
  have hPl : P.size = L := by rw [← length_bs, bP, List.length_take, List.length_drop, HMl.out]; omega
  have HP : Hid (P = strOf ((M.drop 11).take L) ∧ ((M.drop 11).take L).length = L) := ⟨by rw [← bP, strOf_bs], by rw [← bP, length_bs, hPl]⟩
  have HXY : Hid ((X = Y) ↔ (M.drop 3).take 8 = (M.drop (11 + L)).take 8) := by
    unfold Hid
    rw [← HbX.out, ← bY]
    exact ⟨fun h => by rw [h], fun h => bs_inj h⟩
  have hb1 := toList_beqW X Y
  clear hY bY hP bP hPl
  by_cases hn1 : z < 1
  · have HN : Hid (whole M = none) := by
      unfold Hid
      have := HZ.out
      rw [HW.out, if_neg (by rw [HMl.out]; omega), if_pos (by split at this <;> omega)]
    go_enter Tryz.func96, Tryz.ntmps96
    go_wp2_with fail
    refine (HVT.out _).mono ?_
    rintro e w1 ⟨rfl, rfl⟩
    go_wp2_with fail
    refine (HVX.out _).mono ?_
    rintro e w2 ⟨rfl, rfl⟩
    go_wp2_with fail
    refine wp_region_fam (by kernel_rfl) (by kernel_rfl) Grow.val (Grow.start _) ?_
    repeat go_big_quiet_step (fail)
    refine wpQuiet_nil ?_
    intro tt
    have HB := Lib.hid tt.below
    go_wp2_with fail
    (try simp only [Exit.inBlock, Exit.then]); refine bodyPost_ret (results_tmp4 rfl _ _ _) rfl ?_
    exact ⟨by rw [HN.out]; rfl, HB.out⟩
  have hzn : z = n := by have := HZ.out; split at this <;> omega
  have hnn : 1 ≤ n ∧ n ≤ 1099511627776 := by have := HZ.out; split at this <;> omega
  have d1 : decide (z < 1) = false := decide_eq_false hn1
  subst hzn
  by_cases hxy : X = Y
  · rw [decide_eq_true hxy] at hb1
    have HN : Hid (whole M = some (n, (M.drop 11).take L)) := by
      unfold Hid
      rw [HW.out, if_neg (by rw [HMl.out]; omega), if_neg (by intro h; rcases h with h | h | h; omega; omega; exact h (HXY.out.1 hxy))]
    clear hxy
    go_enter Tryz.func96, Tryz.ntmps96
    go_wp2_with fail
    refine (HVT.out _).mono ?_
    rintro e w1 ⟨rfl, rfl⟩
    go_wp2_with fail
    refine (HVX.out _).mono ?_
    rintro e w2 ⟨rfl, rfl⟩
    go_wp2_with fail
    refine wp_region_fam (by kernel_rfl) (by kernel_rfl) Grow.val (Grow.start _) ?_
    repeat go_big_quiet_step (fail)
    refine wpQuiet_nil ?_
    intro tt
    have HB := Lib.hid tt.below
    obtain ⟨W3, hW3⟩ : ∃ W, W = tt.val := ⟨_, rfl⟩
    rw [← hW3] at HB ⊢
    clear hW3
    go_wp2_with fail
    refine wp_region_fam (by kernel_rfl) (by kernel_rfl) Grow.val (Grow.start _) ?_
    repeat go_big_quiet_step (fail)
    refine wpQuiet_nil ?_
    intro t2
    have HB3 := Lib.hid (HB.out.trans (t2.below.mono HB.out.size))
    go_wp2_with fail
    (try simp only [Exit.inBlock, Exit.then]); refine bodyPost_ret (results_tmp4 rfl _ _ _) rfl ?_
    refine ⟨?_, HB3.out⟩
    rw [HN.out]
    have e1 : ((n0 + (19 + ((M.drop 11).take L).length) : Nat) : Int) = (n0 : Int) + 19 + (L : Int) := by rw [HP.out.2]; omega
    show _ = Ending.returned (.tuple #[.int .i64 n, .string (strOf ((M.drop 11).take L)), .int .i64 ((n0 + (19 + ((M.drop 11).take L).length) : Nat) : Int), .bool true])
    rw [e1, ← HP.out.1]; rfl
  · rw [decide_eq_false hxy] at hb1
    have HN : Hid (whole M = none) := by
      unfold Hid
      rw [HW.out, if_neg (by rw [HMl.out]; omega), if_pos (.inr (.inr (fun h => hxy (HXY.out.2 h))))]
    clear hxy
    go_enter Tryz.func96, Tryz.ntmps96
    go_wp2_with fail
    refine (HVT.out _).mono ?_
    rintro e w1 ⟨rfl, rfl⟩
    go_wp2_with fail
    refine (HVX.out _).mono ?_
    rintro e w2 ⟨rfl, rfl⟩
    go_wp2_with fail
    refine wp_region_fam (by kernel_rfl) (by kernel_rfl) Grow.val (Grow.start _) ?_
    repeat go_big_quiet_step (fail)
    refine wpQuiet_nil ?_
    intro tt
    have HB := Lib.hid tt.below
    go_wp2_with fail
    (try simp only [Exit.inBlock, Exit.then]); refine bodyPost_ret (results_tmp4 rfl _ _ _) rfl ?_
    exact ⟨by rw [HN.out]; rfl, HB.out⟩
end Go.Proofs.YtilpbjcbffbjeaaGreatDoor
