/- The walk of WalRecords. -/
import Derived.Test.YtamaefnlicloaaaDoorWRef2
import Derived.Test.YtamaefnlicloaaaDoorWFixed
namespace Go.Proofs.YtamaefnlicloaaaDoor
set_option linter.unusedVariables false
set_option maxRecDepth 100000
open Go.RowKit
theorem makeBW (u : World) (n : Nat) (hn : n ≤ 1048576) : (Instr.makeSlice 30 (.int .i64 (n : Int)) (.int .i64 (n : Int))).run Tryd.prog u = .ok (.slice (some ⟨u.heap.size, 0, none⟩) n n) (u.alloc (.cells (madeCells #[.int .u8 0] n) 5)) := by
  obtain ⟨i0, hi0, hz0, hz1, hz2⟩ := info_parts infoB
  have h := run_make (P := Tryd.prog) u 30 5 i0 (.int .u8 0) Tryd.underlying30 hi0 hz0 .i64 .i64 (n : Int) (n : Int) (by omega) (by omega) (by rw [hz2]; omega) (by omega)
  rw [hz1] at h
  simpa [Value.cells] using h
theorem convBW (u v : World) (n : Nat) (hv : v = (u.alloc (.cells (madeCells #[.int .u8 0] n) 5)).drew) : (convert 30 9 (.slice (some ⟨u.heap.size, 0, none⟩) n n)).run Tryd.prog v = .ok (.string (zs n)) v := by
  subst hv
  have hr := run_convert_bytes_arg (P := Tryd.prog) (u.alloc (.cells (madeCells #[.int .u8 0] n) 5)).drew 30 5 Tryd.underlying30 Tryd.underlying5 u.heap.size 0 n n (List.replicate n 0) (by simp) (fun i hi => by
    rw [cell_of_row _ u.heap.size (0 + i) (madeCells #[.int .u8 0] n) 5 _ (show ((u.alloc (.cells (madeCells #[.int .u8 0] n) 5)).drew).heap[u.heap.size]? = _ from heap_alloc_new u _)]
    simp [madeCells, Nat.mod_one, hi]) 9 Tryd.underlying9
  have e1 : strOfNums (List.replicate n 0) = zs n := by unfold strOfNums zs strOf; simp
  rw [e1] at hr
  exact hr
theorem cutToW (s : ByteArray) (hi : Int) (h : Nat) (hh : hi = h) (h2 : h ≤ s.size) (w : World) :
    (Instr.slice 9 (.string s) none (some (.int .i64 hi)) none).run Tryd.prog w = .ok (.string (s.extract 0 h)) w := by
  subst hh
  simp [Instr.slice, run_underlying Tryd.underlying9, Instr.sliceBounds, Instr.sliceBound, asIntOf, h2]
theorem wholeV_form (o : Option (Nat × List Nat × Nat)) : ∃ n p e k, wholeV o = .tuple #[.int .i64 n, .string p, .int .i64 e, .bool k] := by
  rcases o with _ | ⟨n, p, e⟩
  · exact ⟨_, _, _, _, rfl⟩
  · exact ⟨_, _, _, _, rfl⟩
/-- Both sides' record, whatever came. -/
theorem recBoth (N : Int) (P : ByteArray) (hN : -9223372036854775808 ≤ N ∧ N ≤ 9223372036854775807) : ∃ (r : ByteArray) (e : Int), (∀ w, Calls Tryd.prog 8 #[.int .i64 N, .string P] w fun x w' => x = .returned (.tuple #[.string r, .int .i64 e]) ∧ Below w.heap.size w w') ∧
    (∀ w, Calls Tryd.prog 9 #[.int .i64 N, .string P] w fun x w' => x = .returned (.tuple #[.string r, .int .i64 e]) ∧ Below w.heap.size w w') ∧
    ((e ≠ 0 ∧ r = ⟨#[]⟩) ∨ (e = 0 ∧ ∃ n : Nat, N = n ∧ 1 ≤ n ∧ n ≤ 1099511627776 ∧ P.size ≤ 16384 ∧ r = recS n P)) := by
  have sb : ∀ {e : Ending} {w w' : World} {v : Value}, (e = .returned v ∧ w = w') → (e = .returned v ∧ Below w.heap.size w w') := fun ⟨h1, h2⟩ => ⟨h1, h2 ▸ Below.refl _ _⟩
  by_cases hb : N < 1 ∨ 1099511627776 < N
  · exact ⟨_, 1, fun w => (recordBad N P w hb).mono fun _ _ h => sb h, fun w => (rrecordBad N P w hb).mono fun _ _ h => sb h, .inl ⟨by decide, rfl⟩⟩
  obtain ⟨n, rfl⟩ := Int.eq_ofNat_of_zero_le (show 0 ≤ N by omega)
  by_cases hl : 16384 < P.size
  · exact ⟨_, 171, fun w => (recordLong n P w (by omega) (by omega) hl).mono fun _ _ h => sb h, fun w => (rrecordLong n P w (by omega) (by omega) hl).mono fun _ _ h => sb h, .inl ⟨by decide, rfl⟩⟩
  · exact ⟨_, 0, fun w => recordW n P w (by omega) (by omega) (by omega), fun w => rrecordW n P w (by omega) (by omega) (by omega), .inr ⟨rfl, n, rfl, by omega, by omega, by omega, rfl⟩⟩
/-- A record cut short, noughts behind. -/
theorem torn_str (n : Nat) (P : ByteArray) (h1 : 1 ≤ n) (h2 : n ≤ 1099511627776) (hp : P.size ≤ 16384) (k : Nat) (hk : k ≤ 19 + P.size) :
    whole (bs ((recS n P).extract 0 k ++ zs (19 + P.size - k))) = none ∨ (recS n P).extract 0 k ++ zs (19 + P.size - k) = recS n P := by
  have e : bs ((recS n P).extract 0 k ++ zs (19 + P.size - k)) = (recL n (bs P)).take k ++ List.replicate (19 + P.size - k) 0 := by
    rw [bs_append, bs_extract, bs_recS, bs_zs, List.drop_zero, Nat.sub_zero]
  by_cases h : whole (bs ((recS n P).extract 0 k ++ zs (19 + P.size - k))) = none
  · exact .inl h
  · refine .inr (bs_inj ?_)
    rw [e] at h ⊢
    rw [bs_recS]
    have := torn n (bs P) [] h1 h2 (by rw [length_bs]; exact hp) (bs_lt P) k (by rw [length_bs]; exact hk)
    rw [length_bs, List.append_nil] at this
    exact this h
set_option maxHeartbeats 6400000 in
theorem recordsLaw (N At : Int) (P Bs : ByteArray) (w : World) (hN : -9223372036854775808 ≤ N ∧ N ≤ 9223372036854775807) (hAt : -9223372036854775808 ≤ At ∧ At ≤ 9223372036854775807) (hP : P.size ≤ 1048576) (hB : Bs.size ≤ 1048576) :
    Calls Tryd.prog 3 #[.agg #[.int .i64 N, .string P, .string Bs, .int .i64 At]] w fun e w' => e = .returned (.bool true) ∧ Below w.heap.size w w' := by
  obtain ⟨r, E, hr1, hr2, hr3⟩ := recBoth N P hN
  obtain ⟨n, p, en, k, hv⟩ := wholeV_form (wholeAt Bs At)
  have HR1 := Lib.hid hr1
  have HR2 := Lib.hid hr2
  have HW1 := Lib.hid (fun w => wholeW Bs At w (by omega))
  have HW2 := Lib.hid (fun w => rwholeW Bs At w (by omega) hAt)
  rw [hv] at HW1 HW2
  obtain ⟨W, hW⟩ : ∃ W, W = w.alloc (.cells #[.int .i64 N, .string P, .string Bs, .int .i64 At] 23) := ⟨_, rfl⟩
  obtain ⟨bx, hbx⟩ : ∃ bx, bx = w.heap.size := ⟨_, rfl⟩
  have hbW : Below w.heap.size w W := by rw [hW]; exact (Below.refl _ _).alloc (Nat.le_refl _) _
  have b0 : W.cell? ⟨bx, 0, none⟩ = some (.int .i64 N) := by rw [hW, hbx]; simp
  have b1 : W.cell? ⟨bx, 1, none⟩ = some (.string P) := by rw [hW, hbx]; simp
  have b2 : W.cell? ⟨bx, 2, none⟩ = some (.string Bs) := by rw [hW, hbx]; simp
  have b3 : W.cell? ⟨bx, 3, none⟩ = some (.int .i64 At) := by rw [hW, hbx]; simp
  have HC : Hid (∀ w1, Below W.heap.size W w1 → w1.cell? ⟨bx, 0, none⟩ = some (.int .i64 N) ∧ w1.cell? ⟨bx, 1, none⟩ = some (.string P) ∧ w1.cell? ⟨bx, 2, none⟩ = some (.string Bs) ∧ w1.cell? ⟨bx, 3, none⟩ = some (.int .i64 At)) := fun w1 hb =>
    ⟨(hb.cell (block_lt_of_cell b0)).trans b0, (hb.cell (block_lt_of_cell b1)).trans b1, (hb.cell (block_lt_of_cell b2)).trans b2, (hb.cell (block_lt_of_cell b3)).trans b3⟩
  have HBW := Lib.hid hbW
  have HWE := Lib.hid hW
  have HBX := Lib.hid hbx
  have HR3 := Lib.hid hr3
  clear hr1 hr2 hr3 hv hbW b0 b1 b2 b3 hW hbx
  go_enter Tryd.func3, Tryd.ntmps3
  go_wp2_with fail
  rw [← HWE.out, ← HBX.out]
  refine (HR1.out _).mono ?_
  rintro e w1 ⟨rfl, hb1⟩
  obtain ⟨c0, c1, c2, c3⟩ := HC.out w1 hb1
  have HB1 := Lib.hid hb1
  clear hb1
  go_wp2_with fail
  refine (HR2.out _).mono ?_
  rintro e w2 ⟨rfl, hb1⟩
  have HB2 := Lib.hid (HB1.out.trans (hb1.mono HB1.out.size))
  clear hb1 c0 c1 c2 c3
  obtain ⟨c0, c1, c2, c3⟩ := HC.out w2 HB2.out
  go_wp2_with fail
  refine (HW1.out _).mono ?_
  rintro e w3 ⟨rfl, hb1⟩
  have HB3 := Lib.hid (HB2.out.trans (hb1.mono HB2.out.size))
  clear hb1 c0 c1 c2 c3
  obtain ⟨c0, c1, c2, c3⟩ := HC.out w3 HB3.out
  go_wp2_with fail
  refine (HW2.out _).mono ?_
  rintro e w4 ⟨rfl, hb1⟩
  have HB4 := Lib.hid (HB3.out.trans (hb1.mono HB3.out.size))
  clear hb1 c0 c1 c2 c3 HB1 HB2 HB3 HR1 HR2 HW1 HW2
  obtain ⟨c0, c1, c2, c3⟩ := HC.out w4 HB4.out
  rcases HR3.out with ⟨hE, hr⟩ | ⟨hE, m, hNm, hm1, hm2, hp, hr⟩
  · have hE0 : (E == 0) = false := by rw [beq_eq_false_iff_ne]; exact hE
    subst hr
    clear HR3 hE
    go_wp2_with fail
    refine (fixedLW _).mono ?_
    rintro e w5 ⟨rfl, hb⟩
    have HB5 := Lib.hid (HBW.out.trans ((HB4.out.trans (hb.mono HB4.out.size)).mono HBW.out.size))
    clear hb
    go_wp2_with fail
    go_ret
    exact ⟨rfl, HB5.out⟩
  · subst hE
    have hrs : r.size = 19 + P.size := by rw [hr, size_recS]
    have hwh : wholeAt (Bs ++ r ++ Bs) (Bs.size : Nat) = some (m, bs P, Bs.size + r.size) := by
      rw [wholeAt_nat _ _ (by rw [ByteArray.size_append, ByteArray.size_append]; omega), bs_append, bs_append, List.append_assoc, List.drop_left' (length_bs Bs), hr, bs_recS, whole_rec m (bs P) (bs Bs) hm1 hm2 (by rw [length_bs]; exact hp)]
      simp only [Option.map, length_bs, size_recS]
    have HWH := Lib.hid (fun w => wholeW (Bs ++ r ++ Bs) (Bs.size : Nat) w (by rw [ByteArray.size_append, ByteArray.size_append]; omega))
    rw [hwh] at HWH
    replace HWH : Hid (∀ w, Calls Tryd.prog 10 #[.string (Bs ++ r ++ Bs), .int .i64 (Bs.size : Nat)] w fun e w' => e = .returned (.tuple #[.int .i64 (m : Nat), .string P, .int .i64 ((Bs.size : Int) + (r.size : Int)), .bool true]) ∧ Below w.heap.size w w') := by
      unfold Hid
      intro w
      refine (HWH.out w).mono fun e w' ⟨h1, h2⟩ => ⟨?_, h2⟩
      rw [h1]
      show Ending.returned (.tuple #[.int .i64 (m : Nat), .string (strOf (bs P)), .int .i64 ((Bs.size + r.size : Nat) : Int), .bool true]) = _
      rw [strOf_bs]
      rfl
    have HTN : Hid (∀ cut : Nat, cut < r.size → whole (bs (r.extract 0 (r.size - 1 - cut) ++ zs (cut + 1))) = none ∨ r.extract 0 (r.size - 1 - cut) ++ zs (cut + 1) = r) := by
      intro cut hc
      have := torn_str m P hm1 hm2 hp (r.size - 1 - cut) (by omega)
      rw [← hr, show 19 + P.size - (r.size - 1 - cut) = cut + 1 by omega] at this
      exact this
    have q1 : ¬ 9223372036854775807 < Bs.size + r.size := by omega
    have q2 : ¬ 9223372036854775807 < (Bs ++ r).size + Bs.size := by rw [ByteArray.size_append]; omega
    subst hNm
    have hrM : r.size ≤ 16403 := by omega
    clear HR3 hr hwh hrs
    go_wp2_with fail
    refine (HWH.out _).mono ?_
    rintro e w5 ⟨rfl, hb⟩
    have HB5 := Lib.hid (HB4.out.trans (hb.mono HB4.out.size))
    clear hb c0 c1 c2 c3 HWH
    obtain ⟨c0, c1, c2, c3⟩ := HC.out w5 HB5.out
    go_wp2_with fail
    clear c0 c1 c2 c3 q1 q2
    go_loopw [19] (fun v wr => ∃ i : Nat, i ≤ 40 ∧ v = .int .i64 (i : Nat) ∧ Below W.heap.size W wr) (fun v _ => (40 - intOf v).toNat)
    case atStart => exact ⟨0, by omega, rfl, HB5.out⟩
    case round =>
      obtain ⟨i, hi, rfl, hb⟩ := hrel
      have HBR := Lib.hid hb
      clear hb
      by_cases hlt : i < r.size ∧ i < 40
      · obtain ⟨hl1, hl2⟩ := hlt
        have hi1 : (i : Int) < (r.size : Int) := by omega
        have hi2 : (i : Int) < 40 := by omega
        have HT := Lib.hid (HTN.out i hl1)
        obtain ⟨T, hT⟩ : ∃ T, T = r.extract 0 (r.size - 1 - i) := ⟨_, rfl⟩
        have hsl : ∀ w, (Instr.slice 9 (.string r) none (some (.int .i64 ((r.size : Int) - 1 - (i : Int)))) none).run Tryd.prog w = .ok (.string T) w := fun w => by rw [hT]; exact cutToW r _ (r.size - 1 - i) (by omega) (by omega) w
        have hmk : (Instr.makeSlice 30 (.int .i64 (1 + (i : Int))) (.int .i64 (1 + (i : Int)))).run Tryd.prog wr.drew = .ok (.slice (some ⟨wr.heap.size, 0, none⟩) (i + 1) (i + 1)) (wr.drew.alloc (.cells (madeCells #[.int .u8 0] (i + 1)) 5)) := by
          rw [show (1 + (i : Int)) = ((i + 1 : Nat) : Int) by omega]; exact makeBW wr.drew (i + 1) (by omega)
        have hcv := convBW wr _ (i + 1) rfl
        have q3 : ¬ 9223372036854775807 < T.size + (zs (i + 1)).size := by rw [size_zs, hT, ByteArray.size_extract]; omega
        rw [← hT] at HT
        have HTE := Lib.hid hT
        have hT' := hT.symm
        clear hT
        go_wp2_with fail
        go_region
        all_goals
          clear hmk hcv hsl hT' q3
          obtain ⟨X, hX⟩ : ∃ X, X = T ++ zs (i + 1) := ⟨_, rfl⟩
          rw [← hX] at HT ⊢
          obtain ⟨w6, hw6⟩ : ∃ w6, w6 = (wr.alloc (.cells (madeCells #[.int .u8 0] (i + 1)) 5)).drew := ⟨_, rfl⟩
          have HB6 : Hid (Below W.heap.size W w6) := by unfold Hid; rw [hw6]; exact (HBR.out.alloc HBR.out.size _).drew
          have hXs : X.size ≤ 1099511627776 := by
            rcases HT.out with h | h
            · rw [hX, ByteArray.size_append, size_zs]
              have : T.size ≤ r.size := by rw [HTE.out, ByteArray.size_extract]; omega
              omega
            · rw [h]; omega
          rw [← hw6]
          clear hw6 hX
          rcases hS : whole (bs X) with _ | ⟨n', q⟩
          · have HWX := Lib.hid (fun w => whole0_none X hS w hXs)
            clear hS hXs HT
            go_wp2_with fail
            refine (HWX.out _).mono ?_
            rintro e w7 ⟨rfl, hb⟩
            have HB7 := Lib.hid (HB6.out.trans (hb.mono HB6.out.size))
            clear hb
            go_wp2_with fail
            exact ⟨⟨i + 1, by omega, rfl, HB7.out⟩, by simp only [intOf]; omega⟩
          · have HWX := Lib.hid (fun w => whole0_some X hS w hXs)
            have hxr : (X.toList == r.toList) = true := by
              rcases HT.out with h | h
              · rw [h] at hS; cases hS
              · rw [h]; simp
            clear hS hXs HT
            go_wp2_with fail
            refine (HWX.out _).mono ?_
            rintro e w7 ⟨rfl, hb⟩
            have HB7 := Lib.hid (HB6.out.trans (hb.mono HB6.out.size))
            clear hb
            go_wp2_with fail
            exact ⟨⟨i + 1, by omega, rfl, HB7.out⟩, by simp only [intOf]; omega⟩
      · by_cases hl1 : i < r.size
        · have hi1 : (i : Int) < (r.size : Int) := by omega
          have hi2 : ¬ (i : Int) < 40 := by omega
          clear hlt hl1
          go_wp2_with fail
          refine (fixedLW _).mono ?_
          rintro e w5 ⟨rfl, hb⟩
          have HB6 := Lib.hid (HBW.out.trans ((HBR.out.trans (hb.mono HBR.out.size)).mono HBW.out.size))
          clear hb
          go_wp2_with fail
          go_ret
          exact ⟨rfl, HB6.out⟩
        · have hi1 : ¬ (i : Int) < (r.size : Int) := by omega
          clear hlt hl1
          go_wp2_with fail
          refine (fixedLW _).mono ?_
          rintro e w5 ⟨rfl, hb⟩
          have HB6 := Lib.hid (HBW.out.trans ((HBR.out.trans (hb.mono HBR.out.size)).mono HBW.out.size))
          clear hb
          go_wp2_with fail
          go_ret
          exact ⟨rfl, HB6.out⟩
end Go.Proofs.YtamaefnlicloaaaDoor
