/- The program's Whole. -/
import Derived.Test.YtamaefnlicloaaaDoorWWhole
import Derived.Test.YtamaefnlicloaaaDoorWScan
import Derived.StillTailTactics
namespace Go.Proofs.YtamaefnlicloaaaDoor
set_option linter.unusedVariables false
set_option maxRecDepth 100000
open Go.RowKit
theorem results_tmp4 {fn : Func} {t u v x : Tmp} (h : fn.results = #[.tmp t, .tmp u, .tmp v, .tmp x]) (tmps : Array Value) (P : Program) (w : World) :
    (results fn tmps).run P w = .ok (.tuple #[tmps.getD t undef, tmps.getD u undef, tmps.getD v undef, tmps.getD x undef]) w := by
  simp [results, h]
theorem or_i64w (a b : Nat) (ha : a < 2 ^ 40) (hb : b < 2 ^ 40) : bits .or .i64 (a : Int) (b : Int) = ((a ||| b : Nat) : Int) := by
  show IntKind.i64.wrap ((BitVec.ofInt 64 (a : Int) ||| BitVec.ofInt 64 (b : Int)).toNat : Int) = _
  rw [BitVec.toNat_or, toNat_ofInt_nat 64 a (by omega), toNat_ofInt_nat 64 b (by omega)]
  have h := Nat.or_lt_two_pow ha hb
  exact IntWalk.i64_in _ (by omega)
theorem or16w (x y : Nat) (hx : x < 256) (hy : y < 256) : bits .or .i64 ((x : Int) * 65536) ((y : Int) * 256) = ((x * 65536 + y * 256 : Nat) : Int) := by
  rw [show (x : Int) * 65536 = ((x * 65536 : Nat) : Int) by omega, show (y : Int) * 256 = ((y * 256 : Nat) : Int) by omega, or_i64w _ _ (by omega) (by omega), show x * 65536 = x <<< 16 by rw [Nat.shiftLeft_eq], ← Nat.shiftLeft_add_eq_or_of_lt (by omega)]
theorem or8w (x y z : Nat) (hx : x < 256) (hy : y < 256) (hz : z < 256) : bits .or .i64 ((x : Int) * 65536 + (y : Int) * 256) (z : Int) = ((x * 65536 + y * 256 + z : Nat) : Int) := by
  rw [show (x : Int) * 65536 + (y : Int) * 256 = ((x * 65536 + y * 256 : Nat) : Int) by omega, or_i64w _ _ (by omega) (by omega), show x * 65536 + y * 256 = (x * 256 + y) <<< 8 by rw [Nat.shiftLeft_eq]; omega, ← Nat.shiftLeft_add_eq_or_of_lt (by omega)]
theorem val_take3 (l : List Nat) (h : 3 ≤ l.length) : val (l.take 3) = l.getD 0 0 * 65536 + l.getD 1 0 * 256 + l.getD 2 0 := by
  rw [val_take_succ l 2 (by omega), val_take_succ l 1 (by omega), val_take_succ l 0 (by omega)]
  simp [val, valF]
  omega
def wholeAt (s : ByteArray) (at_ : Int) : Option (Nat × List Nat × Nat) :=
  if at_ < 0 ∨ (s.size : Int) < at_ then none else (whole ((bs s).drop at_.toNat)).map fun x => (x.1, x.2, at_.toNat + (19 + x.2.length))
def wholeV : Option (Nat × List Nat × Nat) → Value
  | none => .tuple #[.int .i64 0, .string ⟨#[]⟩, .int .i64 0, .bool false]
  | some (n, p, e) => .tuple #[.int .i64 n, .string (strOf p), .int .i64 e, .bool true]
/-- string(s[i:j]) of loose bytes. -/
theorem convL {w : World} {g cap : Nat} {l : List Nat} {base : Nat} (h : LooseAt w base g cap l) (i n c : Nat) (hi : i + n ≤ l.length) :
    (convert 30 9 (.slice (some ⟨g, i, none⟩) n c)).run Tryd.prog w = .ok (.string (strOf ((l.drop i).take n))) w := by
  have hr := run_convert_bytes_arg (P := Tryd.prog) w 30 5 Tryd.underlying30 Tryd.underlying5 g i n c (((l.drop i).take n).map Int.ofNat) (by simp; omega) (fun j hj => by
    rw [h.cells (i + j) (by omega)]
    simp [List.getElem?_drop, hj, List.getD_eq_getElem?_getD, show i + j < l.length by omega]) 9 Tryd.underlying9
  have e1 : strOfNums (((l.drop i).take n).map Int.ofNat) = strOf ((l.drop i).take n) := by unfold strOfNums strOf; rw [List.map_map]; rfl
  rw [e1] at hr
  exact hr
theorem wholeW1 (s : ByteArray) (a : Int) (w : World) (hs : s.size ≤ 1099511627776) (h : a < 0 ∨ (s.size : Int) < a) :
    Calls Tryd.prog 10 #[.string s, .int .i64 a] w fun e w' => e = .returned (wholeV (wholeAt s a)) ∧ Below w.heap.size w w' := by
  have E : wholeAt s a = none := by unfold wholeAt; rw [if_pos h]
  rw [E]
  unfold wholeV
  rcases h with h | h
  · go_enter Tryd.func10, Tryd.ntmps10
    go_wp2_with fail
    (try simp only [Exit.inBlock, Exit.then]); refine bodyPost_ret (results_tmp4 rfl _ _ _) rfl ?_
    exact ⟨rfl, Below.refl _ _⟩
  · have h1 : ¬ a < 0 := by omega
    go_enter Tryd.func10, Tryd.ntmps10
    go_wp2_with fail
    (try simp only [Exit.inBlock, Exit.then]); refine bodyPost_ret (results_tmp4 rfl _ _ _) rfl ?_
    exact ⟨rfl, Below.refl _ _⟩
set_option maxHeartbeats 2000000 in
theorem wholeW2 (s : ByteArray) (a : Nat) (w : World) (hs : s.size ≤ 1099511627776) (h : a ≤ s.size) :
    Calls Tryd.prog 10 #[.string s, .int .i64 (a : Nat)] w fun e w' => e = .returned (wholeV (wholeAt s (a : Nat))) ∧ Below w.heap.size w w' := by
  have E : wholeAt s (a : Nat) = (whole ((bs s).drop a)).map fun x => (x.1, x.2, a + (19 + x.2.length)) := by
    unfold wholeAt; rw [if_neg (by omega), Int.toNat_natCast]
  rw [E]
  obtain ⟨t, ht⟩ : ∃ t, t = s.extract a s.size := ⟨_, rfl⟩
  have hbt : bs t = (bs s).drop a := by rw [ht, bs_from]
  have htl : t.size = s.size - a := by rw [← length_bs, hbt, List.length_drop, length_bs]
  rw [← hbt]
  by_cases h19 : s.size - a < 19
  · rw [whole_short _ (by rw [length_bs]; omega)]
    unfold wholeV
    dsimp only [Option.map]
    have h1 : ¬ (a : Int) < 0 := by omega
    have h2 : ¬ (s.size : Int) < (a : Int) := by omega
    have h3 : (s.size : Int) - (a : Int) < 19 := by omega
    go_enter Tryd.func10, Tryd.ntmps10
    go_wp2_with fail
    (try simp only [Exit.inBlock, Exit.then]); refine bodyPost_ret (results_tmp4 rfl _ _ _) rfl ?_
    exact ⟨rfl, Below.refl _ _⟩
  have h1 : ¬ (a : Int) < 0 := by omega
  have h2 : ¬ (s.size : Int) < (a : Int) := by omega
  have h3 : ¬ (s.size : Int) - (a : Int) < 19 := by omega
  obtain ⟨x, hx⟩ : ∃ x, x = (bs t).getD 0 0 := ⟨_, rfl⟩
  obtain ⟨y, hy⟩ : ∃ x, x = (bs t).getD 1 0 := ⟨_, rfl⟩
  obtain ⟨z, hz⟩ : ∃ x, x = (bs t).getD 2 0 := ⟨_, rfl⟩
  have glt : ∀ i, (bs t).getD i 0 < 256 := fun i => by
    rw [List.getD_eq_getElem?_getD]
    rcases Nat.lt_or_ge i (bs t).length with h | h
    · rw [List.getElem?_eq_getElem h]; exact bs_lt t _ (List.getElem_mem _)
    · rw [List.getElem?_eq_none h]; decide
  have hx2 : x < 256 := hx ▸ glt 0
  have hy2 : y < 256 := hy ▸ glt 1
  have hz2 : z < 256 := hz ▸ glt 2
  have o1 := or16w x y hx2 hy2
  have o2 := or8w x y z hx2 hy2 hz2
  obtain ⟨m0, hm0⟩ : ∃ m, m = s.size - a := ⟨_, rfl⟩
  have hv : val ((bs t).take 3) = x * 65536 + y * 256 + z := by rw [val_take3 _ (by rw [length_bs]; omega), hx, hy, hz]
  obtain ⟨L, hL⟩ : ∃ L, L = x * 65536 + y * 256 + z := ⟨_, rfl⟩
  rw [← hL] at hv o2
  have HV := Lib.hid hv
  have HT := Lib.hid ht
  have HBT := Lib.hid hbt
  obtain ⟨W1, hW1⟩ : ∃ W, W = Lib.bytesWorld w 5 t := ⟨_, rfl⟩
  obtain ⟨cap, hcap⟩ : ∃ c, c = grownCap w t.size 0 5 := ⟨_, rfl⟩
  have hcv := Lib.run_convert_string_bytes (P := Tryd.prog) w 9 30 5 t Tryd.underlying9 Tryd.underlying30 Tryd.underlying5
  have hla : LooseAt W1 w.heap.size w.heap.size cap (bs t) := by
    obtain ⟨g, c, he, h⟩ := loose_bytes w t
    rw [← hcap] at he
    injection he with e1 e2 e3
    injection e1 with e1
    injection e1 with e1
    subst e1 e3
    rw [← hW1] at h
    exact h
  have hb1 : Below w.heap.size w W1 := by rw [hW1]; exact Go.Joins.below_bytesWorld w.heap.size w 5 t (Nat.le_refl _)
  rw [← hW1, ← hcap, htl] at hcv
  rw [ht] at hcv
  rw [show s.size - a = m0 from hm0.symm] at hcv
  have hlb : (bs t).length = m0 := by rw [length_bs, htl, hm0]
  obtain ⟨g, hg⟩ : ∃ g, g = w.heap.size := ⟨_, rfl⟩
  rw [← hg] at hcv hla
  have HG := Lib.hid hg
  have HLA := Lib.hid hla
  have HB1 := Lib.hid hb1
  have HLB := Lib.hid hlb
  have hcm : m0 ≤ cap := by rw [← hlb]; exact hla.n
  have c0 : ∀ u : Grow W1, u.val.cell? ⟨g, 0, none⟩ = some (.int .u8 (x : Nat)) := fun u => u.cell (by rw [hx]; exact hla.cells 0 (by omega))
  have c1 : ∀ u : Grow W1, u.val.cell? ⟨g, 1, none⟩ = some (.int .u8 (y : Nat)) := fun u => u.cell (by rw [hy]; exact hla.cells 1 (by omega))
  have c2 : ∀ u : Grow W1, u.val.cell? ⟨g, 2, none⟩ = some (.int .u8 (z : Nat)) := fun u => u.cell (by rw [hz]; exact hla.cells 2 (by omega))
  have hm1 : (s.size : Int) - (a : Int) = (m0 : Int) := by omega
  have hm2 : 19 ≤ m0 := by omega
  have hm3 : a + m0 = s.size := by omega
  have HL := Lib.hid hL
  have HM0 := Lib.hid hm0
  clear hbt hx hy hz hv hL glt E hW1 hcap hg hla hb1 hlb htl hm0 ht
  go_enter Tryd.func10, Tryd.ntmps10
  go_wp2_with fail
  refine wp_region_fam (by kernel_rfl) (by kernel_rfl) Grow.val (Grow.start W1) ?_
  repeat go_big_quiet_step (fail)
  refine wpQuiet_nil ?_
  intro tt
  obtain ⟨W2, hW2⟩ : ∃ W, W = tt.val := ⟨_, rfl⟩
  have hbe2 := tt.below
  rw [← hW2] at hbe2
  rw [← hW2]
  have hla2 : LooseAt W2 g g cap (bs t) := HLA.out.grown (r := none) ⟨hbe2.os, hbe2.tape, hbe2.output, hbe2.size, fun k hk _ => hbe2.block k hk⟩ (by simp)
  have HB2 := Lib.hid (HB1.out.trans (hbe2.mono HB1.out.size))
  have HLA2 := Lib.hid hla2
  clear c0 c1 c2 hbe2 hW2 hla2 o1 o2
  by_cases hlong : 16384 < L
  · have hlong' : 16384 < (L : Int) := by omega
    have HW : Hid (whole (bs t) = none) := by unfold Hid whole; rw [HV.out, if_neg (by rw [HLB.out]; omega), if_pos (.inl hlong)]
    go_wp2_with fail
    (try simp only [Exit.inBlock, Exit.then]); refine bodyPost_ret (results_tmp4 rfl _ _ _) rfl ?_
    refine ⟨?_, HB2.out⟩
    rw [HW.out]
    rfl
  by_cases hshort : m0 < 19 + L
  · have hlong' : ¬ 16384 < (L : Int) := by omega
    have hshort' : (m0 : Int) < 11 + (L : Int) + 8 := by omega
    have HW : Hid (whole (bs t) = none) := by unfold Hid whole; rw [HV.out, if_neg (by rw [HLB.out]; omega), if_pos (.inr (by rw [HLB.out]; exact hshort))]
    go_wp2_with fail
    (try simp only [Exit.inBlock, Exit.then]); refine bodyPost_ret (results_tmp4 rfl _ _ _) rfl ?_
    refine ⟨?_, HB2.out⟩
    rw [HW.out]
    rfl
  have hlong' : ¬ 16384 < (L : Int) := by omega
  have hshort' : ¬ (m0 : Int) < 11 + (L : Int) + 8 := by omega
  have HWE : Hid (whole (bs t) = if val (((bs t).drop 3).take 8) < 1 ∨ 1099511627776 < val (((bs t).drop 3).take 8) ∨ ((bs t).drop 3).take 8 ≠ ((bs t).drop (11 + L)).take 8 then none else some (val (((bs t).drop 3).take 8), ((bs t).drop 11).take L)) := by
    unfold Hid
    conv => lhs; unfold whole
    rw [HV.out, if_neg (by rw [HLB.out]; omega), if_neg (by rw [HLB.out]; omega)]
  have g1 := fun c => convL HLA2.out 3 8 c (by rw [HLB.out]; omega)
  have g2 := fun c => convL HLA2.out (11 + L) 8 c (by rw [HLB.out]; omega)
  have g3 := fun (u : Grow W2) c => convL (HLA2.out.grown (u.grown none) (by simp)) 11 L c (by rw [HLB.out]; omega)
  obtain ⟨A, hA⟩ : ∃ A, A = ((bs t).drop 3).take 8 := ⟨_, rfl⟩
  obtain ⟨B, hB⟩ : ∃ A, A = ((bs t).drop (11 + L)).take 8 := ⟨_, rfl⟩
  obtain ⟨C, hC⟩ : ∃ A, A = ((bs t).drop 11).take L := ⟨_, rfl⟩
  have hAl : A.length = 8 := by rw [hA, List.length_take, List.length_drop, HLB.out]; omega
  have hBl : B.length = 8 := by rw [hB, List.length_take, List.length_drop, HLB.out]; omega
  have hCl : C.length = L := by rw [hC, List.length_take, List.length_drop, HLB.out]; omega
  have hAb : ∀ c ∈ A, c < 256 := fun c hc => bs_lt t c (List.mem_of_mem_drop (List.mem_of_mem_take (hA ▸ hc)))
  have hBb : ∀ c ∈ B, c < 256 := fun c hc => bs_lt t c (List.mem_of_mem_drop (List.mem_of_mem_take (hB ▸ hc)))
  rw [← hA] at g1
  rw [← hB] at g2
  rw [← hC] at g3
  rw [← hA, ← hB, ← hC] at HWE
  have HA := Lib.hid (ofW (strOf A) W2 (by rw [size_strOf, hAl]))
  have HB := Lib.hid (ofW (strOf B) W2 (by rw [size_strOf, hBl]))
  rw [bs_strOf A hAb] at HA
  rw [bs_strOf B hBb] at HB
  have HI : Hid (val A = val B → A = B) := val_inj hAb hBb (by rw [hAl, hBl])
  have HCL := Lib.hid hCl
  clear hA hB hC hAl hBl hCl hAb hBb
  obtain ⟨n, hn⟩ : ∃ n, n = val A := ⟨_, rfl⟩
  obtain ⟨n2, hn2⟩ : ∃ n, n = val B := ⟨_, rfl⟩
  rw [← hn] at HA HWE HI
  rw [← hn2] at HB HI
  have HN : Hid (A = B → n = n2) := by unfold Hid; intro h; rw [hn, hn2, h]
  clear hn hn2
  obtain ⟨b1, hb1⟩ : ∃ b, b = decide (1 ≤ n ∧ n ≤ 1099511627776) := ⟨_, rfl⟩
  obtain ⟨b2, hb2⟩ : ∃ b, b = decide (1 ≤ n2 ∧ n2 ≤ 1099511627776) := ⟨_, rfl⟩
  rw [← hb1] at HA
  rw [← hb2] at HB
  have HB1' := Lib.hid hb1
  clear hb1 hb2
  go_wp2_with fail
  refine HA.out.mono ?_
  rintro e w3 ⟨z1, rfl, hz1, rfl⟩
  have HZ1 := Lib.hid hz1
  clear hz1 g1 HA
  go_wp2_with fail
  refine HB.out.mono ?_
  rintro e w3 ⟨z2, rfl, hz2, rfl⟩
  have HZ2 := Lib.hid hz2
  clear hz2 g2 HB
  by_cases hn1 : 1 ≤ n ∧ n ≤ 1099511627776
  · have hz : z1 = n := (HZ1.out n hn1.2).2 rfl
    subst hz
    obtain rfl : b1 = true := by rw [HB1'.out]; exact decide_eq_true hn1
    by_cases hAB : A = B
    · have hz2 : z2 = n := (HZ2.out n hn1.2).2 (HN.out hAB).symm
      subst hz2
      have HW : Hid (whole (bs t) = some (n, C)) := by unfold Hid; rw [HWE.out, if_neg (by intro h; rcases h with h | h | h; omega; omega; exact h hAB)]
      clear HWE
      go_wp2_with fail
      refine wp_region_fam (by kernel_rfl) (by kernel_rfl) Grow.val (Grow.start _) ?_
      repeat go_big_quiet_step (fail)
      refine wpQuiet_nil ?_
      intro t2
      have HB3 := Lib.hid (HB2.out.trans (t2.below.mono HB2.out.size))
      go_wp2_with fail
      (try simp only [Exit.inBlock, Exit.then]); refine bodyPost_ret (results_tmp4 rfl _ _ _) rfl ?_
      refine ⟨?_, HB3.out⟩
      rw [HW.out]
      have e1 : ((a + (19 + C.length) : Nat) : Int) = (a : Int) + (11 + (L : Int) + 8) := by rw [HCL.out]; omega
      show _ = Ending.returned (.tuple #[.int .i64 n, .string (strOf C), .int .i64 ((a + (19 + C.length) : Nat) : Int), .bool true])
      rw [e1]; rfl
    · have hne : (n : Int) ≠ z2 := fun h => hAB (HI.out ((HZ2.out n hn1.2).1 h.symm).symm)
      have hne' : ((n : Int) != z2) = true := by simp [hne]
      have HW : Hid (whole (bs t) = none) := by unfold Hid; rw [HWE.out, if_pos (.inr (.inr hAB))]
      clear HWE
      go_wp2_with fail
      (try simp only [Exit.inBlock, Exit.then]); refine bodyPost_ret (results_tmp4 rfl _ _ _) rfl ?_
      refine ⟨?_, HB2.out⟩
      rw [HW.out]
      rfl
  · have HW : Hid (whole (bs t) = none) := by unfold Hid; rw [HWE.out, if_pos (by omega)]
    obtain rfl : b1 = false := by rw [HB1'.out]; exact decide_eq_false hn1
    clear HWE
    go_wp2_with fail
    (try simp only [Exit.inBlock, Exit.then]); refine bodyPost_ret (results_tmp4 rfl _ _ _) rfl ?_
    refine ⟨?_, HB2.out⟩
    rw [HW.out]
    rfl
theorem wholeW (s : ByteArray) (a : Int) (w : World) (hs : s.size ≤ 1099511627776) :
    Calls Tryd.prog 10 #[.string s, .int .i64 a] w fun e w' => e = .returned (wholeV (wholeAt s a)) ∧ Below w.heap.size w w' := by
  by_cases h : a < 0 ∨ (s.size : Int) < a
  · exact wholeW1 s a w hs h
  · obtain ⟨n, rfl⟩ := Int.eq_ofNat_of_zero_le (show 0 ≤ a by omega)
    exact wholeW2 s n w hs (by omega)
end Go.Proofs.YtamaefnlicloaaaDoor
