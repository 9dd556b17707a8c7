/- The walk of StoreApart. -/
import Derived.Test.YtilpbjcbffbjeaaGreatDoorPkS
namespace Go.Proofs.YtilpbjcbffbjeaaGreatDoor
set_option linter.unusedVariables false
set_option maxRecDepth 100000
open Go.RowKit
theorem CAft.other {ten : Nat} {n : Nat → Nat} {tx : Nat → ByteArray} {t gen : Int} {u : ByteArray} {n' : Nat → Nat} {tx' : Nat → ByteArray} (h : CAft ten n tx t gen u n' tx') {k : Nat} (ht : t ≠ (k : Int)) : n' (k + 1) = n (k + 1) ∧ tx' (k + 1) = tx (k + 1) := by
  rcases h with ⟨_, rfl, rfl⟩ | ⟨_, j, _, rfl, rfl, rfl⟩
  · exact ⟨rfl, rfl⟩
  · have : k + 1 ≠ j + 1 := by omega
    exact ⟨upd_other _ _ this, upd_other _ _ this⟩
theorem CAft.same {ten : Nat} {n n2 : Nat → Nat} {tx tx2 : Nat → ByteArray} {k : Nat} {gen : Int} {u : ByteArray} {n' n2' : Nat → Nat} {tx' tx2' : Nat → ByteArray} (h : CAft ten n tx (k : Int) gen u n' tx') (h2 : CAft ten n2 tx2 (k : Int) gen u n2' tx2') (hr : cRes ten n (k : Int) gen u = cRes ten n2 (k : Int) gen u) (hn : n (k + 1) = n2 (k + 1)) (ht : tx (k + 1) = tx2 (k + 1)) : n' (k + 1) = n2' (k + 1) ∧ tx' (k + 1) = tx2' (k + 1) := by
  rcases h with ⟨e, rfl, rfl⟩ | ⟨e, j, _, hj, rfl, rfl⟩
  · rcases h2 with ⟨_, rfl, rfl⟩ | ⟨e2, _⟩
    · exact ⟨hn, ht⟩
    · exact absurd (hr.trans e2) e
  · rcases h2 with ⟨e2, _⟩ | ⟨_, j2, _, hj2, rfl, rfl⟩
    · exact absurd (hr.symm.trans e) e2
    · obtain rfl : j = k := by omega
      obtain rfl : j2 = j := by omega
      rw [upd_same, upd_same, upd_same, upd_same, hn]
      exact ⟨rfl, rfl⟩
/-- A call in a block of its own. -/
def XO (w : World) (ob : Nat) (xon xk xt xo xn : Int) (xs : ByteArray) (cv : Value) : Prop := w.heap[ob]? = some (.cells #[.int .i64 xon, .int .i64 xk, .int .i64 xt, .int .i64 xo, .int .i64 xn, .string xs, cv] 83 (0, 0))
section
variable {w w' : World} {ob : Nat} {xon xk xt xo xn : Int} {xs : ByteArray} {cv : Value}
theorem XO.c1 (h : XO w ob xon xk xt xo xn xs cv) : w.cell? ⟨ob, 1, none⟩ = some (.int .i64 xk) := by rw [cell_of_row w ob 1 _ _ _ h]; rfl
theorem XO.c2 (h : XO w ob xon xk xt xo xn xs cv) : w.cell? ⟨ob, 2, none⟩ = some (.int .i64 xt) := by rw [cell_of_row w ob 2 _ _ _ h]; rfl
theorem XO.c3 (h : XO w ob xon xk xt xo xn xs cv) : w.cell? ⟨ob, 3, none⟩ = some (.int .i64 xo) := by rw [cell_of_row w ob 3 _ _ _ h]; rfl
theorem XO.c4 (h : XO w ob xon xk xt xo xn xs cv) : w.cell? ⟨ob, 4, none⟩ = some (.int .i64 xn) := by rw [cell_of_row w ob 4 _ _ _ h]; rfl
theorem XO.c5 (h : XO w ob xon xk xt xo xn xs cv) : w.cell? ⟨ob, 5, none⟩ = some (.string xs) := by rw [cell_of_row w ob 5 _ _ _ h]; rfl
theorem XO.lt (h : XO w ob xon xk xt xo xn xs cv) : ob < w.heap.size := (Array.getElem?_eq_some_iff.1 h).1
theorem XO.keep {S : Nat → Prop} (h : XO w ob xon xk xt xo xn xs cv) (hc : Chg S w w') (hn : ¬ S ob) : XO w' ob xon xk xt xo xn xs cv := (hc.block ob h.lt hn).trans h
end
theorem cRes_eq {ten : Nat} {n n2 : Nat → Nat} {k : Nat} (h : n (k + 1) = n2 (k + 1)) (gen : Int) (u : ByteArray) : cRes ten n (k : Int) gen u = cRes ten n2 (k : Int) gen u := by
  unfold cRes
  rw [Int.toNat_natCast, h]
set_option maxHeartbeats 6400000 in
theorem storeApartLaw (tenants one : Int) (v : Value) (os : List SOv) (w : World) (hv : SOvs w v os) (hl : os.length ≤ 1048576) :
    Calls Tryz.prog 7 #[.int .i64 tenants, .int .i64 one, v] w fun e w' => e = .returned (.bool true) ∧ Below w.heap.size w w' := by
  obtain ⟨vp, vc, rfl, hos⟩ := hv
  obtain ⟨m, hm⟩ : ∃ m, m = os.length := ⟨_, rfl⟩
  rw [← hm] at hl ⊢
  have HMM := Lib.hid hm
  have HOS := Lib.hid hos
  clear hos hm
  by_cases hf : tenants < 1 ∨ 8 < tenants
  · have hfe : fitE tenants (31 + 1) = 1 := by rw [fitE_32, if_pos hf]
    have HL := Lib.hid (fun w => slaidNo tenants 31 (by decide) w (by rw [hfe]; decide))
    rw [hfe] at HL
    clear hf hfe
    go_enter Tryz.func7, Tryz.ntmps7
    go_wp2_with fail
    refine (HL.out _).mono ?_
    rintro e w1 ⟨b1, rfl, hb1⟩
    have HB := Lib.hid hb1
    clear hb1
    go_wp2_with fail
    refine (HL.out _).mono ?_
    rintro e w2 ⟨b2, rfl, hb2⟩
    replace HB := Lib.hid (HB.out.trans (hb2.mono HB.out.size))
    clear hb2 HL
    go_wp2_with fail
    refine (sfixedW _).mono ?_
    rintro e w3 ⟨rfl, hb⟩
    replace HB := Lib.hid (HB.out.trans (hb.mono HB.out.size))
    clear hb
    go_wp2_with fail
    go_ret
    exact ⟨rfl, HB.out⟩
  obtain ⟨ten, rfl⟩ : ∃ ten : Nat, tenants = (ten : Int) := ⟨tenants.toNat, by omega⟩
  have h1 : 1 ≤ ten := by omega
  have h8 : ten ≤ 8 := by omega
  have HL := Lib.hid (fun w => slaidW ten 31 (by decide) w h1 h8 (by omega))
  have HPL := Lib.hid (fun w => splaceW one ten h1 (by omega) w)
  obtain ⟨k, hk⟩ : ∃ k : Nat, one % (ten : Int) = (k : Int) := ⟨(one % (ten : Int)).toNat, by rw [Int.toNat_of_nonneg (Int.emod_nonneg _ (by omega))]⟩
  have hkt : k < ten := by have := Int.emod_lt_of_pos one (b := (ten : Int)) (by omega); omega
  rw [hk] at HPL
  clear hf hk
  go_enter Tryz.func7, Tryz.ntmps7
  go_wp2_with fail
  refine (HL.out _).mono ?_
  rintro e w1 ⟨b, g, cap, sb, D, lb, L, rfl, hst, har, _⟩
  have HS := Lib.hid hst
  have HAR := Lib.hid har
  clear hst har
  go_wp2_with fail
  refine (HL.out _).mono ?_
  rintro e w2 ⟨b2, g2, cap2, sb2, D2, lb2, L2, rfl, hst2, har2, _⟩
  have HLT : Hid (∀ j, SA ten lb b g sb j → j < w1.heap.size) := HS.out.lt
  have HGE : Hid (∀ j, SA ten lb2 b2 g2 sb2 j → w1.heap.size ≤ j) := hst2.ge
  have HS1 := Lib.hid (HS.out.grow hst2.on.below)
  have HS2 := Lib.hid (hst2.rebase HS.out.on.below HS.out.on.below.size (Nat.le_refl _))
  have HAR2 := Lib.hid har2
  clear hst2 har2 HS HL
  go_wp2_with fail
  refine (HPL.out _).mono ?_
  rintro e w3 ⟨rfl, rfl⟩
  clear HPL
  go_wp2_with fail
  go_loopw [13] (fun v13 wr => ∃ (i : Nat) (D D2 : Dk) (L L2 : Nat → Lg) (n n2 : Nat → Nat) (tx tx2 : Nat → ByteArray), v13 = .int .i64 (i : Nat) ∧ i ≤ m ∧ StA w.heap.size w b g cap sb ten D (2 + i) lb L n tx wr ∧ StA w.heap.size w b2 g2 cap2 sb2 ten D2 (2 + i) lb2 L2 n2 tx2 wr ∧ D.armed = 0 ∧ D2.armed = 0 ∧ (∀ j, n j ≤ i + 1) ∧ (∀ j, n2 j ≤ i + 1) ∧ n (k + 1) = n2 (k + 1) ∧ tx (k + 1) = tx2 (k + 1)) (fun v _ => (m - intOf v).toNat)
  case atStart =>
    refine ⟨0, D, D2, L, L2, _, _, _, _, rfl, Nat.zero_le _, HS1.out, HS2.out, HAR.out, HAR2.out, fun j => ?_, fun j => ?_, rfl, rfl⟩
    · unfold upd; split; omega; exact Nat.zero_le _
    · unfold upd; split; omega; exact Nat.zero_le _
  case round =>
    clear HS1 HS2 HAR HAR2
    obtain ⟨i, D, D2, L, L2, n, n2, tx, tx2, rfl, hi, hs1, hs2, ha1, ha2, hn1, hn2, hne, hte⟩ := hrel
    have HS1 := Lib.hid hs1
    have HS2 := Lib.hid hs2
    have HA := Lib.hid (And.intro ha1 ha2)
    have HN := Lib.hid (And.intro hn1 hn2)
    have HE := Lib.hid (And.intro hne hte)
    clear hs1 hs2 ha1 ha2 hn1 hn2 hne hte
    by_cases hlt : i < m
    · have hi1 : (i : Int) < (m : Int) := by omega
      have hi0 : (0 : Int) ≤ (i : Int) := by omega
      obtain ⟨qb, qo, cv, hvp, k0, k1, k2, k3, k4, k5, k6, hcv⟩ := HOS.out i (by rw [← HMM.out]; exact hlt)
      subst hvp
      obtain ⟨x, hx⟩ : ∃ x, x = os.getD i SOv.zero := ⟨_, rfl⟩
      rw [← hx] at k0 k1 k2 k3 k4 k5
      obtain ⟨xon, xk, xt, xo, xn, xs, xc⟩ := x
      dsimp only at k0 k1 k2 k3 k4 k5
      have hbw := HS1.out.on.below
      have r0 := (hbw.cell (block_lt_of_cell k0)).trans k0
      have r1 := (hbw.cell (block_lt_of_cell k1)).trans k1
      have r2 := (hbw.cell (block_lt_of_cell k2)).trans k2
      have r3 := (hbw.cell (block_lt_of_cell k3)).trans k3
      have r4 := (hbw.cell (block_lt_of_cell k4)).trans k4
      have r5 := (hbw.cell (block_lt_of_cell k5)).trans k5
      have r6 := (hbw.cell (block_lt_of_cell k6)).trans k6
      obtain ⟨cp, cc, hcve, _⟩ := hcv
      obtain ⟨cl, hcl⟩ : ∃ n, n = (os.getD i SOv.zero).css.length := ⟨_, rfl⟩
      rw [← hcl] at hcve
      subst hcve
      clear k0 k1 k2 k3 k4 k5 k6 hbw hx hcl
      go_upto_region 10 with fail
      obtain ⟨wx, hwx⟩ : ∃ v, v = wr.alloc (.cells #[.int .i64 xon, .int .i64 xk, .int .i64 xt, .int .i64 xo, .int .i64 xn, .string xs, .slice cp cl cc] 83) := ⟨_, rfl⟩
      obtain ⟨ob, hob⟩ : ∃ o, o = wr.heap.size := ⟨_, rfl⟩
      have hbx : Below wr.heap.size wr wx := by rw [hwx]; exact (Below.refl _ _).alloc (Nat.le_refl _) _
      have HX : Hid (XO wx ob xon xk xt xo xn xs (.slice cp cl cc)) := by unfold Hid; rw [hwx, hob]; exact heap_alloc_new wr _
      have HO1 : Hid (¬ SA ten lb b g sb ob ∧ ¬ SA ten lb2 b2 g2 sb2 ob) := ⟨fun h => by have := HS1.out.lt ob h; omega, fun h => by have := HS2.out.lt ob h; omega⟩
      have HX1 := Lib.hid (HS1.out.grow hbx)
      have HX2 := Lib.hid (HS2.out.grow hbx)
      rw [← hwx]
      try rw [← hob]
      clear hwx hob hbx r0 r1 r2 r3 r4 r5 r6 HS1 HS2
      have c1 := HX.out.c1
      by_cases hk0 : xk = 0
      · subst hk0
        have c2 := HX.out.c2
        have c4 := HX.out.c4
        have c5 := HX.out.c5
        have HC := Lib.hid (HX1.out.commitG HA.out.1 (by omega) (fun j => by have := HN.out.1 j; omega) xt xn xs)
        obtain ⟨r, hr⟩ : ∃ r, r = cRes ten n xt xn xs := ⟨_, rfl⟩
        rw [← hr] at HC
        have HR := Lib.hid hr
        clear hr
        go_wp2_with fail
        refine HC.out.mono ?_
        rintro e w4 ⟨D4, L4, n4, tx4, rfl, hst4, hc4, har4, haf4⟩
        have HS4 := Lib.hid hst4
        have HT4 := Lib.hid (HX2.out.beside hc4 HX1.out.muts (fun j h h' => by have := HGE.out j h; have := HLT.out j h'; omega) HX1.out.ge)
        have HX4 := Lib.hid (HX.out.keep hc4 HO1.out.1)
        have HA4 : Hid (D4.armed = 0 ∧ D2.armed = 0) := ⟨har4, HA.out.2⟩
        have HF4 := Lib.hid haf4
        have HN4 : Hid ((∀ j, n4 j ≤ i + 1 + 1) ∧ ∀ j, n2 j ≤ i + 1 + 1) := ⟨haf4.le HN.out.1, fun j => by have := HN.out.2 j; omega⟩
        clear hst4 hc4 har4 haf4 HC c1 c2 c4 c5 HX1 HX2
        have c2 := HX4.out.c2
        by_cases hxt : xt = (k : Int)
        · subst hxt
          have c4 := HX4.out.c4
          have c5 := HX4.out.c5
          have HC := Lib.hid (HT4.out.commitG HA.out.2 (by omega) (fun j => by have := HN.out.2 j; omega) (k : Int) xn xs)
          rw [← cRes_eq HE.out.1, ← HR.out] at HC
          go_wp2_with fail
          refine HC.out.mono ?_
          rintro e w5 ⟨D5, L5, n5, tx5, rfl, hst5, hc5, har5, haf5⟩
          have HT5 := Lib.hid hst5
          have HS5 := Lib.hid (HS4.out.beside hc5 HT4.out.muts (fun j h h' => by have := HLT.out j h; have := HGE.out j h'; omega) HT4.out.ge)
          have HA5 : Hid (D4.armed = 0 ∧ D5.armed = 0) := ⟨HA4.out.1, har5⟩
          have HE5 := Lib.hid (HF4.out.same haf5 (cRes_eq HE.out.1 xn xs) HE.out.1 HE.out.2)
          have HN5 : Hid ((∀ j, n4 j ≤ i + 1 + 1) ∧ ∀ j, n5 j ≤ i + 1 + 1) := ⟨HN4.out.1, haf5.le HN.out.2⟩
          clear hst5 hc5 har5 haf5 HC c2 c4 c5
          have HT1 := Lib.hid (stextW HS5.out.st h8 k hkt)
          have HT2 := Lib.hid (stextW HT5.out.st h8 k hkt)
          have HG1 := Lib.hid (sgenW HS5.out.st h8 k hkt)
          have HG2 := Lib.hid (sgenW HT5.out.st h8 k hkt)
          rw [HE5.out.1] at HG1
          rw [HE5.out.2] at HT1
          obtain ⟨X, hX⟩ : ∃ X, X = tx5 (k + 1) := ⟨_, rfl⟩
          obtain ⟨G, hG⟩ : ∃ G, G = n5 (k + 1) := ⟨_, rfl⟩
          rw [← hX] at HT1 HT2
          rw [← hG] at HG1 HG2
          clear hX hG
          go_wp2_with fail
          refine HT1.out.mono ?_
          rintro e w7 ⟨rfl, hw7⟩
          subst hw7
          go_wp2_with fail
          refine HT2.out.mono ?_
          rintro e w8 ⟨rfl, hw8⟩
          subst hw8
          go_wp2_with fail
          refine HG1.out.mono ?_
          rintro e w9 ⟨rfl, hw9⟩
          subst hw9
          go_wp2_with fail
          refine HG2.out.mono ?_
          rintro e wa ⟨rfl, hwa⟩
          subst hwa
          clear HT1 HT2 HG1 HG2
          go_wp2_with fail
          exact ⟨⟨i + 1, _, _, _, _, _, _, _, _, rfl, by omega, HS5.out.mono (by omega), HT5.out.mono (by omega), HA5.out.1, HA5.out.2, HN5.out.1, HN5.out.2, HE5.out.1, HE5.out.2⟩, by simp only [intOf]; omega⟩
        · have hxb : (xt == (k : Int)) = false := by rw [beq_eq_false_iff_ne]; exact hxt
          have HE5 : Hid (n4 (k + 1) = n2 (k + 1) ∧ tx4 (k + 1) = tx2 (k + 1)) := ⟨(HF4.out.other hxt).1.trans HE.out.1, (HF4.out.other hxt).2.trans HE.out.2⟩
          have HT1 := Lib.hid (stextW HS4.out.st h8 k hkt)
          have HT2 := Lib.hid (stextW HT4.out.st h8 k hkt)
          have HG1 := Lib.hid (sgenW HS4.out.st h8 k hkt)
          have HG2 := Lib.hid (sgenW HT4.out.st h8 k hkt)
          rw [HE5.out.1] at HG1
          rw [HE5.out.2] at HT1
          obtain ⟨X, hX⟩ : ∃ X, X = tx2 (k + 1) := ⟨_, rfl⟩
          obtain ⟨G, hG⟩ : ∃ G, G = n2 (k + 1) := ⟨_, rfl⟩
          rw [← hX] at HT1 HT2
          rw [← hG] at HG1 HG2
          clear hX hG
          go_wp2_with fail
          refine HT1.out.mono ?_
          rintro e w7 ⟨rfl, hw7⟩
          subst hw7
          go_wp2_with fail
          refine HT2.out.mono ?_
          rintro e w8 ⟨rfl, hw8⟩
          subst hw8
          go_wp2_with fail
          refine HG1.out.mono ?_
          rintro e w9 ⟨rfl, hw9⟩
          subst hw9
          go_wp2_with fail
          refine HG2.out.mono ?_
          rintro e wa ⟨rfl, hwa⟩
          subst hwa
          clear HT1 HT2 HG1 HG2
          go_wp2_with fail
          exact ⟨⟨i + 1, _, _, _, _, _, _, _, _, rfl, by omega, HS4.out.mono (by omega), HT4.out.mono (by omega), HA4.out.1, HA4.out.2, HN4.out.1, HN4.out.2, HE5.out.1, HE5.out.2⟩, by simp only [intOf]; omega⟩
      · have hkb : (xk != 0) = true := by rw [bne_iff_ne]; exact hk0
        go_wp2_with fail
        exact ⟨⟨i + 1, _, _, _, _, _, _, _, _, rfl, by omega, HX1.out.mono (by omega), HX2.out.mono (by omega), HA.out.1, HA.out.2, fun j => by have := HN.out.1 j; omega, fun j => by have := HN.out.2 j; omega, HE.out.1, HE.out.2⟩, by simp only [intOf]; omega⟩
    · have hi1 : ¬ (i : Int) < (m : Int) := by omega
      go_wp2_with fail
      refine (sfixedW _).mono ?_
      rintro e w4 ⟨rfl, hb⟩
      have HB := Lib.hid (HS1.out.grow hb).on.below
      clear hb
      go_wp2_with fail
      go_ret
      exact ⟨rfl, HB.out⟩
end Go.Proofs.YtilpbjcbffbjeaaGreatDoor
