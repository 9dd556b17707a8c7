/- The walk of StoreTells. -/
import Derived.Deep.QuietTactic
import Derived.BigQuiet
import Derived.Test.YtilpbjcbffbjeaaGreatDoorSHeld
namespace Go.Proofs.YtilpbjcbffbjeaaGreatDoor
set_option linter.unusedVariables false
set_option maxRecDepth 100000
open Go.RowKit
theorem CAft.zero {ten : Nat} {n : Nat → Nat} {tx : Nat → ByteArray} {t gen : Int} {u : ByteArray} {n' : Nat → Nat} {tx' : Nat → ByteArray} (h : CAft ten n tx t gen u n' tx') : n' 0 = n 0 := by
  rcases h with ⟨_, rfl, _⟩ | ⟨_, k, _, _, rfl, _⟩
  · rfl
  · exact upd_other _ _ (by omega)
theorem CAft.no {ten : Nat} {n : Nat → Nat} {tx : Nat → ByteArray} {t gen : Int} {u : ByteArray} {n' : Nat → Nat} {tx' : Nat → ByteArray} (h : CAft ten n tx t gen u n' tx') (hr : cRes ten n t gen u ≠ 0) : n' = n ∧ tx' = tx := by
  rcases h with ⟨_, h1, h2⟩ | ⟨h0, _⟩
  · exact ⟨h1, h2⟩
  · exact absurd h0 hr
theorem CAft.yes {ten : Nat} {n : Nat → Nat} {tx : Nat → ByteArray} {k : Nat} {gen : Int} {u : ByteArray} {n' : Nat → Nat} {tx' : Nat → ByteArray} (h : CAft ten n tx (k : Int) gen u n' tx') (hr : cRes ten n (k : Int) gen u = 0) : n' = upd n (k + 1) (n (k + 1) + 1) ∧ tx' = upd tx (k + 1) u := by
  rcases h with ⟨h0, _⟩ | ⟨_, j, _, hj, h1, h2⟩
  · exact absurd hr h0
  · obtain rfl : j = k := by omega
    exact ⟨h1, h2⟩
theorem cRes_out {ten : Nat} {n : Nat → Nat} {t : Int} (h : ¬ (0 ≤ t ∧ t < (ten : Int))) (gen : Int) (u : ByteArray) : cRes ten n t gen u = 180 := by
  unfold cRes
  rw [if_pos h]
theorem cRes_in {ten : Nat} {n : Nat → Nat} {k : Nat} (h : k < ten) (gen : Int) (u : ByteArray) (hg : gen < 1099511627776) : cRes ten n (k : Int) gen u = 0 ↔ gen = (n (k + 1) : Nat) ∧ u.size ≤ 16000 := by
  unfold cRes
  rw [if_neg (by omega), Int.toNat_natCast]
  by_cases h2 : 16000 < u.size
  · rw [if_pos h2]
    constructor
    · intro h3; exact absurd h3 (by decide)
    · intro h3; omega
  · rw [if_neg h2]
    by_cases h3 : gen ≠ (n (k + 1) : Nat)
    · rw [if_pos h3]
      constructor
      · intro h4; exact absurd h4 (by decide)
      · intro h4; exact absurd h4.1 h3
    · rw [if_neg h3]
      rw [if_neg (by omega)]
      exact ⟨fun _ => ⟨by simpa using h3, by omega⟩, fun _ => rfl⟩
set_option maxHeartbeats 6400000 in
theorem storeTellsLaw (tenants : Int) (v : Value) (os : List SOv) (w : World) (hv : SOvs w v os) (hl : os.length ≤ 1048576) :
    Calls Tryz.prog 8 #[.int .i64 tenants, v] w fun e w' => e = .returned (.bool true) ∧ Below w.heap.size w w' := by
  obtain ⟨vp, vc, rfl, hos⟩ := hv
  obtain ⟨m, hm⟩ : ∃ m, m = os.length := ⟨_, rfl⟩
  rw [← hm] at hl ⊢
  have HMM := Lib.hid hm
  have HOS := Lib.hid hos
  clear hos hm
  by_cases hf : tenants < 1 ∨ 8 < tenants
  · have hfe : fitE tenants (31 + 1) = 1 := by rw [fitE_32, if_pos hf]
    have HL := Lib.hid (fun w => slaidNo tenants 31 (by decide) w (by rw [hfe]; decide))
    rw [hfe] at HL
    clear hfe
    by_cases hf1 : tenants < 1
    · clear hf
      go_enter Tryz.func8, Tryz.ntmps8
      go_wp2_with fail
      refine (HL.out _).mono ?_
      rintro e w1 ⟨b1, rfl, hb1⟩
      have HB := Lib.hid hb1
      clear hb1
      go_wp2_with fail
      refine (sfixedW _).mono ?_
      rintro e w3 ⟨rfl, hb⟩
      replace HB := Lib.hid (HB.out.trans (hb.mono HB.out.size))
      clear hb
      go_wp2_with fail
      go_ret
      exact ⟨rfl, HB.out⟩
    · have hf2 : 8 < tenants := by omega
      clear hf
      go_enter Tryz.func8, Tryz.ntmps8
      go_wp2_with fail
      refine (HL.out _).mono ?_
      rintro e w1 ⟨b1, rfl, hb1⟩
      have HB := Lib.hid hb1
      clear hb1
      go_wp2_with fail
      refine (sfixedW _).mono ?_
      rintro e w3 ⟨rfl, hb⟩
      replace HB := Lib.hid (HB.out.trans (hb.mono HB.out.size))
      clear hb
      go_wp2_with fail
      go_ret
      exact ⟨rfl, HB.out⟩
  obtain ⟨ten, rfl⟩ : ∃ ten : Nat, tenants = (ten : Int) := ⟨tenants.toNat, by omega⟩
  have h1 : 1 ≤ ten := by omega
  have h8 : ten ≤ 8 := by omega
  have HL := Lib.hid (fun w => slaidW ten 31 (by decide) w h1 h8 (by omega))
  clear hf
  go_enter Tryz.func8, Tryz.ntmps8
  go_wp2_with fail
  refine (HL.out _).mono ?_
  rintro e w1 ⟨b, g, cap, sb, D, lb, L, rfl, hst, har, _⟩
  have HAR := Lib.hid har
  have HS := Lib.hid hst
  clear hst har HL
  have HMK := Lib.hid (makeHeld w1 ten (by omega))
  have hmk := HMK.out
  go_wp2_with fail
  clear hmk HMK
  obtain ⟨nb, hnb⟩ : ∃ nb, nb = w1.heap.size := ⟨_, rfl⟩
  obtain ⟨w2, hw2⟩ : ∃ w2, w2 = w1.alloc (.cells (madeCells #[.int .i64 0, .string ⟨#[]⟩] (ten * 2)) 87) := ⟨_, rfl⟩
  have hbw : Below w1.heap.size w1 w2 := by rw [hw2]; exact (Below.refl _ _).alloc (Nat.le_refl _) _
  have HH := Lib.hid (Held.made (n := upd (fun _ => 0) 0 1) (tx := upd (fun _ => ⟨#[]⟩) 0 ⟨#[]⟩) w1 HS.out.on.below.size ten (fun t => upd_other _ _ (by omega)) (fun t => upd_other _ _ (by omega)))
  rw [← hw2, ← hnb] at HH
  have HNE : Hid (∀ j, SA ten lb b g sb j → j < nb) := by rw [hnb]; exact HS.out.lt
  have HS1 := Lib.hid (HS.out.grow hbw)
  rw [← hw2]
  try rw [← hnb]
  clear hw2 hbw hnb HS
  go_loopw [9] (fun v9 wr => ∃ (i : Nat) (D : Dk) (L : Nat → Lg) (n : Nat → Nat) (tx : Nat → ByteArray), v9 = .int .i64 (i : Nat) ∧ i ≤ m ∧ StA w.heap.size w b g cap sb ten D (2 + i) lb L n tx wr ∧ D.armed = 0 ∧ (∀ j, n j ≤ i + 1) ∧ n 0 = 1 ∧ Held w.heap.size wr nb ten n tx) (fun v _ => (m - intOf v).toNat)
  case atStart =>
    refine ⟨0, D, L, _, _, rfl, Nat.zero_le _, HS1.out, HAR.out, fun j => ?_, upd_same _ _ _, HH.out⟩
    · unfold upd; split; omega; exact Nat.zero_le _
  case round =>
    clear HS1 HAR HH
    obtain ⟨i, D, L, n, tx, rfl, hi, hs1, ha1, hn1, hn0, hh⟩ := hrel
    have HS1 := Lib.hid hs1
    have HA := Lib.hid ha1
    have HN := Lib.hid hn1
    have HN0 := Lib.hid hn0
    have HH := Lib.hid hh
    clear hs1 ha1 hn1 hn0 hh
    by_cases hlt : i < m
    · have hi1 : (i : Int) < (m : Int) := by omega
      have hi0 : (0 : Int) ≤ (i : Int) := by omega
      obtain ⟨qb, qo, cv, hvp, k0, k1, k2, k3, k4, k5, k6, hcv⟩ := HOS.out i (by rw [← HMM.out]; exact hlt)
      subst hvp
      obtain ⟨x, hx⟩ : ∃ x, x = os.getD i SOv.zero := ⟨_, rfl⟩
      rw [← hx] at k0 k1 k2 k3 k4 k5
      obtain ⟨xon, xk, xt, xo, xn, xs, xc⟩ := x
      dsimp only at k0 k1 k2 k3 k4 k5
      have hbw := HS1.out.on.below
      have r0 := (hbw.cell (block_lt_of_cell k0)).trans k0
      have r1 := (hbw.cell (block_lt_of_cell k1)).trans k1
      have r2 := (hbw.cell (block_lt_of_cell k2)).trans k2
      have r3 := (hbw.cell (block_lt_of_cell k3)).trans k3
      have r4 := (hbw.cell (block_lt_of_cell k4)).trans k4
      have r5 := (hbw.cell (block_lt_of_cell k5)).trans k5
      have r6 := (hbw.cell (block_lt_of_cell k6)).trans k6
      obtain ⟨cp, cc, hcve, _⟩ := hcv
      obtain ⟨cl, hcl⟩ : ∃ n, n = (os.getD i SOv.zero).css.length := ⟨_, rfl⟩
      rw [← hcl] at hcve
      subst hcve
      clear k0 k1 k2 k3 k4 k5 k6 hbw hx hcl
      go_upto_region 9 with fail
      obtain ⟨wx, hwx⟩ : ∃ v, v = wr.alloc (.cells #[.int .i64 xon, .int .i64 xk, .int .i64 xt, .int .i64 xo, .int .i64 xn, .string xs, .slice cp cl cc] 83) := ⟨_, rfl⟩
      obtain ⟨ob, hob⟩ : ∃ o, o = wr.heap.size := ⟨_, rfl⟩
      have hbx : Below wr.heap.size wr wx := by rw [hwx]; exact (Below.refl _ _).alloc (Nat.le_refl _) _
      have HX : Hid (XO wx ob xon xk xt xo xn xs (.slice cp cl cc)) := by unfold Hid; rw [hwx, hob]; exact heap_alloc_new wr _
      have HO1 : Hid (¬ SA ten lb b g sb ob ∧ ob ≠ nb ∧ w.heap.size ≤ ob) := ⟨fun h => by have := HS1.out.lt ob h; omega, fun h => by have := HH.out.lt; omega, by have := HS1.out.on.below.size; omega⟩
      have HX1 := Lib.hid (HS1.out.grow hbx)
      have HH1 := Lib.hid (HH.out.below hbx)
      rw [← hwx]
      try rw [← hob]
      clear hwx hob hbx r0 r1 r2 r3 r4 r5 r6 HS1 HH
      have c1 := HX.out.c1
      by_cases hk0 : xk = 0
      · subst hk0
        have c2 := HX.out.c2
        have c3 := HX.out.c3
        have c4 := HX.out.c4
        have c5 := HX.out.c5
        by_cases hxt : 0 ≤ xt ∧ xt < (ten : Int)
        · obtain ⟨k, rfl⟩ : ∃ k : Nat, xt = (k : Int) := ⟨xt.toNat, by omega⟩
          have hkt : k < ten := by omega
          have hk1 : ¬ (k : Int) < 0 := by omega
          have hk2 : ¬ (ten : Int) ≤ (k : Int) := by omega
          have hk3 : (0 : Int) ≤ (k : Int) ∧ (k : Int) < (ten : Int) := by omega
          clear hxt
          have hng : (n (k + 1) : Nat) ≤ i + 1 := HN.out (k + 1)
          have g1 := HH1.out.gen hkt
          have g2 := HH1.out.text hkt
          obtain ⟨y, hy⟩ : ∃ y : Int, y = (n (k + 1) : Nat) := ⟨_, rfl⟩
          have HY := Lib.hid hy
          rw [← hy] at g1
          have hy1 : 0 ≤ y ∧ y ≤ 1048577 := by omega
          clear hy hng
          obtain ⟨q, hq⟩ : ∃ q : Int, q = xo % (3 : Nat) := ⟨_, rfl⟩
          have HPL := Lib.hid (fun w => splaceW xo 3 (by decide) (by decide) w)
          rw [← hq] at HPL
          have hq1 : 0 ≤ q ∧ q < 3 := by have := Int.emod_nonneg xo (b := ((3 : Nat) : Int)) (by decide); have := Int.emod_lt_of_pos xo (b := ((3 : Nat) : Int)) (by decide); omega
          clear hq
          obtain ⟨z, hz⟩ : ∃ z : Int, z = y + q := ⟨_, rfl⟩
          have hwz : IntKind.i64.wrap (y + q) = z := by rw [IntKind.wrap_i64]; omega
          have hwz2 : wrap64 (y + q) = z := by unfold wrap64; omega
          go_upto_region 13 with fail
          go_quiet ((go_at_call 44; exact Calls.quiet_of_same (HPL.out _)))
          have hdw : Below wx.heap.size wx (wx.drewN nq) := below_drewN (Below.refl _ _) nq
          obtain ⟨wd, hwd⟩ : ∃ wd, wd = wx.drewN nq := ⟨_, rfl⟩
          rw [← hwd] at hdw ⊢
          clear hwd
          obtain ⟨z, hz⟩ : ∃ z : Int, z = y + q := ⟨_, rfl⟩
          rw [← hz]
          have hz1 : 0 ≤ z ∧ z ≤ 1048580 := by omega
          clear hz hwz hwz2 hq1
          have HX2 := Lib.hid (HX1.out.grow hdw)
          have HH2 := Lib.hid (HH1.out.below hdw)
          have HO2 := Lib.hid (HX.out.keep (Chg.of_below (fun _ => False) hdw) (fun h => h))
          clear c1 c2 c3 c4 c5 g1 g2 HX1 HH1 HX hdw HPL
          have c2 := HO2.out.c2
          have c5 := HO2.out.c5
          have HC := Lib.hid (HX2.out.commitG HA.out (by omega) (fun j => by have := HN.out j; omega) (k : Int) z xs)
          have HI := Lib.hid (cRes_in (n := n) hkt z xs (by omega))
          rw [← HY.out] at HI
          by_cases hzy : z = y
          · subst hzy
            by_cases hsz : xs.size ≤ 16000
            · have HR : Hid (cRes ten n (k : Int) z xs = 0) := HI.out.2 ⟨rfl, hsz⟩
              rw [HR.out] at HC
              have hsz1 : (xs.size : Int) ≤ 16000 := by omega
              clear hsz
              go_wp2_with fail
              refine HC.out.mono ?_
              rintro e w4 ⟨D4, L4, n4, tx4, rfl, hst4, hc4, har4, haf4⟩
              have HN4 := Lib.hid (haf4.le HN.out)
              have HZ4 : Hid (n4 0 = 1) := haf4.zero.trans HN0.out
              obtain ⟨rfl, rfl⟩ := haf4.yes HR.out
              have HS4 := Lib.hid hst4
              have HH4 := Lib.hid (HH2.out.keep hc4 (fun h => by have := HNE.out nb h; omega))
              have HO4 := Lib.hid (HO2.out.keep hc4 HO1.out.1)
              have HA4 := Lib.hid har4
              clear hst4 hc4 har4 haf4 HC c2 c5 HX2 HH2 HO2
              have c2 := HO4.out.c2
              have c5 := HO4.out.c5
              have g1 := HH4.out.gen hkt
              have g2 := HH4.out.text hkt
              rw [← HY.out] at g1
              have f1 := HH4.out.free (k * 2)
              have f2 := HH4.out.free (k * 2 + 1)
              have hy2 : wrap64 (z + 1) = z + 1 := by unfold wrap64; omega
              go_upto_region 19 with fail
              have HH5 := Lib.hid (HH4.out.set hkt (n (k + 1) + 1) xs)
              have e : ((n (k + 1) + 1 : Nat) : Int) = z + 1 := by have := HY.out; omega
              rw [e] at HH5
              obtain ⟨w5, hw5⟩ : ∃ w5, w5 = (w4.setCell ⟨nb, k * 2, none⟩ (.int .i64 (z + 1))).setCell ⟨nb, k * 2 + 1, none⟩ (.string xs) := ⟨_, rfl⟩
              have hc5 : Chg (fun j => j = nb) w4 w5 := by rw [hw5]; exact (Chg.setCell (fun j => j = nb) w4 rfl _).trans (Chg.setCell (fun j => j = nb) _ rfl _)
              rw [← hw5] at HH5 ⊢
              have HS5 := Lib.hid (HS4.out.beside hc5 HH4.out.muts (fun j h h' => by have := HNE.out j h; omega) (fun j h => by rw [h]; exact HH4.out.ge))
              clear hw5 hc5 c2 c5 g1 g2 f1 f2 hy2 e HS4 HH4 HO4 hz1 hy1
              go_wp2_with fail
              go_loopw [13] (fun v13 wr => ∃ (j : Nat), v13 = .int .i64 (j : Nat) ∧ j ≤ ten ∧ StA w.heap.size w b g cap sb ten D4 (2 + i + 1) lb L4 (upd n (k + 1) (n (k + 1) + 1)) (upd tx (k + 1) xs) wr ∧ Held w.heap.size wr nb ten (upd n (k + 1) (n (k + 1) + 1)) (upd tx (k + 1) xs)) (fun v _ => (ten - intOf v).toNat)
              case atStart => exact ⟨0, rfl, Nat.zero_le _, HS5.out, HH5.out⟩
              case round =>
                clear HS5 HH5
                obtain ⟨j, rfl, hj, hs6, hh6⟩ := hrel
                have HS6 := Lib.hid hs6
                have HH6 := Lib.hid hh6
                clear hs6 hh6
                by_cases hjt : j < ten
                · have hj1 : (j : Int) < (ten : Int) := by omega
                  have hj0 : (0 : Int) ≤ (j : Int) := by omega
                  have e1 := HH6.out.gen hjt
                  have e2 := HH6.out.text hjt
                  have HG := Lib.hid (fun (u : World) (h : Below wr.heap.size wr u) => sgenW (HS6.out.grow h).st h8 j hjt)
                  have HT := Lib.hid (fun (u : World) (h : Below wr.heap.size wr u) => stextW (HS6.out.grow h).st h8 j hjt)
                  obtain ⟨X, hX⟩ : ∃ X, X = (upd tx (k + 1) xs) (j + 1) := ⟨_, rfl⟩
                  obtain ⟨G, hG⟩ : ∃ G, G = (upd n (k + 1) (n (k + 1) + 1)) (j + 1) := ⟨_, rfl⟩
                  rw [← hX] at e2 HT
                  rw [← hG] at e1 HG
                  clear hX hG
                  go_upto_region 22 with fail
                  go_quiet (first | (go_at_call 16; exact Calls.quiet_of_same (HG.out _ (below_drewN (Below.refl _ _) _))) | (go_at_call 25; exact Calls.quiet_of_same (HT.out _ (below_drewN (Below.refl _ _) _))))
                  go_wp2_with fail
                  have hd6 : Below wr.heap.size wr (wr.drewN nq) := below_drewN (Below.refl _ _) nq
                  exact ⟨⟨j + 1, rfl, by omega, HS6.out.grow hd6, HH6.out.below hd6⟩, by simp only [intOf]; omega⟩
                · have hj1 : ¬ (j : Int) < (ten : Int) := by omega
                  go_wp2_with fail
                  exact ⟨⟨i + 1, _, _, _, _, rfl, by omega, HS6.out, HA4.out, HN4.out, HZ4.out, HH6.out⟩, by simp only [intOf]; omega⟩
            · have hsz1 : ¬ (xs.size : Int) ≤ 16000 := by omega
              have HR : Hid (cRes ten n (k : Int) z xs ≠ 0) := fun h => hsz (HI.out.1 h).2
              obtain ⟨r, hr⟩ : ∃ r, r = cRes ten n (k : Int) z xs := ⟨_, rfl⟩
              rw [← hr] at HC
              have hr0 : ¬ r = 0 := by rw [hr]; exact HR.out
              have hrb : (!(r == 0) == decide ((xs.size : Int) ≤ 16000)) = false := by rw [beq_eq_false_iff_ne.2 hr0, decide_eq_false hsz1]; rfl
              clear hsz hr
              go_wp2_with fail
              refine HC.out.mono ?_
              rintro e w4 ⟨D4, L4, n4, tx4, rfl, hst4, hc4, har4, haf4⟩
              have HN4 := Lib.hid (haf4.le HN.out)
              have HZ4 : Hid (n4 0 = 1) := haf4.zero.trans HN0.out
              obtain ⟨rfl, rfl⟩ := haf4.no HR.out
              have HS5 := Lib.hid hst4
              have HH5 := Lib.hid (HH2.out.keep hc4 (fun h => by have := HNE.out nb h; omega))
              have HO4 := Lib.hid (HO2.out.keep hc4 HO1.out.1)
              have HA4 := Lib.hid har4
              clear hst4 hc4 har4 haf4 HC c2 c5 HX2 HH2 HO2
              have c2 := HO4.out.c2
              have c5 := HO4.out.c5
              have g1 := HH5.out.gen hkt
              rw [← HY.out] at g1
              go_wp2_with fail
              clear c2 c5 g1 HO4 hz1 hy1
              go_loopw [13] (fun v13 wr => ∃ (j : Nat), v13 = .int .i64 (j : Nat) ∧ j ≤ ten ∧ StA w.heap.size w b g cap sb ten D4 (2 + i + 1) lb L4 n4 tx4 wr ∧ Held w.heap.size wr nb ten n4 tx4) (fun v _ => (ten - intOf v).toNat)
              case atStart => exact ⟨0, rfl, Nat.zero_le _, HS5.out, HH5.out⟩
              case round =>
                clear HS5 HH5
                obtain ⟨j, rfl, hj, hs6, hh6⟩ := hrel
                have HS6 := Lib.hid hs6
                have HH6 := Lib.hid hh6
                clear hs6 hh6
                by_cases hjt : j < ten
                · have hj1 : (j : Int) < (ten : Int) := by omega
                  have hj0 : (0 : Int) ≤ (j : Int) := by omega
                  have e1 := HH6.out.gen hjt
                  have e2 := HH6.out.text hjt
                  have HG := Lib.hid (fun (u : World) (h : Below wr.heap.size wr u) => sgenW (HS6.out.grow h).st h8 j hjt)
                  have HT := Lib.hid (fun (u : World) (h : Below wr.heap.size wr u) => stextW (HS6.out.grow h).st h8 j hjt)
                  obtain ⟨X, hX⟩ : ∃ X, X = tx4 (j + 1) := ⟨_, rfl⟩
                  obtain ⟨G, hG⟩ : ∃ G, G = n4 (j + 1) := ⟨_, rfl⟩
                  rw [← hX] at e2 HT
                  rw [← hG] at e1 HG
                  clear hX hG
                  go_upto_region 22 with fail
                  go_quiet (first | (go_at_call 16; exact Calls.quiet_of_same (HG.out _ (below_drewN (Below.refl _ _) _))) | (go_at_call 25; exact Calls.quiet_of_same (HT.out _ (below_drewN (Below.refl _ _) _))))
                  go_wp2_with fail
                  have hd6 : Below wr.heap.size wr (wr.drewN nq) := below_drewN (Below.refl _ _) nq
                  exact ⟨⟨j + 1, rfl, by omega, HS6.out.grow hd6, HH6.out.below hd6⟩, by simp only [intOf]; omega⟩
                · have hj1 : ¬ (j : Int) < (ten : Int) := by omega
                  go_wp2_with fail
                  exact ⟨⟨i + 1, _, _, _, _, rfl, by omega, HS6.out, HA4.out, HN4.out, HZ4.out, HH6.out⟩, by simp only [intOf]; omega⟩
          · have HR : Hid (cRes ten n (k : Int) z xs ≠ 0) := fun h => hzy (HI.out.1 h).1
            obtain ⟨r, hr⟩ : ∃ r, r = cRes ten n (k : Int) z xs := ⟨_, rfl⟩
            rw [← hr] at HC
            have hr0 : ¬ r = 0 := by rw [hr]; exact HR.out
            clear hr
            go_wp2_with fail
            refine HC.out.mono ?_
            rintro e w4 ⟨D4, L4, n4, tx4, rfl, hst4, hc4, har4, haf4⟩
            have HN4 := Lib.hid (haf4.le HN.out)
            have HZ4 : Hid (n4 0 = 1) := haf4.zero.trans HN0.out
            obtain ⟨rfl, rfl⟩ := haf4.no HR.out
            have HS5 := Lib.hid hst4
            have HH5 := Lib.hid (HH2.out.keep hc4 (fun h => by have := HNE.out nb h; omega))
            have HO4 := Lib.hid (HO2.out.keep hc4 HO1.out.1)
            have HA4 := Lib.hid har4
            clear hst4 hc4 har4 haf4 HC c2 c5 HX2 HH2 HO2
            have c2 := HO4.out.c2
            have c5 := HO4.out.c5
            have g1 := HH5.out.gen hkt
            rw [← HY.out] at g1
            go_wp2_with fail
            clear c2 c5 g1 HO4 hz1 hy1
            go_loopw [13] (fun v13 wr => ∃ (j : Nat), v13 = .int .i64 (j : Nat) ∧ j ≤ ten ∧ StA w.heap.size w b g cap sb ten D4 (2 + i + 1) lb L4 n4 tx4 wr ∧ Held w.heap.size wr nb ten n4 tx4) (fun v _ => (ten - intOf v).toNat)
            case atStart => exact ⟨0, rfl, Nat.zero_le _, HS5.out, HH5.out⟩
            case round =>
              clear HS5 HH5
              obtain ⟨j, rfl, hj, hs6, hh6⟩ := hrel
              have HS6 := Lib.hid hs6
              have HH6 := Lib.hid hh6
              clear hs6 hh6
              by_cases hjt : j < ten
              · have hj1 : (j : Int) < (ten : Int) := by omega
                have hj0 : (0 : Int) ≤ (j : Int) := by omega
                have e1 := HH6.out.gen hjt
                have e2 := HH6.out.text hjt
                have HG := Lib.hid (fun (u : World) (h : Below wr.heap.size wr u) => sgenW (HS6.out.grow h).st h8 j hjt)
                have HT := Lib.hid (fun (u : World) (h : Below wr.heap.size wr u) => stextW (HS6.out.grow h).st h8 j hjt)
                obtain ⟨X, hX⟩ : ∃ X, X = tx4 (j + 1) := ⟨_, rfl⟩
                obtain ⟨G, hG⟩ : ∃ G, G = n4 (j + 1) := ⟨_, rfl⟩
                rw [← hX] at e2 HT
                rw [← hG] at e1 HG
                clear hX hG
                go_upto_region 22 with fail
                go_quiet (first | (go_at_call 16; exact Calls.quiet_of_same (HG.out _ (below_drewN (Below.refl _ _) _))) | (go_at_call 25; exact Calls.quiet_of_same (HT.out _ (below_drewN (Below.refl _ _) _))))
                go_wp2_with fail
                have hd6 : Below wr.heap.size wr (wr.drewN nq) := below_drewN (Below.refl _ _) nq
                exact ⟨⟨j + 1, rfl, by omega, HS6.out.grow hd6, HH6.out.below hd6⟩, by simp only [intOf]; omega⟩
              · have hj1 : ¬ (j : Int) < (ten : Int) := by omega
                go_wp2_with fail
                exact ⟨⟨i + 1, _, _, _, _, rfl, by omega, HS6.out, HA4.out, HN4.out, HZ4.out, HH6.out⟩, by simp only [intOf]; omega⟩
        · have HR := Lib.hid (cRes_out (n := n) hxt xn xs)
          have HC := Lib.hid (HX1.out.commitG HA.out (by omega) (fun j => by have := HN.out j; omega) xt xn xs)
          rw [HR.out] at HC
          rcases (by omega : xt < 0 ∨ (¬ xt < 0 ∧ (ten : Int) ≤ xt)) with hx1 | hx1
          · clear hxt
            go_wp2_with fail
            refine HC.out.mono ?_
            rintro e w4 ⟨D4, L4, n4, tx4, rfl, hst4, hc4, har4, haf4⟩
            obtain ⟨rfl, rfl⟩ := haf4.no (by rw [HR.out]; decide)
            have HS4 := Lib.hid hst4
            have HH4 := Lib.hid (HH1.out.keep hc4 (fun h => by have := HNE.out nb h; omega))
            have HA4 := Lib.hid har4
            clear hst4 hc4 har4 haf4 HC c1 c2 c3 c4 c5 HX1 HH1 HR
            go_wp2_with fail
            exact ⟨⟨i + 1, _, _, _, _, rfl, by omega, HS4.out.mono (by omega), HA4.out, fun j => by have := HN.out j; omega, HN0.out, HH4.out⟩, by simp only [intOf]; omega⟩
          · clear hxt
            go_wp2_with fail
            refine HC.out.mono ?_
            rintro e w4 ⟨D4, L4, n4, tx4, rfl, hst4, hc4, har4, haf4⟩
            obtain ⟨rfl, rfl⟩ := haf4.no (by rw [HR.out]; decide)
            have HS4 := Lib.hid hst4
            have HH4 := Lib.hid (HH1.out.keep hc4 (fun h => by have := HNE.out nb h; omega))
            have HA4 := Lib.hid har4
            clear hst4 hc4 har4 haf4 HC c1 c2 c3 c4 c5 HX1 HH1 HR
            go_wp2_with fail
            exact ⟨⟨i + 1, _, _, _, _, rfl, by omega, HS4.out.mono (by omega), HA4.out, fun j => by have := HN.out j; omega, HN0.out, HH4.out⟩, by simp only [intOf]; omega⟩
      · have hkb : (xk != 0) = true := by rw [bne_iff_ne]; exact hk0
        go_wp2_with fail
        exact ⟨⟨i + 1, _, _, _, _, rfl, by omega, HX1.out.mono (by omega), HA.out, fun j => by have := HN.out j; omega, HN0.out, HH1.out⟩, by simp only [intOf]; omega⟩
    · have hi1 : ¬ (i : Int) < (m : Int) := by omega
      have HE := Lib.hid (sepochW HS1.out.st)
      have HD := Lib.hid (sdeadW HS1.out.st)
      rw [HN0.out] at HE
      go_wp2_with fail
      refine HE.out.mono ?_
      rintro e w4 ⟨rfl, hw4⟩
      subst hw4
      go_wp2_with fail
      refine HD.out.mono ?_
      rintro e w5 ⟨rfl, hw5⟩
      subst hw5
      clear HE HD
      go_wp2_with fail
      refine (sfixedW _).mono ?_
      rintro e w4 ⟨rfl, hb⟩
      have HB := Lib.hid (HS1.out.grow hb).on.below
      clear hb
      go_wp2_with fail
      go_ret
      exact ⟨rfl, HB.out⟩
end Go.Proofs.YtilpbjcbffbjeaaGreatDoor
