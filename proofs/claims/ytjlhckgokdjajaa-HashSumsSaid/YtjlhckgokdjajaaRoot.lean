/- The walk of Root: the first bits behind the point of a root. -/
import Derived.Test.YtjlhckgokdjajaaTimes
namespace Go.Proofs.Ytjlhckgokdjajaa
open Go.RowKit
namespace Sha
theorem rootStep_mod (p n bits X k : Nat) (h : X % 2 ^ (k + 1) = 0) : rootStep p n bits X k % 2 ^ k = 0 := by
  obtain ⟨q, rfl⟩ := Nat.dvd_of_mod_eq_zero h
  unfold rootStep
  have h1 : 2 ^ (k + 1) * q = 2 ^ k * (2 * q) := by rw [Nat.pow_succ, Nat.mul_assoc]
  split
  · rw [h1, Nat.mul_mod_right]
  · rw [h1, Nat.add_comm, Nat.add_mul_mod_self_left, Nat.mod_self]
theorem bit_lt (X k N : Nat) (h : X % 2 ^ (k + 1) = 0) (hX : X < 2 ^ N) (hk : k < N) : X + 2 ^ k < 2 ^ N := by
  obtain ⟨q, rfl⟩ := Nat.dvd_of_mod_eq_zero h
  have e : 2 ^ N = 2 ^ (k + 1) * 2 ^ (N - (k + 1)) := by rw [← Nat.pow_add]; congr 1; omega
  rw [e] at hX ⊢
  have hq : q < 2 ^ (N - (k + 1)) := Nat.lt_of_mul_lt_mul_left hX
  have h2 : 2 ^ (k + 1) * (q + 1) ≤ 2 ^ (k + 1) * 2 ^ (N - (k + 1)) := Nat.mul_le_mul_left _ hq
  rw [Nat.mul_add, Nat.mul_one] at h2
  have h3 : 2 ^ k < 2 ^ (k + 1) := Nat.pow_lt_pow_right (by decide) (by omega)
  omega
theorem rootStep_lt (p n bits X k N : Nat) (h : X % 2 ^ (k + 1) = 0) (hX : X < 2 ^ N) (hk : k < N) : rootStep p n bits X k < 2 ^ N := by
  unfold rootStep
  split
  · exact hX
  · exact bit_lt X k N h hX hk
/-- The bits below, digit by digit from above. -/
theorem low_step (X b i : Nat) (hi : i < b) : (X % 65536 ^ b) / 65536 ^ i = (X % 65536 ^ b) / 65536 ^ (i + 1) * 65536 + dig X i := by
  have h1 : dig X i = (X % 65536 ^ b) / 65536 ^ i % 65536 := by
    unfold dig
    obtain ⟨c, rfl⟩ : ∃ c, b = i + (c + 1) := ⟨b - i - 1, by omega⟩
    rw [Nat.pow_add, Nat.mod_mul_right_div_self, Nat.pow_succ, Nat.mul_comm (65536 ^ c), Nat.mod_mul_right_mod]
  rw [h1, Nat.pow_succ, ← Nat.div_div_eq_div_mul]
  omega
theorem low_lt (X b i : Nat) (hb : b ≤ 4) : (X % 65536 ^ b) / 65536 ^ (i + 1) < 65536 ^ 3 := by
  have h1 : X % 65536 ^ b < 65536 ^ b := Nat.mod_lt _ (Nat.pow_pos (by decide))
  have h2 : 65536 ^ b ≤ 65536 ^ 4 := Nat.pow_le_pow_right (by decide) hb
  have h3 : (X % 65536 ^ b) / 65536 ^ (i + 1) ≤ (X % 65536 ^ b) / 65536 := by
    refine Nat.div_le_div_left ?_ (by decide)
    calc 65536 = 65536 ^ 1 := rfl
      _ ≤ 65536 ^ (i + 1) := Nat.pow_le_pow_right (by decide) (by omega)
  omega
end Sha
def bits_or (a b : Int) : Int := bits .or .u64 a b
set_option maxRecDepth 100000 in
set_option maxHeartbeats 800000 in
theorem rootW (p n bits : Nat) (hp : p < 65536) (hn : n = 2 ∨ n = 3) (hbits : bits = 32 ∨ bits = 64) (w : World) :
    Calls Try.prog 37 #[.int .u64 (p : Nat), .int .i64 (n : Nat), .int .i64 (bits : Nat)] w fun e w' => e = .returned (.int .u64 (Sha.root p n bits : Nat)) ∧ Below w.heap.size w w' := by
  have hmk : ∀ w, (Instr.makeSlice 49 (.int .i64 5) (.int .i64 5)).run Try.prog w = .ok (.slice (some ⟨w.heap.size, 0, none⟩) 5 5) (w.alloc (.cells (rowOf .u64 5 (fun _ => 0)).toArray 58)) := fun _ => by kernel_rfl
  have hb64 : bits ≤ 64 := by omega
  have hb32 : 32 ≤ bits := by omega
  have hn3 : n ≤ 3 := by omega
  have HBITS := Lib.hid hbits
  have HN := Lib.hid hn
  clear hbits hn
  go_enter Try.func37, Try.ntmps37
  go_wp2_with fail
  have hr := Row.new w 58 .u64 5 (fun _ => 0) _ rfl
  have hbw : Below w.heap.size w (w.alloc (.cells (rowOf .u64 5 (fun _ => 0)).toArray 58)) := (Below.refl _ _).alloc (Nat.le_refl _) _
  obtain ⟨W1, hW1⟩ : ∃ v, v = w.alloc (.cells (rowOf .u64 5 (fun _ => 0)).toArray 58) := ⟨_, rfl⟩
  rw [← hW1] at hr hbw ⊢
  obtain ⟨B0, hB0⟩ : ∃ b, b = w.heap.size := ⟨_, rfl⟩
  rw [← hB0] at hr hbw ⊢
  have HR := Lib.hid hr
  have HBW := Lib.hid hbw
  have HB0 := Lib.hid hB0
  clear hr hbw hW1 hB0
  go_loopw [8] (fun vi wr => ∃ (z : Int) (X : Nat), -1 ≤ z ∧ z ≤ (bits : Int) + 8 ∧ vi = .int .i64 z ∧ Row wr B0 58 .u64 5 (Sha.dig X) ∧ X % 2 ^ (z + 1).toNat = 0 ∧ X < 2 ^ (bits + 9) ∧ Sha.rootFrom p n bits (z + 1).toNat X = Sha.rootFrom p n bits (bits + 9) 0 ∧ Below B0 w wr) (fun vi _ => (intOf vi + 1).toNat)
  case atStart => exact ⟨(bits : Int) + 8, 0, by omega, by omega, rfl, HR.out.congr (fun j _ => by simp [Sha.dig]), by simp, Nat.two_pow_pos _, by rw [show ((bits : Int) + 8 + 1).toNat = bits + 9 by omega], HBW.out⟩
  case round =>
    obtain ⟨z, X, hz1, hz2, rfl, hr, hm, hX, hrf, hb⟩ := hrel
    have HRR := Lib.hid hr
    have HBR := Lib.hid hb
    clear hr hb
    by_cases hz : 0 ≤ z
    · obtain ⟨k, rfl⟩ := Int.eq_ofNat_of_zero_le hz
      rw [show ((k : Int) + 1).toNat = k + 1 by omega] at hm hrf
      have HM := Lib.hid hm
      have HX := Lib.hid hX
      have HRF := Lib.hid hrf
      clear hm hX hrf
      have q1 : ∀ t : Grow wr, t.val.cell? ⟨B0, k / 16, none⟩ = some (.int .u64 (Sha.dig X (k / 16) : Nat)) := fun t => t.cell (HRR.out.cell (by omega))
      have hdg := Sha.dig_bit X k HM.out
      have hxs : Sha.dig X (k / 16) + 2 ^ (k % 16) < 65536 := by
        have h1 := hdg (k / 16)
        rw [if_pos rfl] at h1
        rw [← h1]; exact Sha.dig_lt _ _
      obtain ⟨x, hx⟩ : ∃ x, x = Sha.dig X (k / 16) := ⟨_, rfl⟩
      obtain ⟨s, hs⟩ : ∃ s, s = 2 ^ (k % 16) := ⟨_, rfl⟩
      rw [← hx, ← hs] at hxs
      rw [← hx] at q1
      have hw1 : IntKind.u64.wrap (2 ^ (k % 16)) = (s : Int) := by
        have : ((2 : Int) ^ (k % 16)) = ((2 ^ (k % 16) : Nat) : Int) := by simp
        rw [this, ← hs, wrap_u64_nat]; omega
      obtain ⟨y, hy⟩ : ∃ y, y = x + s := ⟨_, rfl⟩
      have hy16 : y < 65536 := by omega
      have hxy : x ≤ y := by omega
      have hw2 : IntKind.u64.wrap ((x : Int) + (s : Int)) = (y : Int) := by rw [← Int.natCast_add, wrap_u64_nat, hy]; omega
      have hw3 : IntKind.u64.wrap ((y : Int) - (s : Int)) = (x : Int) := by rw [show (y : Int) - (s : Int) = (x : Int) by omega, wrap_u64_nat]; omega
      obtain ⟨X2, hX2⟩ : ∃ X2, X2 = X + 2 ^ k := ⟨_, rfl⟩
      have hx2 : X2 < 2 ^ (bits + 9) := by rw [hX2]; exact Sha.bit_lt X k _ HM.out HX.out (by omega)
      have HUP : Hid (∀ j, j < 5 → (if j = k / 16 then y else Sha.dig X j) = Sha.dig X2 j) := fun j _ => by
        rw [hX2, hdg j]
        by_cases h : j = k / 16
        · rw [if_pos h, if_pos h, hy, hx, hs, h]
        · rw [if_neg h, if_neg h]
      have HDN : Hid (∀ j, j < 5 → (if j = k / 16 then x else Sha.dig X2 j) = Sha.dig X j) := fun j _ => by
        rw [hX2, hdg j]
        by_cases h : j = k / 16
        · rw [if_pos h, hx, h]
        · rw [if_neg h, if_neg h]
      have HXS : Hid (Sha.dig X2 (k / 16) = y) := by rw [hX2, hdg, if_pos rfl, ← hx, ← hs, hy]; exact rfl
      have HX2 := Lib.hid hX2
      have HX2L := Lib.hid hx2
      clear hdg hx hs hX2 hx2 hy
      go_wp2_with fail
      refine wp_region_fam_tail 10 (by kernel_rfl) (by kernel_rfl) Grow.val (Grow.start wr) ?_
      simp only [List.take_succ_cons, List.take_zero, List.drop_succ_cons, List.drop_zero]
      repeat go_big_quiet_step (fail)
      refine wpQuiet_nil ?_
      intro t
      have hrow := t.row HRR.out
      have q4 := hrow.cell (j := k / 16) (by omega)
      have q5 := hrow.free (k / 16)
      have HROW := Lib.hid hrow
      clear hrow q1
      go_wp2_with fail
      have hrw := ((HROW.out.set (i := k / 16) (by omega) y).congr HUP.out).alloc (.cells #[.int .u64 1] 58)
      have hc1 : Cells64 ((t.val.setCell ⟨B0, k / 16, none⟩ (.int .u64 (y : Nat))).alloc (.cells #[.int .u64 1] 58)) t.val.heap.size 1 (fun _ => 1) := fun j hj => by
        have h1 := Row.new (t.val.setCell ⟨B0, k / 16, none⟩ (.int .u64 (y : Nat))) 58 .u64 1 (fun _ => 1) #[.int .u64 1] rfl
        have e1 : (t.val.setCell ⟨B0, k / 16, none⟩ (.int .u64 (y : Nat))).heap.size = t.val.heap.size := by simp
        rw [e1] at h1
        exact h1.cell hj
      have hb2 : Below B0 w ((t.val.setCell ⟨B0, k / 16, none⟩ (.int .u64 (y : Nat))).alloc (.cells #[.int .u64 1] 58)) :=
        ((HBR.out.trans (t.below.mono (by have := HRR.out.lt; omega))).setCell (p := ⟨B0, k / 16, none⟩) (Nat.le_refl _) _).alloc (by have := HROW.out.lt; simp; omega) _
      have hlt : B0 < t.val.heap.size := HROW.out.lt
      obtain ⟨W2, hW2⟩ : ∃ v, v = (t.val.setCell ⟨B0, k / 16, none⟩ (.int .u64 (y : Nat))).alloc (.cells #[.int .u64 1] 58) := ⟨_, rfl⟩
      rw [← hW2] at hrw hc1 hb2 ⊢
      obtain ⟨Bg0, hBg0⟩ : ∃ b, b = t.val.heap.size := ⟨_, rfl⟩
      rw [← hBg0] at hc1 hlt ⊢
      have HRW := Lib.hid hrw
      have HC1 := Lib.hid hc1
      have HB2 := Lib.hid hb2
      clear hrw hc1 hb2 hW2 hBg0 q4 q5 HROW t
      rw [hw1]
      go_loopw [9, 10] (fun va vi wq => ∃ (i Ng cg Bg : Nat) (g : Nat → Nat), i ≤ n ∧ vi = .int .i64 (i : Nat) ∧ Ng = 1 + 5 * i ∧ va = .slice (some ⟨Bg, 0, none⟩) Ng cg ∧ Cells64 wq Bg Ng g ∧ (∀ j, j < Ng → g j < 65536) ∧ Sha.V g Ng = X2 ^ i ∧ Row wq B0 58 .u64 5 (Sha.dig X2) ∧ Below B0 w wq) (fun _ vi _ => (n - intOf vi).toNat)
      case atStart => exact ⟨0, 1, 1, Bg0, fun _ => 1, by omega, rfl, rfl, rfl, HC1.out, fun _ _ => show 1 < 65536 by decide, by simp [Sha.V], HRW.out, HB2.out⟩
      case round =>
        obtain ⟨i, Ng, cg, Bg, g, hi, rfl, hNg, rfl, hc, hd, hv, hr, hb⟩ := hrel
        have hNg2 : Ng ≤ 1 + 5 * i := by omega
        have hNg3 : 1 + 5 * i ≤ Ng := by omega
        have HC := Lib.hid hc
        have HD := Lib.hid hd
        have HV := Lib.hid hv
        have HR2 := Lib.hid hr
        have HB3 := Lib.hid hb
        clear hNg hc hd hv hr hb
        by_cases hin : i < n
        · go_wp2_with fail
          refine (timesW Bg B0 Ng 5 cg 5 g (Sha.dig X2) _ HC.out (fun j hj => HR2.out.cell hj) HD.out (fun j _ => Sha.dig_lt _ _) (by omega) (by omega)).mono ?_
          rintro e w5 ⟨g', rfl, hr5, hd5, hv5, hb5⟩
          rw [HV.out, Sha.V_dig_all X2 5 (Nat.lt_of_lt_of_le HX2L.out (by rw [Sha.pow16]; exact Nat.pow_le_pow_right (by decide) (by omega))), ← Nat.pow_succ] at hv5
          have hr6 := HR2.out.below hb5 HR2.out.lt
          have hb6 := HB3.out.trans (hb5.mono (by have := HR2.out.lt; omega))
          have HR5 := Lib.hid hr5
          have HD5 := Lib.hid hd5
          have HV5 := Lib.hid hv5
          have HR6 := Lib.hid hr6
          have HB6 := Lib.hid hb6
          clear hr5 hd5 hv5 hr6 hb6 hb5
          go_wp2_with fail
          go_roundw
          case rel => exact ⟨i + 1, _, _, _, g', by omega, by go_num, by omega, rfl, fun j hj => HR5.out.cell hj, HD5.out, HV5.out, HR6.out, HB6.out⟩
          case measure => simp [intOf]; omega
        · obtain rfl : i = n := by omega
          obtain ⟨nb, hnb⟩ : ∃ nb, nb = i * bits := ⟨_, rfl⟩
          have hnb2 : nb ≤ 64 * i := by rw [hnb, Nat.mul_comm 64]; exact Nat.mul_le_mul_left _ hb64
          have hm1 : (i : Int) * (bits : Int) = (nb : Int) := by rw [hnb]; simp
          have hq : p * 65536 ^ (nb / 16) = p * 2 ^ (bits * i) := by
            rw [Sha.pow16, Nat.mul_comm bits i, ← hnb]
            congr 2
            rcases HBITS.out with h | h <;> subst h <;> omega
          have HQ := Lib.hid hq
          have HNB := Lib.hid hnb
          clear hq hnb
          go_wp2_with fail
          rw [show ((nb : Int) / 16) = ((nb / 16 : Nat) : Int) by omega]
          refine (aboveW Bg Ng cg p (nb / 16) g _ HC.out HD.out hp (by omega) (by omega)).mono ?_
          rintro e w5 ⟨rfl, rfl⟩
          rw [HV.out, HQ.out]
          have hstep := Sha.rootStep_mod p i bits X k HM.out
          have hstl := Sha.rootStep_lt p i bits X k _ HM.out HX.out (show k < bits + 9 by omega)
          have hrf := HRF.out
          by_cases hab : p * 2 ^ (bits * i) < X2 ^ i
          · have hres : Sha.rootStep p i bits X k = X := by unfold Sha.rootStep; rw [← HX2.out, if_pos hab]
            have hrf2 : Sha.rootFrom p i bits k X = Sha.rootFrom p i bits (bits + 9) 0 := by rw [← hrf]; show _ = Sha.rootFrom p i bits k (Sha.rootStep p i bits X k); rw [hres]
            rw [hres] at hstep hstl
            have hdt := decide_eq_true hab
            obtain ⟨bb, hbb⟩ : ∃ bb, bb = decide (p * 2 ^ (bits * i) < X2 ^ i) := ⟨_, rfl⟩
            rw [← hbb] at hdt ⊢
            subst hdt
            have HS := Lib.hid hstep
            have HL := Lib.hid hstl
            have HF2 := Lib.hid hrf2
            clear hab hbb hres hstep hstl hrf hrf2
            have q4 : ∀ t : Grow wr, t.val.cell? ⟨B0, k / 16, none⟩ = some (.int .u64 (y : Nat)) := fun t => by
              have := t.cell (HR2.out.cell (j := k / 16) (by omega))
              rw [HXS.out] at this; exact this
            go_wp2_with fail
            refine wp_region_fam_tail 10 (by kernel_rfl) (by kernel_rfl) Grow.val (Grow.start wr) ?_
            simp only [List.take_succ_cons, List.take_zero, List.drop_succ_cons, List.drop_zero]
            repeat go_big_quiet_step (fail)
            refine wpQuiet_nil ?_
            intro t
            have hrow := t.row HR2.out
            have q5 := hrow.free (k / 16)
            have q6 := q4 t
            have HROW := Lib.hid hrow
            clear hrow q4
            go_wp2_with fail
            have hset := (HROW.out.set (i := k / 16) (by omega) x).congr HDN.out
            exact ⟨⟨(k : Int) - 1, X, by omega, by omega, rfl, hset, by rw [show ((k : Int) - 1 + 1).toNat = k by omega]; exact HS.out, HL.out, by rw [show ((k : Int) - 1 + 1).toNat = k by omega]; exact HF2.out,
              (HB3.out.trans (t.below.mono (by have := HR2.out.lt; omega))).setCell (p := ⟨B0, k / 16, none⟩) (Nat.le_refl _) _⟩, by simp [intOf]⟩
          · have hres : Sha.rootStep p i bits X k = X2 := by unfold Sha.rootStep; rw [← HX2.out, if_neg hab]
            have hrf2 : Sha.rootFrom p i bits k X2 = Sha.rootFrom p i bits (bits + 9) 0 := by rw [← hrf, ← hres]; exact rfl
            rw [hres] at hstep hstl
            have hdt := decide_eq_false hab
            obtain ⟨bb, hbb⟩ : ∃ bb, bb = decide (p * 2 ^ (bits * i) < X2 ^ i) := ⟨_, rfl⟩
            rw [← hbb] at hdt ⊢
            subst hdt
            have HS := Lib.hid hstep
            have HL := Lib.hid hstl
            have HF2 := Lib.hid hrf2
            clear hab hbb hres hstep hstl hrf hrf2
            go_wp2_with fail
            exact ⟨⟨(k : Int) - 1, X2, by omega, by omega, rfl, HR2.out, by rw [show ((k : Int) - 1 + 1).toNat = k by omega]; exact HS.out, HL.out, by rw [show ((k : Int) - 1 + 1).toNat = k by omega]; exact HF2.out, HB3.out⟩, by simp [intOf]⟩
    · obtain rfl : z = -1 := by omega
      have hfin : Sha.root p n bits = X % 65536 ^ (bits / 16) := by
        have h1 : Sha.rootFrom p n bits 0 X = Sha.rootFrom p n bits (bits + 9) 0 := hrf
        unfold Sha.root
        rw [← h1, Sha.pow16, show 16 * (bits / 16) = bits by rcases HBITS.out with h | h <;> subst h <;> decide]
        rfl
      have HFIN := Lib.hid hfin
      clear hfin hm hX hrf hz
      go_wp2_with fail
      obtain ⟨wo, rfl⟩ : ∃ wo : World, wo = wr := ⟨_, rfl⟩
      go_loop [11, 12] (fun vy vi => ∃ z : Int, -1 ≤ z ∧ z ≤ (bits : Int) / 16 - 1 ∧ vi = .int .i64 z ∧ vy = .int .u64 ((X % 65536 ^ (bits / 16)) / 65536 ^ (z + 1).toNat : Nat)) (fun _ vi => (intOf vi + 1).toNat)
      case atStart =>
        refine ⟨(bits : Int) / 16 - 1, by omega, by omega, rfl, ?_⟩
        rw [show ((bits : Int) / 16 - 1 + 1).toNat = bits / 16 by omega, Nat.div_eq_of_lt (Nat.mod_lt _ (Nat.pow_pos (by decide)))]
        rfl
      case round =>
        obtain ⟨z, hz1, hz2, rfl, rfl⟩ := hrel
        by_cases hz : 0 ≤ z
        · obtain ⟨j, rfl⟩ := Int.eq_ofNat_of_zero_le hz
          have hls := Sha.low_step X (bits / 16) j (by omega)
          have hll := Sha.low_lt X (bits / 16) j (by omega)
          rw [show ((j : Int) + 1).toNat = j + 1 by omega]
          have q1 := HRR.out.cell (j := j) (by omega)
          have hd := Sha.dig_lt X j
          obtain ⟨y, hy⟩ : ∃ y, y = X % 65536 ^ (bits / 16) / 65536 ^ (j + 1) := ⟨_, rfl⟩
          obtain ⟨d, hdd⟩ : ∃ d, d = Sha.dig X j := ⟨_, rfl⟩
          rw [← hy, ← hdd] at hls
          rw [← hy] at hll ⊢
          rw [← hdd] at q1 hd
          have hll : y < 281474976710656 := hll
          have hor : bits_or ((y : Int) * 65536) (d : Int) = ((y * 65536 + d : Nat) : Int) := by
            have := or_u64 (y * 65536) d (by omega) (by omega)
            rw [show ((y : Int) * 65536) = ((y * 65536 : Nat) : Int) by omega]
            refine Eq.trans this ?_
            have h2 := Nat.shiftLeft_add_eq_or_of_lt (show d < 2 ^ 16 by omega) y
            rw [Nat.shiftLeft_eq] at h2
            rw [show y * 65536 = y * 2 ^ 16 from rfl, h2]
          unfold bits_or at hor
          have HLS := Lib.hid hls
          clear hls hy hdd
          go_wp2_with fail
          go_round
          case rel => exact ⟨(j : Int) - 1, by omega, by omega, rfl, by rw [show ((j : Int) - 1 + 1).toNat = j by omega, HLS.out]; go_num⟩
          case measure => simp [intOf]
        · obtain rfl : z = -1 := by omega
          go_wp2_with fail
          go_ret
          exact ⟨by rw [HFIN.out]; simp, by rw [← HB0.out]; exact HBR.out⟩
end Go.Proofs.Ytjlhckgokdjajaa
