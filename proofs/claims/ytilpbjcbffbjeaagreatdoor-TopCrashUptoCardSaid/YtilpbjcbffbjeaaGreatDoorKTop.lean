/- The law TopCrash, walked. -/
import Derived.Test.YtilpbjcbffbjeaaGreatDoorKLoop
import Derived.Test.YtilpbjcbffbjeaaGreatDoorPkY
import Derived.StillTailTactics
import Derived.Deep.QuietTactic
import Derived.BigQuiet
import Derived.Deep.CutBlock
import Derived.Deep.DeepCutAuto
namespace Go.Proofs.YtilpbjcbffbjeaaGreatDoor
set_option linter.unusedVariables false
set_option linter.unusedSectionVars false
set_option maxRecDepth 100000
open Go.RowKit
theorem toList_beqF {X Y : ByteArray} (h : ¬ X = Y) : (X.toList == Y.toList) = false := by
  rw [toList_beq]
  exact decide_eq_false h
set_option maxHeartbeats 16000000 in
theorem topCrashLaw {w : World} (hgl : ErrT w) (v : Value) (ls : List Stp) (hv : Stps w v ls) (hl : ls.length ≤ 1048576) (nn : Int) (hnn : nn ≤ 9223372036854775807) (cv : Value) (css : List (List Int)) (hcs : Rss w cv css) (hcl : css.length ≤ 1048576) (hcm : ∀ i, (css.getD i []).length ≤ 1048576) :
    Calls Tryz.prog 3 #[v, .int .i64 nn, cv] w fun e w' => e = .returned (.bool true) ∧ Below w.heap.size w w' := by
  obtain ⟨sp, sc, rfl, hls⟩ := hv
  obtain ⟨m, hm⟩ : ∃ m, m = ls.length := ⟨_, rfl⟩
  rw [← hm] at hl ⊢
  obtain ⟨cp, cc, hcv⟩ : ∃ p c, cv = .slice p css.length c := by
    obtain ⟨p, c, h, _⟩ := hcs
    exact ⟨p, c, h⟩
  obtain ⟨mc, hmc⟩ : ∃ n, n = css.length := ⟨_, rfl⟩
  rw [← hmc] at hcv
  subst hcv
  have HMM := Lib.hid hm
  have HLS := Lib.hid hls
  have HGL := Lib.hid hgl
  have HCS := Lib.hid hcs
  have HCM := Lib.hid hcm
  clear hls hm hgl hcs hcm hmc
  have hmk : (Instr.makeSlice 28 (.int .i64 8) (.int .i64 8)).run Tryz.prog w = .ok (.slice (some ⟨w.heap.size, 0, none⟩) 8 8) (w.alloc (.cells (madeCells #[.string ⟨#[]⟩] 8) 9)) := makeSn w 8 (by decide)
  go_enter Tryz.func3, Tryz.ntmps3
  go_wp2_with fail
  refine (newReps _ 8 (by decide) (by decide) (madeStrs w 8)).mono ?_
  rintro e w1 ⟨b, g, cap, D, rfl, hat, hok, hal, har, hfw, hln, hzz⟩
  have HAT := Lib.hid (hat.rebaseS ((Below.refl _ w).alloc (Nat.le_refl _) _) (by simp) (Nat.le_refl _))
  have HN := Lib.hid (sNewU (ten := 2) HAT.out (by decide) (by decide) (by rw [hln]; decide) hok hal har hfw hzz)
  have HLZ := Lib.hid (And.intro hln hzz)
  clear hmk hat hok hal har hfw hln hzz
  go_wp2_with fail
  refine HN.out.mono ?_
  rintro e w2 ⟨sb, D2, lb, L, rfl, hst, har, hlo⟩
  obtain ⟨na, hna⟩ : ∃ f : Nat → Nat, f = upd (fun _ => 0) 0 1 := ⟨_, rfl⟩
  obtain ⟨ta, hta⟩ : ∃ f : Nat → ByteArray, f = upd (fun _ => ⟨#[]⟩) 0 ⟨#[]⟩ := ⟨_, rfl⟩
  rw [← hna, ← hta] at hst
  have HNA : Hid (na 0 = 1 ∧ ∀ t, na (t + 1) = 0) := ⟨by rw [hna, upd_same], fun t => by rw [hna]; exact upd_other _ _ (by omega)⟩
  have HTA : Hid (∀ t, ta t = ⟨#[]⟩) := fun t => by rw [hta]; unfold upd; split <;> rfl
  have HKI := Lib.hid (kStart hst (fun t ht => (hlo.oth _ (fA_out t ht)).trans (HLZ.out.2 _)) (hlo.len.trans HLZ.out.1) har)
  clear hna hta hst har hlo HN HAT HLZ
  go_upto_block 0 with fail
  change Code.wp _ _ _ ⟨_, _⟩ (kRows w2)
  obtain ⟨w3, hw3⟩ : ∃ x, x = kRows w2 := ⟨_, rfl⟩
  obtain ⟨z, hz⟩ : ∃ x, x = w2.heap.size := ⟨_, rfl⟩
  rw [← hw3, ← hz] at HKI
  rw [← hw3, ← hz]
  rw [show z + 1 + 1 + 1 + 1 + 1 + 1 = z + 6 from rfl, show z + 1 + 1 + 1 + 1 + 1 = z + 5 from rfl, show z + 1 + 1 + 1 + 1 = z + 4 from rfl, show z + 1 + 1 + 1 = z + 3 from rfl]
  obtain ⟨G, hG⟩ : ∃ G : Avoid, G = gFirst z := ⟨_, rfl⟩
  rw [← hG] at HKI
  clear hw3 hz hG
  go_wp2_with fail
  go_loopw [10, 16] (fun v10 v16 wr => ∃ (k : Nat) (la : Nat → Nat) (D : Dk), v16 = .int .i64 (k : Nat) ∧ v10 = .int .i64 0 ∧ k ≤ 2 ∧ @KI G w.heap.size w b g cap sb z lb la (kVa z) k D L na ta wr) (fun _ v _ => (2 - intOf v).toNat)
  case atStart => exact ⟨0, _, D2, rfl, rfl, by omega, HKI.out⟩
  case round =>
    clear HKI
    obtain ⟨k, la, D3, rfl, rfl, hk, hki⟩ := hrel
    have HKI := Lib.hid hki
    clear hki
    by_cases hk2 : k < 2
    · have hki : (k : Int) < 2 := by omega
      have hk0 : (0 : Int) ≤ (k : Int) := by omega
      have HO := Lib.hid (aopenR (f := fA k) (quota := 262144) (ss := []) HKI.out.st.on.disk HKI.out.st.ok HKI.out.st.al (fA_lt hk2 HKI.out.len) (by rw [HKI.out.zr k (Nat.le_refl _) hk2]; exact ARest.zeroS) (by decide))
      rw [show ((fA k : Nat) : Int) = 4 + 3 * (k : Int) by unfold fA; omega] at HO
      go_wp2_with fail
      refine HO.out.mono ?_
      rintro e w4 ⟨D4, hd4, hc4, ⟨rfl, hr4⟩ | ⟨lp, rfl, hlp, hl4, hr4⟩⟩
      · exact absurd HKI.out.ar hr4.noA
      · obtain ⟨ha4, hx4⟩ := hr4.okA
        obtain ⟨hm4, hki4⟩ := HKI.out.next hk2 hd4 hc4 hlp hl4 ha4 hx4
        have HKI4 := Lib.hid hki4
        have p0 := hm4.clg hk2
        have f0 := hm4.free 0 k (by omega)
        simp only [Nat.add_zero] at f0
        clear hd4 hc4 hlp hl4 hr4 ha4 hx4 hm4 hki4 HO HKI
        go_wp2_with fail
        exact ⟨⟨k + 1, _, D4, rfl, rfl, by omega, HKI4.out⟩, by simp only [intOf]; omega⟩
    · have hki : ¬ (k : Int) < 2 := by omega
      have HKI2 : Hid (@KI G w.heap.size w b g cap sb z lb la (kVa z) 2 D3 L na ta wr) := by
        have h := HKI.out
        rw [show k = 2 by omega] at h
        exact h
      have HBD : Hid (∀ j, na j ≤ 2) := by
        intro j
        rcases j with _ | j
        · rw [HNA.out.1]; omega
        · rw [HNA.out.2]; omega
      have HKA := Lib.hid (HKI2.out.all HBD.out (fun i hi => ⟨by obtain ⟨j, rfl⟩ : ∃ j, i = j + 1 := ⟨i - 1, by omega⟩; exact HNA.out.2 j, HTA.out i⟩) (by rw [HNA.out.1]; omega) (fun t _ => HTA.out _))
      have HAM := Lib.hid HKI2.out.ar
      clear HKI HKI2 HBD HNA HTA
      go_upto_region 16 with fail
      go_cut [84] from 76 to 84 (fun v84 wx => v84 = .bool false ∧ ∃ (D5 : Dk), @KA G w.heap.size w b g cap sb z lb la (kVa z) (fun _ => []) (fun _ => []) (fun _ => 0) (fun _ => ⟨#[]⟩) (fun _ => ⟨#[]⟩) D5 2 L na ta wx)
      case first =>
        by_cases hn0 : 0 < nn
        · have HAR := Lib.hid (armW HKA.out.st.on.disk HKA.out.st.al nn.toNat (by omega) (.slice cp mc cc) css (HCS.out.below HKA.out.st.on.below) hcl HCM.out)
          have e0 : ((nn.toNat : Nat) : Int) = nn := by omega
          rw [e0] at HAR
          clear e0
          go_wp2_with fail
          refine HAR.out.mono ?_
          rintro e w5 ⟨rfl, hd5, hc5⟩
          have HKA5 := Lib.hid (HKA.out.arm nn.toNat css (by omega) (fun i => by have := HCM.out i; omega) hd5 hc5)
          clear hd5 hc5 HAR HKA
          go_wp2_with fail
          go_meet
          exact ⟨rfl, _, HKA5.out⟩
        · go_wp2_with fail
          go_meet
          exact ⟨rfl, _, HKA.out⟩
      case rest =>
        obtain ⟨rfl, D5, hka5⟩ := hcut
        have HKA5 := Lib.hid hka5
        clear hka5 HKA HAM
        go_upto_block 2 with fail
        go_cut [6, 17] from 85 to 192 (fun v6 v17 wx => ∃ (G : Avoid) (va : Nat → Value) (al : Nat → List ByteArray) (sf : Nat → Nat) (cf fo : Nat → ByteArray) (D : Dk) (n : Nat → Nat) (tx : Nat → ByteArray) (inn : Int), v17 = .int .i64 inn ∧ (∀ t, t < 2 → (al t).length ≤ 60) ∧ KX G w b g cap sb z lb la va al sf cf fo D 62 n tx inn wx)
        case first =>
          refine tcLoop w _ HGL.out b g cap sb z lb la sp m sc nn cp mc cc ls HMM.out HLS.out hl G (kVa z) (fun _ => []) (fun _ => 0) (fun _ => ⟨#[]⟩) (fun _ => ⟨#[]⟩) D5 L na ta HKA5.out (fun t _ => Nat.zero_le _) _ _ _ _ _ _ _ _ _ _ _ _ _ _ _ _ _ _ _ _ _ _ _ _ _ _ _ _ _ _ _ _ _ _ _ _ _ _ _ _ _ _ _ _ _ _ _ _ _ _ _ _ _ _ _ _ _ _ _ _ _ _ _ _ _ _ _ _ _ _ _ _ _ _ _ _ _ _ _ _ _ _ _ _ _ _ _ _ _ _ _ _ _ _ _ _ _ _ _ _ _ _ _ _ _ _ _ _ _ _ _ _ _ _ _ _ _ _ _ _ _ _ _ _ _ _ _ _ _ _ _ _ _ _ _ _ _ _ _ _ _ _ _ _ _ _ _ _ _ _ _ _ _ _ _ _ _ _ _ _ _ _ _ _ _ _ _ _ _ _ _ _ _ _ _ _ _ _ _ _ _ _ _ _ _ _ _ _ _ _ _ _ _ _ _ _ _ _ _ _ _ _ _ _ _ _ _ _ _ _ _ _ _ _ _ _ _ _ _ _ _ _ _ _ _ _ _ _ _ _ _ _ _ _ _ _ _ _ _ _ _ _ _ _ _ _ _ _ _ _ _ _ _ _ _ _ _ _ _ _ _ _ _ _ _ _ _ _ _ _ _ _ _ _ _ _ _ _ _ _ _ _ (fun _ _ _ _ _ h => h) ?_
          intro u6 u18 u19 u20 u21 u85 u86 u87 u88 u89 u90 u91 u92 u93 u94 u95 u96 u97 u98 u99 u100 u101 u102 u103 u104 u105 u106 u107 u108 u109 u110 u111 u112 u113 u114 u115 u116 u117 u118 u119 u120 u121 u122 u123 u124 u125 u126 u127 u128 u129 u130 u131 u132 u133 u134 u135 u136 u137 u138 u139 u140 u141 u142 u143 u144 u145 u146 u147 u148 u149 u150 u151 u152 u153 u154 u155 u156 u157 u158 u159 u160 u161 u162 u163 u164 u165 u166 u167 u168 u169 u170 u171 u172 u173 u174 u175 u176 u177 u178 u179 u180 u181 u182 u183 u184 u185 u186 u187 u188 u189 u190 u191 u192 w6 G6 va al sf cf fo D6 n tx inn q1 q2
          go_wp2_with fail
          go_meet
          exact ⟨G6, va, al, sf, cf, fo, D6, n, tx, inn, rfl, q1, q2⟩
        case rest =>
          obtain ⟨G6, va, al, sf, cf, fo, D6, n, tx, inn, rfl, hal, hkx⟩ := hcut
          have HAL := Lib.hid hal
          have HKX := Lib.hid hkx
          clear hal hkx HKA5
          apply_assumption
          go_upto_region 38 with fail
          go_cut [201] from 193 to 201 (fun v201 wx => v201 = .bool false ∧ ∃ (D7 : Dk) (n7 : Nat → Nat) (tx7 : Nat → ByteArray), KO w.heap.size w b g cap z la va al al sf cf fo D7 62 n7 tx7 inn wx)
          case first =>
            rcases HKX.out with ⟨e1, L6, hka⟩ | ⟨hdd, hko⟩
            · subst e1
              have HKA6 := Lib.hid hka
              have HE := Lib.hid (deadW hka.st.on.disk)
              rw [hka.st.al] at HE
              have HCR := Lib.hid (crashA hka.st.on.disk hka.st.ok (.slice cp mc cc) css (HCS.out.below hka.st.on.below) (fun i => by have := HCM.out i; omega))
              rw [crashX_liveS hka.st.al] at HCR
              clear hka HKX
              go_wp2_with fail
              refine HE.out.mono ?_
              rintro e w' ⟨rfl, rfl⟩
              go_wp2_with fail
              refine HCR.out.mono ?_
              rintro e w7 ⟨rfl, hd7, hc7⟩
              have HKO7 := Lib.hid (HKA6.out.died css hd7 hc7)
              clear hd7 hc7 HKA6 HE HCR
              go_wp2_with fail
              go_meet
              exact ⟨rfl, _, _, _, HKO7.out⟩
            · have HKO6 := Lib.hid hko
              have HE := Lib.hid (deadW hko.on.disk)
              rw [hdd] at HE
              clear hko hdd HKX
              go_wp2_with fail
              refine HE.out.mono ?_
              rintro e w' ⟨rfl, rfl⟩
              clear HE
              go_wp2_with fail
              go_meet
              exact ⟨rfl, _, _, _, HKO6.out⟩
          case rest =>
            obtain ⟨rfl, D7, n7, tx7, hko7⟩ := hcut
            have HKO7 := Lib.hid hko7
            have HRV := Lib.hid (reviveW hko7.on.disk)
            clear hko7 HKX
            go_wp2_with fail
            refine HRV.out.mono ?_
            rintro e w8 ⟨rfl, hd8, hc8⟩
            have HKO8 := Lib.hid (HKO7.out.revive hd8 hc8)
            clear hd8 hc8 HRV HKO7
            have HOP := Lib.hid (sOpenXX (ten := 2) HGL.out HGL.out.pos HKO8.out.on (by decide) (by decide) (by rw [HKO8.out.len]; decide) HKO8.out.ok rfl HKO8.out.few (by decide) HKO8.out.rs (by have := HKO8.out.bd 0; omega) HKO8.out.hz)
            go_wp2_with fail
            refine HOP.out.mono ?_
            rintro e w9 ⟨D9, hc9, ⟨sb9, lb9, L9, rfl, _, hst9, har9, hln9⟩ | ⟨rfl, hg9⟩⟩
            · have HKT := Lib.hid (HKO8.out.opened hst9 hc9 hln9 (har9 (by first | rfl | trivial)))
              have HP := Lib.hid (sepochW hst9.st)
              rw [upd_same] at HP
              have hy1 := HKO8.out.e1
              obtain ⟨y, hy⟩ : ∃ y, y = n7 0 + 1 := ⟨_, rfl⟩
              rw [← hy] at HP
              have hyi : ¬ (y : Int) < 2 := by omega
              obtain ⟨n9, hn9⟩ : ∃ f, f = upd n7 0 (n7 0 + 1) := ⟨_, rfl⟩
              obtain ⟨tx9, htx9⟩ : ∃ f, f = upd tx7 0 ⟨#[]⟩ := ⟨_, rfl⟩
              rw [← hn9, ← htx9] at HKT
              clear hc9 hst9 har9 hln9 hy hy1 hn9 htx9 HOP HKO8
              go_wp2_with fail
              refine HP.out.mono ?_
              rintro e w10 ⟨rfl, rfl⟩
              clear HP
              go_wp2_with fail
              go_loopw [23] (fun v23 wr => ∃ (t : Nat) (D10 : Dk), v23 = .int .i64 (t : Nat) ∧ t ≤ 2 ∧ KT w.heap.size w b g cap sb9 z lb9 la va al sf cf fo t D10 (62 + 1) L9 n9 tx9 inn wr) (fun v _ => (2 - intOf v).toNat)
              case atStart => exact ⟨0, D9, rfl, by omega, HKT.out⟩
              case round =>
                clear HKT
                obtain ⟨t, D10, rfl, ht, hkt⟩ := hrel
                have HKT := Lib.hid hkt
                clear hkt
                by_cases ht2 : t < 2
                · have hti : (t : Int) < 2 := by omega
                  have ht0 : (0 : Int) ≤ (t : Int) := by omega
                  obtain ⟨j, j1, j2, hr⟩ := HKT.out.ar t (Nat.le_refl _) ht2
                  obtain ⟨q, hq⟩ : ∃ q, q = (al t).take j := ⟨_, rfl⟩
                  have hql : q.length = j := by rw [hq, List.length_take]; omega
                  rw [← hq] at hr
                  have hlt60 := HAL.out t ht2
                  have HO := Lib.hid (aopenR (f := fA t) (quota := 262144) (ss := q) HKT.out.st.on.disk HKT.out.st.ok HKT.out.st.al (fA_lt ht2 HKT.out.len) hr.sync (by decide))
                  rw [show ((fA t : Nat) : Int) = 4 + 3 * (t : Int) by unfold fA; omega] at HO
                  obtain ⟨lt, hltq⟩ : ∃ k, k = (al t).length := ⟨_, rfl⟩
                  have HQ : Hid (q = (al t).take j ∧ lt = (al t).length ∧ j ≤ lt) := ⟨hq, hltq, by omega⟩
                  have HQL := Lib.hid hql
                  have hj1 : ¬ (j : Int) < (sf t : Nat) := by omega
                  have hj2 : ¬ (lt : Int) < (j : Int) := by omega
                  have hj60 : lt ≤ 60 := by omega
                  obtain ⟨s0, hs0⟩ : ∃ k, k = sf t := ⟨_, rfl⟩
                  have HS0 := Lib.hid hs0
                  rw [← hs0] at hj1
                  clear hq hql hr hltq hs0 j1 j2 hlt60
                  go_wp2_with fail
                  refine HO.out.mono ?_
                  rintro e w11 ⟨D11, hd11, hc11, ⟨rfl, hr11⟩ | ⟨lp, rfl, hlp, hl11, hr11⟩⟩
                  · exact absurd HKT.out.am hr11.noA
                  · obtain ⟨ha11, hx11⟩ := hr11.okA
                    have HKT11 := Lib.hid (HKT.out.next ht2 hd11 hc11 ha11 hx11)
                    obtain ⟨v11, h11, g11⟩ := hl11
                    have HX := Lib.hid (atextsW h11 g11.strs (by rw [HQL.out]; omega))
                    rw [HQL.out] at HX
                    clear hd11 hc11 hlp hr11 ha11 hx11 h11 g11 HO HKT
                    go_wp2_with fail
                    refine HX.out.mono ?_
                    rintro e w12 ⟨p12, rfl, hs12, hb12⟩
                    have HKT12 := Lib.hid (HKT11.out.grow hb12)
                    obtain ⟨pv, cv, hvt⟩ : ∃ p c, va t = .slice p (al t).length c := by
                      obtain ⟨p, c, h, _⟩ := @WS.form avoidNone _ _ _ (OwnsS.ws (HKT12.out.m.rows t ht2))
                      exact ⟨p, c, h⟩
                    rw [← HQ.out.2.1] at hvt
                    have hcap : (lt : Int) ≤ (cv : Int) := by
                      obtain ⟨p, c, h, hc⟩ := @WS.form avoidNone _ _ _ (OwnsS.ws (HKT12.out.m.rows t ht2))
                      rw [hvt] at h
                      have := (Value.slice.inj h).2.2
                      have := HQ.out.2.1
                      omega
                    have hcut : Strs w12 (.slice pv j cv) q := by
                      have h0 := @WS.strs avoidNone _ _ _ (OwnsS.ws (HKT12.out.m.rows t ht2))
                      rw [hvt] at h0
                      obtain ⟨p, c, h, hc⟩ := h0.form
                      have hp := (Value.slice.inj h).1
                      have h1 : Strs w12 (.slice pv q.length cv) q := Strs.mk fun i hi => by
                        have h2 := HQ.out.2.1
                        have h3 := HQ.out.2.2
                        have h4 := HQL.out
                        obtain ⟨b1, off, hb1, hb2⟩ := hc i (by omega)
                        refine ⟨b1, off, hp.trans hb1, ?_⟩
                        rw [hb2, HQ.out.1, List.getD_eq_getElem?_getD, List.getD_eq_getElem?_getD, List.getElem?_take, if_pos (by omega)]
                      rw [HQL.out] at h1
                      exact h1
                    have HSM := Lib.hid (sameW _ _ q q w12 (by have h := hs12; exact h) hcut (by rw [HQL.out]; omega) (by rw [HQL.out]; omega))
                    rw [decide_eq_true rfl] at HSM
                    have p1 := HKT12.out.m.csf ht2
                    have p2 := HKT12.out.m.ctx ht2
                    rw [hvt] at p2
                    rw [← HS0.out] at p1
                    clear hb12 hs12 hcut hvt HX HKT11
                    go_wp2_with fail
                    refine HSM.out.mono ?_
                    rintro e w13 ⟨rfl, hb13⟩
                    have HKT13 := Lib.hid (HKT12.out.grow hb13)
                    clear hb13 HSM p1 p2 hcap hj1 hj2 HKT12
                    have HT := Lib.hid (fun (u : World) (h : Below w13.heap.size w13 u) => stextW (HKT13.out.st.grow h).st (by decide) t ht2)
                    have p1 := HKT13.out.m.ccf ht2
                    have p2 := HKT13.out.m.cfo ht2
                    obtain ⟨X, hX⟩ : ∃ X, X = tx9 (t + 1) := ⟨_, rfl⟩
                    obtain ⟨Y, hY⟩ : ∃ Y, Y = cf t := ⟨_, rfl⟩
                    obtain ⟨Z, hZ⟩ : ∃ Z, Z = fo t := ⟨_, rfl⟩
                    have HCF : Hid (X = Y ∨ (inn = (t : Int) ∧ X = Z)) := by rw [hX, hY, hZ]; exact HKT13.out.cfg t ht2
                    rw [← hX] at HT
                    rw [← hY] at p1
                    rw [← hZ] at p2
                    clear hX hY hZ
                    go_upto_region 53 with fail
                    by_cases hXY : X = Y
                    · subst hXY
                      clear HCF
                      go_quiet ((go_at_call 25; exact Calls.quiet_of_same (HT.out _ (below_drewN (Below.refl _ _) _))))
                      have hd : Below w13.heap.size w13 (w13.drewN nq) := below_drewN (Below.refl _ _) nq
                      have HKT14 := Lib.hid (HKT13.out.grow hd)
                      clear hd HKT13 HT p1 p2
                      go_wp2_with fail
                      exact ⟨⟨t + 1, D11, rfl, by omega, HKT14.out⟩, by simp only [intOf]; omega⟩
                    · obtain ⟨hI, hZ⟩ := HCF.out.resolve_left hXY
                      subst hI hZ
                      have hXb : (X.toList == Y.toList) = false := toList_beqF hXY
                      clear HCF
                      go_quiet ((go_at_call 25; exact Calls.quiet_of_same (HT.out _ (below_drewN (Below.refl _ _) _))))
                      have hd : Below w13.heap.size w13 (w13.drewN nq) := below_drewN (Below.refl _ _) nq
                      have HKT14 := Lib.hid (HKT13.out.grow hd)
                      clear hd HKT13 HT p1 p2 hXb hXY
                      go_wp2_with fail
                      exact ⟨⟨t + 1, D11, rfl, by omega, HKT14.out⟩, by simp only [intOf]; omega⟩
                · have hti : ¬ (t : Int) < 2 := by omega
                  go_wp2_with fail
                  refine (kfixedW _).mono ?_
                  rintro e w14 ⟨rfl, hb14⟩
                  have HB := Lib.hid (HKT.out.st.on.below.trans (hb14.mono HKT.out.st.on.below.size))
                  clear hb14
                  go_wp2_with fail
                  go_ret
                  exact ⟨rfl, HB.out⟩
            · exact absurd rfl hg9.ar
end Go.Proofs.YtilpbjcbffbjeaaGreatDoor
