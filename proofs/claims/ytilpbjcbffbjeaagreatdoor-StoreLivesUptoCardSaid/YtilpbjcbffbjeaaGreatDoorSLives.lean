/- The law StoreLives, walked. -/
import Derived.Test.YtilpbjcbffbjeaaGreatDoorSLvT
import Derived.Test.YtilpbjcbffbjeaaGreatDoorSLvN
import Derived.Test.YtilpbjcbffbjeaaGreatDoorSLvF
import Derived.StillTailTactics
import Derived.Deep.QuietTactic
import Derived.BigQuiet
import Derived.Deep.CutBlock
import Derived.Deep.DeepCutAuto
namespace Go.Proofs.YtilpbjcbffbjeaaGreatDoor
set_option linter.unusedVariables false
set_option maxRecDepth 100000
open Go.RowKit
set_option maxHeartbeats 16000000 in
theorem storeLivesLaw {w : World} (hgl : ErrT w) (tenants : Int) (v : Value) (ls : List Slf) (hv : SLifes w v ls) (hok : ∀ i, i < ls.length → SlfOk (ls.getD i Slf.zero)) (hl : ls.length ≤ 1048576) (htot : stot ls ≤ 1048576) :
    Calls Tryz.prog 9 #[.int .i64 tenants, v] w fun e w' => e = .returned (.bool true) ∧ Below w.heap.size w w' := by
  obtain ⟨vp, vc, rfl, hls⟩ := hv
  obtain ⟨m, hm⟩ : ∃ m, m = ls.length := ⟨_, rfl⟩
  rw [← hm] at hl ⊢
  have HMM := Lib.hid hm
  have HLS := Lib.hid hls
  have HLO := Lib.hid hok
  have HGL := Lib.hid hgl
  have HTT := Lib.hid htot
  clear hls hok hm hgl htot
  by_cases hf : tenants < 1 ∨ 8 < tenants
  · have hfe : fitE tenants (31 + 1) = 1 := by rw [fitE_32, if_pos hf]
    have HL := Lib.hid (fun w => slaidNo tenants 31 (by decide) w (by rw [hfe]; decide))
    rw [hfe] at HL
    clear hfe
    by_cases hf1 : tenants < 1
    · clear hf
      go_enter Tryz.func9, Tryz.ntmps9
      go_wp2_with fail
      refine (HL.out _).mono ?_
      rintro e w1 ⟨b1, rfl, hb1⟩
      have HB := Lib.hid hb1
      clear hb1
      go_wp2_with fail
      refine (sfixedW _).mono ?_
      rintro e w3 ⟨rfl, hb⟩
      replace HB := Lib.hid (HB.out.trans (hb.mono HB.out.size))
      clear hb
      go_wp2_with fail
      go_ret
      exact ⟨rfl, HB.out⟩
    · have hf2 : 8 < tenants := by omega
      clear hf
      go_enter Tryz.func9, Tryz.ntmps9
      go_wp2_with fail
      refine (HL.out _).mono ?_
      rintro e w1 ⟨b1, rfl, hb1⟩
      have HB := Lib.hid hb1
      clear hb1
      go_wp2_with fail
      refine (sfixedW _).mono ?_
      rintro e w3 ⟨rfl, hb⟩
      replace HB := Lib.hid (HB.out.trans (hb.mono HB.out.size))
      clear hb
      go_wp2_with fail
      go_ret
      exact ⟨rfl, HB.out⟩
  obtain ⟨ten, rfl⟩ : ∃ ten : Nat, tenants = (ten : Int) := ⟨tenants.toNat, by omega⟩
  have h1 : 1 ≤ ten := by omega
  have h8 : ten ≤ 8 := by omega
  have HL := Lib.hid (fun w => slaidW ten 31 (by decide) w h1 h8 (by omega))
  clear hf
  go_enter Tryz.func9, Tryz.ntmps9
  go_wp2_with fail
  refine (HL.out _).mono ?_
  rintro e w1 ⟨b, g, cap, sb0, D0, lb0, L0, rfl, hst, har, hln⟩
  have HAR := Lib.hid (And.intro har hln)
  have HS := Lib.hid hst
  clear hst har hln HL
  go_upto_block 0 with fail
  obtain ⟨w2, hw2⟩ : ∃ W, W = w1.alloc (.cells #[] 87) := ⟨_, rfl⟩
  have hb2 : Below w1.heap.size w1 w2 := by rw [hw2]; exact (Below.refl _ _).alloc (Nat.le_refl _) _
  have HZ : Hid (HeldZ w2 w.heap.size (.slice (some ⟨w1.heap.size, 0, none⟩) 0 0) 0) := by
    unfold Hid
    rw [hw2]
    exact (HeldZ.emptyW w1).lower HS.out.on.below.size
  have HS2 := Lib.hid (HS.out.grow hb2)
  obtain ⟨z0, hz0⟩ : ∃ z, z = w1.heap.size := ⟨_, rfl⟩
  rw [← hw2]
  try rw [← hz0]
  rw [← hz0] at HZ
  clear hw2 hb2 HS hz0
  obtain ⟨na, hna⟩ : ∃ f : Nat → Nat, f = upd (fun _ => 0) 0 1 := ⟨_, rfl⟩
  obtain ⟨ta, hta⟩ : ∃ f : Nat → ByteArray, f = upd (fun _ => ⟨#[]⟩) 0 ⟨#[]⟩ := ⟨_, rfl⟩
  rw [← hna, ← hta] at HS2
  have HNA : Hid (na 0 = 1 ∧ ∀ t, na (t + 1) = 0) := ⟨by rw [hna, upd_same], fun t => by rw [hna]; exact upd_other _ _ (by omega)⟩
  have HTA : Hid (∀ t, ta t = ⟨#[]⟩) := fun t => by rw [hta]; unfold upd; split <;> rfl
  clear hna hta
  go_wp2_with fail
  go_loopw [8, 9] (fun v8 v9 wr => ∃ (k : Nat), v9 = .int .i64 (k : Nat) ∧ k ≤ ten ∧ HeldZ wr w.heap.size v8 k ∧ StA w.heap.size w b g cap sb0 ten D0 2 lb0 L0 na ta wr) (fun _ v _ => (ten - intOf v).toNat)
  case atStart => exact ⟨0, rfl, Nat.zero_le _, HZ.out, HS2.out⟩
  case round =>
    clear HZ HS2
    obtain ⟨k, rfl, hk, hz, hs⟩ := hrel
    have HZ := Lib.hid hz
    have HS := Lib.hid hs
    clear hz hs
    by_cases hkt : k < ten
    · have hki : (k : Int) < (ten : Int) := by omega
      have hbx : Below wr.heap.size wr (wr.alloc (.cells #[.int .i64 0, .string ⟨#[]⟩] 87)) := (Below.refl _ _).alloc (Nat.le_refl _) _
      have HZ1 := Lib.hid (HZ.out.below hbx)
      have HS1 := Lib.hid (HS.out.grow hbx)
      have HB1 : Hid (w.heap.size ≤ (wr.alloc (.cells #[.int .i64 0, .string ⟨#[]⟩] 87)).heap.size) := by unfold Hid; have h1 := HS.out.on.below.size; simp; omega
      have HC1 : Hid (∀ j x, (#[.int .i64 0, .string ⟨#[]⟩] : Array Value)[j]? = some x → (wr.alloc (.cells #[.int .i64 0, .string ⟨#[]⟩] 87)).cell? ⟨wr.heap.size, j, none⟩ = some x) := fun j x h => by rw [cell_of_row _ wr.heap.size j _ _ _ (heap_alloc_new wr _)]; exact h
      clear hbx
      go_wp2_with (at_builtin; refine wpList_append_h rfl _ _ rfl rfl HZ1.out ⟨wr.heap.size, 0, none⟩ _ rfl ?e1 ?e2 ?e3 HB1.out ?_)
      case e1 => exact HC1.out 0 _ rfl
      case e2 => exact HC1.out 1 _ rfl
      case e3 => omega
      intro v' w' hz' hg'
      have HZ2 := Lib.hid hz'
      have HS2 := Lib.hid (HS1.out.appendedH HZ1.out hg')
      clear hz' hg' HZ1 HS1 HC1 HB1
      go_wp2_with fail
      exact ⟨⟨k + 1, rfl, by omega, HZ2.out, HS2.out⟩, by simp only [intOf]; omega⟩
    · have hki : ¬ (k : Int) < (ten : Int) := by omega
      obtain rfl : k = ten := by omega
      obtain ⟨nb, nc, hv8, hnc, hnc2, hheld⟩ := HZ.out.held (n := na) (tx := ta) (by omega) HNA.out.2 (fun t => HTA.out _)
      subst hv8
      have HH := Lib.hid hheld
      have HE := Lib.hid (sepochW HS.out.st)
      rw [HNA.out.1] at HE
      have HLN := Lib.hid (And.intro hnc hnc2)
      clear hkt hheld HZ hnc hnc2
      go_wp2_with fail
      refine HE.out.mono ?_
      rintro e w3 ⟨rfl, rfl⟩
      clear HE
      go_wp2_with fail
      go_loopw [6, 10, 11] (fun v6 v10 v11 wr => ∃ (i sb : Nat) (D : Dk) (lb : Nat → Nat) (L : Nat → Lg) (n : Nat → Nat) (tx : Nat → ByteArray), v11 = .int .i64 (i : Nat) ∧ i ≤ m ∧ v6 = .pointer (some ⟨sb, 0, none⟩) ∧ v10 = .int .i64 (n 0 : Nat) ∧ StA w.heap.size w b g cap sb k D (2 + stot (ls.take i) + 2 * i) lb L n tx wr ∧ Held w.heap.size wr nb k n tx ∧ D.armed = 0 ∧ D.l.length = 32 ∧ (∀ j, n j ≤ 2 + stot (ls.take i) + 2 * i) ∧ (∀ j, k < j → n j = 0 ∧ tx j = ⟨#[]⟩)) (fun _ _ v _ => (m - intOf v).toNat)
      case atStart =>
        refine ⟨0, sb0, D0, lb0, L0, na, ta, rfl, Nat.zero_le _, rfl, by rw [HNA.out.1]; rfl, HS.out, HH.out, HAR.out.1, HAR.out.2, fun j => ?_, fun j hj => ⟨?_, HTA.out j⟩⟩
        · rcases j with _ | j
          · rw [HNA.out.1]; omega
          · rw [HNA.out.2]; omega
        · obtain ⟨j, rfl⟩ : ∃ i, j = i + 1 := ⟨j - 1, by omega⟩
          exact HNA.out.2 j
      case round =>
        clear HS HH HAR HNA HTA
        obtain ⟨i, sb, D, lb, L, n, tx, rfl, hi, rfl, rfl, hs, hh, har, hln, hbd, hz⟩ := hrel
        have HS := Lib.hid hs
        have HH := Lib.hid hh
        have HPP : Hid (D.armed = 0 ∧ D.l.length = 32 ∧ (∀ j, n j ≤ 2 + stot (ls.take i) + 2 * i) ∧ (∀ j, k < j → n j = 0 ∧ tx j = ⟨#[]⟩)) := ⟨har, hln, hbd, hz⟩
        clear hs hh har hln hbd hz
        by_cases hlt : i < m
        · obtain ⟨qb, qo, hv, tv, cv, hvp, k0, k1, k2, k3, k4, hh, ht, hc⟩ := HLS.out i (by rw [← HMM.out]; exact hlt)
          subst hvp
          have hxo := HLO.out i (by rw [← HMM.out]; exact hlt)
          have hst := stot_take ls i (by rw [← HMM.out]; exact hlt)
          have hsl := stot_le ls (i + 1)
          obtain ⟨x, hx⟩ : ∃ x, x = ls.getD i Slf.zero := ⟨_, rfl⟩
          rw [← hx] at k2 k3 ht hh hc hxo hst
          obtain ⟨th, txs, Nn, Ag, css⟩ := x
          dsimp only at k2 k3 ht hh hc hst
          obtain ⟨o1, o2, o3, o4, o5, o6⟩ := hxo
          dsimp only at o1 o2 o3 o4 o5 o6
          have hbw := HS.out.on.below
          have r0 := (hbw.cell (block_lt_of_cell k0)).trans k0
          have r1 := (hbw.cell (block_lt_of_cell k1)).trans k1
          have r2 := (hbw.cell (block_lt_of_cell k2)).trans k2
          have r3 := (hbw.cell (block_lt_of_cell k3)).trans k3
          have r4 := (hbw.cell (block_lt_of_cell k4)).trans k4
          obtain ⟨tp, tc, htv, _⟩ := ht.form
          obtain ⟨sp, hc', hhv⟩ : ∃ p c, hv = .slice p th.length c := by
            obtain ⟨p, c, h, _⟩ := hh.form
            exact ⟨p, c, h⟩
          obtain ⟨cp, cc, hcv⟩ : ∃ p c, cv = .slice p css.length c := by
            obtain ⟨p, c, h, _⟩ := hc
            exact ⟨p, c, h⟩
          obtain ⟨mt, hmt⟩ : ∃ n, n = txs.length := ⟨_, rfl⟩
          obtain ⟨mh, hmh⟩ : ∃ n, n = th.length := ⟨_, rfl⟩
          obtain ⟨mc, hmc⟩ : ∃ n, n = css.length := ⟨_, rfl⟩
          rw [← hmt] at htv hst
          rw [← hmh] at hhv
          rw [← hmc] at hcv
          have HC := Lib.hid hc
          rw [hcv] at HC
          subst htv hhv hcv
          have HHT := Lib.hid ht
          have HHH := Lib.hid hh
          have HMT := Lib.hid hmt
          have HMH := Lib.hid hmh
          have HO4 := Lib.hid o4
          obtain ⟨M, hM⟩ : ∃ M, M = 2 + stot (ls.take i) + 2 * i := ⟨_, rfl⟩
          have HMX : Hid (M + mt + 2 ≤ 2 + stot (ls.take (i + 1)) + 2 * (i + 1) ∧ M + mt + 2 < 1099511627776) := by
            unfold Hid
            have := HTT.out
            omega
          rw [← hM] at HS HPP
          have hii : (i : Int) < (m : Int) := by omega
          clear k0 k1 k2 k3 k4 hbw hx ht hh hc hmt hmh hmc o4 hst hsl hM
          go_upto_region 14 with fail
          obtain ⟨xb, hxb⟩ : ∃ xb, xb = wr.heap.size := ⟨_, rfl⟩
          obtain ⟨wx, hwx⟩ : ∃ v, v = wr.alloc (.cells #[.slice sp mh hc', .slice tp mt tc, .int .i64 Nn, .int .i64 Ag, .slice cp mc cc] 91) := ⟨_, rfl⟩
          have hbx : Below wr.heap.size wr wx := by rw [hwx]; exact (Below.refl _ _).alloc (Nat.le_refl _) _
          have HX : Hid (XL wx xb (.slice sp mh hc') (.slice tp mt tc) Nn Ag (.slice cp mc cc)) := by unfold Hid; rw [hwx, hxb]; exact heap_alloc_new wr _
          have HSX := Lib.hid (HS.out.grow hbx)
          have HHX := Lib.hid (HH.out.below hbx)
          try simp only [World.size_alloc]
          rw [← hxb, ← hwx]
          clear hbx hwx hxb r0 r1 r2 r3 r4 HS HH
          go_upto_block 4 with fail
          obtain ⟨ob, hob⟩ : ∃ ob, ob = wx.heap.size := ⟨_, rfl⟩
          obtain ⟨wy, hwy⟩ : ∃ v, v = wx.alloc (.cells #[.int .i64 0, .string ⟨#[]⟩] 87) := ⟨_, rfl⟩
          have hby : Below wx.heap.size wx wy := by rw [hwy]; exact (Below.refl _ _).alloc (Nat.le_refl _) _
          have HSY := Lib.hid (HSX.out.grow hby)
          have HMY : Hid (SLvM w.heap.size nb xb ob k (.slice sp mh hc') (.slice tp mt tc) Nn Ag (.slice cp mc cc) n tx 0 ⟨#[]⟩ wy) := by
            refine ⟨HHX.out.below hby, HX.out.keep (Chg.of_below (fun _ => False) hby) (fun h => h), ?_, ?_, ?_⟩
            · rw [hwy, hob]; exact heap_alloc_new wx _
            · have := HHX.out.lt; omega
            · have := HSX.out.on.below.size; omega
          try simp only [World.size_alloc]
          rw [← hob, ← hwy]
          clear hby hwy hob HSX HHX HX
          go_cut [13] from 70 to 196 (fun v13 wx => ∃ (fl : Int) (D' : Dk) (n1 n' : Nat → Nat) (tx1 tx' : Nat → ByteArray) (og : Nat) (ot : ByteArray), v13 = .int .i64 fl ∧ SLvM w.heap.size nb xb ob k (.slice sp mh hc') (.slice tp mt tc) Nn Ag (.slice cp mc cc) n1 tx1 og ot wx ∧ SLvO w.heap.size w b g cap k D' (M + mt) n1 tx1 fl og ot n' tx' wx ∧ n1 0 = n 0)
          case first =>
            refine slInner w wy HGL.out b g cap nb nc xb ob sb k M h1 h8 sp tp tc mh hc' mt _ _ (.slice cp mc cc) rfl rfl txs th css Nn Ag HLN.out.1 HLN.out.2 HMT.out (HMT.out ▸ HHT.out) HMH.out (HMH.out ▸ HHH.out) HC.out (by have := HMT.out; omega) (by have := HMH.out; omega) o3 HO4.out o5 D lb L n tx 0 ⟨#[]⟩ HSY.out HMY.out HPP.out.1 HPP.out.2.1 HPP.out.2.2.1 HPP.out.2.2.2 (by have := HMX.out.2; omega) _ _ _ _ _ _ _ _ _ _ _ _ _ _ _ _ _ _ _ _ _ _ _ _ _ _ _ _ _ _ _ _ _ _ _ _ _ _ _ _ _ _ _ _ _ _ _ _ _ _ _ _ _ _ _ _ _ _ _ _ _ _ _ _ _ _ _ _ _ _ _ _ _ _ _ _ _ _ _ _ _ _ _ _ _ _ _ _ _ _ _ _ _ _ _ _ _ _ _ _ _ _ _ _ _ _ _ _ _ _ _ _ _ _ _ _ _ _ _ _ _ _ _ _ _ _ _ _ _ _ _ _ _ _ _ _ _ _ _ _ _ _ _ _ _ _ _ _ _ _ _ _ _ _ _ _ _ _ _ _ _ _ _ _ _ _ _ _ _ _ _ _ _ _ _ _ _ _ _ _ _ _ _ _ _ _ _ _ _ _ _ _ _ _ _ _ _ _ _ _ _ _ _ _ _ _ _ _ _ _ _ _ _ _ _ _ _ _ _ _ _ _ _ _ _ _ _ _ _ _ _ _ _ _ _ _ _ _ _ _ _ _ _ _ _ _ _ _ _ _ _ _ _ _ _ _ _ _ _ _ _ _ _ _ _ _ _ _ _ _ _ _ _ _ _ _ _ _ _ _ _ _ _ _ _ _ _ _ _ _ _ _ _ _ _ _ _ _ _ _ _ _ (fun _ _ _ _ _ h => h) ?_
            intro u4 u15 u16 u17 u18 u19 u70 u71 u72 u73 u74 u75 u76 u77 u78 u79 u80 u81 u82 u83 u84 u85 u86 u87 u88 u89 u90 u91 u92 u93 u94 u95 u96 u97 u98 u99 u100 u101 u102 u103 u104 u105 u106 u107 u108 u109 u110 u111 u112 u113 u114 u115 u116 u117 u118 u119 u120 u121 u122 u123 u124 u125 u126 u127 u128 u129 u130 u131 u132 u133 u134 u135 u136 u137 u138 u139 u140 u141 u142 u143 u144 u145 u146 u147 u148 u149 u150 u151 u152 u153 u154 u155 u156 u157 u158 u159 u160 u161 u162 u163 u164 u165 u166 u167 u168 u169 u170 u171 u172 u173 u174 u175 u176 u177 u178 u179 u180 u181 u182 u183 u184 u185 u186 u187 u188 u189 u190 u191 u192 u193 u194 u195 u196 fl w' D' n1 n' tx1 tx' og ot q1 q2 q3
            go_wp2_with fail
            go_meet
            exact ⟨fl, D', n1, n', tx1, tx', og, ot, rfl, q1, q2, q3⟩
          case rest =>
            obtain ⟨fl, D2, n2, n2', tx2, tx2', og, ot, rfl, hm2, ho2, hn0⟩ := hcut
            have HM2 := Lib.hid hm2
            have HO2 := Lib.hid ho2
            have HEP : Hid (n 0 ≤ n2' 0) := by unfold Hid; rw [← hn0]; exact ho2.le
            clear hm2 ho2 hn0 HSY HMY HPP
            apply_assumption
            refine slTail w _ HGL.out b g cap nb nc xb ob k (M + mt) h1 h8 HLN.out.1 HLN.out.2 _ _ cp mc cc Nn Ag css HC.out o3 HO4.out o6 D2 n2 n2' tx2 tx2' fl og ot (n 0) HM2.out HO2.out HEP.out HMX.out.2 _ _ _ _ _ _ _ _ _ _ _ _ _ _ _ _ _ _ _ _ _ _ _ _ _ _ _ _ _ _ _ _ _ _ _ _ _ _ _ _ _ _ _ _ _ _ _ _ _ _ _ _ _ _ _ _ _ _ _ _ _ _ _ _ _ _ _ _ _ _ _ _ _ _ _ _ _ _ _ _ _ _ _ _ _ _ _ _ _ _ _ _ _ _ _ _ _ _ _ _ _ _ _ _ _ _ _ _ _ _ _ _ _ _ _ _ _ _ _ _ _ _ _ _ _ _ _ _ _ _ _ _ _ _ _ _ _ _ _ _ _ _ _ _ _ _ _ _ _ _ _ _ _ _ _ _ _ _ _ _ _ _ _ _ _ _ _ _ _ _ _ _ _ _ _ _ _ _ _ _ _ _ _ _ _ _ _ _ _ _ _ _ _ _ _ _ _ _ _ _ _ _ _ _ _ _ _ _ _ _ _ _ _ _ _ _ _ _ _ _ _ _ _ _ _ _ _ _ _ _ _ _ _ _ _ _ _ _ _ _ _ _ _ _ _ _ _ _ _ _ _ _ _ _ _ _ _ _ _ _ _ _ _ _ _ _ _ _ _ _ _ _ _ _ _ _ _ _ _ _ _ _ _ _ _ _ _ _ _ _ _ _ _ _ _ _ _ _ _ _ _ _ _ (fun _ _ _ _ _ h => h) ?_
            intro u4 u20 u21 u22 u23 u24 u25 u197 u198 u199 u200 u201 u202 u203 u204 u205 u206 u207 u208 u209 u210 u211 u212 u213 u214 u215 u216 u217 u218 u219 u220 u221 u222 u223 u224 u225 u226 u227 u228 u229 u230 u231 u232 u233 u234 u235 u236 u237 u238 u239 u240 u241 u242 u243 u244 u245 u246 u247 u248 u249 u250 u251 u252 u253 u254 u255 u256 u257 u258 u259 u260 u261 u262 u263 u264 u265 u266 u267 u268 u269 u270 u271 u272 u273 u274 u275 u276 u277 u278 u279 u280 u281 u282 u283 u284 u285 u286 u287 u288 u289 u290 u291 u292 u293 u294 u295 u296 u297 u298 u299 u300 u301 u302 u303 u304 u305 u306 u307 sb8 D8 lb8 L8 n8 tx8 w8 q1 q2 q3 q4 q5 q6
            go_wp2_with fail
            exact ⟨⟨i + 1, sb8, D8, lb8, L8, n8, tx8, rfl, by omega, rfl, rfl, q1.mono HMX.out.1, q2, q3, q4, fun j => by have := q5 j; have := HMX.out.1; omega, q6⟩, by simp only [intOf]; omega⟩
        · have hii : ¬ (i : Int) < (m : Int) := by omega
          go_wp2_with fail
          refine (sfixedW _).mono ?_
          rintro e w4 ⟨rfl, hb⟩
          have HB := Lib.hid (HS.out.on.below.trans (hb.mono HS.out.on.below.size))
          clear hb
          go_wp2_with fail
          go_ret
          exact ⟨rfl, HB.out⟩
end Go.Proofs.YtilpbjcbffbjeaaGreatDoor
