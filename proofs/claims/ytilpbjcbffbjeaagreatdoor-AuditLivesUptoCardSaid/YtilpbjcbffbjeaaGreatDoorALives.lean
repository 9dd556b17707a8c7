/- The law AuditLives, walked. -/
import Derived.Test.YtilpbjcbffbjeaaGreatDoorPkQ
import Derived.Test.YtilpbjcbffbjeaaGreatDoorAFixed
import Derived.Deep.CutBlock
import Derived.Deep.DeepCutAuto
namespace Go.Proofs.YtilpbjcbffbjeaaGreatDoor
set_option linter.unusedVariables false
set_option maxRecDepth 100000
open Go.RowKit
set_option maxHeartbeats 16000000 in
theorem alivesLaw {w : World} (quota : Int) (v : Value) (ls : List Alf) (hv : ALifes w v ls) (hok : ∀ i, i < ls.length → AlfOk (ls.getD i Alf.zero)) (hl : ls.length ≤ 1048576) :
    Calls Tryz.prog 5 #[.int .i64 quota, v] w fun e w' => e = .returned (.bool true) ∧ Below w.heap.size w w' := by
  obtain ⟨vp, vc, rfl, hls⟩ := hv
  obtain ⟨m, hm⟩ : ∃ m, m = ls.length := ⟨_, rfl⟩
  rw [← hm] at hl ⊢
  have HMM := Lib.hid hm
  have HLS := Lib.hid hls
  have HLO := Lib.hid hok
  clear hls hok hm
  go_enter Tryz.func5, Tryz.ntmps5
  go_wp2_with fail
  refine (newZ _ 1 (by decide) (by decide) (strs_one1 _ w.heap.size zfe (by simp [zfe]))).mono ?_
  rintro e w1 ⟨b, g, cap, rfl, hat, hok⟩
  have HA := Lib.hid (hat.rebase ((Below.refl _ _).alloc (Nat.le_refl _) _) (by simp) (Nat.le_refl _))
  have HOK := Lib.hid hok
  clear hat hok
  by_cases hq : quota < 0 ∨ 262144 < quota
  · have H1 := Lib.hid (fun w v => aopenArg 0 quota hq w v)
    rcases hq with hq | hq
    · go_wp2_with fail
      refine (H1.out _ _).mono ?_
      rintro e w2 ⟨rfl, rfl⟩
      clear H1
      go_wp2_with fail
      refine (afixedW _).mono ?_
      rintro e w3 ⟨rfl, hb⟩
      have HB := Lib.hid (HA.out.grow hb).below
      clear hb
      go_wp2_with fail
      go_ret
      exact ⟨rfl, HB.out⟩
    · have hq0 : ¬ quota < 0 := by omega
      go_wp2_with fail
      refine (H1.out _ _).mono ?_
      rintro e w2 ⟨rfl, rfl⟩
      clear H1
      go_wp2_with fail
      refine (afixedW _).mono ?_
      rintro e w3 ⟨rfl, hb⟩
      have HB := Lib.hid (HA.out.grow hb).below
      clear hb
      go_wp2_with fail
      go_ret
      exact ⟨rfl, HB.out⟩
  have hq' : 0 ≤ quota ∧ quota ≤ 262144 := by omega
  have HQ := Lib.hid hq'
  have HO1 := Lib.hid (HA.out.aopenU HOK.out rfl rfl (f := 0) (by decide) (restZ 1 0) hq' (few_zero 1))
  clear hq hq'
  go_wp2_with fail
  refine HO1.out.mono ?_
  rintro e w2 ⟨lb0, D1, rfl, _, hst, hc, hal⟩
  have HS := Lib.hid hst
  have HB0 : Hid (ALvB D1 [] quota) := ⟨hst.ok, hst.al, by rw [hal.len]; rfl, hst.ar, hst.ac, by rw [hst.hz]; exact HQ.out.1⟩
  clear hst hc hal HO1 HA HOK
  go_upto_block 0 with fail
  obtain ⟨w3, hw3⟩ : ∃ W, W = w2.alloc (.cells #[] 9) := ⟨_, rfl⟩
  have hb3 : Below w2.heap.size w2 w3 := by rw [hw3]; exact (Below.refl _ _).alloc (Nat.le_refl _) _
  have HA3 := Lib.hid (HS.out.on.grow hb3)
  have HL3 := Lib.hid (HS.out.log.below hb3)
  have HLB : Hid (w.heap.size ≤ lb0) := HS.out.lB
  rw [← hw3]
  clear hw3 hb3 HS
  go_wp2_with fail
  go_loopw [7, 9, 10] (fun v7 v9 v10 wr => ∃ (i lb : Nat) (D : Dk) (q : List ByteArray), v10 = .int .i64 (i : Nat) ∧ v7 = .pointer (some ⟨lb, 0, none⟩) ∧ i ≤ m ∧ At w.heap.size w b g cap D wr ∧ IsAL wr lb b 0 quota q false ∧ w.heap.size ≤ lb ∧ Strs wr v9 q ∧ ApartS (fun k => k = lb ∨ k = b ∨ k = g) v9 q ∧ ALvB D q quota) (fun _ _ v _ => (m - intOf v).toNat)
  case atStart => exact ⟨0, lb0, D1, [], rfl, rfl, Nat.zero_le _, HA3.out, HL3.out, HLB.out, Strs.mk (ss := []) (fun i hi => by cases hi), (fun a n c e h => by cases h), HB0.out⟩
  case round =>
    clear HA3 HL3 HLB HB0
    obtain ⟨i, lb, D, q, rfl, rfl, hi, hat, hlog, hlb, hsv, hap, hlv⟩ := hrel
    have HAT := Lib.hid hat
    have HLG := Lib.hid hlog
    have HLB := Lib.hid hlb
    have HSV := Lib.hid hsv
    have HAP := Lib.hid hap
    have HLV := Lib.hid hlv
    clear hat hlog hlb hsv hap hlv
    by_cases hlt : i < m
    · obtain ⟨qb, qo, tv, sv, cv, hvp, k0, k1, k2, k3, k4, ht, hh, hc⟩ := HLS.out i (by rw [← HMM.out]; exact hlt)
      subst hvp
      have hxo := HLO.out i (by rw [← HMM.out]; exact hlt)
      obtain ⟨x, hx⟩ : ∃ x, x = ls.getD i Alf.zero := ⟨_, rfl⟩
      rw [← hx] at k2 k3 ht hh hc hxo
      obtain ⟨tx, th, Nn, Ag, css⟩ := x
      dsimp only at k2 k3 ht hh hc
      obtain ⟨o1, o2, o3, o4, o5, o6⟩ := hxo
      dsimp only at o1 o2 o3 o4 o5 o6
      have hbw := HAT.out.below
      have r0 := (hbw.cell (block_lt_of_cell k0)).trans k0
      have r1 := (hbw.cell (block_lt_of_cell k1)).trans k1
      have r2 := (hbw.cell (block_lt_of_cell k2)).trans k2
      have r3 := (hbw.cell (block_lt_of_cell k3)).trans k3
      have r4 := (hbw.cell (block_lt_of_cell k4)).trans k4
      obtain ⟨tp, tc, htv, _⟩ := ht.form
      obtain ⟨sp, hc', hhv⟩ : ∃ p c, sv = .slice p th.length c := by
        obtain ⟨p, c, h, _⟩ := hh
        exact ⟨p, c, h⟩
      obtain ⟨cp, cc, hcv⟩ : ∃ p c, cv = .slice p css.length c := by
        obtain ⟨p, c, h, _⟩ := hc
        exact ⟨p, c, h⟩
      obtain ⟨mt, hmt⟩ : ∃ n, n = tx.length := ⟨_, rfl⟩
      obtain ⟨mh, hmh⟩ : ∃ n, n = th.length := ⟨_, rfl⟩
      obtain ⟨mc, hmc⟩ : ∃ n, n = css.length := ⟨_, rfl⟩
      rw [← hmt] at htv
      rw [← hmh] at hhv
      rw [← hmc] at hcv
      have HC := Lib.hid hc
      rw [hcv] at HC
      subst htv hhv hcv
      have HHT := Lib.hid ht
      have HHH := Lib.hid hh
      have HMT := Lib.hid hmt
      have HMH := Lib.hid hmh
      have HMC := Lib.hid hmc
      have HO4 := Lib.hid o4
      have hii : (i : Int) < (m : Int) := by omega
      clear k0 k1 k2 k3 k4 hbw hx ht hh hc hmt hmh hmc o4
      go_upto_region 12 with fail
      obtain ⟨xb, hxb⟩ : ∃ xb, xb = wr.heap.size := ⟨_, rfl⟩
      obtain ⟨wx, hwx⟩ : ∃ v, v = wr.alloc (.cells #[.slice tp mt tc, .slice sp mh hc', .int .i64 Nn, .int .i64 Ag, .slice cp mc cc] 58) := ⟨_, rfl⟩
      have hbx : Below wr.heap.size wr wx := by rw [hwx]; exact (Below.refl _ _).alloc (Nat.le_refl _) _
      have HXx : Hid (XA wx xb (.slice tp mt tc) (.slice sp mh hc') Nn Ag (.slice cp mc cc)) := by unfold Hid; rw [hwx, hxb]; exact heap_alloc_new wr _
      have HZX : Hid (wx.heap.size = xb + 1) := by unfold Hid; rw [hwx, hxb]; simp
      have HXB : Hid (lb < xb ∧ b < xb ∧ g < xb ∧ w.heap.size ≤ xb) := by
        unfold Hid
        have h1 := HLG.out.lt
        have h2 := HAT.out.disk.lt
        have h3 := HAT.out.disk.fs.lt
        have h4 := HAT.out.below.size
        rw [hxb]
        omega
      have HSX := Lib.hid (HSV.out.below hbx)
      have HAX := Lib.hid (HAT.out.grow hbx)
      have HLX := Lib.hid (HLG.out.below hbx)
      have hqn : q.length ≤ 2097152 := by have h1 := HLV.out.ac.few (HLV.out.ok.size 0 (by rw [HLV.out.one]; decide)); omega
      have HQN := Lib.hid hqn
      try simp only [World.size_alloc]
      rw [← hxb, ← hwx]
      clear hbx hwx hxb r0 r1 r2 r3 r4 hqn HSV HAT HLG
      go_upto_block 2 with (at_builtin; refine wpList_copy_z (ns := q) rfl _ _ rfl rfl rfl HSX.out ?e1 ?_)
      case e1 => exact HQN.out
      intro va W1 ho hb
      have HK : Hid (ALvK w W1 b g lb xb (xb + 1)) := by
        unfold Hid
        have h1 := HXB.out
        have h2 := HZX.out
        have h3 := hb.size
        have h4 := HLB.out
        exact ⟨by omega, by omega, by omega, by omega, by omega, by omega, by omega, by omega, h4, by omega⟩
      have HM1 : Hid (ALvM w W1 b g cap lb (xb + 1) quota D q false va q u9 q W1) := by
        unfold Hid
        refine ⟨HAX.out.grow hb, (HLX.out.fr (N := va.ownBlock) (fun k hk => (ho.lt hk).1)).below hb, by rw [← HZX.out]; exact ho, HSX.out.below hb, ?_, Chg.refl _ _⟩
        intro a n c e h0 hS
        rcases hS with hS | hS | hS | hS
        · exact HAP.out a n c e h0 (.inl hS)
        · exact HAP.out a n c e h0 (.inr (.inl hS))
        · exact HAP.out a n c e h0 (.inr (.inr hS))
        · have h1 := (ho.lt hS).1
          have h2 := HSX.out.blk e h0
          omega
      have HP1 : Hid (ALvQ D q q q.length quota False) := ⟨HLV.out.ok, HLV.out.al, HLV.out.one, fun e => e HLV.out.ar, HLV.out.ac, by rw [List.take_length], HLV.out.z⟩
      have HX1 : Hid (XA W1 xb (.slice tp mt tc) (.slice sp mh hc') Nn Ag (.slice cp mc cc)) := (hb.block xb (by have := HZX.out; omega)).trans HXx.out
      clear ho hb HSX HAX HLX HXx
      go_upto_block 2 with fail
      go_cut [9, 12] from 67 to 169 (fun v9 v12 wx => ∃ (D' : Dk) (tx' : List ByteArray) (dd : Bool) (al sf : List ByteArray), ALvM w W1 b g cap lb (xb + 1) quota D' tx' dd v12 al v9 sf wx ∧ ALvO D' al sf quota)
      case first =>
        refine alInner w W1 b g cap lb xb (xb + 1) quota HQ.out HK.out tp sp tc mh hc' (.slice cp mc cc) tx th css Nn Ag mt HX1.out HMT.out (HMT.out ▸ HHT.out) HMH.out (HMH.out ▸ HHH.out) HC.out (by have := HMT.out; omega) (by have := HMH.out; omega) o3 HO4.out o5 D q q.length va _ q HM1.out HP1.out _ _ _ _ _ _ _ _ _ _ _ _ _ _ _ _ _ _ _ _ _ _ _ _ _ _ _ _ _ _ _ _ _ _ _ _ _ _ _ _ _ _ _ _ _ _ _ _ _ _ _ _ _ _ _ _ _ _ _ _ _ _ _ _ _ _ _ _ _ _ _ _ _ _ _ _ _ _ _ _ _ _ _ _ _ _ _ _ _ _ _ _ _ _ _ _ _ _ _ _ _ _ _ _ _ _ _ _ _ _ _ _ _ _ _ _ _ _ _ _ _ _ _ _ _ _ _ _ _ _ _ _ _ _ _ _ _ _ _ _ _ _ _ _ _ _ _ _ _ _ _ _ _ _ _ _ _ _ _ _ _ _ _ _ _ _ _ _ _ _ _ _ _ _ _ _ _ _ _ _ _ _ _ _ _ _ _ _ _ _ _ _ _ _ _ _ _ _ _ _ _ _ _ _ _ _ _ _ _ _ _ _ _ _ _ _ _ _ _ _ _ _ _ _ _ _ _ _ _ _ _ _ _ _ _ _ _ _ _ _ _ _ _ _ _ _ _ _ _ _ _ _ _ _ _ _ _ _ _ _ _ _ _ _ _ _ _ _ _ _ _ _ _ _ _ _ _ ?_
        intro u4 u13 u14 u15 u67 u68 u69 u70 u71 u72 u73 u74 u75 u76 u77 u78 u79 u80 u81 u82 u83 u84 u85 u86 u87 u88 u89 u90 u91 u92 u93 u94 u95 u96 u97 u98 u99 u100 u101 u102 u103 u104 u105 u106 u107 u108 u109 u110 u111 u112 u113 u114 u115 u116 u117 u118 u119 u120 u121 u122 u123 u124 u125 u126 u127 u128 u129 u130 u131 u132 u133 u134 u135 u136 u137 u138 u139 u140 u141 u142 u143 u144 u145 u146 u147 u148 u149 u150 u151 u152 u153 u154 u155 u156 u157 u158 u159 u160 u161 u162 u163 u164 u165 u166 u167 u168 u169 va' vs' w' D' tx' dd al sf h1 h2
        go_wp2_with fail
        go_meet
        exact ⟨D', tx', dd, al, sf, h1, h2⟩
      case rest =>
        obtain ⟨D2, tx2, dd2, al2, sf2, hm2, ho2⟩ := hcut
        have HM2 := Lib.hid hm2
        have HO2 := Lib.hid ho2
        clear hm2 ho2 HM1 HP1
        apply_assumption
        refine alTail w W1 b g cap lb xb (xb + 1) quota HQ.out HK.out _ _ cp mc cc Nn Ag css HX1.out HC.out o3 HO4.out o6 D2 tx2 dd2 _ _ al2 sf2 _ HM2.out HO2.out _ _ _ _ _ _ _ _ _ _ _ _ _ _ _ _ _ _ _ _ _ _ _ _ _ _ _ _ _ _ _ _ _ _ _ _ _ _ _ _ _ _ _ _ _ _ _ _ _ _ _ _ _ _ _ _ _ _ _ _ _ _ _ _ _ _ _ _ _ _ _ _ _ _ _ _ _ _ _ _ _ _ _ _ _ _ _ _ _ _ _ _ _ _ _ _ _ _ _ _ _ _ _ _ _ _ _ _ _ _ _ _ _ _ _ _ _ _ _ _ _ _ _ _ _ _ _ _ _ _ _ _ _ _ _ _ _ _ _ _ _ _ _ _ _ _ _ _ _ _ _ _ _ _ _ _ _ _ _ _ _ _ _ _ _ _ _ _ _ _ _ _ _ _ _ _ _ _ _ _ _ _ _ _ _ _ _ _ _ _ _ _ _ _ _ _ _ _ _ _ _ _ _ _ _ _ _ _ _ _ _ _ _ _ _ _ _ _ _ _ _ _ _ _ _ _ _ _ _ _ _ _ _ _ _ _ _ _ _ _ _ _ _ _ _ _ _ _ _ _ _ _ _ _ _ _ _ _ _ _ _ _ _ _ _ _ _ _ _ _ _ _ _ _ _ _ _ _ ?_
        intro u4 u16 u17 u18 u19 u20 u21 u22 u23 u24 u170 u171 u172 u173 u174 u175 u176 u177 u178 u179 u180 u181 u182 u183 u184 u185 u186 u187 u188 u189 u190 u191 u192 u193 u194 u195 u196 u197 u198 u199 u200 u201 u202 u203 u204 u205 u206 u207 u208 u209 u210 u211 u212 u213 u214 u215 u216 u217 u218 u219 u220 u221 u222 u223 u224 u225 u226 u227 u228 u229 u230 u231 u232 u233 u234 u235 u236 u237 u238 u239 u240 u241 u242 u243 u244 u245 u246 u247 u248 u249 u250 u251 u252 u253 u254 u255 u256 u257 u258 u259 u260 u261 u262 u263 u264 u265 u266 u267 u268 u269 u270 u271 u272 u273 u274 u275 u276 u277 u278 u279 u280 vs8 lb8 w' D8 q8 h1 h2 h3 h4 h5 h6
        go_wp2_with fail
        exact ⟨⟨i + 1, lb8, D8, q8, rfl, rfl, by omega, h1, h2, h3, h4, h5, h6⟩, by simp [intOf]; omega⟩
    · have hii : ¬ (i : Int) < (m : Int) := by omega
      go_wp2_with fail
      refine (afixedW _).mono ?_
      rintro e w3 ⟨rfl, hb⟩
      have HB := Lib.hid (HAT.out.below.trans (hb.mono HAT.out.below.size))
      clear hb
      go_wp2_with fail
      go_ret
      exact ⟨rfl, HB.out⟩
end Go.Proofs.YtilpbjcbffbjeaaGreatDoor
