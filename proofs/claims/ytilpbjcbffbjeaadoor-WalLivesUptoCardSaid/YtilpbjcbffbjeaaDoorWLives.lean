/- The law WalLives, walked. -/
import Derived.Test.YtilpbjcbffbjeaaDoorWLvT
import Derived.Test.YtilpbjcbffbjeaaDoorWFixed
namespace Go.Proofs.YtilpbjcbffbjeaaDoor
set_option linter.unusedVariables false
set_option maxRecDepth 100000
open Go.RowKit
theorem z2_minvL : MInv [Fl.zero, Fl.zero] 0 := ⟨by decide, by decide, fun f hf => by
    match f, (show f < 2 from hf) with
    | 0, _ => exact of_decide_eq_true (by kernel_rfl)
    | 1, _ => exact of_decide_eq_true (by kernel_rfl), fun f hf => by
    match f, (show f < 2 from hf) with
    | 0, _ => exact Nat.le_refl _
    | 1, _ => exact Nat.le_refl _⟩
theorem lv_start (s : ByteArray) (hs : s.size ≤ 16384) (h : MInv ([Fl.zero, Fl.zero].set 0 ⟨recS 1 s, []⟩) 1) : LvB (dk0 ([Fl.zero, Fl.zero].set 0 ⟨recS 1 s, []⟩)) ⟨0, 0, 1, 0, false⟩ 1 s [] := by
  refine ⟨h.ok (by omega), rfl, rfl, rfl, ⟨by show 0 + 1 < 2; decide, rfl, .inl rfl, rfl, rfl, Nat.le_refl _, Nat.le_refl _, ⟨Nat.le_refl _, ?_, rfl⟩, rfl, hs, fun p hp => by cases hp⟩⟩
  show bs (recS 1 s) = _
  rw [bs_recS]; simp [recsL]
set_option maxHeartbeats 16000000 in
theorem livesLaw {w : World} (snap0 : ByteArray) (v : Value) (ls : List Lf) (hv : Lifes w v ls) (hok : ∀ i, i < ls.length → LfOk (ls.getD i Lf.zero)) (hl : ls.length ≤ 1048576) (htot : tot ls ≤ 1048576) (hsz : snap0.size ≤ 1048576) :
    Calls Tryd.prog 5 #[.string snap0, v] w fun e w' => e = .returned (.bool true) ∧ Below w.heap.size w w' := by
  obtain ⟨vp, vc, rfl, hls⟩ := hv
  obtain ⟨m, hm⟩ : ∃ m, m = ls.length := ⟨_, rfl⟩
  rw [← hm] at hl ⊢
  have HMM := Lib.hid hm
  have HLS := Lib.hid hls
  have HLO := Lib.hid hok
  have HTOT := Lib.hid htot
  clear hls hok hm htot
  go_enter Tryd.func5, Tryd.ntmps5
  go_wp2_with fail
  refine (newW _ [fe, fe] (strs_two _ w.heap.size fe fe (by simp [fe]) (by simp [fe])) (by decide) (fun i hi => by match i, (show i < 2 from hi) with | 0, _ => decide | 1, _ => decide)).mono ?_
  rintro e w1 ⟨hb1, hh⟩
  rcases hh with ⟨hne, _⟩ | ⟨_, b, g, cap, rfl, hid, hbb, hgg⟩
  · exact absurd (show newErr [fe, fe] = 0 by decide) hne
  have hat : At w.heap.size w b g cap (dk0 [Fl.zero, Fl.zero]) w1 := ⟨hid, ((Below.refl _ _).alloc (Nat.le_refl _) _).trans (hb1.mono (by simp)), by simp at hbb; omega, by simp at hgg; omega, Nat.le_refl _⟩
  have HA := Lib.hid hat
  clear hat hid hbb hgg hb1
  by_cases hbig : 16384 < snap0.size
  · have HN := Lib.hid (newLLong HA.out.disk (z2_minvL.ok (by omega)) 0 snap0 rfl (by decide) (by kernel_rfl) (by kernel_rfl) hbig)
    have hbi : (16384 : Int) < (snap0.size : Int) := by omega
    clear hbig
    go_wp2_with fail
    refine HN.out.mono ?_
    rintro e w2 ⟨rfl, hb⟩
    have HB := Lib.hid (HA.out.grow hb).below
    clear hb HN
    go_wp2_with fail
    refine (fixedLW _).mono ?_
    rintro e w3 ⟨rfl, hb⟩
    replace HB := Lib.hid (HB.out.trans (hb.mono HB.out.size))
    clear hb
    go_wp2_with fail
    go_ret
    exact ⟨rfl, HB.out⟩
  obtain ⟨hinv, hnew⟩ := newI HA.out z2_minvL (by omega) 0 (by decide) (by rfl) (by rfl) snap0 (by omega)
  have HN := Lib.hid hnew
  have HST := Lib.hid (lv_start snap0 (by omega) hinv.m)
  clear hinv hnew hbig
  go_wp2_with fail
  refine HN.out.mono ?_
  rintro e w2 ⟨lb0, rfl, _, hlat⟩
  have HL := Lib.hid hlat
  clear hlat HN HA
  go_upto_block 0 with fail
  obtain ⟨nb, hnb⟩ : ∃ nb, nb = w2.heap.size := ⟨_, rfl⟩
  have ha3 : Below w2.heap.size w2 (w2.alloc (.cells #[.string snap0, .slice none 0 0] 50)) := (Below.refl _ _).alloc (Nat.le_refl _) _
  obtain ⟨w3, hw3⟩ : ∃ v, v = w2.alloc (.cells #[.string snap0, .slice none 0 0] 50) := ⟨_, rfl⟩
  rw [← hw3] at ha3
  have HL3 := Lib.hid (HL.out.grow ha3)
  have HNOW3 : Hid (NowAt w3 nb snap0 []) := by unfold Hid; exact ⟨.slice none 0 0, by rw [hw3, hnb]; exact heap_alloc_new w2 _, WS.nil _⟩
  have HNB : Hid (w.heap.size ≤ nb ∧ nb ≠ lb0 ∧ nb ≠ b ∧ nb ≠ g) := by
    unfold Hid
    have h1 := HL.out.below.size
    have h2 := HL.out.log.lt
    have h3 := HL.out.on.disk.lt
    have h4 := HL.out.on.disk.fs.lt
    omega
  first | rw [← hw3] | (rw [← hw3]; rw [← hnb])
  try rw [← hnb]
  clear hw3 hnb ha3 HL
  go_wp2_with fail
  go_loopw [7, 9] (fun v7 v9 wr => ∃ (i lb : Nat) (D : Dk) (L : Lg) (snap : ByteArray) (ps : List ByteArray), v9 = .int .i64 (i : Nat) ∧ v7 = .pointer (some ⟨lb, 0, none⟩) ∧ i ≤ m ∧ LAt w.heap.size w b g cap lb D L wr ∧ nb ≠ lb ∧ NowAt wr nb snap ps ∧ LvB D L (1 + tot (ls.take i)) snap ps) (fun _ v _ => (m - intOf v).toNat)
  case atStart => exact ⟨0, lb0, _, _, snap0, [], rfl, rfl, Nat.zero_le _, HL3.out, HNB.out.2.1, HNOW3.out, HST.out⟩
  case round =>
    obtain ⟨i, lb, D, L, snap, ps, rfl, rfl, hi, hlat, hnl, hnow, hlv⟩ := hrel
    have HLr := Lib.hid hlat
    have HNL := Lib.hid hnl
    have HNOW := Lib.hid hnow
    have HLV := Lib.hid hlv
    clear hlat hnl hnow hlv HL3 HNOW3 HST
    by_cases hlt : i < m
    · obtain ⟨qb, qo, tv, hv, cv, hvp, k0, k1, k2, k3, k4, k5, ht, hh, hc⟩ := HLS.out i (by rw [← HMM.out]; exact hlt)
      subst hvp
      have hxo := HLO.out i (by rw [← HMM.out]; exact hlt)
      have htt := tot_take ls i (by rw [← HMM.out]; exact hlt)
      have htl := Nat.le_trans (tot_le ls (i + 1)) HTOT.out
      obtain ⟨x, hx⟩ : ∃ x, x = ls.getD i Lf.zero := ⟨_, rfl⟩
      rw [← hx] at k2 k3 k4 ht hh hc hxo htt
      obtain ⟨tx, th, sn, Nn, Ag, css⟩ := x
      dsimp only at k2 k3 k4 ht hh hc htt
      obtain ⟨o1, o2, o3, o4, o5, o6⟩ := hxo
      dsimp only at o1 o2 o3 o4 o5 o6
      have hbw := HLr.out.below
      have r0 := (hbw.cell (block_lt_of_cell k0)).trans k0
      have r1 := (hbw.cell (block_lt_of_cell k1)).trans k1
      have r2 := (hbw.cell (block_lt_of_cell k2)).trans k2
      have r3 := (hbw.cell (block_lt_of_cell k3)).trans k3
      have r4 := (hbw.cell (block_lt_of_cell k4)).trans k4
      have r5 := (hbw.cell (block_lt_of_cell k5)).trans k5
      obtain ⟨tp, tc, htv, _⟩ := ht.form
      obtain ⟨hp, hc', hhv, _⟩ := hh.form
      obtain ⟨cp, cc, hcv⟩ : ∃ p c, cv = .slice p css.length c := by
        obtain ⟨p, c, h, _⟩ := hc
        exact ⟨p, c, h⟩
      obtain ⟨mt, hmt⟩ : ∃ n, n = tx.length := ⟨_, rfl⟩
      obtain ⟨mh, hmh⟩ : ∃ n, n = th.length := ⟨_, rfl⟩
      obtain ⟨mc, hmc⟩ : ∃ n, n = css.length := ⟨_, rfl⟩
      rw [← hmt] at htv
      rw [← hmh] at hhv
      rw [← hmc] at hcv
      have HC := Lib.hid hc
      rw [hcv] at HC
      subst htv hhv hcv
      obtain ⟨nv, hn0, hnv⟩ := HNOW.out
      obtain ⟨np, nc, hnve, _⟩ := hnv.form
      obtain ⟨nn, hnn⟩ : ∃ n, n = ps.length := ⟨_, rfl⟩
      rw [← hnn] at hnve
      subst hnve
      have HNN := Lib.hid hnn
      have HN0 := Lib.hid hn0
      have HNV := Lib.hid hnv
      have hnl0 := (Array.getElem?_eq_some_iff.1 hn0).1
      have q0 : ∀ o, (wr.alloc o).cell? ⟨nb, 0, none⟩ = some (.string snap) := fun o => by rw [World.cell?_alloc_lt _ _ _ hnl0]; exact cell_of_row wr nb 0 _ _ _ hn0
      have q1 : ∀ o, (wr.alloc o).cell? ⟨nb, 1, none⟩ = some (.slice np nn nc) := fun o => by rw [World.cell?_alloc_lt _ _ _ hnl0]; exact cell_of_row wr nb 1 _ _ _ hn0
      have HHT := Lib.hid ht
      have HHH := Lib.hid hh
      have HTT := Lib.hid htt
      have HTL := Lib.hid htl
      have HMT := Lib.hid hmt
      have HMH := Lib.hid hmh
      have HMC := Lib.hid hmc
      have HO4 := Lib.hid o4
      have hii : (i : Int) < (m : Int) := by omega
      clear k0 k1 k2 k3 k4 k5 hbw hn0 hnv hnn hnl0 hx ht hh hc htt htl hmt hmh hmc o4
      go_upto_block 2 with fail
      obtain ⟨xb, hxb⟩ : ∃ xb, xb = wr.heap.size := ⟨_, rfl⟩
      obtain ⟨wx, hwx⟩ : ∃ v, v = wr.alloc (.cells #[.slice tp mt tc, .slice hp mh hc', .string sn, .int .i64 Nn, .int .i64 Ag, .slice cp mc cc] 54) := ⟨_, rfl⟩
      have hbx : Below wr.heap.size wr wx := by rw [hwx]; exact (Below.refl _ _).alloc (Nat.le_refl _) _
      have hXx : XAt wx xb (.slice tp mt tc) (.slice hp mh hc') sn Nn Ag (.slice cp mc cc) := by rw [hwx, hxb]; exact heap_alloc_new wr _
      have hzx : wx.heap.size = xb + 1 := by rw [hwx, hxb]; simp
      obtain ⟨W1, hW1⟩ : ∃ v, v = wx.alloc (.cells #[.string snap, .slice np nn nc] 50) := ⟨_, rfl⟩
      have hb1 : Below wx.heap.size wx W1 := by rw [hW1]; exact (Below.refl _ _).alloc (Nat.le_refl _) _
      have hwsx : WS wx (.slice np nn nc) ps := HNV.out.below hbx
      have hm1 : MayV W1 (xb + 1) (.slice (some ⟨xb + 1, 0, none⟩) 1 1) [(snap, ps)] := by
        have h := MayV.one (base := xb + 1) wx snap _ ps hwsx (by omega)
        rw [← hW1, hzx] at h
        exact h
      have hbl : Below wr.heap.size wr W1 := hbx.trans (hb1.mono hbx.size)
      have hat1 := HLr.out.grow hbl
      have HX1 : Hid (XAt W1 xb (.slice tp mt tc) (.slice hp mh hc') sn Nn Ag (.slice cp mc cc)) := (hb1.block xb (by omega)).trans hXx
      have HK : Hid (LvK w W1 b g lb nb xb (xb + 1)) := by
        unfold Hid
        have h2 := HLr.out.log.lt
        have h3 := HLr.out.on.disk.lt
        have h4 := HLr.out.on.disk.fs.lt
        have h5 := (Array.getElem?_eq_some_iff.1 HN0.out).1
        have h6 := HNB.out
        have h7 := HNL.out
        have h8 := hb1.size
        exact ⟨by omega, by omega, by omega, by omega, by omega, h7, h6.2.2.1, h6.2.2.2, by omega, by omega, by omega, by omega, h6.1, by omega⟩
      have HM1 : Hid (LvM w W1 b g cap lb nb (xb + 1) D L snap ps (.slice (some ⟨xb + 1, 0, none⟩) 1 1) [(snap, ps)] W1) := ⟨hat1, HNOW.out.below hbl, hm1, Chg.refl _ _⟩
      have HP1 : Hid (LvP D L snap ps ps.length [(snap, ps)] (1 + tot (ls.take i)) 0 1 False) :=
        ⟨HLV.out.ok, HLV.out.al, HLV.out.two, fun e => e HLV.out.ar, HLV.out.lc, Nat.le_refl _, fun x hx => by rw [List.mem_singleton.1 hx]; have := HLV.out.lc.few HLV.out.ok.size; show ps.length ≤ _; omega, fun j j1 j2 => by rw [List.take_of_length_le j1]; exact List.mem_singleton.2 rfl⟩
      try simp only [World.size_alloc]
      rw [← hxb, ← hwx]
      first | rw [← hW1] | skip
      clear hbx hXx hzx hb1 hwsx hm1 hbl hat1 hwx hW1 hxb q0 q1 r0 r1 r2 r3 r4 r5
      go_cut [11] from 59 to 314 (fun v11 wx => ∃ (D' : Dk) (L' : Lg) (s' : ByteArray) (p' : List ByteArray) (may : List (ByteArray × List ByteArray)), LvM w W1 b g cap lb nb (xb + 1) D' L' s' p' v11 may wx ∧ LvO D' may (1 + tot (ls.take i)) mt)
      case first =>
        refine lvInner w W1 b g cap lb nb xb (xb + 1) HK.out tp hp tc mh hc' (.slice cp mc cc) tx th css sn Nn Ag (1 + tot (ls.take i)) mt HX1.out HMT.out (HMT.out ▸ HHT.out) HMH.out (HMH.out ▸ HHH.out) HC.out (by have := HMT.out; omega) (by have := HMH.out; omega) o3 HO4.out o5 (by have := HTT.out; have := HTL.out; have := HMT.out; omega) D L snap ps ps.length [(snap, ps)] _ HM1.out HP1.out _ (fun _ _ _ _ _ h => h) _ _ _ _ _ _ _ _ _ _ _ _ _ _ _ _ _ _ _ _ _ _ _ _ _ _ _ _ _ _ _ _ _ _ _ _ _ _ _ _ _ _ _ _ _ _ _ _ _ _ _ _ _ _ _ _ _ _ _ _ _ _ _ _ _ _ _ _ _ _ _ _ _ _ _ _ _ _ _ _ _ _ _ _ _ _ _ _ _ _ _ _ _ _ _ _ _ _ _ _ _ _ _ _ _ _ _ _ _ _ _ _ _ _ _ _ _ _ _ _ _ _ _ _ _ _ _ _ _ _ _ _ _ _ _ _ _ _ _ _ _ _ _ _ _ _ _ _ _ _ _ _ _ _ _ _ _ _ _ _ _ _ _ _ _ _ _ _ _ _ _ _ _ _ _ _ _ _ _ _ _ _ _ _ _ _ _ _ _ _ _ _ _ _ _ _ _ _ _ _ _ _ _ _ _ _ _ _ _ _ _ _ _ _ _ _ _ _ _ _ _ _ _ _ _ _ _ _ _ _ _ _ _ _ _ _ _ _ _ _ _ _ _ _ _ _ _ _ _ _ _ _ _ _ _ _ _ _ _ _ _ _ _ _ _ _ _ _ _ _ _ _ _ _ _ _ _ _ _ _ _ _ _ _ _ _ _ _ _ _ _ _ _ _ _ _ _ _ _ _ _ _ _ _ _ _ _ _ _ _ ?_
        intro u4 u12 u13 u14 u15 u16 u71 u72 u73 u74 u75 u76 u77 u78 u79 u80 u81 u82 u83 u84 u85 u86 u87 u88 u89 u90 u91 u92 u93 u94 u95 u96 u97 u98 u99 u100 u101 u102 u103 u104 u105 u106 u107 u108 u109 u110 u111 u112 u113 u114 u115 u116 u117 u118 u119 u120 u121 u122 u123 u124 u125 u126 u127 u128 u129 u130 u131 u132 u133 u134 u135 u136 u137 u138 u139 u140 u141 u142 u143 u144 u145 u146 u147 u148 u149 u150 u151 u152 u153 u154 u155 u156 u157 u158 u159 u160 u161 u162 u163 u164 u165 u166 u167 u168 u169 u170 u171 u172 u173 u174 u175 u176 u177 u178 u179 u180 u181 u182 u183 u184 u185 u186 u187 u188 u189 u190 u191 u192 u193 u194 u195 u196 u197 u198 u199 u200 u201 u202 u203 u204 u205 u206 u207 u208 vm w' D' L' s' p' may h1 h2
        go_wp2_with fail
        go_meet
        exact ⟨D', L', s', p', may, h1, h2⟩
      case rest =>
        obtain ⟨D2, L2, s2, p2, may, hm2, ho2⟩ := hcut
        have HM2 := Lib.hid hm2
        have HO2 := Lib.hid ho2
        have HXc := Lib.hid (hm2.x HK.out HX1.out)
        obtain ⟨nv', hn', _⟩ := hm2.now
        have HD2 := Lib.hid (⟨hm2.at_.on, hm2.may, _, _, hn'⟩ : LvD w b g cap nb (xb + 1) D2 _ may wc)
        clear hn' hm2 ho2 HM1 HP1
        apply_assumption
        refine lvTail w W1 b g cap lb nb xb (xb + 1) HK.out tp hp cp mt tc mh hc' mc cc sn Nn Ag css (1 + tot (ls.take i)) (by have := HTT.out; have := HTL.out; have := HMT.out; omega) (by have := HMT.out; omega) HC.out o3 HO4.out o6 _ may D2 wc HD2.out HO2.out HXc.out _ _ _ _ _ _ _ _ _ _ _ _ _ _ _ _ _ _ _ _ _ _ _ _ _ _ _ _ _ _ _ _ _ _ _ _ _ _ _ _ _ _ _ _ _ _ _ _ _ _ _ _ _ _ _ _ _ _ _ _ _ _ _ _ _ _ _ _ _ _ _ _ _ _ _ _ _ _ _ _ _ _ _ _ _ _ _ _ _ _ _ _ _ _ _ _ _ _ _ _ _ _ _ _ _ _ _ _ _ _ _ _ _ _ _ _ _ _ _ _ _ _ _ _ _ _ _ _ _ _ _ _ _ _ _ _ _ _ _ _ _ _ _ _ _ _ _ _ _ _ _ _ _ _ _ _ _ _ _ _ _ _ _ _ _ _ _ _ _ _ _ _ _ _ _ _ _ _ _ _ _ _ _ _ _ _ _ _ _ _ _ _ _ _ _ _ _ _ _ _ _ _ _ _ _ _ _ _ _ _ _ _ _ _ _ _ _ _ _ _ _ _ _ _ _ _ _ _ _ _ _ _ _ _ _ _ _ _ _ _ _ _ _ _ _ _ _ _ _ _ _ _ _ _ _ _ _ _ _ _ _ _ _ _ _ _ _ _ _ _ _ _ _ _ _ _ _ _ _ _ _ _ _ _ _ _ _ _ _ _ _ _ _ _ _ _ _ _ _ _ _ _ _ _ _ _ _ _ _ _ _ _ _ ?_
        intro u4 u17 u18 u19 u20 u21 u22 u23 u24 u25 u26 u27 u209 u210 u211 u212 u213 u214 u215 u216 u217 u218 u219 u220 u221 u222 u223 u224 u225 u226 u227 u228 u229 u230 u231 u232 u233 u234 u235 u236 u237 u238 u239 u240 u241 u242 u243 u244 u245 u246 u247 u248 u249 u250 u251 u252 u253 u254 u255 u256 u257 u258 u259 u260 u261 u262 u263 u264 u265 u266 u267 u268 u269 u270 u271 u272 u273 u274 u275 u276 u277 u278 u279 u280 u281 u282 u283 u284 u285 u286 u287 u288 u289 u290 u291 u292 u293 u294 u295 u296 u297 u298 u299 u300 u301 u302 u303 u304 u305 u306 u307 u308 u309 u310 u311 u312 u313 u314 lb8 w' D8 L8 s3 q3 h1 h2 h3 h4
        go_wp2_with fail
        exact ⟨⟨i + 1, lb8, D8, L8, s3, q3, rfl, rfl, by omega, h1, h2, h3, ⟨h4.ok, h4.al, h4.two, h4.ar, h4.lc.mono (by have := HTT.out; have := HMT.out; omega)⟩⟩, by simp [intOf]; omega⟩
    · have hii : ¬ (i : Int) < (m : Int) := by omega
      go_wp2_with fail
      refine (fixedLW _).mono ?_
      rintro e w3 ⟨rfl, hb⟩
      have HB := Lib.hid (HLr.out.below.trans (hb.mono HLr.out.below.size))
      clear hb
      go_wp2_with fail
      go_ret
      exact ⟨rfl, HB.out⟩
end Go.Proofs.YtilpbjcbffbjeaaDoor
