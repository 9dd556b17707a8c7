/- The inner loop of the law WalLives: the appends of a life. -/
import Derived.Test.YtilpbjcbffbjeaaDoorWLvR
import Derived.Deep.CutBlock
import Derived.Deep.DeepCutAuto
namespace Go.Proofs.YtilpbjcbffbjeaaDoor
set_option linter.unusedVariables false
set_option maxRecDepth 100000
open Go.RowKit
noncomputable def lvB2 : Code := ((Tryd.f5.body.bind (findBlock 2)).getD .skip)
set_option maxRecDepth 1000000 in
set_option maxHeartbeats 16000000 in
theorem lvInner (W W1 : World) (b g cap lb nb xb B1 : Nat) (K : LvK W W1 b g lb nb xb B1) (tp hp : Option Addr) (tc hn hc : Nat) (cv : Value) (texts : List ByteArray) (thens : List Int) (css : List (List Int)) (sn : ByteArray) (Nn Ag : Int) (M m : Nat)
    (hx : XAt W1 xb (.slice tp m tc) (.slice hp hn hc) sn Nn Ag cv) (hmt : m = texts.length) (ht : Strs W (.slice tp m tc) texts) (hnt : hn = thens.length) (hth : Ints W (.slice hp hn hc) thens) (hcs : Rss W cv css) (hml : m ≤ 1048576) (hnl : hn ≤ 1048576)
    (hcl : css.length ≤ 1048576) (hcm : ∀ i, (css.getD i []).length ≤ 1048576) (hNn : Nn ≤ 9223372036854775807) (hM : M + m < 1099511627776)
    (D0 : Dk) (L0 : Lg) (snap0 : ByteArray) (ps0 : List ByteArray) (kk0 : Nat) (may0 : List (ByteArray × List ByteArray)) (vm0 : Value) (hm0 : LvM W W1 b g cap lb nb B1 D0 L0 snap0 ps0 vm0 may0 W1) (hp0 : LvP D0 L0 snap0 ps0 kk0 may0 M 0 1 False)
    (Q : Exit → Act → World → Prop) (hpan : ∀ m a (i : Nat) v u, Q (.panic m) (a.put (some i) v) u → Q (.panic m) a u) (c0 c1 c2 c3 c4 c6 c9 c13 c14 c15 c16 c17 c18 c19 c20 c21 c22 c23 c24 c25 c26 c27 c28 c29 c30 c31 c32 c33 c34 c35 c36 c37 c38 c39 c40 c41 c42 c43 c44 c45 c46 c47 c48 c49 c50 c51 c52 c53 c54 c55 c56 c57 c58 c59 c60 c61 c62 c63 c64 c65 c66 c67 c68 c69 c70 c71 c72 c73 c74 c75 c76 c77 c78 c79 c80 c81 c82 c83 c84 c85 c86 c87 c88 c89 c90 c91 c92 c93 c94 c95 c96 c97 c98 c99 c100 c101 c102 c103 c104 c105 c106 c107 c108 c109 c110 c111 c112 c113 c114 c115 c116 c117 c118 c119 c120 c121 c122 c123 c124 c125 c126 c127 c128 c129 c130 c131 c132 c133 c134 c135 c136 c137 c138 c139 c140 c141 c142 c143 c144 c145 c146 c147 c148 c149 c150 c151 c152 c153 c154 c155 c156 c157 c158 c159 c160 c161 c162 c163 c164 c165 c166 c167 c168 c169 c170 c171 c172 c173 c174 c175 c176 c177 c178 c179 c180 c181 c182 c183 c184 c185 c186 c187 c188 c189 c190 c191 c192 c193 c194 c195 c196 c197 c198 c199 c200 c201 c202 c203 c204 c205 c206 c207 c208 c209 c210 c211 c212 c213 c214 c215 c216 c217 c218 c219 c220 c221 c222 c223 c224 c225 c226 c227 c228 c229 c230 c231 c232 c233 c234 c235 c236 c237 c238 c239 c240 c241 c242 c243 c244 c245 c246 c247 c248 c249 c250 c251 c252 c253 c254 c255 c256 c257 c258 c259 c260 c261 c262 c263 c264 c265 c266 c267 c268 c269 c270 c271 c272 c273 c274 c275 c276 c277 c278 c279 c280 c281 c282 c283 c284 c285 c286 c287 c288 c289 c290 c291 c292 c293 c294 c295 c296 c297 c298 c299 c300 c301 c302 c303 c304 c305 c306 c307 c308 c309 c310 c311 c312 c313 c314 c315 : Value)
    (hexit : ∀ (u4 u12 u13 u14 u15 u16 u71 u72 u73 u74 u75 u76 u77 u78 u79 u80 u81 u82 u83 u84 u85 u86 u87 u88 u89 u90 u91 u92 u93 u94 u95 u96 u97 u98 u99 u100 u101 u102 u103 u104 u105 u106 u107 u108 u109 u110 u111 u112 u113 u114 u115 u116 u117 u118 u119 u120 u121 u122 u123 u124 u125 u126 u127 u128 u129 u130 u131 u132 u133 u134 u135 u136 u137 u138 u139 u140 u141 u142 u143 u144 u145 u146 u147 u148 u149 u150 u151 u152 u153 u154 u155 u156 u157 u158 u159 u160 u161 u162 u163 u164 u165 u166 u167 u168 u169 u170 u171 u172 u173 u174 u175 u176 u177 u178 u179 u180 u181 u182 u183 u184 u185 u186 u187 u188 u189 u190 u191 u192 u193 u194 u195 u196 u197 u198 u199 u200 u201 u202 u203 u204 u205 u206 u207 u208 vm : Value) (w' : World) (D' : Dk) (L' : Lg) (snap' : ByteArray) (ps' : List ByteArray) (may : List (ByteArray × List ByteArray)), LvM W W1 b g cap lb nb B1 D' L' snap' ps' vm may w' → LvO D' may M m → Q .normal ⟨#[c0, c1, c2, c3, u4, (.pointer (some ⟨b, 0, none⟩)), c6, (.pointer (some ⟨lb, 0, none⟩)), (.pointer (some ⟨nb, 0, none⟩)), c9, (.pointer (some ⟨xb, 0, none⟩)), vm, u12, u13, u14, u15, u16, c17, c18, c19, c20, c21, c22, c23, c24, c25, c26, c27, c28, c29, c30, c31, c32, c33, c34, c35, c36, c37, c38, c39, c40, c41, c42, c43, c44, c45, c46, c47, c48, c49, c50, c51, c52, c53, c54, c55, c56, c57, c58, c59, c60, c61, c62, c63, c64, c65, c66, c67, c68, c69, c70, u71, u72, u73, u74, u75, u76, u77, u78, u79, u80, u81, u82, u83, u84, u85, u86, u87, u88, u89, u90, u91, u92, u93, u94, u95, u96, u97, u98, u99, u100, u101, u102, u103, u104, u105, u106, u107, u108, u109, u110, u111, u112, u113, u114, u115, u116, u117, u118, u119, u120, u121, u122, u123, u124, u125, u126, u127, u128, u129, u130, u131, u132, u133, u134, u135, u136, u137, u138, u139, u140, u141, u142, u143, u144, u145, u146, u147, u148, u149, u150, u151, u152, u153, u154, u155, u156, u157, u158, u159, u160, u161, u162, u163, u164, u165, u166, u167, u168, u169, u170, u171, u172, u173, u174, u175, u176, u177, u178, u179, u180, u181, u182, u183, u184, u185, u186, u187, u188, u189, u190, u191, u192, u193, u194, u195, u196, u197, u198, u199, u200, u201, u202, u203, u204, u205, u206, u207, u208, c209, c210, c211, c212, c213, c214, c215, c216, c217, c218, c219, c220, c221, c222, c223, c224, c225, c226, c227, c228, c229, c230, c231, c232, c233, c234, c235, c236, c237, c238, c239, c240, c241, c242, c243, c244, c245, c246, c247, c248, c249, c250, c251, c252, c253, c254, c255, c256, c257, c258, c259, c260, c261, c262, c263, c264, c265, c266, c267, c268, c269, c270, c271, c272, c273, c274, c275, c276, c277, c278, c279, c280, c281, c282, c283, c284, c285, c286, c287, c288, c289, c290, c291, c292, c293, c294, c295, c296, c297, c298, c299, c300, c301, c302, c303, c304, c305, c306, c307, c308, c309, c310, c311, c312, c313, c314, c315], []⟩ w') :
    Code.wp Tryd.prog lvB2 Q ⟨#[c0, c1, c2, c3, c4, (.pointer (some ⟨b, 0, none⟩)), c6, (.pointer (some ⟨lb, 0, none⟩)), (.pointer (some ⟨nb, 0, none⟩)), c9, (.pointer (some ⟨xb, 0, none⟩)), vm0, (.int .i64 0), c13, c14, c15, c16, c17, c18, c19, c20, c21, c22, c23, c24, c25, c26, c27, c28, c29, c30, c31, c32, c33, c34, c35, c36, c37, c38, c39, c40, c41, c42, c43, c44, c45, c46, c47, c48, c49, c50, c51, c52, c53, c54, c55, c56, c57, c58, c59, c60, c61, c62, c63, c64, c65, c66, c67, c68, c69, c70, c71, c72, c73, c74, c75, c76, c77, c78, c79, c80, c81, c82, c83, c84, c85, c86, c87, c88, c89, c90, c91, c92, c93, c94, c95, c96, c97, c98, c99, c100, c101, c102, c103, c104, c105, c106, c107, c108, c109, c110, c111, c112, c113, c114, c115, c116, c117, c118, c119, c120, c121, c122, c123, c124, c125, c126, c127, c128, c129, c130, c131, c132, c133, c134, c135, c136, c137, c138, c139, c140, c141, c142, c143, c144, c145, c146, c147, c148, c149, c150, c151, c152, c153, c154, c155, c156, c157, c158, c159, c160, c161, c162, c163, c164, c165, c166, c167, c168, c169, c170, c171, c172, c173, c174, c175, c176, c177, c178, c179, c180, c181, c182, c183, c184, c185, c186, c187, c188, c189, c190, c191, c192, c193, c194, c195, c196, c197, c198, c199, c200, c201, c202, c203, c204, c205, c206, c207, c208, c209, c210, c211, c212, c213, c214, c215, c216, c217, c218, c219, c220, c221, c222, c223, c224, c225, c226, c227, c228, c229, c230, c231, c232, c233, c234, c235, c236, c237, c238, c239, c240, c241, c242, c243, c244, c245, c246, c247, c248, c249, c250, c251, c252, c253, c254, c255, c256, c257, c258, c259, c260, c261, c262, c263, c264, c265, c266, c267, c268, c269, c270, c271, c272, c273, c274, c275, c276, c277, c278, c279, c280, c281, c282, c283, c284, c285, c286, c287, c288, c289, c290, c291, c292, c293, c294, c295, c296, c297, c298, c299, c300, c301, c302, c303, c304, c305, c306, c307, c308, c309, c310, c311, c312, c313, c314, c315], []⟩ W1 := by
  have HK := Lib.hid K
  have HX := Lib.hid hx
  have HM0 := Lib.hid hm0
  have HP0 := Lib.hid hp0
  have HEX := Lib.hid hexit
  have HPAN := Lib.hid hpan
  have HCS := Lib.hid hcs
  have HCM := Lib.hid hcm
  have HMM := Lib.hid hmt
  have HNT := Lib.hid hnt
  have HTX : Hid (∀ i, i < texts.length → ∃ b off, tp = some ⟨b, off, none⟩ ∧ W.cell? ⟨b, off + i, none⟩ = some (.string (texts.getD i ⟨#[]⟩))) := by
    obtain ⟨p, c, e, h⟩ := ht.form
    have e1 := (Value.slice.inj e).1
    subst e1
    exact h
  have HTH : Hid (∀ i, i < thens.length → ∃ b off, hp = some ⟨b, off, none⟩ ∧ W.cell? ⟨b, off + i, none⟩ = some (.int .i64 (thens.getD i 0))) := by
    obtain ⟨p, c, e, h⟩ := hth.form
    have e1 := (Value.slice.inj e).1
    subst e1
    exact fun i hi => h i hi
  clear K hx hm0 hp0 hexit hpan hcs hcm hmt hnt ht hth
  conv => arg 2; whnf
  go_wp2_with fail
  go_loopw [11, 12] (fun v11 v12 wr => ∃ (k : Nat) (D : Dk) (L : Lg) (snap : ByteArray) (ps : List ByteArray) (kk : Nat) (may : List (ByteArray × List ByteArray)), k ≤ m ∧ v12 = .int .i64 (k : Nat) ∧ LvM W W1 b g cap lb nb B1 D L snap ps v11 may wr ∧ LvP D L snap ps kk may M k (1 + 2 * k) (m ≤ k)) (fun _ v _ => (m - intOf v).toNat)
  case atStart => exact ⟨0, D0, L0, snap0, ps0, kk0, may0, by omega, rfl, HM0.out, HP0.out.mono (Nat.le_refl _) (Nat.le_refl _) (fun h => h.elim)⟩
  case round =>
    obtain ⟨k, D, L, snap, ps, kk, may, hk, rfl, hm, hp⟩ := hrel
    have HM := Lib.hid hm
    have HP := Lib.hid hp
    have x0 := (hm.x HK.out HX.out).c0
    obtain ⟨vp, vcap, hvm⟩ := hm.may.form
    obtain ⟨vn, hvn⟩ : ∃ n, n = may.length := ⟨_, rfl⟩
    rw [← hvn] at hvm
    have HVN := Lib.hid hvn
    subst hvm
    clear hm hp hvn
    by_cases hlt : k < m
    · obtain ⟨tb, tf, htp, hel⟩ := HTX.out k (by rw [← HMM.out]; exact hlt)
      subst htp
      obtain ⟨s, hs⟩ : ∃ s, s = texts.getD k ⟨#[]⟩ := ⟨_, rfl⟩
      rw [← hs] at hel
      have HEL := Lib.hid hel
      have hki : (k : Int) < (m : Int) := by omega
      have hk0 : (k : Int) ≤ 1048576 := by omega
      have hmi : (m : Int) ≤ 1048576 := by omega
      obtain ⟨lastB, hlb⟩ : ∃ q, ((k : Int) == (m : Int) - 1) = q := ⟨_, rfl⟩
      have HLB : Hid (lastB = true ↔ k + 1 = m) := by
        unfold Hid
        rw [← hlb, beq_iff_eq]
        omega
      clear hs hel
      have x3 := (HM.out.x HK.out HX.out).c3
      have x5 := (HM.out.x HK.out HX.out).c5
      go_upto_region 17 with fail
      go_cut [98] from 71 to 208 (fun v98 wx => v98 = .bool false ∧ ∃ D1, LvM W W1 b g cap lb nb B1 D1 L snap ps (.slice vp vn vcap) may wx ∧ LvP D1 L snap ps kk may M k (1 + 2 * k) (k + 1 = m ∧ 0 < Nn))
      case first =>
        cases lastB with
        | false =>
          go_wp2_with fail
          go_meet
          exact ⟨rfl, D, HM.out, HP.out.mono (Nat.le_refl _) (Nat.le_refl _) (fun h => by omega)⟩
        | true =>
          by_cases hN : 0 < Nn
          · have HA := Lib.hid (armW HM.out.at_.on.disk HP.out.al Nn.toNat (by omega) cv css (HCS.out.below HM.out.at_.on.below) hcl HCM.out)
            have e0 : ((Nn.toNat : Nat) : Int) = Nn := by omega
            rw [e0] at HA
            clear e0
            go_wp2_with fail
            refine HA.out.mono ?_
            rintro e w1 ⟨rfl, hd1, hc1⟩
            have hat := HM.out.at_.chg2 hd1 (hc1.mono fun k _ h => .inl h)
            have HM1 := Lib.hid (HM.out.call HK.out hat (hc1.mono fun k _ h => .inr (.inl h)))
            clear hat hd1 hc1 x0 x3 x5
            go_wp2_with fail
            go_meet
            exact ⟨rfl, _, HM1.out, HP.out.armed Nn.toNat css ⟨HLB.out.1 (by first | rfl | trivial), hN⟩ (by omega) (fun i => by have := HCM.out i; omega)⟩
          · go_wp2_with fail
            go_meet
            exact ⟨rfl, D, HM.out, HP.out.mono (Nat.le_refl _) (Nat.le_refl _) (fun h => by omega)⟩
      case rest =>
        obtain ⟨rfl, D1, hm1, hp1⟩ := hcut
        have HM1 := Lib.hid hm1
        have HP1 := Lib.hid hp1
        clear hm1 hp1 x0 x3 x5 HM HP hlb
        have x1 := (HM1.out.x HK.out HX.out).c1
        go_upto_if 103 with fail
        go_cut [14] from 71 to 208 (fun v14 wx => wx = wc ∧ ∃ z, v14 = .int .i64 z)
        case first =>
          by_cases hkt : k < hn
          · obtain ⟨hb, hf, hhp, hhe⟩ := HTH.out k (by rw [← HNT.out]; exact hkt)
            subst hhp
            have hhe1 := (HM1.out.at_.on.below.cell (block_lt_of_cell hhe)).trans hhe
            have hkti : (k : Int) < (hn : Int) := by omega
            clear hhe
            go_wp2_with fail
            go_meet
            exact ⟨rfl, _, rfl⟩
          · have hkti : ¬ (k : Int) < (hn : Int) := by omega
            go_wp2_with fail
            go_meet
            exact ⟨rfl, _, rfl⟩
        case rest =>
          obtain ⟨rfl, z, rfl⟩ := hcut
          clear x1
          have x0 := (HM1.out.x HK.out HX.out).c0
          have hel1 := (HM1.out.at_.on.below.cell (block_lt_of_cell HEL.out)).trans HEL.out
          have HA := Lib.hid (HM1.out.at_.appR HP1.out.ok HP1.out.al HP1.out.lc HP1.out.many s)
          go_wp2_with fail
          refine HA.out.mono ?_
          rintro e w2 ⟨r, D2, L2, rfl, ha2, hc2, hr2⟩
          have HM2 := Lib.hid (HM1.out.call HK.out ha2 hc2)
          clear ha2 hc2 x0 hel1 HA
          cases hr2 with
          | long h1 =>
            clear h1
            go_wp2_with fail
            exact ⟨⟨k + 1, D1, L, snap, ps, kk, may, by omega, rfl, HM2.out, HP1.out.mono (Nat.le_succ k) (by omega) (fun h => by omega)⟩, by simp [intOf]; omega⟩
          | full h1 h2 =>
            clear h1 h2
            go_wp2_with fail
            exact ⟨⟨k + 1, D1, L, snap, ps, kk, may, by omega, rfl, HM2.out, HP1.out.mono (Nat.le_succ k) (by omega) (fun h => by omega)⟩, by simp [intOf]; omega⟩
          | ok D2 hs2 hal2 hlc2 =>
            have HAL2 := Lib.hid hal2
            have HLC2 := Lib.hid hlc2
            have HNE : Hid (∀ q, (Value.slice vp vn vcap).ownBlock = some q → q < w2.heap.size) := fun q hq => (HM2.out.may.block hq).2
            clear hal2 hlc2 hs2
            obtain ⟨nv, hn0, hnv⟩ := HM2.out.now
            have hx2 := (HM2.out.x HK.out HX.out).c0
            have hel2 := (HM2.out.at_.on.below.cell (block_lt_of_cell HEL.out)).trans HEL.out
            have HN0 := Lib.hid hn0
            have HNV := Lib.hid hnv
            have HX2 := Lib.hid hx2
            have HEL2 := Lib.hid hel2
            clear hn0 hnv hx2 hel2
            go_wp2_with fail
            refine lvReg24 snap s ps nv nb xb tb tf tc m k w2 _ _ _ _ _ _ _ _ _ _ _ _ _ _ _ _ _ _ _ _ _ _ _ _ _ _ _ _ _ _ _ _ _ _ _ _ _ _ _ _ _ _ _ _ _ _ _ _ _ _ _ _ _ _ _ _ _ _ _ _ _ _ _ _ _ _ _ _ _ _ _ _ _ _ _ _ _ _ _ _ _ _ _ _ _ _ _ _ _ _ _ _ _ _ _ _ _ _ _ _ _ _ _ _ _ _ _ _ _ _ _ _ _ _ _ _ _ _ _ _ _ _ _ _ _ _ _ _ _ _ _ _ _ _ _ _ _ _ _ _ _ _ _ _ _ _ _ _ _ _ _ _ _ _ _ _ _ _ _ _ _ _ _ _ _ _ _ _ _ _ _ _ _ _ _ _ _ _ _ _ _ _ _ _ _ _ _ _ _ _ _ _ _ _ _ _ _ _ _ _ _ _ _ _ _ _ _ _ _ _ _ _ _ _ _ _ _ _ _ _ _ _ _ _ _ _ _ _ _ _ _ _ _ _ _ _ _ _ _ _ _ _ _ _ _ _ _ _ _ _ _ _ _ _ _ _ _ _ _ _ _ _ _ _ _ _ _ _ _ _ _ _ _ _ _ _ _ _ _ _ _ _ _ _ _ _ _ _ _ _ _ _ _ _ _ _ _ _ _ _ _ _ _ _ _ _ _ _ _ _ _ _ _ _ HN0.out HNV.out HX2.out HEL2.out hki (by have := HP1.out.few; omega) (fun _ _ _ _ _ h => HPAN.out _ _ _ _ _ h) ?_
            intro u122 u123 u124 u125 u126 u127 u128 u129 u130 u131 u132 u133 u134 u135 nx w3 hb3 hnx hnow3
            obtain ⟨nv3, hn3, hv3⟩ := hnow3
            have HM3 := Lib.hid (HM2.out.below HK.out hb3)
            have HNX3 := Lib.hid hn3
            have HV3 := Lib.hid hv3
            have HNX := Lib.hid hnx
            obtain ⟨p3, c3, hv3e, _⟩ := hv3.form
            obtain ⟨n3, hn3e⟩ : ∃ n, n = (ps ++ [s]).length := ⟨_, rfl⟩
            rw [← hn3e] at hv3e
            subst hv3e
            have y0 := cell_of_row w3 nx 0 _ _ _ hn3
            have y1 := cell_of_row w3 nx 1 _ _ _ hn3
            have HN3E := Lib.hid hn3e
            have hbo : Below w3.heap.size w3 (w3.alloc (.cells #[.string snap, .slice p3 n3 c3] 50)) := (Below.refl _ _).alloc (Nat.le_refl _) _
            have HBO := Lib.hid hbo
            clear hb3 hnx hn3 hv3 hn3e hbo HN0 HNV HX2 HEL2
            go_wp2_with (at_builtin; refine wpList_append_may rfl _ _ rfl rfl (HM3.out.may.below HBO.out) w3.heap.size 1 snap (.slice p3 n3 c3) (ps ++ [s]) rfl ?e1 ?e2 ?e3 ?e4 ?e5 ?_)
            case e1 => simp
            case e2 => simp
            case e3 => exact HV3.out.below HBO.out
            case e4 => have := HP1.out.ml; omega
            case e5 => exact Nat.le_trans (HM3.out.size HK.out) HBO.out.size
            intro vm4 w4 hmay4 hcg4 hmu4
            have HNX4 : Hid (w4.heap[nx]? = some (.cells #[.string snap, .slice p3 n3 c3] 50 (0, 0))) := (hcg4.block nx (by have := (Array.getElem?_eq_some_iff.1 HNX3.out).1; simp; omega) (fun e => by have h1 := HNE.out nx e; have h2 := HNX.out; omega)).trans ((HBO.out.block nx (Array.getElem?_eq_some_iff.1 HNX3.out).1).trans HNX3.out)
            have HV4 := Lib.hid ((HV3.out.below HBO.out).keep hcg4 hmu4)
            have HM4 := Lib.hid ((HM3.out.below HK.out HBO.out).more HK.out hmay4 hcg4 hmu4)
            obtain ⟨vp4, vc4, hvm4⟩ := hmay4.form
            obtain ⟨vn4, hvn4⟩ : ∃ n, n = (may ++ [(snap, ps ++ [s])]).length := ⟨_, rfl⟩
            rw [← hvn4] at hvm4
            subst hvm4
            clear hmay4 hcg4 hmu4 y0 y1 hvn4
            have HP5 := Lib.hid (HP1.out.app s HAL2.out HLC2.out)
            obtain ⟨nv4, hn4, _⟩ := HM4.out.now
            have y0 := cell_of_row w4 nx 0 _ _ _ HNX4.out
            have y1 := cell_of_row w4 nx 1 _ _ _ HNX4.out
            have q0 := cell_of_row w4 nb 0 _ _ _ hn4
            have q1 := cell_of_row w4 nb 1 _ _ _ hn4
            have g0 := frozen_of_row w4 nb 0 _ _ hn4
            have g1 := frozen_of_row w4 nb 1 _ _ hn4
            have HM5 := Lib.hid (HM4.out.set HK.out (snap' := snap) (.slice p3 n3 c3) HV4.out)
            clear hn4
            go_upto_region 28 with fail
            obtain ⟨w5, hw5⟩ : ∃ w5, w5 = (w4.setCell ⟨nb, 0, none⟩ (.string snap)).setCell ⟨nb, 1, none⟩ (.slice p3 n3 c3) := ⟨_, rfl⟩
            rw [← hw5] at HM5 ⊢
            clear hw5 y0 y1 q0 q1 g0 g1
            by_cases hz1 : z = 1
            · subst hz1
              have HS := Lib.hid (HM5.out.at_.synR HP5.out.ok HP5.out.al HP5.out.lc)
              go_wp2_with fail
              refine HS.out.mono ?_
              rintro e w6 ⟨r, D6, L6, rfl, ha6, hc6, hr6⟩
              have HM6 := Lib.hid (HM5.out.call HK.out ha6 hc6)
              clear ha6 hc6 HS
              cases hr6 with
              | ok D6 hal6 hlc6 =>
                have HP7 := Lib.hid (HP5.out.syn hal6 hlc6)
                obtain ⟨nv6, hn6, hv6⟩ := HM6.out.now
                obtain ⟨p6, c6, hv6e, _⟩ := hv6.form
                obtain ⟨n6, e6⟩ : ∃ n, n = (ps ++ [s]).length := ⟨_, rfl⟩
                rw [← e6] at hv6e
                subst hv6e
                clear e6
                have q0 := cell_of_row w6 nb 0 _ _ _ hn6
                have q1 := cell_of_row w6 nb 1 _ _ _ hn6
                have hb7 : Below w6.heap.size w6 (w6.alloc (.cells #[.string snap, .slice p6 n6 c6] 50)) := (Below.refl _ _).alloc (Nat.le_refl _) _
                have HM7 := Lib.hid (HM6.out.anew HK.out hb7 (MayV.one w6 snap _ (ps ++ [s]) hv6 (HM6.out.size HK.out)))
                obtain ⟨b7, hb7e⟩ : ∃ b, b = w6.heap.size := ⟨_, rfl⟩
                rw [← hb7e] at HM7
                clear hn6 hv6 hb7 hal6 hlc6
                go_upto_region 32 with fail
                obtain ⟨w7, hw7⟩ : ∃ w7, w7 = w6.alloc (.cells #[.string snap, .slice p6 n6 c6] 50) := ⟨_, rfl⟩
                rw [← hw7] at HM7 ⊢
                rw [← hb7e]
                clear hw7 hb7e q0 q1
                obtain ⟨nvx, hnx1, hnx2⟩ := HM7.out.now
                obtain ⟨qp, qc, hqe, _⟩ := hnx2.form
                obtain ⟨qn, hqn⟩ : ∃ n, n = (ps ++ [s]).length := ⟨_, rfl⟩
                rw [← hqn] at hqe
                subst hqe
                have hnl := block_lt_of_cell (cell_of_row w7 nb 1 _ _ _ hnx1)
                have z1 : ∀ t : Grow w7, t.val.cell? ⟨nb, 1, none⟩ = some (.slice qp qn qc) := fun t => (t.below.cell hnl).trans (cell_of_row w7 nb 1 _ _ _ hnx1)
                have HR : Hid (∀ t : Grow w7, Calls Tryd.prog 26 #[.pointer (some ⟨lb, 0, none⟩)] t.val fun e w' => e = .returned (.int .i64 (qn : Nat)) ∧ Below t.val.heap.size t.val w') := fun t =>
                  (recordsW (HM7.out.at_.log.grow t)).mono fun e w' ⟨h1, h2⟩ => ⟨by rw [h1, HP7.out.lc.n, hqn], h2 ▸ Below.refl _ _⟩
                clear hnx1 hnx2 hqn hnl
                go_wp2_with fail
                refine wp_region_fam (by kernel_rfl) (by kernel_rfl) Grow.val (Grow.start w7) ?_
                repeat go_big_quiet_step (with_reducible refine Calls.fam_of (HR.out _) (Grow.more _))
                refine wpQuiet_nil ?_
                intro t
                clear z1 HR
                go_wp2_with fail
                exact ⟨⟨k + 1, D6, { L with n := L.n + 1 }, snap, (ps ++ [s]), (ps ++ [s]).length, [(snap, ps ++ [s])], by omega, rfl, HM7.out.below HK.out t.below, HP7.out.mono (by omega) (by omega) (fun h => by omega)⟩, by simp [intOf]; omega⟩
              | gone D6 hg6 hr6 =>
                have HG := Lib.hid (HP5.out.synGone hg6 hr6 (show k ≤ m by omega) (by omega))
                have HDD := Lib.hid hg6.dd
                clear hg6 hr6
                obtain rfl : lastB = true := HLB.out.2 HG.out.2.1
                have hNp : ¬ Nn < 1 := by have := HG.out.2.2; omega
                have x3 := (HM6.out.x HK.out HX.out).c3
                have HE1 : Hid (Calls Tryd.prog 24 #[.pointer (some ⟨lb, 0, none⟩)] w6 fun e w' => e = .returned (.bool true) ∧ w' = w6) := deadLW HM6.out.at_.log
                have HE2 := Lib.hid (deadW HM6.out.at_.on.disk)
                rw [HDD.out] at HE2
                go_wp2_with fail
                refine HE1.out.mono ?_
                rintro e w' ⟨rfl, rfl⟩
                go_wp2_with fail
                refine HE2.out.mono ?_
                rintro e w' ⟨rfl, rfl⟩
                clear x3 HE1 HE2
                go_wp2_with fail
                exact HEX.out _ _ _ _ _ _ _ _ _ _ _ _ _ _ _ _ _ _ _ _ _ _ _ _ _ _ _ _ _ _ _ _ _ _ _ _ _ _ _ _ _ _ _ _ _ _ _ _ _ _ _ _ _ _ _ _ _ _ _ _ _ _ _ _ _ _ _ _ _ _ _ _ _ _ _ _ _ _ _ _ _ _ _ _ _ _ _ _ _ _ _ _ _ _ _ _ _ _ _ _ _ _ _ _ _ _ _ _ _ _ _ _ _ _ _ _ _ _ _ _ _ _ _ _ _ _ _ _ _ _ _ _ _ _ _ _ _ _ _ _ _ _ _ _ _ _ D6 _ snap (ps ++ [s]) (may ++ [(snap, ps ++ [s])]) HM6.out HG.out.1
            · have hzb1 : (z == 1) = false := by simpa using hz1
              by_cases hz2 : z = 2
              · subst hz2
                have x2 := (HM5.out.x HK.out HX.out).c2
                have HS := Lib.hid (HM5.out.at_.cpR HP5.out.ok HP5.out.al HP5.out.lc (by omega) HP5.out.many sn)
                go_wp2_with fail
                refine HS.out.mono ?_
                rintro e w6 ⟨r, D6, L6, rfl, ha6, hc6, hr6⟩
                have HM6 := Lib.hid (HM5.out.call HK.out ha6 hc6)
                clear ha6 hc6 HS x2
                cases hr6 with
                | long h6 =>
                  clear h6
                  obtain ⟨nvx, hnx1, hnx2⟩ := HM6.out.now
                  obtain ⟨qp, qc, hqe, _⟩ := hnx2.form
                  obtain ⟨qn, hqn⟩ : ∃ n, n = (ps ++ [s]).length := ⟨_, rfl⟩
                  rw [← hqn] at hqe
                  subst hqe
                  have hnl := block_lt_of_cell (cell_of_row w6 nb 1 _ _ _ hnx1)
                  have z1 : ∀ t : Grow w6, t.val.cell? ⟨nb, 1, none⟩ = some (.slice qp qn qc) := fun t => (t.below.cell hnl).trans (cell_of_row w6 nb 1 _ _ _ hnx1)
                  have HR : Hid (∀ t : Grow w6, Calls Tryd.prog 26 #[.pointer (some ⟨lb, 0, none⟩)] t.val fun e w' => e = .returned (.int .i64 (qn : Nat)) ∧ Below t.val.heap.size t.val w') := fun t =>
                    (recordsW (HM6.out.at_.log.grow t)).mono fun e w' ⟨h1, h2⟩ => ⟨by rw [h1, HP5.out.lc.n, hqn], h2 ▸ Below.refl _ _⟩
                  clear hnx1 hnx2 hqn hnl
                  go_wp2_with fail
                  refine wp_region_fam (by kernel_rfl) (by kernel_rfl) Grow.val (Grow.start w6) ?_
                  repeat go_big_quiet_step (with_reducible refine Calls.fam_of (HR.out _) (Grow.more _))
                  refine wpQuiet_nil ?_
                  intro t
                  clear z1 HR
                  go_wp2_with fail
                  exact ⟨⟨k + 1, D2, { L with n := L.n + 1 }, snap, (ps ++ [s]), kk, (may ++ [(snap, ps ++ [s])]), by omega, rfl, HM6.out.below HK.out t.below, HP5.out.mono (by omega) (by omega) (fun h => by omega)⟩, by simp [intOf]; omega⟩
                | ok D6 L6 hs6 hal6 hlc6 =>
                  have HP7 := Lib.hid (HP5.out.cp sn hal6 hlc6)
                  clear hs6 hal6 hlc6
                  have HML : Hid ((may ++ [(snap, ps ++ [s])]).length ≤ 4194304) := by unfold Hid; have := HP5.out.ml; omega
                  have hbo : Below w6.heap.size w6 (w6.alloc (.cells #[.string sn, .slice none 0 0] 50)) := (Below.refl _ _).alloc (Nat.le_refl _) _
                  have HBO6 := Lib.hid hbo
                  have x2 := (HM6.out.x HK.out HX.out).c2
                  clear hbo
                  go_wp2_with (at_builtin; refine wpList_append_may rfl _ _ rfl rfl (HM6.out.may.below HBO6.out) w6.heap.size 1 sn (.slice none 0 0) [] rfl ?d1 ?d2 ?d3 ?d4 ?d5 ?_)
                  case d1 => simp
                  case d2 => simp
                  case d3 => exact WS.nil _
                  case d4 => exact HML.out
                  case d5 => exact Nat.le_trans (HM6.out.size HK.out) HBO6.out.size
                  intro vm8 w8 hmay8 hcg8 hmu8
                  replace hmay8 : MayV w8 B1 vm8 (may ++ [(snap, ps ++ [s])] ++ [(sn, [])]) := by simpa using hmay8
                  have HM8 := Lib.hid ((HM6.out.below HK.out HBO6.out).more HK.out hmay8 hcg8 hmu8)
                  obtain ⟨vp8, vn8, vc8, hvm8⟩ : ∃ p n c, vm8 = .slice p n c := by
                    obtain ⟨p, c, h⟩ := hmay8.form
                    exact ⟨p, _, c, h⟩
                  subst hvm8
                  clear hmay8 hcg8 hmu8 x2
                  have x2 := (HM8.out.x HK.out HX.out).c2
                  obtain ⟨nv8, hn8, _⟩ := HM8.out.now
                  have q0 := cell_of_row w8 nb 0 _ _ _ hn8
                  have q1 := cell_of_row w8 nb 1 _ _ _ hn8
                  have g0 := frozen_of_row w8 nb 0 _ _ hn8
                  have g1 := frozen_of_row w8 nb 1 _ _ hn8
                  have HM9 := Lib.hid (HM8.out.set HK.out (snap' := sn) (.slice none 0 0) (WS.nil w8))
                  clear hn8
                  go_upto_region 39 with fail
                  obtain ⟨w9, hw9⟩ : ∃ w9, w9 = (w8.setCell ⟨nb, 0, none⟩ (.string sn)).setCell ⟨nb, 1, none⟩ (.slice none 0 0) := ⟨_, rfl⟩
                  rw [← hw9] at HM9 ⊢
                  clear hw9 q0 q1 g0 g1 x2
                  obtain ⟨nv9, hn9, hv9⟩ := HM9.out.now
                  obtain ⟨p9, c9, hv9e, _⟩ := hv9.form
                  obtain ⟨n9, e9⟩ : ∃ n, n = ([] : List ByteArray).length := ⟨_, rfl⟩
                  rw [← e9] at hv9e
                  subst hv9e
                  clear e9
                  have q0 := cell_of_row w9 nb 0 _ _ _ hn9
                  have q1 := cell_of_row w9 nb 1 _ _ _ hn9
                  have hb10 : Below w9.heap.size w9 (w9.alloc (.cells #[.string sn, .slice p9 n9 c9] 50)) := (Below.refl _ _).alloc (Nat.le_refl _) _
                  have HM10 := Lib.hid (HM9.out.anew HK.out hb10 (MayV.one w9 sn _ [] hv9 (HM9.out.size HK.out)))
                  obtain ⟨b10, hb10e⟩ : ∃ b, b = w9.heap.size := ⟨_, rfl⟩
                  rw [← hb10e] at HM10
                  clear hn9 hv9 hb10
                  go_upto_region 40 with fail
                  obtain ⟨w10, hw10⟩ : ∃ w10, w10 = w9.alloc (.cells #[.string sn, .slice p9 n9 c9] 50) := ⟨_, rfl⟩
                  rw [← hw10] at HM10 ⊢
                  rw [← hb10e]
                  clear hw10 hb10e q0 q1
                  obtain ⟨nvx, hnx1, hnx2⟩ := HM10.out.now
                  obtain ⟨qp, qc, hqe, _⟩ := hnx2.form
                  obtain ⟨qn, hqn⟩ : ∃ n, n = ([] : List ByteArray).length := ⟨_, rfl⟩
                  rw [← hqn] at hqe
                  subst hqe
                  have hnl := block_lt_of_cell (cell_of_row w10 nb 1 _ _ _ hnx1)
                  have z1 : ∀ t : Grow w10, t.val.cell? ⟨nb, 1, none⟩ = some (.slice qp qn qc) := fun t => (t.below.cell hnl).trans (cell_of_row w10 nb 1 _ _ _ hnx1)
                  have HR : Hid (∀ t : Grow w10, Calls Tryd.prog 26 #[.pointer (some ⟨lb, 0, none⟩)] t.val fun e w' => e = .returned (.int .i64 (qn : Nat)) ∧ Below t.val.heap.size t.val w') := fun t =>
                    (recordsW (HM10.out.at_.log.grow t)).mono fun e w' ⟨h1, h2⟩ => ⟨by rw [h1, HP7.out.lc.n, hqn], h2 ▸ Below.refl _ _⟩
                  clear hnx1 hnx2 hqn hnl
                  go_wp2_with fail
                  refine wp_region_fam (by kernel_rfl) (by kernel_rfl) Grow.val (Grow.start w10) ?_
                  repeat go_big_quiet_step (with_reducible refine Calls.fam_of (HR.out _) (Grow.more _))
                  refine wpQuiet_nil ?_
                  intro t
                  clear z1 HR
                  go_wp2_with fail
                  exact ⟨⟨k + 1, D6, L6, sn, ([] : List ByteArray), 0, [(sn, [])], by omega, rfl, HM10.out.below HK.out t.below, HP7.out.mono (by omega) (by omega) (fun h => by omega)⟩, by simp [intOf]; omega⟩
                | gone D6 hs6 hg6 hr6 =>
                  have HG := Lib.hid (HP5.out.cpGone sn hg6 hr6 (show k + 1 ≤ m by omega) (by omega))
                  have HDD := Lib.hid hg6.dd
                  clear hs6 hg6 hr6
                  have HML : Hid ((may ++ [(snap, ps ++ [s])]).length ≤ 4194304) := by unfold Hid; have := HP5.out.ml; omega
                  have hbo : Below w6.heap.size w6 (w6.alloc (.cells #[.string sn, .slice none 0 0] 50)) := (Below.refl _ _).alloc (Nat.le_refl _) _
                  have HBO6 := Lib.hid hbo
                  have x2 := (HM6.out.x HK.out HX.out).c2
                  clear hbo
                  go_wp2_with (at_builtin; refine wpList_append_may rfl _ _ rfl rfl (HM6.out.may.below HBO6.out) w6.heap.size 1 sn (.slice none 0 0) [] rfl ?d1 ?d2 ?d3 ?d4 ?d5 ?_)
                  case d1 => simp
                  case d2 => simp
                  case d3 => exact WS.nil _
                  case d4 => exact HML.out
                  case d5 => exact Nat.le_trans (HM6.out.size HK.out) HBO6.out.size
                  intro vm8 w8 hmay8 hcg8 hmu8
                  replace hmay8 : MayV w8 B1 vm8 (may ++ [(snap, ps ++ [s])] ++ [(sn, [])]) := by simpa using hmay8
                  have HM8 := Lib.hid ((HM6.out.below HK.out HBO6.out).more HK.out hmay8 hcg8 hmu8)
                  obtain ⟨vp8, vn8, vc8, hvm8⟩ : ∃ p n c, vm8 = .slice p n c := by
                    obtain ⟨p, c, h⟩ := hmay8.form
                    exact ⟨p, _, c, h⟩
                  subst hvm8
                  clear hmay8 hcg8 hmu8 x2
                  obtain rfl : lastB = true := HLB.out.2 HG.out.2.1
                  have hNp : ¬ Nn < 1 := by have := HG.out.2.2; omega
                  have x3 := (HM8.out.x HK.out HX.out).c3
                  have HE1 : Hid (Calls Tryd.prog 24 #[.pointer (some ⟨lb, 0, none⟩)] w8 fun e w' => e = .returned (.bool true) ∧ w' = w8) := deadLW HM8.out.at_.log
                  have HE2 := Lib.hid (deadW HM8.out.at_.on.disk)
                  rw [HDD.out] at HE2
                  go_wp2_with fail
                  refine HE1.out.mono ?_
                  rintro e w' ⟨rfl, rfl⟩
                  go_wp2_with fail
                  refine HE2.out.mono ?_
                  rintro e w' ⟨rfl, rfl⟩
                  clear x3 HE1 HE2
                  go_wp2_with fail
                  exact HEX.out _ _ _ _ _ _ _ _ _ _ _ _ _ _ _ _ _ _ _ _ _ _ _ _ _ _ _ _ _ _ _ _ _ _ _ _ _ _ _ _ _ _ _ _ _ _ _ _ _ _ _ _ _ _ _ _ _ _ _ _ _ _ _ _ _ _ _ _ _ _ _ _ _ _ _ _ _ _ _ _ _ _ _ _ _ _ _ _ _ _ _ _ _ _ _ _ _ _ _ _ _ _ _ _ _ _ _ _ _ _ _ _ _ _ _ _ _ _ _ _ _ _ _ _ _ _ _ _ _ _ _ _ _ _ _ _ _ _ _ _ _ _ _ _ _ _ D6 _ snap (ps ++ [s]) (may ++ [(snap, ps ++ [s])] ++ [(sn, [])]) HM8.out HG.out.1
              · have hzb2 : (z == 2) = false := by simpa using hz2
                obtain ⟨nvx, hnx1, hnx2⟩ := HM5.out.now
                obtain ⟨qp, qc, hqe, _⟩ := hnx2.form
                obtain ⟨qn, hqn⟩ : ∃ n, n = (ps ++ [s]).length := ⟨_, rfl⟩
                rw [← hqn] at hqe
                subst hqe
                have hnl := block_lt_of_cell (cell_of_row w5 nb 1 _ _ _ hnx1)
                have z1 : ∀ t : Grow w5, t.val.cell? ⟨nb, 1, none⟩ = some (.slice qp qn qc) := fun t => (t.below.cell hnl).trans (cell_of_row w5 nb 1 _ _ _ hnx1)
                have HR : Hid (∀ t : Grow w5, Calls Tryd.prog 26 #[.pointer (some ⟨lb, 0, none⟩)] t.val fun e w' => e = .returned (.int .i64 (qn : Nat)) ∧ Below t.val.heap.size t.val w') := fun t =>
                  (recordsW (HM5.out.at_.log.grow t)).mono fun e w' ⟨h1, h2⟩ => ⟨by rw [h1, HP5.out.lc.n, hqn], h2 ▸ Below.refl _ _⟩
                clear hnx1 hnx2 hqn hnl
                go_wp2_with fail
                refine wp_region_fam (by kernel_rfl) (by kernel_rfl) Grow.val (Grow.start w5) ?_
                repeat go_big_quiet_step (with_reducible refine Calls.fam_of (HR.out _) (Grow.more _))
                refine wpQuiet_nil ?_
                intro t
                clear z1 HR
                go_wp2_with fail
                exact ⟨⟨k + 1, D2, { L with n := L.n + 1 }, snap, (ps ++ [s]), kk, (may ++ [(snap, ps ++ [s])]), by omega, rfl, HM5.out.below HK.out t.below, HP5.out.mono (by omega) (by omega) (fun h => by omega)⟩, by simp [intOf]; omega⟩
          | gone D2 hs2 hg2 hr2 =>
            have HG := Lib.hid (HP1.out.appGone s hg2 hr2 (show k ≤ m by omega) (by omega))
            have HDD := Lib.hid hg2.dd
            have HNE : Hid (∀ q, (Value.slice vp vn vcap).ownBlock = some q → q < w2.heap.size) := fun q hq => (HM2.out.may.block hq).2
            clear hs2 hg2 hr2
            obtain ⟨nv, hn0, hnv⟩ := HM2.out.now
            have hx2 := (HM2.out.x HK.out HX.out).c0
            have hel2 := (HM2.out.at_.on.below.cell (block_lt_of_cell HEL.out)).trans HEL.out
            have HN0 := Lib.hid hn0
            have HNV := Lib.hid hnv
            have HX2 := Lib.hid hx2
            have HEL2 := Lib.hid hel2
            clear hn0 hnv hx2 hel2
            go_wp2_with fail
            refine lvReg24 snap s ps nv nb xb tb tf tc m k w2 _ _ _ _ _ _ _ _ _ _ _ _ _ _ _ _ _ _ _ _ _ _ _ _ _ _ _ _ _ _ _ _ _ _ _ _ _ _ _ _ _ _ _ _ _ _ _ _ _ _ _ _ _ _ _ _ _ _ _ _ _ _ _ _ _ _ _ _ _ _ _ _ _ _ _ _ _ _ _ _ _ _ _ _ _ _ _ _ _ _ _ _ _ _ _ _ _ _ _ _ _ _ _ _ _ _ _ _ _ _ _ _ _ _ _ _ _ _ _ _ _ _ _ _ _ _ _ _ _ _ _ _ _ _ _ _ _ _ _ _ _ _ _ _ _ _ _ _ _ _ _ _ _ _ _ _ _ _ _ _ _ _ _ _ _ _ _ _ _ _ _ _ _ _ _ _ _ _ _ _ _ _ _ _ _ _ _ _ _ _ _ _ _ _ _ _ _ _ _ _ _ _ _ _ _ _ _ _ _ _ _ _ _ _ _ _ _ _ _ _ _ _ _ _ _ _ _ _ _ _ _ _ _ _ _ _ _ _ _ _ _ _ _ _ _ _ _ _ _ _ _ _ _ _ _ _ _ _ _ _ _ _ _ _ _ _ _ _ _ _ _ _ _ _ _ _ _ _ _ _ _ _ _ _ _ _ _ _ _ _ _ _ _ _ _ _ _ _ _ _ _ _ _ _ _ _ _ _ _ _ _ _ _ _ HN0.out HNV.out HX2.out HEL2.out hki (by have := HP1.out.few; omega) (fun _ _ _ _ _ h => HPAN.out _ _ _ _ _ h) ?_
            intro u122 u123 u124 u125 u126 u127 u128 u129 u130 u131 u132 u133 u134 u135 nx w3 hb3 hnx hnow3
            obtain ⟨nv3, hn3, hv3⟩ := hnow3
            have HM3 := Lib.hid (HM2.out.below HK.out hb3)
            have HNX3 := Lib.hid hn3
            have HV3 := Lib.hid hv3
            have HNX := Lib.hid hnx
            obtain ⟨p3, c3, hv3e, _⟩ := hv3.form
            obtain ⟨n3, hn3e⟩ : ∃ n, n = (ps ++ [s]).length := ⟨_, rfl⟩
            rw [← hn3e] at hv3e
            subst hv3e
            have y0 := cell_of_row w3 nx 0 _ _ _ hn3
            have y1 := cell_of_row w3 nx 1 _ _ _ hn3
            have HN3E := Lib.hid hn3e
            have hbo : Below w3.heap.size w3 (w3.alloc (.cells #[.string snap, .slice p3 n3 c3] 50)) := (Below.refl _ _).alloc (Nat.le_refl _) _
            have HBO := Lib.hid hbo
            clear hb3 hnx hn3 hv3 hn3e hbo HN0 HNV HX2 HEL2
            go_wp2_with (at_builtin; refine wpList_append_may rfl _ _ rfl rfl (HM3.out.may.below HBO.out) w3.heap.size 1 snap (.slice p3 n3 c3) (ps ++ [s]) rfl ?e1 ?e2 ?e3 ?e4 ?e5 ?_)
            case e1 => simp
            case e2 => simp
            case e3 => exact HV3.out.below HBO.out
            case e4 => have := HP1.out.ml; omega
            case e5 => exact Nat.le_trans (HM3.out.size HK.out) HBO.out.size
            intro vm4 w4 hmay4 hcg4 hmu4
            have HNX4 : Hid (w4.heap[nx]? = some (.cells #[.string snap, .slice p3 n3 c3] 50 (0, 0))) := (hcg4.block nx (by have := (Array.getElem?_eq_some_iff.1 HNX3.out).1; simp; omega) (fun e => by have h1 := HNE.out nx e; have h2 := HNX.out; omega)).trans ((HBO.out.block nx (Array.getElem?_eq_some_iff.1 HNX3.out).1).trans HNX3.out)
            have HV4 := Lib.hid ((HV3.out.below HBO.out).keep hcg4 hmu4)
            have HM4 := Lib.hid ((HM3.out.below HK.out HBO.out).more HK.out hmay4 hcg4 hmu4)
            obtain ⟨vp4, vc4, hvm4⟩ := hmay4.form
            obtain ⟨vn4, hvn4⟩ : ∃ n, n = (may ++ [(snap, ps ++ [s])]).length := ⟨_, rfl⟩
            rw [← hvn4] at hvm4
            subst hvm4
            clear hmay4 hcg4 hmu4 y0 y1 hvn4
            obtain rfl : lastB = true := HLB.out.2 HG.out.2.1
            have hNp : ¬ Nn < 1 := by have := HG.out.2.2; omega
            have x3 := (HM4.out.x HK.out HX.out).c3
            have HE1 : Hid (Calls Tryd.prog 24 #[.pointer (some ⟨lb, 0, none⟩)] w4 fun e w' => e = .returned (.bool true) ∧ w' = w4) := deadLW HM4.out.at_.log
            have HE2 := Lib.hid (deadW HM4.out.at_.on.disk)
            rw [HDD.out] at HE2
            go_wp2_with fail
            refine HE1.out.mono ?_
            rintro e w' ⟨rfl, rfl⟩
            go_wp2_with fail
            refine HE2.out.mono ?_
            rintro e w' ⟨rfl, rfl⟩
            clear x3 HE1 HE2
            go_wp2_with fail
            exact HEX.out _ _ _ _ _ _ _ _ _ _ _ _ _ _ _ _ _ _ _ _ _ _ _ _ _ _ _ _ _ _ _ _ _ _ _ _ _ _ _ _ _ _ _ _ _ _ _ _ _ _ _ _ _ _ _ _ _ _ _ _ _ _ _ _ _ _ _ _ _ _ _ _ _ _ _ _ _ _ _ _ _ _ _ _ _ _ _ _ _ _ _ _ _ _ _ _ _ _ _ _ _ _ _ _ _ _ _ _ _ _ _ _ _ _ _ _ _ _ _ _ _ _ _ _ _ _ _ _ _ _ _ _ _ _ _ _ _ _ _ _ _ _ _ _ _ _ D2 _ snap ps (may ++ [(snap, ps ++ [s])]) HM4.out HG.out.1
    · have hki : ¬ (k : Int) < (m : Int) := by omega
      go_wp2_with fail
      exact HEX.out _ _ _ _ _ _ _ _ _ _ _ _ _ _ _ _ _ _ _ _ _ _ _ _ _ _ _ _ _ _ _ _ _ _ _ _ _ _ _ _ _ _ _ _ _ _ _ _ _ _ _ _ _ _ _ _ _ _ _ _ _ _ _ _ _ _ _ _ _ _ _ _ _ _ _ _ _ _ _ _ _ _ _ _ _ _ _ _ _ _ _ _ _ _ _ _ _ _ _ _ _ _ _ _ _ _ _ _ _ _ _ _ _ _ _ _ _ _ _ _ _ _ _ _ _ _ _ _ _ _ _ _ _ _ _ _ _ _ _ _ _ _ _ _ _ _ D L snap ps may HM.out (HP.out.out hk (by omega))
end Go.Proofs.YtilpbjcbffbjeaaDoor
