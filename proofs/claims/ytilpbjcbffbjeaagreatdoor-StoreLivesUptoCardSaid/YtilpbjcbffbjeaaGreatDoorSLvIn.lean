/- The inner loop of the law StoreLives: the commits of a life. -/
import Derived.Test.YtilpbjcbffbjeaaGreatDoorSLvP
import Derived.StillTailTactics
import Derived.Deep.QuietTactic
import Derived.BigQuiet
import Derived.Deep.CutBlock
import Derived.Deep.DeepCutAuto
namespace Go.Proofs.YtilpbjcbffbjeaaGreatDoor
set_option linter.unusedVariables false
set_option maxRecDepth 100000
open Go.RowKit
noncomputable def slB4 : Code := ((Tryz.f9.body.bind (findBlockS 4)).getD .skip)
set_option maxRecDepth 1000000 in
set_option maxHeartbeats 16000000 in
theorem slInner (W W1 : World) (hgl : ErrT W) (b g cap nb nc xb ob sb ten M0 : Nat) (h1 : 1 ≤ ten) (h8 : ten ≤ 8) (np tp : Option Addr) (tc hn hc m : Nat) (nv tv cv : Value) (hnv : nv = .slice np hn hc) (htv : tv = .slice tp m tc) (texts : List ByteArray) (tens : List Int) (css : List (List Int)) (Nn Ag : Int)
    (hnc : ten ≤ nc) (hnc2 : nc ≤ 9223372036854775807) (hmt : m = texts.length) (ht : Strs W (.slice tp m tc) texts) (hnt : hn = tens.length) (hth : Ints W (.slice np hn hc) tens) (hcs : Rss W cv css) (hml : m ≤ 1048576) (hnl : hn ≤ 1048576)
    (hcl : css.length ≤ 1048576) (hcm : ∀ i, (css.getD i []).length ≤ 1048576) (hNn : Nn ≤ 9223372036854775807)
    (D0 : Dk) (lb : Nat → Nat) (L0 : Nat → Lg) (n0 : Nat → Nat) (tx0 : Nat → ByteArray) (og0 : Nat) (ot0 : ByteArray) (hs0 : StA W.heap.size W b g cap sb ten D0 M0 lb L0 n0 tx0 W1) (hm0 : SLvM W.heap.size nb xb ob ten nv tv Nn Ag cv n0 tx0 og0 ot0 W1) (har : D0.armed = 0) (hlen : D0.l.length = 32) (hbd : ∀ j, n0 j ≤ M0) (hz : ∀ i, ten < i → n0 i = 0 ∧ tx0 i = ⟨#[]⟩) (hM : M0 + m < 1099511627776)
    (Q : Exit → Act → World → Prop) (c1 c2 c3 c4 c7 c9 c10 c11 c16 c17 c18 c19 c20 c21 c22 c23 c24 c25 c26 c27 c28 c29 c30 c31 c32 c33 c34 c35 c36 c37 c38 c39 c40 c41 c42 c43 c44 c45 c46 c47 c48 c49 c50 c51 c52 c53 c54 c55 c56 c57 c58 c59 c60 c61 c62 c63 c64 c65 c66 c67 c68 c69 c70 c71 c72 c73 c74 c75 c76 c77 c78 c79 c80 c81 c82 c83 c84 c85 c86 c87 c88 c89 c90 c91 c92 c93 c94 c95 c96 c97 c98 c99 c100 c101 c102 c103 c104 c105 c106 c107 c108 c109 c110 c111 c112 c113 c114 c115 c116 c117 c118 c119 c120 c121 c122 c123 c124 c125 c126 c127 c128 c129 c130 c131 c132 c133 c134 c135 c136 c137 c138 c139 c140 c141 c142 c143 c144 c145 c146 c147 c148 c149 c150 c151 c152 c153 c154 c155 c156 c157 c158 c159 c160 c161 c162 c163 c164 c165 c166 c167 c168 c169 c170 c171 c172 c173 c174 c175 c176 c177 c178 c179 c180 c181 c182 c183 c184 c185 c186 c187 c188 c189 c190 c191 c192 c193 c194 c195 c196 c197 c198 c199 c200 c201 c202 c203 c204 c205 c206 c207 c208 c209 c210 c211 c212 c213 c214 c215 c216 c217 c218 c219 c220 c221 c222 c223 c224 c225 c226 c227 c228 c229 c230 c231 c232 c233 c234 c235 c236 c237 c238 c239 c240 c241 c242 c243 c244 c245 c246 c247 c248 c249 c250 c251 c252 c253 c254 c255 c256 c257 c258 c259 c260 c261 c262 c263 c264 c265 c266 c267 c268 c269 c270 c271 c272 c273 c274 c275 c276 c277 c278 c279 c280 c281 c282 c283 c284 c285 c286 c287 c288 c289 c290 c291 c292 c293 c294 c295 c296 c297 c298 c299 c300 c301 c302 c303 c304 c305 c306 c307 c308 : Value)
    (hpan : ∀ c a (i : Nat) v u, Q (.panic c) (a.put (some i) v) u → Q (.panic c) a u)
    (hexit : ∀ (u4 u15 u16 u17 u18 u19 u70 u71 u72 u73 u74 u75 u76 u77 u78 u79 u80 u81 u82 u83 u84 u85 u86 u87 u88 u89 u90 u91 u92 u93 u94 u95 u96 u97 u98 u99 u100 u101 u102 u103 u104 u105 u106 u107 u108 u109 u110 u111 u112 u113 u114 u115 u116 u117 u118 u119 u120 u121 u122 u123 u124 u125 u126 u127 u128 u129 u130 u131 u132 u133 u134 u135 u136 u137 u138 u139 u140 u141 u142 u143 u144 u145 u146 u147 u148 u149 u150 u151 u152 u153 u154 u155 u156 u157 u158 u159 u160 u161 u162 u163 u164 u165 u166 u167 u168 u169 u170 u171 u172 u173 u174 u175 u176 u177 u178 u179 u180 u181 u182 u183 u184 u185 u186 u187 u188 u189 u190 u191 u192 u193 u194 u195 u196 : Value) (fl : Int) (w' : World) (D' : Dk) (n n' : Nat → Nat) (tx tx' : Nat → ByteArray) (og : Nat) (ot : ByteArray), SLvM W.heap.size nb xb ob ten nv tv Nn Ag cv n tx og ot w' → SLvO W.heap.size W b g cap ten D' (M0 + m) n tx fl og ot n' tx' w' → n 0 = n0 0 → Q .normal ⟨#[(.int .i64 (ten : Nat)), c1, c2, c3, u4, (.pointer (some ⟨b, 0, none⟩)), (.pointer (some ⟨sb, 0, none⟩)), c7, (.slice (some ⟨nb, 0, none⟩) ten nc), c9, c10, c11, (.pointer (some ⟨xb, 0, none⟩)), (.int .i64 fl), (.pointer (some ⟨ob, 0, none⟩)), u15, u16, u17, u18, u19, c20, c21, c22, c23, c24, c25, c26, c27, c28, c29, c30, c31, c32, c33, c34, c35, c36, c37, c38, c39, c40, c41, c42, c43, c44, c45, c46, c47, c48, c49, c50, c51, c52, c53, c54, c55, c56, c57, c58, c59, c60, c61, c62, c63, c64, c65, c66, c67, c68, c69, u70, u71, u72, u73, u74, u75, u76, u77, u78, u79, u80, u81, u82, u83, u84, u85, u86, u87, u88, u89, u90, u91, u92, u93, u94, u95, u96, u97, u98, u99, u100, u101, u102, u103, u104, u105, u106, u107, u108, u109, u110, u111, u112, u113, u114, u115, u116, u117, u118, u119, u120, u121, u122, u123, u124, u125, u126, u127, u128, u129, u130, u131, u132, u133, u134, u135, u136, u137, u138, u139, u140, u141, u142, u143, u144, u145, u146, u147, u148, u149, u150, u151, u152, u153, u154, u155, u156, u157, u158, u159, u160, u161, u162, u163, u164, u165, u166, u167, u168, u169, u170, u171, u172, u173, u174, u175, u176, u177, u178, u179, u180, u181, u182, u183, u184, u185, u186, u187, u188, u189, u190, u191, u192, u193, u194, u195, u196, c197, c198, c199, c200, c201, c202, c203, c204, c205, c206, c207, c208, c209, c210, c211, c212, c213, c214, c215, c216, c217, c218, c219, c220, c221, c222, c223, c224, c225, c226, c227, c228, c229, c230, c231, c232, c233, c234, c235, c236, c237, c238, c239, c240, c241, c242, c243, c244, c245, c246, c247, c248, c249, c250, c251, c252, c253, c254, c255, c256, c257, c258, c259, c260, c261, c262, c263, c264, c265, c266, c267, c268, c269, c270, c271, c272, c273, c274, c275, c276, c277, c278, c279, c280, c281, c282, c283, c284, c285, c286, c287, c288, c289, c290, c291, c292, c293, c294, c295, c296, c297, c298, c299, c300, c301, c302, c303, c304, c305, c306, c307, c308], []⟩ w') :
    Code.wp Tryz.prog slB4 Q ⟨#[(.int .i64 (ten : Nat)), c1, c2, c3, c4, (.pointer (some ⟨b, 0, none⟩)), (.pointer (some ⟨sb, 0, none⟩)), c7, (.slice (some ⟨nb, 0, none⟩) ten nc), c9, c10, c11, (.pointer (some ⟨xb, 0, none⟩)), (.int .i64 (-1)), (.pointer (some ⟨ob, 0, none⟩)), (.int .i64 0), c16, c17, c18, c19, c20, c21, c22, c23, c24, c25, c26, c27, c28, c29, c30, c31, c32, c33, c34, c35, c36, c37, c38, c39, c40, c41, c42, c43, c44, c45, c46, c47, c48, c49, c50, c51, c52, c53, c54, c55, c56, c57, c58, c59, c60, c61, c62, c63, c64, c65, c66, c67, c68, c69, c70, c71, c72, c73, c74, c75, c76, c77, c78, c79, c80, c81, c82, c83, c84, c85, c86, c87, c88, c89, c90, c91, c92, c93, c94, c95, c96, c97, c98, c99, c100, c101, c102, c103, c104, c105, c106, c107, c108, c109, c110, c111, c112, c113, c114, c115, c116, c117, c118, c119, c120, c121, c122, c123, c124, c125, c126, c127, c128, c129, c130, c131, c132, c133, c134, c135, c136, c137, c138, c139, c140, c141, c142, c143, c144, c145, c146, c147, c148, c149, c150, c151, c152, c153, c154, c155, c156, c157, c158, c159, c160, c161, c162, c163, c164, c165, c166, c167, c168, c169, c170, c171, c172, c173, c174, c175, c176, c177, c178, c179, c180, c181, c182, c183, c184, c185, c186, c187, c188, c189, c190, c191, c192, c193, c194, c195, c196, c197, c198, c199, c200, c201, c202, c203, c204, c205, c206, c207, c208, c209, c210, c211, c212, c213, c214, c215, c216, c217, c218, c219, c220, c221, c222, c223, c224, c225, c226, c227, c228, c229, c230, c231, c232, c233, c234, c235, c236, c237, c238, c239, c240, c241, c242, c243, c244, c245, c246, c247, c248, c249, c250, c251, c252, c253, c254, c255, c256, c257, c258, c259, c260, c261, c262, c263, c264, c265, c266, c267, c268, c269, c270, c271, c272, c273, c274, c275, c276, c277, c278, c279, c280, c281, c282, c283, c284, c285, c286, c287, c288, c289, c290, c291, c292, c293, c294, c295, c296, c297, c298, c299, c300, c301, c302, c303, c304, c305, c306, c307, c308], []⟩ W1 := by
  have HGL := Lib.hid hgl
  have HNV := Lib.hid hnv
  have HTV := Lib.hid htv
  have HS0 := Lib.hid hs0
  have HM0 := Lib.hid hm0
  have HP0 : Hid (D0.armed = 0 ∧ D0.l.length = 32 ∧ (∀ j, n0 j ≤ M0) ∧ ∀ i, ten < i → n0 i = 0 ∧ tx0 i = ⟨#[]⟩) := ⟨har, hlen, hbd, hz⟩
  have HEX := Lib.hid hexit
  have HPAN := Lib.hid hpan
  have HCS := Lib.hid hcs
  have HCM := Lib.hid hcm
  have HMM := Lib.hid hmt
  have HNT := Lib.hid hnt
  have HMB := Lib.hid hM
  have HTX : Hid (∀ i, i < texts.length → ∃ b off, tp = some ⟨b, off, none⟩ ∧ W.cell? ⟨b, off + i, none⟩ = some (.string (texts.getD i ⟨#[]⟩))) := by
    obtain ⟨p, c, e, h⟩ := ht.form
    have e1 := (Value.slice.inj e).1
    subst e1
    exact h
  have HTN : Hid (∀ i, i < tens.length → ∃ b off, np = some ⟨b, off, none⟩ ∧ W.cell? ⟨b, off + i, none⟩ = some (.int .i64 (tens.getD i 0))) := by
    obtain ⟨p, c, e, h⟩ := hth.form
    have e1 := (Value.slice.inj e).1
    subst e1
    exact h
  clear hgl hnv htv hs0 hm0 har hlen hbd hz hM hexit hpan hcs hcm hmt hnt ht hth
  conv => arg 2; whnf
  go_wp2_with fail
  go_loopw [13, 15] (fun v13 v15 wr => ∃ (k : Nat) (D : Dk) (L : Nat → Lg) (n : Nat → Nat) (tx : Nat → ByteArray), k ≤ m ∧ v15 = .int .i64 (k : Nat) ∧ v13 = .int .i64 (-1) ∧ StA W.heap.size W b g cap sb ten D (M0 + k) lb L n tx wr ∧ SLvM W.heap.size nb xb ob ten nv tv Nn Ag cv n tx og0 ot0 wr ∧ (D.armed ≠ 0 → m ≤ k ∨ hn ≤ k) ∧ D.l.length = 32 ∧ (∀ j, n j ≤ M0 + k) ∧ (∀ i, ten < i → n i = 0 ∧ tx i = ⟨#[]⟩) ∧ n 0 = n0 0) (fun _ v _ => (m - intOf v).toNat)
  case atStart => exact ⟨0, D0, L0, n0, tx0, by omega, rfl, rfl, HS0.out, HM0.out, fun h => absurd HP0.out.1 h, HP0.out.2.1, HP0.out.2.2.1, HP0.out.2.2.2, rfl⟩
  case round =>
    clear HS0 HM0 HP0
    obtain ⟨k, D, L, n, tx, hk, rfl, rfl, hs, hm, har, hln, hbd, hz, hn0⟩ := hrel
    have HS := Lib.hid hs
    have HM := Lib.hid hm
    have HAR := Lib.hid har
    have HPP : Hid (D.l.length = 32 ∧ (∀ j, n j ≤ M0 + k) ∧ (∀ i, ten < i → n i = 0 ∧ tx i = ⟨#[]⟩) ∧ n 0 = n0 0) := ⟨hln, hbd, hz, hn0⟩
    have x2 := hm.x.c2
    have x4 := hm.x.c4
    clear hs hm har hln hbd hz hn0
    by_cases hlt : k < m ∧ k < hn
    · obtain ⟨tb, tf, htp, hel⟩ := HTX.out k (by rw [← HMM.out]; exact hlt.1)
      subst htp
      obtain ⟨tb2, tf2, htp2, hel2⟩ := HTN.out k (by rw [← HNT.out]; exact hlt.2)
      subst htp2
      obtain ⟨s, hs⟩ : ∃ s, s = texts.getD k ⟨#[]⟩ := ⟨_, rfl⟩
      obtain ⟨tz, htz⟩ : ∃ s, s = tens.getD k 0 := ⟨_, rfl⟩
      rw [← hs] at hel
      rw [← htz] at hel2
      have HEL := Lib.hid hel
      have HEL2 := Lib.hid hel2
      have hki : (k : Int) < (m : Int) := by omega
      have hkn : (k : Int) < (hn : Int) := by omega
      have hk0 : (k : Int) ≤ 1048576 := by omega
      have hmi : (m : Int) ≤ 1048576 := by omega
      have hni : (hn : Int) ≤ 1048576 := by omega
      have x0 := HM.out.x.c0
      have x1 := HM.out.x.c1
      rw [HNV.out] at x0
      rw [HTV.out] at x1
      obtain ⟨q1, hq1⟩ : ∃ q, ((k : Int) == (m : Int) - 1) = q := ⟨_, rfl⟩
      obtain ⟨q2, hq2⟩ : ∃ q, ((k : Int) == (hn : Int) - 1) = q := ⟨_, rfl⟩
      obtain ⟨lastB, hlb⟩ : ∃ q : Bool, q = (q1 || q2) := ⟨_, rfl⟩
      have HLB : Hid (lastB = true ↔ k + 1 = m ∨ k + 1 = hn) := by
        unfold Hid
        rw [hlb, ← hq1, ← hq2, Bool.or_eq_true, beq_iff_eq, beq_iff_eq]
        omega
      have HPL := Lib.hid (fun w => splaceW tz ten h1 (by omega) w)
      obtain ⟨kt, hkt⟩ : ∃ kt : Nat, tz % (ten : Int) = (kt : Int) := ⟨(tz % (ten : Int)).toNat, by rw [Int.toNat_of_nonneg (Int.emod_nonneg _ (by omega))]⟩
      have hktt : kt < ten := by have := Int.emod_lt_of_pos tz (b := (ten : Int)) (by omega); omega
      rw [hkt] at HPL
      clear hs hel hel2 htz hkt
      go_upto_region 18 with fail
      go_cut [16] from 84 to 97 (fun v16 wx => wx = wr ∧ v16 = .bool lastB)
      case first =>
        subst hlb
        cases q1 with
        | true =>
          go_wp2_with fail
          go_meet
          exact ⟨rfl, by trivial⟩
        | false =>
          cases q2 with
          | true =>
            go_wp2_with fail
            go_meet
            exact ⟨rfl, by trivial⟩
          | false =>
            go_wp2_with fail
            go_meet
            exact ⟨rfl, by trivial⟩
      case rest =>
        obtain ⟨rfl, rfl⟩ := hcut
        clear hlb hq1 hq2
        have hel3 := (HS.out.on.below.cell (block_lt_of_cell HEL2.out)).trans HEL2.out
        go_upto_region 20 with (go_at_call 44; refine (HPL.out _).mono ?_; rintro e w' ⟨rfl, rfl⟩)
        clear hel3
        go_cut [119] from 105 to 119 (fun v119 wx => v119 = .bool false ∧ ∃ D1, StA W.heap.size W b g cap sb ten D1 (M0 + k) lb L n tx wx ∧ SLvM W.heap.size nb xb ob ten nv tv Nn Ag cv n tx og0 ot0 wx ∧ (D1.armed ≠ 0 → lastB = true ∧ 0 < Nn) ∧ D1.l.length = 32)
        case first =>
          cases lastB with
          | false =>
            go_wp2_with fail
            go_meet
            exact ⟨rfl, D, HS.out, HM.out, fun h => by have := HAR.out h; omega, HPP.out.1⟩
          | true =>
            by_cases hN : 0 < Nn
            · have HA := Lib.hid (armW HS.out.on.disk HS.out.al Nn.toNat (by omega) cv css (HCS.out.below HS.out.on.below) hcl HCM.out)
              have e0 : ((Nn.toNat : Nat) : Int) = Nn := by omega
              rw [e0] at HA
              clear e0
              go_wp2_with fail
              refine HA.out.mono ?_
              rintro e w1 ⟨rfl, hd1, hc1⟩
              have HS1 := Lib.hid (HS.out.arm Nn.toNat css (by omega) (fun i => by have := HCM.out i; omega) hd1 hc1)
              have HM1 := Lib.hid (HM.out.keepBG HS.out.on (hc1.mono fun k _ h => .inl h))
              clear hd1 hc1 x0 x1 x2 x4
              go_wp2_with fail
              go_meet
              exact ⟨rfl, _, HS1.out, HM1.out, fun _ => ⟨by first | rfl | trivial, hN⟩, HPP.out.1⟩
            · go_wp2_with fail
              go_meet
              exact ⟨rfl, D, HS.out, HM.out, fun h => by have := HAR.out h; omega, HPP.out.1⟩
        case rest =>
          obtain ⟨rfl, D1, hs1, hm1, har1, hln1⟩ := hcut
          have HS1 := Lib.hid hs1
          have HM1 := Lib.hid hm1
          have HAR1 := Lib.hid har1
          have HLN1 := Lib.hid hln1
          clear hs1 hm1 har1 hln1 x0 x1 x2 x4 HS HM HAR
          go_upto_region 22 with fail
          have hng : n (kt + 1) ≤ M0 + k := HPP.out.2.1 _
          obtain ⟨y, hy⟩ : ∃ y : Int, y = (n (kt + 1) : Nat) := ⟨_, rfl⟩
          have HY := Lib.hid hy
          have hy1 : 0 ≤ y ∧ y < 1099511627776 := by have := HMB.out; omega
          have hyw : IntKind.i64.wrap (y + 1) = y + 1 := by rw [IntKind.wrap_i64]; omega
          have hktb : (0 : Int) ≤ (kt : Int) ∧ (kt : Int) < (ten : Int) := by omega
          clear hy hng
          have hbd : Below wc.heap.size wc wc.drew := (Below.refl _ _).drew
          have HS2 := Lib.hid (HS1.out.grow hbd)
          have HM2 := Lib.hid (HM1.out.below hbd)
          refine wp_region_U 13 (fun u => u.cell? ⟨nb, kt * 2, none⟩ = some (.int .i64 y) ∧ u.cell? ⟨xb, 1, none⟩ = some (.slice (some ⟨tb, tf, none⟩) m tc) ∧ u.cell? ⟨tb, tf + k, none⟩ = some (.string s)) (by kernel_rfl) ?_
          change wpAnyU _ _ _ _ _ _ 14 (Array.replicate 14 false) _ _
          obtain ⟨wd, hwd⟩ : ∃ wd, wd = wc.drew := ⟨_, rfl⟩
          rw [← hwd] at HS2 HM2 ⊢
          clear hwd hbd HS1 HM1
          have HF22 : Hid (∀ u : World, Below wd.heap.size wd u → (u.cell? ⟨nb, kt * 2, none⟩ = some (.int .i64 y) ∧ u.cell? ⟨xb, 1, none⟩ = some (.slice (some ⟨tb, tf, none⟩) m tc) ∧ u.cell? ⟨tb, tf + k, none⟩ = some (.string s))) := by
            intro u hu
            have g1 := (HM2.out.below hu).held.gen hktt
            rw [← HY.out] at g1
            have x1 := (HM2.out.below hu).x.c1
            rw [HTV.out] at x1
            exact ⟨g1, x1, ((HS2.out.grow hu).on.below.cell (block_lt_of_cell HEL.out)).trans HEL.out⟩
          have hx := HF22.out wd (Below.refl _ _)
          refine takeU 0 (v := ?_) rfl (by kernel_rfl) (by kernel_rfl) (fun _ _ _ h => HPAN.out _ _ _ _ _ h) rfl (fun u hu => ?_) hx ?_
          rotate_left
          · obtain ⟨hu1, hu2, hu3⟩ := hu; go_simp <;> with_reducible rfl
          simp only [Act.put, List.setIfInBounds_toArray, List.set_cons_zero, List.set_cons_succ]
          refine takeU 1 (v := ?_) rfl (by kernel_rfl) (by kernel_rfl) (fun _ _ _ h => HPAN.out _ _ _ _ _ h) rfl (fun u hu => ?_) hx ?_
          rotate_left
          · obtain ⟨hu1, hu2, hu3⟩ := hu; go_simp <;> with_reducible rfl
          simp only [Act.put, List.setIfInBounds_toArray, List.set_cons_zero, List.set_cons_succ]
          refine takeU 2 (v := ?_) rfl (by kernel_rfl) (by kernel_rfl) (fun _ _ _ h => HPAN.out _ _ _ _ _ h) rfl (fun u hu => ?_) hx ?_
          rotate_left
          · obtain ⟨hu1, hu2, hu3⟩ := hu; go_simp <;> with_reducible rfl
          simp only [Act.put, List.setIfInBounds_toArray, List.set_cons_zero, List.set_cons_succ]
          refine takeU 3 (v := ?_) rfl (by kernel_rfl) (by kernel_rfl) (fun _ _ _ h => HPAN.out _ _ _ _ _ h) rfl (fun u hu => ?_) hx ?_
          rotate_left
          · obtain ⟨hu1, hu2, hu3⟩ := hu; go_simp <;> with_reducible rfl
          simp only [Act.put, List.setIfInBounds_toArray, List.set_cons_zero, List.set_cons_succ]
          refine takeU 4 (v := ?_) rfl (by kernel_rfl) (by kernel_rfl) (fun _ _ _ h => HPAN.out _ _ _ _ _ h) rfl (fun u hu => ?_) hx ?_
          rotate_left
          · obtain ⟨hu1, hu2, hu3⟩ := hu; go_simp <;> with_reducible rfl
          simp only [Act.put, List.setIfInBounds_toArray, List.set_cons_zero, List.set_cons_succ]
          refine takeU 5 (v := ?_) rfl (by kernel_rfl) (by kernel_rfl) (fun _ _ _ h => HPAN.out _ _ _ _ _ h) rfl (fun u hu => ?_) hx ?_
          rotate_left
          · obtain ⟨hu1, hu2, hu3⟩ := hu; go_simp <;> with_reducible rfl
          simp only [Act.put, List.setIfInBounds_toArray, List.set_cons_zero, List.set_cons_succ]
          refine takeU 6 (v := ?_) rfl (by kernel_rfl) (by kernel_rfl) (fun _ _ _ h => HPAN.out _ _ _ _ _ h) rfl (fun u hu => ?_) hx ?_
          rotate_left
          · obtain ⟨hu1, hu2, hu3⟩ := hu; go_simp <;> with_reducible rfl
          simp only [Act.put, List.setIfInBounds_toArray, List.set_cons_zero, List.set_cons_succ]
          refine takeU 7 (v := ?_) rfl (by kernel_rfl) (by kernel_rfl) (fun _ _ _ h => HPAN.out _ _ _ _ _ h) rfl (fun u hu => ?_) hx ?_
          rotate_left
          · obtain ⟨hu1, hu2, hu3⟩ := hu; go_simp <;> with_reducible rfl
          simp only [Act.put, List.setIfInBounds_toArray, List.set_cons_zero, List.set_cons_succ]
          refine takeU 8 (v := ?_) rfl (by kernel_rfl) (by kernel_rfl) (fun _ _ _ h => HPAN.out _ _ _ _ _ h) rfl (fun u hu => ?_) hx ?_
          rotate_left
          · obtain ⟨hu1, hu2, hu3⟩ := hu; go_simp <;> with_reducible rfl
          simp only [Act.put, List.setIfInBounds_toArray, List.set_cons_zero, List.set_cons_succ]
          refine takeU 9 (v := ?_) rfl (by kernel_rfl) (by kernel_rfl) (fun _ _ _ h => HPAN.out _ _ _ _ _ h) rfl (fun u hu => ?_) hx ?_
          rotate_left
          · obtain ⟨hu1, hu2, hu3⟩ := hu; go_simp <;> with_reducible rfl
          simp only [Act.put, List.setIfInBounds_toArray, List.set_cons_zero, List.set_cons_succ]
          refine takeU 10 (v := ?_) rfl (by kernel_rfl) (by kernel_rfl) (fun _ _ _ h => HPAN.out _ _ _ _ _ h) rfl (fun u hu => ?_) hx ?_
          rotate_left
          · obtain ⟨hu1, hu2, hu3⟩ := hu; go_simp <;> with_reducible rfl
          simp only [Act.put, List.setIfInBounds_toArray, List.set_cons_zero, List.set_cons_succ]
          refine takeU 11 (v := ?_) rfl (by kernel_rfl) (by kernel_rfl) (fun _ _ _ h => HPAN.out _ _ _ _ _ h) rfl (fun u hu => ?_) hx ?_
          rotate_left
          · obtain ⟨hu1, hu2, hu3⟩ := hu; go_simp <;> with_reducible rfl
          simp only [Act.put, List.setIfInBounds_toArray, List.set_cons_zero, List.set_cons_succ]
          have hbp : Below wd.heap.size wd (wd.alloc (.cells #[.int .i64 0, .string ⟨#[]⟩] 87)) := (Below.refl _ _).alloc (Nat.le_refl _) _
          refine oneU 12 (by kernel_rfl) ?_
          refine runUS 12 (v := .pointer (some ⟨wd.heap.size, 0, none⟩)) (w' := wd.alloc (.cells #[.int .i64 0, .string ⟨#[]⟩] 87)) rfl (by kernel_rfl) (by kernel_rfl) ?_ ⟨HF22.out _ hbp, ?_⟩
          · go_simp
          simp only [Act.put, List.setIfInBounds_toArray, List.set_cons_zero, List.set_cons_succ]
          have HP5 : Hid (OB (wd.alloc (.cells #[.int .i64 0, .string ⟨#[]⟩] 87)) wd.heap.size 0 ⟨#[]⟩) := heap_alloc_new wd _
          have HS3 := Lib.hid (HS2.out.grow hbp)
          have HM3 := Lib.hid (HM2.out.below hbp)
          obtain ⟨pb, hpb⟩ : ∃ pb, pb = wd.heap.size := ⟨_, rfl⟩
          obtain ⟨w3, hw3⟩ : ∃ w3, w3 = wd.alloc (.cells #[.int .i64 0, .string ⟨#[]⟩] 87) := ⟨_, rfl⟩
          have HPN : Hid (pb ≠ nb ∧ pb ≠ ob ∧ W.heap.size ≤ pb) := by
            unfold Hid
            have q1 := HM2.out.held.lt
            have q2 := HM2.out.o.lt
            have q3 := HS2.out.on.below.size
            omega
          rw [← hw3] at HP5 HS3 HM3 ⊢
          rw [← hpb] at HP5 ⊢
          have p0 := HP5.out.c0
          have p1 := HP5.out.c1
          have f0 := HP5.out.free 0
          have f1 := HP5.out.free 1
          clear hx hbp hpb hw3 HS2 HM2 HF22
          refine oneU 13 (by kernel_rfl) ?_
          refine endStoreU 13 (w' := (w3.setCell ⟨pb, 0, none⟩ (.int .i64 (y + 1))).setCell ⟨pb, 1, none⟩ (.string s)) rfl (by kernel_rfl) (by kernel_rfl) (by kernel_rfl) ?_ ?_
          · go_simp <;> rw [hyw]
          simp only [Act.put]
          have HP4 := Lib.hid (HP5.out.set (og' := n (kt + 1) + 1) (ot' := s))
          have hyc : ((n (kt + 1) + 1 : Nat) : Int) = y + 1 := by have := HY.out; omega
          rw [hyc] at HP4
          have HYC := Lib.hid hyc
          have hc4 := chgH w3 pb 0 (.int .i64 (y + 1)) (.string s)
          obtain ⟨w4, hw4⟩ : ∃ w4, w4 = (w3.setCell ⟨pb, 0, none⟩ (.int .i64 (y + 1))).setCell ⟨pb, 1, none⟩ (.string s) := ⟨_, rfl⟩
          replace hc4 : Chg (fun i => i = pb) w3 w4 := by rw [hw4]; exact hc4
          rw [← hw4] at HP4 ⊢
          have HS4 := Lib.hid (HS3.out.besideL HP5.out.law HP5.out.muts HPN.out.2.2 hc4)
          have HM4 := Lib.hid (HM3.out.keep hc4 (fun e => HPN.out.1 e.symm) (fun e => by have q := HM3.out.x.law; have q1 := HM3.out.x; unfold XL at q1; rw [e] at q1; have q2 := HP5.out; unfold OB at q2; rw [q1] at q2; injection q2 with q2; injection q2 with _ q3 _; exact absurd q3 (by decide)) (fun e => HPN.out.2.1 e.symm))
          clear hw4 hc4 hyc p0 p1 f0 f1 HP5 HS3 HM3
          go_upto_region 23 with fail
          have hbd : Below w4.heap.size w4 w4.drew := (Below.refl _ _).drew
          have HS5 := Lib.hid (HS4.out.grow hbd)
          have HM5 := Lib.hid (HM4.out.below hbd)
          have HP5 := Lib.hid (HP4.out.below hbd)
          have g1 := HM5.out.held.gen hktt
          rw [← HY.out] at g1
          have x1 := HM5.out.x.c1
          rw [HTV.out] at x1
          have el := (HS5.out.on.below.cell (block_lt_of_cell HEL.out)).trans HEL.out
          go_still_tail 12, (by kernel_rfl)
          change wpList _ _ _ _ _ w4.drew
          obtain ⟨w5, hw5⟩ : ∃ w5, w5 = w4.drew := ⟨_, rfl⟩
          rw [← hw5] at HS5 HM5 HP5 g1 x1 el ⊢
          clear hw5 hbd HS4 HM4 HP4
          have HC9 := Lib.hid (HS5.out.commitX HGL.out HGL.out.pos (by have := HMB.out; omega) kt hktt s (by have := HMB.out; have := HPP.out.2.1 (kt + 1); omega))
          rw [← HY.out] at HC9
          go_wp2_with fail
          refine HC9.out.mono ?_
          rintro e w6 ⟨r, rfl, hc6, hr6⟩
          have HM6 := Lib.hid (HM5.out.keepSA HS5.out hc6)
          have HP6 := Lib.hid (HP5.out.keep hc6 (HP5.out.law.notSA HS5.out))
          clear g1 x1 el HC9 hc6 HM5 HP5
          have x1 := HM6.out.x.c1
          rw [HTV.out] at x1
          cases hr6 with
          | long L6 hu hst6 =>
            have HS6 := Lib.hid hst6
            have el := (HS6.out.on.below.cell (block_lt_of_cell HEL.out)).trans HEL.out
            have hsz : (16000 : Int) < (s.size : Int) := by omega
            clear hst6 hu
            go_wp2_with fail
            exact ⟨⟨k + 1, D1, L6, n, tx, by omega, rfl, rfl, HS6.out.mono (by omega), HM6.out, fun h => by have := HLB.out.1 (HAR1.out h).1; omega, HLN1.out, fun j => by have := HPP.out.2.1 j; omega, HPP.out.2.2.1, HPP.out.2.2.2⟩, by simp only [intOf]; omega⟩
          | ok D6 L6 hu hst6 hal6 =>
            have HS6 := Lib.hid hst6
            have HQ6 : Hid ((D6.armed ≠ 0 → m ≤ k + 1 ∨ hn ≤ k + 1) ∧ D6.l.length = 32 ∧ (∀ j, upd n (kt + 1) (n (kt + 1) + 1) j ≤ M0 + (k + 1)) ∧ (∀ i, ten < i → upd n (kt + 1) (n (kt + 1) + 1) i = 0 ∧ upd tx (kt + 1) s i = ⟨#[]⟩) ∧ upd n (kt + 1) (n (kt + 1) + 1) 0 = n0 0) := by
              refine ⟨fun h => ?_, hal6.len.trans HLN1.out, fun j => ?_, fun i hi => ?_, ?_⟩
              · have h2 : D1.armed ≠ 0 := fun e => h (hal6.ar e)
                have := HLB.out.1 (HAR1.out h2).1; omega
              · unfold upd
                split
                · have := HPP.out.2.1 (kt + 1); omega
                · have := HPP.out.2.1 j; omega
              · rw [upd_other _ _ (by omega), upd_other _ _ (by omega)]; exact HPP.out.2.2.1 i hi
              · rw [upd_other _ _ (by omega)]; exact HPP.out.2.2.2
            have HG := Lib.hid (fun (u : World) (h : Below w6.heap.size w6 u) => sgenW (HS6.out.grow h).st h8 kt hktt)
            have HT := Lib.hid (fun (u : World) (h : Below w6.heap.size w6 u) => stextW (HS6.out.grow h).st h8 kt hktt)
            rw [upd_same, HYC.out] at HG
            rw [upd_same] at HT
            have el := (HS6.out.on.below.cell (block_lt_of_cell HEL.out)).trans HEL.out
            have p0 := HP6.out.c0
            rw [HYC.out] at p0
            clear hst6 hal6 hu
            go_upto_region 30 with fail
            go_quiet (first | (go_at_call 25; exact Calls.quiet_of_same (HT.out _ (below_drewN (Below.refl _ _) _))) | (go_at_call 16; exact Calls.quiet_of_same (HG.out _ (below_drewN (Below.refl _ _) _))))
            have hd7 : Below w6.heap.size w6 (w6.drewN nq) := below_drewN (Below.refl _ _) nq
            obtain ⟨w7, hw7⟩ : ∃ w7, w7 = w6.drewN nq := ⟨_, rfl⟩
            rw [← hw7] at hd7 ⊢
            have HS7 := Lib.hid (HS6.out.grow hd7)
            have HM7 := Lib.hid (HM6.out.below hd7)
            have HP7 := Lib.hid (HP6.out.below hd7)
            clear hw7 hd7 HS6 HM6 HP6 HG HT p0 x1 el
            have p0 := HP7.out.c0
            rw [HYC.out] at p0
            have p1 := HP7.out.c1
            have g1 := HM7.out.held.gen hktt
            have g2 := HM7.out.held.text hktt
            have f1 := HM7.out.held.free (kt * 2)
            have f2 := HM7.out.held.free (kt * 2 + 1)
            go_upto_region 17 with fail
            have HM8 := Lib.hid (HM7.out.setH hktt (n (kt + 1) + 1) s)
            rw [HYC.out] at HM8
            have hc8 := chgH w7 nb (kt * 2) (.int .i64 (y + 1)) (.string s)
            obtain ⟨w8, hw8⟩ : ∃ w8, w8 = (w7.setCell ⟨nb, kt * 2, none⟩ (.int .i64 (y + 1))).setCell ⟨nb, kt * 2 + 1, none⟩ (.string s) := ⟨_, rfl⟩
            rw [← hw8] at HM8 hc8 ⊢
            have HS8 := Lib.hid (HS7.out.besideL HM7.out.held.law HM7.out.held.muts HM7.out.held.ge hc8)
            clear hw8 hc8 p0 p1 g1 g2 f1 f2 HS7 HM7 HP7
            go_wp2_with fail
            exact ⟨⟨k + 1, D6, L6, _, _, by omega, rfl, rfl, HS8.out, HM8.out, HQ6.out⟩, by simp only [intOf]; omega⟩
          | gone D6 n6 tx6 hu hat6 hst6 hg6 hfw6 hrs6 hcs6 =>
            have HO6 := Lib.hid ((SLvO.ofGone HS5.out HLN1.out HPP.out.2.1 HPP.out.2.2.1 hktt hat6 hg6 hfw6 hrs6 hcs6).mono (M' := M0 + m) (by omega))
            have HLN : Hid (lastB = true ∧ 0 < Nn) := HAR1.out hg6.ar
            have HD6 := Lib.hid (sdeadW hst6)
            clear hu hat6 hst6 hg6 hfw6 hrs6 hcs6
            obtain rfl : lastB = true := HLN.out.1
            have hNp : ¬ Nn < 1 := by have := HLN.out.2; omega
            have x2 := HM6.out.x.c2
            go_wp2_with fail
            refine HD6.out.mono ?_
            rintro e w7 ⟨rfl, rfl⟩
            have p0 := HP6.out.c0
            rw [HYC.out] at p0
            have p1 := HP6.out.c1
            have o0 := HM6.out.o.c0
            have o1 := HM6.out.o.c1
            have f0 := HM6.out.o.free 0
            have f1 := HM6.out.o.free 1
            have HM8 := Lib.hid (HM6.out.setO (n (kt + 1) + 1) s)
            rw [HYC.out] at HM8
            have hc8 := chgH w7 ob 0 (.int .i64 (y + 1)) (.string s)
            have HO8 := Lib.hid (HO6.out.over (HO6.out.on.besideL HM6.out.o.law HM6.out.o.muts HM6.out.oB hc8))
            clear hc8
            go_wp2_with fail
            exact HEX.out _ _ _ _ _ _ _ _ _ _ _ _ _ _ _ _ _ _ _ _ _ _ _ _ _ _ _ _ _ _ _ _ _ _ _ _ _ _ _ _ _ _ _ _ _ _ _ _ _ _ _ _ _ _ _ _ _ _ _ _ _ _ _ _ _ _ _ _ _ _ _ _ _ _ _ _ _ _ _ _ _ _ _ _ _ _ _ _ _ _ _ _ _ _ _ _ _ _ _ _ _ _ _ _ _ _ _ _ _ _ _ _ _ _ _ _ _ _ _ _ _ _ _ _ _ _ _ _ _ _ _ _ _ (kt : Int) _ D6 n n6 tx tx6 (n (kt + 1) + 1) s HM8.out HO8.out HPP.out.2.2.2
    · by_cases hl1 : k < m
      · have hki : (k : Int) < (m : Int) := by omega
        have hkn : ¬ (k : Int) < (hn : Int) := by omega
        have x0 := HM.out.x.c0
        have x1 := HM.out.x.c1
        rw [HNV.out] at x0
        rw [HTV.out] at x1
        have HO := Lib.hid ((HS.out.out HPP.out.1 HPP.out.2.1 HPP.out.2.2.1 (-1) og0 ot0).mono (M' := M0 + m) (by omega))
        go_wp2_with fail
        exact HEX.out _ _ _ _ _ _ _ _ _ _ _ _ _ _ _ _ _ _ _ _ _ _ _ _ _ _ _ _ _ _ _ _ _ _ _ _ _ _ _ _ _ _ _ _ _ _ _ _ _ _ _ _ _ _ _ _ _ _ _ _ _ _ _ _ _ _ _ _ _ _ _ _ _ _ _ _ _ _ _ _ _ _ _ _ _ _ _ _ _ _ _ _ _ _ _ _ _ _ _ _ _ _ _ _ _ _ _ _ _ _ _ _ _ _ _ _ _ _ _ _ _ _ _ _ _ _ _ _ _ _ _ _ _ (-1) _ D n n tx tx og0 ot0 HM.out HO.out HPP.out.2.2.2
      · have hki : ¬ (k : Int) < (m : Int) := by omega
        have x1 := HM.out.x.c1
        rw [HTV.out] at x1
        have HO := Lib.hid ((HS.out.out HPP.out.1 HPP.out.2.1 HPP.out.2.2.1 (-1) og0 ot0).mono (M' := M0 + m) (by omega))
        go_wp2_with fail
        exact HEX.out _ _ _ _ _ _ _ _ _ _ _ _ _ _ _ _ _ _ _ _ _ _ _ _ _ _ _ _ _ _ _ _ _ _ _ _ _ _ _ _ _ _ _ _ _ _ _ _ _ _ _ _ _ _ _ _ _ _ _ _ _ _ _ _ _ _ _ _ _ _ _ _ _ _ _ _ _ _ _ _ _ _ _ _ _ _ _ _ _ _ _ _ _ _ _ _ _ _ _ _ _ _ _ _ _ _ _ _ _ _ _ _ _ _ _ _ _ _ _ _ _ _ _ _ _ _ _ _ _ _ _ _ _ (-1) _ D n n tx tx og0 ot0 HM.out HO.out HPP.out.2.2.2
end Go.Proofs.YtilpbjcbffbjeaaGreatDoor
