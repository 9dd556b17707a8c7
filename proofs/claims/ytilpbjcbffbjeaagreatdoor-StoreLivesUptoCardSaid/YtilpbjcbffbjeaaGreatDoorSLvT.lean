/- What follows the commits in a life of the law StoreLives: the power goes, the opening, once more. -/
import Derived.Test.YtilpbjcbffbjeaaGreatDoorSLvIn
import Derived.StillTailTactics
import Derived.Deep.QuietTactic
import Derived.BigQuiet
import Derived.Deep.CutBlock
import Derived.Deep.DeepCutAuto
namespace Go.Proofs.YtilpbjcbffbjeaaGreatDoor
set_option linter.unusedVariables false
set_option maxRecDepth 100000
open Go.RowKit
/-- The first k tenants have what another row has. -/
def mixS {α : Type} (k : Nat) (a b : Nat → α) : Nat → α := fun i => if 1 ≤ i ∧ i ≤ k then b i else a i
theorem mixS_zero {α : Type} (a b : Nat → α) : mixS 0 a b = a := by funext i; unfold mixS; rw [if_neg (by omega)]
theorem mixS_next {α : Type} (k : Nat) (a b : Nat → α) : mixS k a b (k + 1) = a (k + 1) := by unfold mixS; rw [if_neg (by omega)]
theorem mixS_step {α : Type} (k : Nat) (a b : Nat → α) : upd (mixS k a b) (k + 1) (b (k + 1)) = mixS (k + 1) a b := by
  funext i
  unfold upd mixS
  by_cases e : i = k + 1
  · rw [if_pos e, if_pos (by omega), e]
  · rw [if_neg e]
    by_cases h : 1 ≤ i ∧ i ≤ k
    · rw [if_pos h, if_pos (by omega)]
    · rw [if_neg h, if_neg (by omega)]
theorem mixS_all {α : Type} (k : Nat) (a b : Nat → α) (t : Nat) (h : t < k) : b (t + 1) = mixS k a b (t + 1) := by unfold mixS; rw [if_pos (by omega)]
noncomputable def slAft : Code := ((Tryz.f9.body.bind (findAfterS 4)).getD .skip)
set_option maxRecDepth 1000000 in
set_option maxHeartbeats 16000000 in
theorem slTail (W wc : World) (hgl : ErrT W) (b g cap nb nc xb ob ten M : Nat) (h1 : 1 ≤ ten) (h8 : ten ≤ 8) (hnc : ten ≤ nc) (hnc2 : nc ≤ 9223372036854775807) (nv tv : Value) (cp : Option Addr) (mc cc : Nat) (Nn Ag : Int) (css : List (List Int))
    (hcs : Rss W (.slice cp mc cc) css) (hcl : css.length ≤ 1048576) (hcm : ∀ i, (css.getD i []).length ≤ 1048576) (hAg : Ag ≤ 9223372036854775807)
    (D : Dk) (n n' : Nat → Nat) (tx tx' : Nat → ByteArray) (fl : Int) (og : Nat) (ot : ByteArray) (ep : Nat) (hm : SLvM W.heap.size nb xb ob ten nv tv Nn Ag (.slice cp mc cc) n tx og ot wc) (ho : SLvO W.heap.size W b g cap ten D M n tx fl og ot n' tx' wc) (hep : ep ≤ n' 0) (hM : M + 2 < 1099511627776)
    (Q : Exit → Act → World → Prop) (c1 c2 c3 c4 c6 c7 c9 c11 c15 c16 c17 c18 c19 c20 c21 c22 c23 c24 c25 c26 c27 c28 c29 c30 c31 c32 c33 c34 c35 c36 c37 c38 c39 c40 c41 c42 c43 c44 c45 c46 c47 c48 c49 c50 c51 c52 c53 c54 c55 c56 c57 c58 c59 c60 c61 c62 c63 c64 c65 c66 c67 c68 c69 c70 c71 c72 c73 c74 c75 c76 c77 c78 c79 c80 c81 c82 c83 c84 c85 c86 c87 c88 c89 c90 c91 c92 c93 c94 c95 c96 c97 c98 c99 c100 c101 c102 c103 c104 c105 c106 c107 c108 c109 c110 c111 c112 c113 c114 c115 c116 c117 c118 c119 c120 c121 c122 c123 c124 c125 c126 c127 c128 c129 c130 c131 c132 c133 c134 c135 c136 c137 c138 c139 c140 c141 c142 c143 c144 c145 c146 c147 c148 c149 c150 c151 c152 c153 c154 c155 c156 c157 c158 c159 c160 c161 c162 c163 c164 c165 c166 c167 c168 c169 c170 c171 c172 c173 c174 c175 c176 c177 c178 c179 c180 c181 c182 c183 c184 c185 c186 c187 c188 c189 c190 c191 c192 c193 c194 c195 c196 c197 c198 c199 c200 c201 c202 c203 c204 c205 c206 c207 c208 c209 c210 c211 c212 c213 c214 c215 c216 c217 c218 c219 c220 c221 c222 c223 c224 c225 c226 c227 c228 c229 c230 c231 c232 c233 c234 c235 c236 c237 c238 c239 c240 c241 c242 c243 c244 c245 c246 c247 c248 c249 c250 c251 c252 c253 c254 c255 c256 c257 c258 c259 c260 c261 c262 c263 c264 c265 c266 c267 c268 c269 c270 c271 c272 c273 c274 c275 c276 c277 c278 c279 c280 c281 c282 c283 c284 c285 c286 c287 c288 c289 c290 c291 c292 c293 c294 c295 c296 c297 c298 c299 c300 c301 c302 c303 c304 c305 c306 c307 c308 : Value)
    (hpan : ∀ c a (i : Nat) v u, Q (.panic c) (a.put (some i) v) u → Q (.panic c) a u)
    (hexit : ∀ (u4 u20 u21 u22 u23 u24 u25 u197 u198 u199 u200 u201 u202 u203 u204 u205 u206 u207 u208 u209 u210 u211 u212 u213 u214 u215 u216 u217 u218 u219 u220 u221 u222 u223 u224 u225 u226 u227 u228 u229 u230 u231 u232 u233 u234 u235 u236 u237 u238 u239 u240 u241 u242 u243 u244 u245 u246 u247 u248 u249 u250 u251 u252 u253 u254 u255 u256 u257 u258 u259 u260 u261 u262 u263 u264 u265 u266 u267 u268 u269 u270 u271 u272 u273 u274 u275 u276 u277 u278 u279 u280 u281 u282 u283 u284 u285 u286 u287 u288 u289 u290 u291 u292 u293 u294 u295 u296 u297 u298 u299 u300 u301 u302 u303 u304 u305 u306 u307 : Value) (sb8 : Nat) (D8 : Dk) (lb8 : Nat → Nat) (L8 : Nat → Lg) (n8 : Nat → Nat) (tx8 : Nat → ByteArray) (w8 : World), StA W.heap.size W b g cap sb8 ten D8 (M + 2) lb8 L8 n8 tx8 w8 → Held W.heap.size w8 nb ten n8 tx8 → D8.armed = 0 → D8.l.length = 32 → (∀ j, n8 j ≤ M + 2) → (∀ i, ten < i → n8 i = 0 ∧ tx8 i = ⟨#[]⟩) → Q .normal ⟨#[(.int .i64 (ten : Nat)), c1, c2, c3, u4, (.pointer (some ⟨b, 0, none⟩)), (.pointer (some ⟨sb8, 0, none⟩)), c7, (.slice (some ⟨nb, 0, none⟩) ten nc), c9, (.int .i64 (n8 0 : Nat)), c11, (.pointer (some ⟨xb, 0, none⟩)), (.int .i64 fl), (.pointer (some ⟨ob, 0, none⟩)), c15, c16, c17, c18, c19, u20, u21, u22, u23, u24, u25, c26, c27, c28, c29, c30, c31, c32, c33, c34, c35, c36, c37, c38, c39, c40, c41, c42, c43, c44, c45, c46, c47, c48, c49, c50, c51, c52, c53, c54, c55, c56, c57, c58, c59, c60, c61, c62, c63, c64, c65, c66, c67, c68, c69, c70, c71, c72, c73, c74, c75, c76, c77, c78, c79, c80, c81, c82, c83, c84, c85, c86, c87, c88, c89, c90, c91, c92, c93, c94, c95, c96, c97, c98, c99, c100, c101, c102, c103, c104, c105, c106, c107, c108, c109, c110, c111, c112, c113, c114, c115, c116, c117, c118, c119, c120, c121, c122, c123, c124, c125, c126, c127, c128, c129, c130, c131, c132, c133, c134, c135, c136, c137, c138, c139, c140, c141, c142, c143, c144, c145, c146, c147, c148, c149, c150, c151, c152, c153, c154, c155, c156, c157, c158, c159, c160, c161, c162, c163, c164, c165, c166, c167, c168, c169, c170, c171, c172, c173, c174, c175, c176, c177, c178, c179, c180, c181, c182, c183, c184, c185, c186, c187, c188, c189, c190, c191, c192, c193, c194, c195, c196, u197, u198, u199, u200, u201, u202, u203, u204, u205, u206, u207, u208, u209, u210, u211, u212, u213, u214, u215, u216, u217, u218, u219, u220, u221, u222, u223, u224, u225, u226, u227, u228, u229, u230, u231, u232, u233, u234, u235, u236, u237, u238, u239, u240, u241, u242, u243, u244, u245, u246, u247, u248, u249, u250, u251, u252, u253, u254, u255, u256, u257, u258, u259, u260, u261, u262, u263, u264, u265, u266, u267, u268, u269, u270, u271, u272, u273, u274, u275, u276, u277, u278, u279, u280, u281, u282, u283, u284, u285, u286, u287, u288, u289, u290, u291, u292, u293, u294, u295, u296, u297, u298, u299, u300, u301, u302, u303, u304, u305, u306, u307, c308], []⟩ w8) :
    Code.wp Tryz.prog slAft Q ⟨#[(.int .i64 (ten : Nat)), c1, c2, c3, c4, (.pointer (some ⟨b, 0, none⟩)), c6, c7, (.slice (some ⟨nb, 0, none⟩) ten nc), c9, (.int .i64 (ep : Nat)), c11, (.pointer (some ⟨xb, 0, none⟩)), (.int .i64 fl), (.pointer (some ⟨ob, 0, none⟩)), c15, c16, c17, c18, c19, c20, c21, c22, c23, c24, c25, c26, c27, c28, c29, c30, c31, c32, c33, c34, c35, c36, c37, c38, c39, c40, c41, c42, c43, c44, c45, c46, c47, c48, c49, c50, c51, c52, c53, c54, c55, c56, c57, c58, c59, c60, c61, c62, c63, c64, c65, c66, c67, c68, c69, c70, c71, c72, c73, c74, c75, c76, c77, c78, c79, c80, c81, c82, c83, c84, c85, c86, c87, c88, c89, c90, c91, c92, c93, c94, c95, c96, c97, c98, c99, c100, c101, c102, c103, c104, c105, c106, c107, c108, c109, c110, c111, c112, c113, c114, c115, c116, c117, c118, c119, c120, c121, c122, c123, c124, c125, c126, c127, c128, c129, c130, c131, c132, c133, c134, c135, c136, c137, c138, c139, c140, c141, c142, c143, c144, c145, c146, c147, c148, c149, c150, c151, c152, c153, c154, c155, c156, c157, c158, c159, c160, c161, c162, c163, c164, c165, c166, c167, c168, c169, c170, c171, c172, c173, c174, c175, c176, c177, c178, c179, c180, c181, c182, c183, c184, c185, c186, c187, c188, c189, c190, c191, c192, c193, c194, c195, c196, c197, c198, c199, c200, c201, c202, c203, c204, c205, c206, c207, c208, c209, c210, c211, c212, c213, c214, c215, c216, c217, c218, c219, c220, c221, c222, c223, c224, c225, c226, c227, c228, c229, c230, c231, c232, c233, c234, c235, c236, c237, c238, c239, c240, c241, c242, c243, c244, c245, c246, c247, c248, c249, c250, c251, c252, c253, c254, c255, c256, c257, c258, c259, c260, c261, c262, c263, c264, c265, c266, c267, c268, c269, c270, c271, c272, c273, c274, c275, c276, c277, c278, c279, c280, c281, c282, c283, c284, c285, c286, c287, c288, c289, c290, c291, c292, c293, c294, c295, c296, c297, c298, c299, c300, c301, c302, c303, c304, c305, c306, c307, c308], []⟩ wc := by
  have HGL := Lib.hid hgl
  have HCS := Lib.hid hcs
  have HCM := Lib.hid hcm
  have HM := Lib.hid hm
  have HO := Lib.hid ho
  have HEX := Lib.hid hexit
  have HPAN := Lib.hid hpan
  have HEP := Lib.hid hep
  have HMB := Lib.hid hM
  have x4 := hm.x.c4
  clear hgl hcs hcm hm ho hexit hpan hep hM
  dsimp only
  conv => arg 2; whnf
  go_upto_region 33 with fail
  go_cut [206] from 197 to 307 (fun v206 wx => v206 = .bool false ∧ ∃ (D3 : Dk), SLvM W.heap.size nb xb ob ten nv tv Nn Ag (.slice cp mc cc) n tx og ot wx ∧ SLvO W.heap.size W b g cap ten D3 M n tx fl og ot n' tx' wx)
  case first =>
    by_cases hal : D.dead = false
    · have HE := Lib.hid (deadW HO.out.on.disk)
      rw [hal] at HE
      have HCR := Lib.hid (crashA HO.out.on.disk HO.out.ok (.slice cp mc cc) css (HCS.out.below HO.out.on.below) (fun i => by have := HCM.out i; omega))
      rw [crashX_liveS hal] at HCR
      clear hal
      go_wp2_with fail
      refine HE.out.mono ?_
      rintro e w' ⟨rfl, rfl⟩
      go_wp2_with fail
      refine HCR.out.mono ?_
      rintro e w3 ⟨rfl, hd3, hc3⟩
      have HM3 := Lib.hid (HM.out.keepBG HO.out.on hc3)
      have HO3 := Lib.hid (HO.out.died css hd3 hc3)
      clear hd3 hc3 x4
      go_wp2_with fail
      go_meet
      exact ⟨rfl, _, HM3.out, HO3.out⟩
    · have hdd : D.dead = true := by
        cases hD : D.dead with
        | false => exact absurd hD hal
        | true => rfl
      have HE := Lib.hid (deadW HO.out.on.disk)
      rw [hdd] at HE
      clear hdd hal
      go_wp2_with fail
      refine HE.out.mono ?_
      rintro e w' ⟨rfl, rfl⟩
      clear x4
      go_wp2_with fail
      go_meet
      exact ⟨rfl, D, HM.out, HO.out⟩
  case rest =>
    obtain ⟨rfl, D3, hm3, ho3⟩ := hcut
    have HM3 := Lib.hid hm3
    have HO3 := Lib.hid ho3
    clear hm3 ho3 HO HM x4
    have HRV := Lib.hid (reviveW HO3.out.on.disk)
    go_wp2_with fail
    refine HRV.out.mono ?_
    rintro e w4 ⟨rfl, hd, hc⟩
    have HM4 := Lib.hid (HM3.out.keepBG HO3.out.on (hc.mono fun k _ h => .inl h))
    have HO4 := Lib.hid (HO3.out.revive hd hc)
    clear hd hc HRV HM3 HO3
    have x3 := HM4.out.x.c3
    have x4 := HM4.out.x.c4
    go_upto_if 211 with fail
    go_cut [10] from 197 to 307 (fun v10 wx => ∃ (D5 : Dk) (n5 : Nat → Nat) (tx5 : Nat → ByteArray) (ep5 : Nat), v10 = .int .i64 (ep5 : Nat) ∧ SLvM W.heap.size nb xb ob ten nv tv Nn Ag (.slice cp mc cc) n tx og ot wx ∧ SLvO W.heap.size W b g cap ten D5 (M + 1) n tx fl og ot n5 tx5 wx ∧ D5.dead = false ∧ D5.armed = 0 ∧ ep5 ≤ n5 0)
    case first =>
      by_cases hA0 : 0 < Ag
      · have HAR := Lib.hid (armW HO4.out.on.disk rfl Ag.toNat (by omega) (.slice cp mc cc) css (HCS.out.below HO4.out.on.below) hcl HCM.out)
        have e0 : ((Ag.toNat : Nat) : Int) = Ag := by omega
        rw [e0] at HAR
        clear e0
        go_wp2_with fail
        refine HAR.out.mono ?_
        rintro e w5 ⟨rfl, hd5, hc5⟩
        have HM5 := Lib.hid (HM4.out.keepBG HO4.out.on (hc5.mono fun k _ h => .inl h))
        have HO5 := Lib.hid (HO4.out.arm Ag.toNat css (by omega) (fun i => by have := HCM.out i; omega) hd5 hc5)
        clear hd5 hc5 HAR x3 x4 HM4 HO4
        have HOP := Lib.hid (sOpenXX HGL.out HGL.out.pos HO5.out.on h1 h8 (by rw [HO5.out.len]; omega) HO5.out.ok rfl HO5.out.few (by have := HMB.out; omega) HO5.out.rs (by have := HO5.out.bd 0; have := HMB.out; omega) HO5.out.hz)
        go_wp2_with fail
        refine HOP.out.mono ?_
        rintro e w6 ⟨D6, hc6, ⟨sb6, lb6, L6, rfl, _, hst6, _, hln6⟩ | ⟨rfl, hg6⟩⟩
        · have HM6 := Lib.hid (HM5.out.keepBG HO5.out.on hc6)
          have HO6 := Lib.hid (HO5.out.opened hst6 hln6)
          have HP6 := Lib.hid (sepochW hst6.st)
          rw [upd_same] at HP6
          obtain ⟨y, hy⟩ : ∃ y, y = n' 0 + 1 := ⟨_, rfl⟩
          have HY := Lib.hid hy
          have hyi : ¬ (y : Int) ≤ (ep : Int) := by have := HEP.out; omega
          have HDD := Lib.hid hst6.al
          rw [← hy] at HP6
          clear hc6 hst6 hln6 HOP hy HM5 HO5
          go_wp2_with fail
          refine HP6.out.mono ?_
          rintro e w7 ⟨rfl, rfl⟩
          go_wp2_with fail
          refine HP6.out.mono ?_
          rintro e w7 ⟨rfl, rfl⟩
          clear HP6 hyi
          have HRV := Lib.hid (reviveW HO6.out.on.disk)
          go_wp2_with fail
          refine HRV.out.mono ?_
          rintro e w7 ⟨rfl, hd, hc⟩
          have HM7 := Lib.hid (HM6.out.keepBG HO6.out.on (hc.mono fun k _ h => .inl h))
          have HO7 := Lib.hid (HO6.out.revive hd hc)
          clear hd hc HRV HM6 HO6
          have x4 := HM7.out.x.c4
          have HCR := Lib.hid (crashA HO7.out.on.disk HO7.out.ok (.slice cp mc cc) css (HCS.out.below HO7.out.on.below) (fun i => by have := HCM.out i; omega))
          rw [crashX_liveS rfl] at HCR
          go_wp2_with fail
          refine HCR.out.mono ?_
          rintro e w8 ⟨rfl, hd, hc⟩
          have HM8 := Lib.hid (HM7.out.keepBG HO7.out.on hc)
          have HO8 := Lib.hid (HO7.out.died css hd hc)
          clear hd hc HCR x4 HM7 HO7
          have HRV := Lib.hid (reviveW HO8.out.on.disk)
          go_wp2_with fail
          refine HRV.out.mono ?_
          rintro e w9 ⟨rfl, hd, hc⟩
          have HM9 := Lib.hid (HM8.out.keepBG HO8.out.on (hc.mono fun k _ h => .inl h))
          have HO9 := Lib.hid (HO8.out.revive hd hc)
          clear hd hc HRV HM8 HO8
          go_wp2_with fail
          go_meet
          exact ⟨_, _, _, y, rfl, HM9.out, HO9.out, rfl, rfl, by rw [HY.out, upd_same]; exact Nat.le_refl _⟩
        · have HM6 := Lib.hid (HM5.out.keepBG HO5.out.on hc6)
          obtain ⟨n2, tx2, ho6, hn2⟩ := HO5.out.gone hg6
          have HO6 := Lib.hid ho6
          have HN2 := Lib.hid hn2
          clear hc6 hg6 HOP ho6 hn2 HM5 HO5
          have HRV := Lib.hid (reviveW HO6.out.on.disk)
          go_wp2_with fail
          refine HRV.out.mono ?_
          rintro e w7 ⟨rfl, hd, hc⟩
          have HM7 := Lib.hid (HM6.out.keepBG HO6.out.on (hc.mono fun k _ h => .inl h))
          have HO7 := Lib.hid (HO6.out.revive hd hc)
          clear hd hc HRV HM6 HO6
          have x4 := HM7.out.x.c4
          have HCR := Lib.hid (crashA HO7.out.on.disk HO7.out.ok (.slice cp mc cc) css (HCS.out.below HO7.out.on.below) (fun i => by have := HCM.out i; omega))
          rw [crashX_liveS rfl] at HCR
          go_wp2_with fail
          refine HCR.out.mono ?_
          rintro e w8 ⟨rfl, hd, hc⟩
          have HM8 := Lib.hid (HM7.out.keepBG HO7.out.on hc)
          have HO8 := Lib.hid (HO7.out.died css hd hc)
          clear hd hc HCR x4 HM7 HO7
          have HRV := Lib.hid (reviveW HO8.out.on.disk)
          go_wp2_with fail
          refine HRV.out.mono ?_
          rintro e w9 ⟨rfl, hd, hc⟩
          have HM9 := Lib.hid (HM8.out.keepBG HO8.out.on (hc.mono fun k _ h => .inl h))
          have HO9 := Lib.hid (HO8.out.revive hd hc)
          clear hd hc HRV HM8 HO8
          go_wp2_with fail
          go_meet
          exact ⟨_, _, _, ep, rfl, HM9.out, HO9.out, rfl, rfl, by have := HN2.out; have := HEP.out; omega⟩
      · clear x4
        go_wp2_with fail
        go_meet
        exact ⟨_, _, _, ep, rfl, HM4.out, HO4.out.mono (Nat.le_succ M), rfl, rfl, HEP.out⟩
    case rest =>
      obtain ⟨D5, n5, tx5, ep5, rfl, hm5, ho5, hal5, har5, hep5⟩ := hcut
      have HM5 := Lib.hid hm5
      have HO5 := Lib.hid ho5
      have HAR5 := Lib.hid har5
      have HEP5 := Lib.hid hep5
      have HOP := Lib.hid (sOpenXX HGL.out HGL.out.pos HO5.out.on h1 h8 (by rw [HO5.out.len]; omega) HO5.out.ok hal5 HO5.out.few (by have := HMB.out; omega) HO5.out.rs (by have := HO5.out.bd 0; have := HMB.out; omega) HO5.out.hz)
      clear hm5 ho5 hal5 har5 hep5 x3 x4 HM4 HO4
      go_wp2_with fail
      refine HOP.out.mono ?_
      rintro e w6 ⟨D6, hc6, ⟨sb6, lb6, L6, rfl, _, hst6, har6, hln6⟩ | ⟨rfl, hg6⟩⟩
      · have HM6 := Lib.hid (HM5.out.keepBG HO5.out.on hc6)
        have HO6 := Lib.hid (HO5.out.opened hst6 hln6)
        have HS6 := Lib.hid hst6
        have HA6 := Lib.hid (har6 HAR5.out)
        have HE6 : Hid (ep5 < (upd n5 0 (n5 0 + 1)) 0) := by
          unfold Hid
          rw [upd_same]
          have := HEP5.out
          omega
        clear hc6 hst6 har6 hln6 HOP HM5 HO5 HAR5 HEP5
        obtain ⟨n6, hn6⟩ : ∃ f, f = upd n5 0 (n5 0 + 1) := ⟨_, rfl⟩
        obtain ⟨tx6, htx6⟩ : ∃ f, f = upd tx5 0 ⟨#[]⟩ := ⟨_, rfl⟩
        rw [← hn6, ← htx6] at HO6 HS6
        rw [← hn6] at HE6
        have HP6 := Lib.hid (sepochW HS6.out.st)
        obtain ⟨y, hy⟩ : ∃ y, y = n6 0 := ⟨_, rfl⟩
        have HY := Lib.hid hy
        have hyi : ¬ (y : Int) ≤ (ep5 : Int) := by have := HE6.out; omega
        rw [← hy] at HP6
        clear hn6 htx6 hy HE6
        go_wp2_with fail
        refine HP6.out.mono ?_
        rintro e w7 ⟨rfl, rfl⟩
        go_wp2_with fail
        refine HP6.out.mono ?_
        rintro e w7 ⟨rfl, rfl⟩
        have HL6 : Hid (D6.l.length = 32 ∧ (∀ j, n6 j ≤ M + 2) ∧ (∀ i, ten < i → n6 i = 0 ∧ tx6 i = ⟨#[]⟩)) := ⟨HO6.out.len, HO6.out.bd, HO6.out.hz⟩
        have HFL := Lib.hid HO6.out.fl
        clear HP6 hyi HO6
        go_wp2_with fail
        go_loopw [24] (fun v24 wr => ∃ (t : Nat), v24 = .int .i64 (t : Nat) ∧ t ≤ ten ∧ StA W.heap.size W b g cap sb6 ten D6 (M + 1 + 1) lb6 L6 n6 tx6 wr ∧ SLvM W.heap.size nb xb ob ten nv tv Nn Ag (.slice cp mc cc) (mixS t n n6) (mixS t tx tx6) og ot wr) (fun v _ => (ten - intOf v).toNat)
        case atStart =>
          refine ⟨0, rfl, Nat.zero_le _, HS6.out, ?_⟩
          rw [mixS_zero, mixS_zero]
          exact HM6.out
        case round =>
          clear HS6 HM6
          obtain ⟨t, rfl, ht, hs, hm⟩ := hrel
          have HS := Lib.hid hs
          have HM := Lib.hid hm
          clear hs hm
          by_cases htt : t < ten
          · have hti : (t : Int) < (ten : Int) := by omega
            have ht0 : (0 : Int) ≤ (t : Int) := by omega
            have hnci : (ten : Int) ≤ (nc : Int) := by omega
            have HG := Lib.hid (sgenW HS.out.st h8 t htt)
            have HT := Lib.hid (stextW HS.out.st h8 t htt)
            have HH := Lib.hid (HFL.out t htt)
            have g1 := HM.out.held.gen htt
            have g2 := HM.out.held.text htt
            rw [mixS_next] at g1 g2
            have o0 := HM.out.o.c0
            have o1 := HM.out.o.c1
            obtain ⟨G, hG⟩ : ∃ G, G = n6 (t + 1) := ⟨_, rfl⟩
            obtain ⟨X, hX⟩ : ∃ X, X = tx6 (t + 1) := ⟨_, rfl⟩
            have HGG := Lib.hid hG
            have HXX := Lib.hid hX
            rw [← hG] at HG HH
            rw [← hX] at HT HH
            clear hG hX
            go_wp2_with fail
            refine HG.out.mono ?_
            rintro e w8 ⟨rfl, rfl⟩
            go_wp2_with fail
            refine HT.out.mono ?_
            rintro e w8 ⟨rfl, rfl⟩
            clear HG HT
            go_upto_region 58 with fail
            obtain ⟨rb, hrb⟩ : ∃ x, x = w8.heap.size := ⟨_, rfl⟩
            obtain ⟨wy, hwy⟩ : ∃ v, v = w8.alloc (.cells #[.int .i64 (G : Nat), .string X] 87) := ⟨_, rfl⟩
            have hby : Below w8.heap.size w8 wy := by rw [hwy]; exact (Below.refl _ _).alloc (Nat.le_refl _) _
            have HR : Hid (OB wy rb G X) := by unfold Hid; rw [hwy, hrb]; exact heap_alloc_new w8 _
            have HSy := Lib.hid (HS.out.grow hby)
            have HMy := Lib.hid (HM.out.below hby)
            rw [← hrb, ← hwy]
            clear hrb hwy hby HS HM g1 g2 o0 o1
            have b0 := HR.out.c0
            have b1 := HR.out.c1
            have g1 := HMy.out.held.gen htt
            have g2 := HMy.out.held.text htt
            rw [mixS_next] at g1 g2
            have o0 := HMy.out.o.c0
            have o1 := HMy.out.o.c1
            rcases HH.out with ⟨hA, hB⟩ | ⟨hF, hA, hB, hN⟩
            · rw [← hA] at g1
              rw [← hB] at g2
              clear hA hB HH
              go_quiet (fail)
              have hd : Below wy.heap.size wy (wy.drewN nq) := below_drewN (Below.refl _ _) nq
              obtain ⟨wz, hwz⟩ : ∃ x, x = wy.drewN nq := ⟨_, rfl⟩
              rw [← hwz] at hd ⊢
              have HRz := Lib.hid (HR.out.below hd)
              have HSz := Lib.hid (HSy.out.grow hd)
              have HMz := Lib.hid (HMy.out.below hd)
              clear hwz hd HR HSy HMy b0 b1 g1 g2 o0 o1 
              have b0 := HRz.out.c0
              have b1 := HRz.out.c1
              have g1 := HMz.out.held.gen htt
              have g2 := HMz.out.held.text htt
              rw [mixS_next] at g1 g2
              have f1 := HMz.out.held.free (t * 2)
              have f2 := HMz.out.held.free (t * 2 + 1)
              go_upto_region 56 with fail
              have HM9 := Lib.hid (HMz.out.setH htt G X)
              have hc9 := chgH wz nb (t * 2) (.int .i64 (G : Nat)) (.string X)
              obtain ⟨w9, hw9⟩ : ∃ x, x = (wz.setCell ⟨nb, t * 2, none⟩ (.int .i64 (G : Nat))).setCell ⟨nb, t * 2 + 1, none⟩ (.string X) := ⟨_, rfl⟩
              rw [← hw9] at HM9 hc9 ⊢
              have HS9 := Lib.hid (HSz.out.besideL HMz.out.held.law HMz.out.held.muts HMz.out.held.ge hc9)
              have HM10 : Hid (SLvM W.heap.size nb xb ob ten nv tv Nn Ag (.slice cp mc cc) (mixS (t + 1) n n6) (mixS (t + 1) tx tx6) og ot w9) := by
                have h := HM9.out
                rw [HGG.out, HXX.out, mixS_step, mixS_step] at h
                exact h
              clear hw9 hc9 b0 b1 g1 g2 f1 f2 HSz HMz HRz HM9
              go_wp2_with fail
              exact ⟨⟨t + 1, rfl, by omega, HS9.out, HM10.out⟩, by simp only [intOf]; omega⟩
            · subst hF
              rw [← hA] at o0
              rw [← hB] at o1
              obtain ⟨G', hG'⟩ : ∃ x, x = n (t + 1) := ⟨_, rfl⟩
              obtain ⟨X', hX'⟩ : ∃ x, x = tx (t + 1) := ⟨_, rfl⟩
              rw [← hG'] at g1 hN
              rw [← hX'] at g2
              have hNi : ¬ (G : Int) = (G' : Int) := by omega
              have hNb : ((G : Int) == (G' : Int)) = false := by rw [beq_eq_false_iff_ne]; exact hNi
              clear hA hB HH hG' hX' hN
              go_quiet (fail)
              have hd : Below wy.heap.size wy (wy.drewN nq) := below_drewN (Below.refl _ _) nq
              obtain ⟨wz, hwz⟩ : ∃ x, x = wy.drewN nq := ⟨_, rfl⟩
              rw [← hwz] at hd ⊢
              have HRz := Lib.hid (HR.out.below hd)
              have HSz := Lib.hid (HSy.out.grow hd)
              have HMz := Lib.hid (HMy.out.below hd)
              clear hwz hd HR HSy HMy b0 b1 g1 g2 o0 o1 hNi hNb
              have b0 := HRz.out.c0
              have b1 := HRz.out.c1
              have g1 := HMz.out.held.gen htt
              have g2 := HMz.out.held.text htt
              rw [mixS_next] at g1 g2
              have f1 := HMz.out.held.free (t * 2)
              have f2 := HMz.out.held.free (t * 2 + 1)
              go_upto_region 56 with fail
              have HM9 := Lib.hid (HMz.out.setH htt G X)
              have hc9 := chgH wz nb (t * 2) (.int .i64 (G : Nat)) (.string X)
              obtain ⟨w9, hw9⟩ : ∃ x, x = (wz.setCell ⟨nb, t * 2, none⟩ (.int .i64 (G : Nat))).setCell ⟨nb, t * 2 + 1, none⟩ (.string X) := ⟨_, rfl⟩
              rw [← hw9] at HM9 hc9 ⊢
              have HS9 := Lib.hid (HSz.out.besideL HMz.out.held.law HMz.out.held.muts HMz.out.held.ge hc9)
              have HM10 : Hid (SLvM W.heap.size nb xb ob ten nv tv Nn Ag (.slice cp mc cc) (mixS (t + 1) n n6) (mixS (t + 1) tx tx6) og ot w9) := by
                have h := HM9.out
                rw [HGG.out, HXX.out, mixS_step, mixS_step] at h
                exact h
              clear hw9 hc9 b0 b1 g1 g2 f1 f2 HSz HMz HRz HM9
              go_wp2_with fail
              exact ⟨⟨t + 1, rfl, by omega, HS9.out, HM10.out⟩, by simp only [intOf]; omega⟩
          · have hti : ¬ (t : Int) < (ten : Int) := by omega
            obtain rfl : t = ten := by omega
            have HH8 : Hid (Held W.heap.size wr nb t n6 tx6) := HM.out.held.congr (fun j hj => ⟨mixS_all _ _ _ _ hj, mixS_all _ _ _ _ hj⟩)
            go_wp2_with fail
            have hy := HY.out
            subst hy
            exact HEX.out _ _ _ _ _ _ _ _ _ _ _ _ _ _ _ _ _ _ _ _ _ _ _ _ _ _ _ _ _ _ _ _ _ _ _ _ _ _ _ _ _ _ _ _ _ _ _ _ _ _ _ _ _ _ _ _ _ _ _ _ _ _ _ _ _ _ _ _ _ _ _ _ _ _ _ _ _ _ _ _ _ _ _ _ _ _ _ _ _ _ _ _ _ _ _ _ _ _ _ _ _ _ _ _ _ _ _ _ _ _ _ _ _ _ _ _ _ _ sb6 D6 lb6 L6 n6 tx6 _ HS.out HH8.out HA6.out HL6.out.1 HL6.out.2.1 HL6.out.2.2
      · exact absurd HAR5.out hg6.ar
end Go.Proofs.YtilpbjcbffbjeaaGreatDoor
