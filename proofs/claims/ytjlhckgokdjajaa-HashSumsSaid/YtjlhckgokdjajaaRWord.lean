/- The reference's Sum, cut into declarations: the loop of the words. (Written by gen_loops.py.) -/
import Derived.Test.YtjlhckgokdjajaaRL
namespace Go.Proofs.Ytjlhckgokdjajaa
open Go.RowKit
set_option maxRecDepth 1000000 in
set_option maxHeartbeats 8000000 in
theorem wordLoop (κ : Sha.Kind) (wide : Nat) (hw8 : 8 * wide = κ.w) (hw4 : wide = 4 ∨ wide = 8) (R : Nat) (hR0 : 16 ≤ R) (hR : R ≤ 1000) (gM ML cM A Bw : Nat) (hML : ML ≤ 200000000000000) (hA : A + 16 * wide ≤ ML) (bl : List Nat) (hbll : bl.length = 16 * wide) (hbl8 : ∀ c ∈ bl, c < 256) (w3 : World) (Q0 : Exit → Act → World → Prop) (c0 c1 c2 c3 c4 c7 c11 c12 c13 c14 c15 c16 c17 c18 c19 c20 c21 c22 c23 c24 c25 c26 c27 c28 c29 c30 c31 c32 c33 c34 c35 c36 c37 c38 c39 c40 c41 c42 c43 c44 c45 c46 c47 c48 c49 c50 c51 c52 c53 c54 c55 c56 c57 c58 c59 c60 c61 c62 c63 c64 c65 c66 c67 c68 c69 c70 c71 c72 c73 c74 c75 c76 c77 c78 c79 c80 c81 c82 c83 c84 c85 c86 c87 c88 c89 c90 c91 c92 c93 c94 c95 c96 c97 c98 c99 c100 c101 c102 c103 c104 c105 c106 c107 c108 c109 c110 c111 c112 c113 c114 c115 c116 c117 c118 c119 c120 c121 c122 c123 c124 c125 c126 c127 c128 c129 c130 c131 c132 c133 c134 c135 c136 c137 c138 c139 c140 c141 c142 c143 c144 c145 c146 c147 c148 c149 c150 c151 c152 c153 c154 c155 c156 c157 c158 c159 c160 c161 c162 c163 c164 c165 c166 c167 c168 c169 c170 c171 c172 c173 c174 c175 c176 c177 c178 c179 c180 c181 c182 c183 c184 c185 c186 c187 c188 c189 c190 c191 c192 c193 c194 c195 c196 c197 c198 c199 c200 c201 c202 c203 c204 c205 c206 c207 c208 c209 c210 c211 c212 c213 c214 c215 c216 c217 c218 c219 c220 c221 c222 c223 c224 c225 c226 c227 c228 c229 c230 c231 c232 c233 c234 c235 c236 c237 c238 c239 c240 c241 c242 c243 c244 c245 c246 c247 c248 c249 c250 c251 c252 c253 c254 c255 c256 c257 c258 c259 c260 c261 c262 c263 c264 c265 c266 c267 c268 c269 c270 c271 c272 c273 c274 c275 c276 c277 c278 c279 c280 c281 c282 c283 c284 c285 c286 c287 c288 c289 c290 c291 c292 c293 c294 c295 c296 c297 c298 c299 c300 c301 c302 c303 c304 c305 c306 c307 c308 c309 c310 c311 c312 c313 c314 c315 c316 c317 c318 c319 c320 c321 c322 c323 c324 c325 c326 c327 c328 c329 c330 c331 c332 c333 c334 c335 c336 c337 c338 c339 : Value)
    (hm : ∀ j, j < 16 * wide → w3.cell? ⟨gM, A + j, none⟩ = some (.int .u8 (bl.getD j 0 : Nat))) (hrow : Row w3 Bw 58 .u64 R (fun _ => 0)) (hne : gM ≠ Bw)
    (hexit : ∀ (u10 u11 u67 u68 u69 u70 u71 u72 u73 u74 u75 u76 u77 u78 u79 u80 u81 u82 u83 u84 u85 u86 u87 u88 u89 u90 u91 u92 u93 u94 u95 : Value) (w' : World), Row w' Bw 58 .u64 R (Sha.gF κ bl 0) → w3.grownBy w' (some Bw) → Q0 (.exit 4) ⟨#[c0, c1, c2, c3, c4, (.int .i64 (wide : Nat)), (.slice (some ⟨gM, 0, none⟩) ML cM), c7, (.int .i64 (A : Nat)), (.slice (some ⟨Bw, 0, none⟩) R R), u10, u11, c12, c13, c14, c15, c16, c17, c18, c19, c20, c21, c22, c23, c24, c25, c26, c27, c28, c29, c30, c31, c32, c33, c34, c35, c36, c37, c38, c39, c40, c41, c42, c43, c44, c45, c46, c47, c48, c49, c50, c51, c52, c53, c54, c55, c56, c57, c58, c59, c60, c61, c62, c63, c64, c65, c66, u67, u68, u69, u70, u71, u72, u73, u74, u75, u76, u77, u78, u79, u80, u81, u82, u83, u84, u85, u86, u87, u88, u89, u90, u91, u92, u93, u94, u95, c96, c97, c98, c99, c100, c101, c102, c103, c104, c105, c106, c107, c108, c109, c110, c111, c112, c113, c114, c115, c116, c117, c118, c119, c120, c121, c122, c123, c124, c125, c126, c127, c128, c129, c130, c131, c132, c133, c134, c135, c136, c137, c138, c139, c140, c141, c142, c143, c144, c145, c146, c147, c148, c149, c150, c151, c152, c153, c154, c155, c156, c157, c158, c159, c160, c161, c162, c163, c164, c165, c166, c167, c168, c169, c170, c171, c172, c173, c174, c175, c176, c177, c178, c179, c180, c181, c182, c183, c184, c185, c186, c187, c188, c189, c190, c191, c192, c193, c194, c195, c196, c197, c198, c199, c200, c201, c202, c203, c204, c205, c206, c207, c208, c209, c210, c211, c212, c213, c214, c215, c216, c217, c218, c219, c220, c221, c222, c223, c224, c225, c226, c227, c228, c229, c230, c231, c232, c233, c234, c235, c236, c237, c238, c239, c240, c241, c242, c243, c244, c245, c246, c247, c248, c249, c250, c251, c252, c253, c254, c255, c256, c257, c258, c259, c260, c261, c262, c263, c264, c265, c266, c267, c268, c269, c270, c271, c272, c273, c274, c275, c276, c277, c278, c279, c280, c281, c282, c283, c284, c285, c286, c287, c288, c289, c290, c291, c292, c293, c294, c295, c296, c297, c298, c299, c300, c301, c302, c303, c304, c305, c306, c307, c308, c309, c310, c311, c312, c313, c314, c315, c316, c317, c318, c319, c320, c321, c322, c323, c324, c325, c326, c327, c328, c329, c330, c331, c332, c333, c334, c335, c336, c337, c338, c339], []⟩ w') :
    Code.wp Try.prog (sumLoop 2) Q0 ⟨#[c0, c1, c2, c3, c4, (.int .i64 (wide : Nat)), (.slice (some ⟨gM, 0, none⟩) ML cM), c7, (.int .i64 (A : Nat)), (.slice (some ⟨Bw, 0, none⟩) R R), (.int .i64 0), c11, c12, c13, c14, c15, c16, c17, c18, c19, c20, c21, c22, c23, c24, c25, c26, c27, c28, c29, c30, c31, c32, c33, c34, c35, c36, c37, c38, c39, c40, c41, c42, c43, c44, c45, c46, c47, c48, c49, c50, c51, c52, c53, c54, c55, c56, c57, c58, c59, c60, c61, c62, c63, c64, c65, c66, c67, c68, c69, c70, c71, c72, c73, c74, c75, c76, c77, c78, c79, c80, c81, c82, c83, c84, c85, c86, c87, c88, c89, c90, c91, c92, c93, c94, c95, c96, c97, c98, c99, c100, c101, c102, c103, c104, c105, c106, c107, c108, c109, c110, c111, c112, c113, c114, c115, c116, c117, c118, c119, c120, c121, c122, c123, c124, c125, c126, c127, c128, c129, c130, c131, c132, c133, c134, c135, c136, c137, c138, c139, c140, c141, c142, c143, c144, c145, c146, c147, c148, c149, c150, c151, c152, c153, c154, c155, c156, c157, c158, c159, c160, c161, c162, c163, c164, c165, c166, c167, c168, c169, c170, c171, c172, c173, c174, c175, c176, c177, c178, c179, c180, c181, c182, c183, c184, c185, c186, c187, c188, c189, c190, c191, c192, c193, c194, c195, c196, c197, c198, c199, c200, c201, c202, c203, c204, c205, c206, c207, c208, c209, c210, c211, c212, c213, c214, c215, c216, c217, c218, c219, c220, c221, c222, c223, c224, c225, c226, c227, c228, c229, c230, c231, c232, c233, c234, c235, c236, c237, c238, c239, c240, c241, c242, c243, c244, c245, c246, c247, c248, c249, c250, c251, c252, c253, c254, c255, c256, c257, c258, c259, c260, c261, c262, c263, c264, c265, c266, c267, c268, c269, c270, c271, c272, c273, c274, c275, c276, c277, c278, c279, c280, c281, c282, c283, c284, c285, c286, c287, c288, c289, c290, c291, c292, c293, c294, c295, c296, c297, c298, c299, c300, c301, c302, c303, c304, c305, c306, c307, c308, c309, c310, c311, c312, c313, c314, c315, c316, c317, c318, c319, c320, c321, c322, c323, c324, c325, c326, c327, c328, c329, c330, c331, c332, c333, c334, c335, c336, c337, c338, c339], []⟩ w3 := by
  have hwd : κ.w / 8 = wide := by omega
  have hwl : wide ≤ 8 := by omega
  have hwg : 4 ≤ wide := by omega
  have HM := Lib.hid hm
  have HROW := Lib.hid hrow
  have HW8 := Lib.hid (And.intro hw8 hwd)
  have HBLL := Lib.hid hbll
  have HBL8 := Lib.hid hbl8
  clear hm hrow hw8 hwd hw4 hbll hbl8
  dsimp only at hexit ⊢
  conv => arg 2; whnf
  go_loopw [10] (fun v wr => ∃ i : Nat, i ≤ 16 ∧ v = .int .i64 (i : Nat) ∧ Row wr Bw 58 .u64 R (Sha.wF κ bl i 0) ∧ w3.grownBy wr (some Bw)) (fun v _ => (16 - intOf v).toNat)
  case atStart => exact ⟨0, by omega, rfl, HROW.out.congr (fun j _ => (Sha.wF_start _ _ _).symm), ⟨rfl, rfl, rfl, Nat.le_refl _, fun _ _ _ => rfl⟩⟩
  case round =>
    obtain ⟨i, hi, rfl, hrow, hbel⟩ := hrel
    have HR := Lib.hid hrow
    have HB := Lib.hid hbel
    clear hrow hbel
    by_cases hit : i < 16
    · obtain ⟨P, hP⟩ : ∃ P, P = wide * i := ⟨_, rfl⟩
      have hPQ : P + wide ≤ 16 * wide := by
        have : wide * (i + 1) ≤ wide * 16 := Nat.mul_le_mul_left _ (by omega)
        rw [Nat.mul_add, Nat.mul_one, ← hP, Nat.mul_comm wide 16] at this
        exact this
      have hPi : (wide : Int) * (i : Int) = (P : Int) := by rw [hP]; simp
      have HP := Lib.hid hP
      clear hP
      go_wp2_with fail
      obtain ⟨wo, rfl⟩ : ∃ wo : World, wo = wr := ⟨_, rfl⟩
      go_loopw [11] (fun v wr => ∃ m : Nat, m ≤ wide ∧ v = .int .i64 (m : Nat) ∧ Row wr Bw 58 .u64 R (Sha.wF κ bl i m) ∧ w3.grownBy wr (some Bw)) (fun v _ => (wide - intOf v).toNat)
      case atStart => exact ⟨0, by omega, rfl, HR.out, HB.out⟩
      case round =>
        obtain ⟨m, hm, rfl, hrow, hbel⟩ := hrel
        have HR2 := Lib.hid hrow
        have HB2 := Lib.hid hbel
        clear hrow hbel
        by_cases hmt : m < wide
        · have hxlt := wF_lt_pow κ bl i m (by rw [HW8.out.2, HBLL.out, ← HP.out]; omega) HBL8.out
          have hxlt2 : Sha.wF κ bl i m i < 72057594037927936 := Nat.lt_of_lt_of_le hxlt (show 2 ^ (8 * m) ≤ 2 ^ 56 from Nat.pow_le_pow_right (by decide) (by omega))
          have p1 : ∀ t : Grow wr, t.val.cell? ⟨Bw, i, none⟩ = some (.int .u64 (Sha.wF κ bl i m i : Nat)) := fun t => t.cell (HR2.out.cell (by omega))
          have p2 : ∀ t : Grow wr, t.val.cell? ⟨gM, A + P + m, none⟩ = some (.int .u8 (bl.getD (P + m) 0 : Nat)) := fun t => by
            have h1 := HM.out (P + m) (by omega)
            rw [← Nat.add_assoc] at h1
            exact t.cell ((HB2.out.cell_far ⟨gM, A + P + m, none⟩ (block_lt_of_cell h1) (fun e => hne (by injection e))).trans h1)
          have hmc : bl.getD (P + m) 0 < 256 := by
            rw [List.getD_eq_getElem?_getD, List.getElem?_eq_getElem (by rw [HBLL.out]; omega)]
            exact HBL8.out _ (List.getElem_mem _)
          obtain ⟨x, hx⟩ : ∃ x, x = Sha.wF κ bl i m i := ⟨_, rfl⟩
          obtain ⟨c, hc⟩ : ∃ c, c = bl.getD (P + m) 0 := ⟨_, rfl⟩
          rw [← hx] at hxlt2 p1
          rw [← hc] at p2 hmc
          obtain ⟨y, hy⟩ : ∃ y, y = (x * 256 ||| c) := ⟨_, rfl⟩
          have hw1 : IntKind.u64.wrap ((x : Int) * 256) = ((x * 256 : Nat) : Int) := by rw [show (x : Int) * 256 = ((x * 256 : Nat) : Int) by omega, wrap_u64_nat]; omega
          have hw2 : IntKind.u64.wrap (c : Int) = (c : Int) := by rw [wrap_u64_nat]; omega
          have hor : bits_or ((x : Int) * 256) (c : Int) = (y : Int) := by rw [hy, show (x : Int) * 256 = ((x * 256 : Nat) : Int) by omega]; exact or_u64 (x * 256) c (by omega) (by omega)
          unfold bits_or at hor
          have e1 : IntKind.i64.wrap (P : Int) = (P : Int) := IntWalk.i64_in _ (by omega)
          have e2 : IntKind.i64.wrap ((A : Int) + (P : Int)) = (A : Int) + (P : Int) := IntWalk.i64_in _ (by omega)
          have e3 : IntKind.i64.wrap ((A : Int) + (P : Int) + (m : Int)) = (A : Int) + (P : Int) + (m : Int) := IntWalk.i64_in _ (by omega)
          have e4 : (0 : Int) ≤ (A : Int) + (P : Int) + (m : Int) := by omega
          have e5 : ((A : Int) + (P : Int) + (m : Int)).toNat = A + P + m := by omega
          have e6 : (A : Int) + (P : Int) + (m : Int) < (ML : Int) := by omega
          have HX := Lib.hid hx
          have HC := Lib.hid hc
          have HY := Lib.hid hy
          clear hxlt hx hc hy
          go_wp2_with fail
          refine wp_region_fam_tail 20 (by kernel_rfl) (by kernel_rfl) Grow.val (Grow.start wr) ?_
          simp only [List.take_succ_cons, List.take_zero, List.drop_succ_cons, List.drop_zero]
          repeat go_big_quiet_step (fail)
          refine wpQuiet_nil ?_
          intro t
          have hrow := t.row HR2.out
          have q4 := hrow.cell (j := i) (by omega)
          have q5 := hrow.free i
          have HROW2 := Lib.hid hrow
          clear hrow p1 p2 e1 e2 e3 e4 e5 e6
          go_wp2_with fail
          refine ⟨⟨m + 1, by omega, rfl, ?_, grownBy_trans (grownBy_trans HB2.out (below_grownBy t.below _)) (grownBy_setCell _ _ _ _)⟩, by simp [intOf]; omega⟩
          exact rwRow_step κ (by rw [HW8.out.2, HBLL.out, ← HP.out]; omega) (by omega) (by have := HW8.out.1; omega) HBL8.out HX.out.symm (by rw [HW8.out.2, ← HP.out]; exact HC.out.symm) HY.out HROW2.out
        · have hr := HR2.out.congr (g := Sha.wF κ bl (i + 1) 0) (fun j _ => by have := Sha.wF_whole κ bl i j; rw [HW8.out.2] at this; rw [show m = wide by omega]; exact this)
          have HR3 := Lib.hid hr
          clear hr
          go_wp2_with fail
          exact ⟨⟨i + 1, by omega, rfl, HR3.out, HB2.out⟩, by simp [intOf]; omega⟩
    · have hr := HR.out.congr (g := Sha.gF κ bl 0) (fun j _ => by rw [show i = 16 by omega]; exact Sha.wF_gF κ bl j)
      have HR3 := Lib.hid hr
      clear hr
      go_wp2_with fail
      exact hexit _ _ _ _ _ _ _ _ _ _ _ _ _ _ _ _ _ _ _ _ _ _ _ _ _ _ _ _ _ _ _ wr HR3.out HB.out
end Go.Proofs.Ytjlhckgokdjajaa
