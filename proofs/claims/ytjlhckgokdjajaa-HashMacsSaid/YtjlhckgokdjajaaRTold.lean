/- The reference's Sum, cut into declarations: the loop of the output. (Written by gen_loops.py.) -/
import Derived.Test.YtjlhckgokdjajaaRL
namespace Go.Proofs.Ytjlhckgokdjajaa
open Go.RowKit
theorem addr_add00 (g k : Nat) : (⟨g, 0, none⟩ : Addr).add k = ⟨g, k, none⟩ := by unfold Addr.add; split <;> simp_all
theorem rb_wide (wide wd x : Nat) (hw4 : wide = 4 ∨ wide = 8) (hw8 : 8 * wide = wd) : rb x wide = Sha.bytesOf wd x := by
  rcases hw4 with rfl | rfl
  · subst hw8; exact rb_32 x
  · subst hw8; exact rb_64 x
set_option maxRecDepth 1000000 in
set_option maxHeartbeats 8000000 in
theorem toldLoop (wide : Nat) (hw4 : wide = 4 ∨ wide = 8) (wd : Nat) (hw8 : 8 * wide = wd) (gS cS : Nat) (st : List Nat) (hst8 : st.length = 8) (hstl : ∀ j, st.getD j 0 < 2 ^ 64) (base : Nat) (W1 w0 : World) (v0 : Value) (Q0 : Exit → Act → World → Prop) (c0 c1 c2 c3 c4 c6 c8 c9 c10 c11 c12 c13 c14 c15 c16 c17 c18 c19 c20 c21 c24 c25 c26 c27 c28 c29 c30 c31 c32 c33 c34 c35 c36 c37 c38 c39 c40 c41 c42 c43 c44 c45 c46 c47 c48 c49 c50 c51 c52 c53 c54 c55 c56 c57 c58 c59 c60 c61 c62 c63 c64 c65 c66 c67 c68 c69 c70 c71 c72 c73 c74 c75 c76 c77 c78 c79 c80 c81 c82 c83 c84 c85 c86 c87 c88 c89 c90 c91 c92 c93 c94 c95 c96 c97 c98 c99 c100 c101 c102 c103 c104 c105 c106 c107 c108 c109 c110 c111 c112 c113 c114 c115 c116 c117 c118 c119 c120 c121 c122 c123 c124 c125 c126 c127 c128 c129 c130 c131 c132 c133 c134 c135 c136 c137 c138 c139 c140 c141 c142 c143 c144 c145 c146 c147 c148 c149 c150 c151 c152 c153 c154 c155 c156 c157 c158 c159 c160 c161 c162 c163 c164 c165 c166 c167 c168 c169 c170 c171 c172 c173 c174 c175 c176 c177 c178 c179 c180 c181 c182 c183 c184 c185 c186 c187 c188 c189 c190 c191 c192 c193 c194 c195 c196 c197 c198 c199 c200 c201 c202 c203 c204 c205 c206 c207 c208 c209 c210 c211 c212 c213 c214 c215 c216 c217 c218 c219 c220 c221 c222 c223 c224 c225 c226 c227 c228 c229 c230 c231 c232 c233 c234 c235 c236 c237 c238 c239 c240 c241 c242 c243 c244 c245 c246 c247 c248 c249 c250 c251 c252 c253 c254 c255 c256 c257 c258 c259 c260 c261 c262 c263 c264 c265 c266 c267 c268 c269 c270 c271 c272 c273 c274 c275 c276 c277 c278 c279 c280 c281 c282 c283 c284 c285 c286 c287 c288 c289 c290 c291 c292 c293 c294 c295 c296 c297 c298 c299 c300 c301 c302 c303 c304 c305 c306 c307 c308 c309 c310 c311 c312 c313 c314 c315 c316 c317 c318 c319 c320 c321 c322 c323 c324 c325 c326 c327 c328 c329 c330 c331 c332 c333 c334 c335 c336 c337 c338 c339 : Value)
    (hs : Cells64 w0 gS 8 (fun j => st.getD j 0)) (hgS : gS < base) (ho : Owns w0 base 5 v0 []) (hbs : base ≤ w0.heap.size) (hb : Below base W1 w0)
    (hexit : ∀ (u23 u323 u324 u325 u326 u327 u328 u329 u330 u331 u332 u333 u334 : Value) (g cap : Nat) (w' : World), 8 * wide ≤ cap → (∀ j, j < 8 * wide → w'.cell? ⟨g, j, none⟩ = some (.int .u8 ((st.flatMap (Sha.bytesOf wd)).getD j 0 : Nat))) → Below base W1 w' → Q0 (.exit 14) ⟨#[c0, c1, c2, c3, c4, (.int .i64 (wide : Nat)), c6, (.slice (some ⟨gS, 0, none⟩) 8 cS), c8, c9, c10, c11, c12, c13, c14, c15, c16, c17, c18, c19, c20, c21, (.slice (some ⟨g, 0, none⟩) (8 * wide) cap), u23, c24, c25, c26, c27, c28, c29, c30, c31, c32, c33, c34, c35, c36, c37, c38, c39, c40, c41, c42, c43, c44, c45, c46, c47, c48, c49, c50, c51, c52, c53, c54, c55, c56, c57, c58, c59, c60, c61, c62, c63, c64, c65, c66, c67, c68, c69, c70, c71, c72, c73, c74, c75, c76, c77, c78, c79, c80, c81, c82, c83, c84, c85, c86, c87, c88, c89, c90, c91, c92, c93, c94, c95, c96, c97, c98, c99, c100, c101, c102, c103, c104, c105, c106, c107, c108, c109, c110, c111, c112, c113, c114, c115, c116, c117, c118, c119, c120, c121, c122, c123, c124, c125, c126, c127, c128, c129, c130, c131, c132, c133, c134, c135, c136, c137, c138, c139, c140, c141, c142, c143, c144, c145, c146, c147, c148, c149, c150, c151, c152, c153, c154, c155, c156, c157, c158, c159, c160, c161, c162, c163, c164, c165, c166, c167, c168, c169, c170, c171, c172, c173, c174, c175, c176, c177, c178, c179, c180, c181, c182, c183, c184, c185, c186, c187, c188, c189, c190, c191, c192, c193, c194, c195, c196, c197, c198, c199, c200, c201, c202, c203, c204, c205, c206, c207, c208, c209, c210, c211, c212, c213, c214, c215, c216, c217, c218, c219, c220, c221, c222, c223, c224, c225, c226, c227, c228, c229, c230, c231, c232, c233, c234, c235, c236, c237, c238, c239, c240, c241, c242, c243, c244, c245, c246, c247, c248, c249, c250, c251, c252, c253, c254, c255, c256, c257, c258, c259, c260, c261, c262, c263, c264, c265, c266, c267, c268, c269, c270, c271, c272, c273, c274, c275, c276, c277, c278, c279, c280, c281, c282, c283, c284, c285, c286, c287, c288, c289, c290, c291, c292, c293, c294, c295, c296, c297, c298, c299, c300, c301, c302, c303, c304, c305, c306, c307, c308, c309, c310, c311, c312, c313, c314, c315, c316, c317, c318, c319, c320, c321, c322, u323, u324, u325, u326, u327, u328, u329, u330, u331, u332, u333, u334, c335, c336, c337, c338, c339], []⟩ w') :
    Code.wp Try.prog (sumLoop 7) Q0 ⟨#[c0, c1, c2, c3, c4, (.int .i64 (wide : Nat)), c6, (.slice (some ⟨gS, 0, none⟩) 8 cS), c8, c9, c10, c11, c12, c13, c14, c15, c16, c17, c18, c19, c20, c21, v0, (.int .i64 0), c24, c25, c26, c27, c28, c29, c30, c31, c32, c33, c34, c35, c36, c37, c38, c39, c40, c41, c42, c43, c44, c45, c46, c47, c48, c49, c50, c51, c52, c53, c54, c55, c56, c57, c58, c59, c60, c61, c62, c63, c64, c65, c66, c67, c68, c69, c70, c71, c72, c73, c74, c75, c76, c77, c78, c79, c80, c81, c82, c83, c84, c85, c86, c87, c88, c89, c90, c91, c92, c93, c94, c95, c96, c97, c98, c99, c100, c101, c102, c103, c104, c105, c106, c107, c108, c109, c110, c111, c112, c113, c114, c115, c116, c117, c118, c119, c120, c121, c122, c123, c124, c125, c126, c127, c128, c129, c130, c131, c132, c133, c134, c135, c136, c137, c138, c139, c140, c141, c142, c143, c144, c145, c146, c147, c148, c149, c150, c151, c152, c153, c154, c155, c156, c157, c158, c159, c160, c161, c162, c163, c164, c165, c166, c167, c168, c169, c170, c171, c172, c173, c174, c175, c176, c177, c178, c179, c180, c181, c182, c183, c184, c185, c186, c187, c188, c189, c190, c191, c192, c193, c194, c195, c196, c197, c198, c199, c200, c201, c202, c203, c204, c205, c206, c207, c208, c209, c210, c211, c212, c213, c214, c215, c216, c217, c218, c219, c220, c221, c222, c223, c224, c225, c226, c227, c228, c229, c230, c231, c232, c233, c234, c235, c236, c237, c238, c239, c240, c241, c242, c243, c244, c245, c246, c247, c248, c249, c250, c251, c252, c253, c254, c255, c256, c257, c258, c259, c260, c261, c262, c263, c264, c265, c266, c267, c268, c269, c270, c271, c272, c273, c274, c275, c276, c277, c278, c279, c280, c281, c282, c283, c284, c285, c286, c287, c288, c289, c290, c291, c292, c293, c294, c295, c296, c297, c298, c299, c300, c301, c302, c303, c304, c305, c306, c307, c308, c309, c310, c311, c312, c313, c314, c315, c316, c317, c318, c319, c320, c321, c322, c323, c324, c325, c326, c327, c328, c329, c330, c331, c332, c333, c334, c335, c336, c337, c338, c339], []⟩ w0 := by
  have hwl : 4 ≤ wide ∧ wide ≤ 8 := by rcases hw4 with h | h <;> omega
  have HRB : Hid (∀ (x : Nat) (u : World), x < 2 ^ 64 → Calls Try.prog 38 #[.int .u64 (x : Nat), .int .i64 (wide : Nat)] u fun e w' => ∃ v, e = .returned v ∧ Owns w' u.heap.size 5 v (Sha.bytesOf wd x) ∧ Below u.heap.size u w') := fun x u hx => by
    have h := rbytesW x wide hx (by omega) u
    rw [rb_wide wide wd x hw4 hw8] at h
    exact h
  have HLB : Hid (∀ x, (Sha.bytesOf wd x).length = wide) := fun x => by rw [← rb_wide wide wd x hw4 hw8, length_rb]
  have HLT : Hid (∀ j, ((st.take j).flatMap (Sha.bytesOf wd)).length = (st.take j).length * wide) := fun j => by rw [Sha.length_flatMap_const]; congr 1; omega
  have HSS : Hid (∀ (w' : World), Below base w0 w' → Cells64 w' gS 8 (fun j => st.getD j 0)) := fun w' h j hj => (h.cell (p := ⟨gS, j, none⟩) hgS).trans (hs j hj)
  have HST8 := Lib.hid hst8
  have HSTL := Lib.hid hstl
  have HO0 := Lib.hid ho
  have HB0 := Lib.hid hb
  clear hw4 hw8 hst8 hstl hs ho hb
  dsimp only at hexit ⊢
  have HEX := Lib.hid hexit
  clear hexit
  conv => arg 2; whnf
  go_loopw [22, 23] (fun v vj wr => ∃ j : Nat, j ≤ 8 ∧ vj = .int .i64 (j : Nat) ∧ Owns wr base 5 v ((st.take j).flatMap (Sha.bytesOf wd)) ∧ base ≤ wr.heap.size ∧ Below base w0 wr) (fun _ vj _ => (8 - intOf vj).toNat)
  case atStart => exact ⟨0, by omega, rfl, HO0.out, hbs, Below.refl _ _⟩
  case round =>
    obtain ⟨j, hj, rfl, ho, hbs, hb⟩ := hrel
    have HO := Lib.hid ho
    have HB := Lib.hid hb
    have hjl : (st.take j).length = j := by rw [List.length_take, HST8.out]; omega
    have hlen := HLT.out j
    rw [hjl] at hlen
    have HLEN := Lib.hid hlen
    clear ho hb hjl hlen
    by_cases hlt : j < 8
    · obtain ⟨x, hx⟩ : ∃ x, x = st.getD j 0 := ⟨_, rfl⟩
      have hx64 : x < 2 ^ 64 := by rw [hx]; exact HSTL.out j
      have q1 : wr.cell? ⟨gS, j, none⟩ = some (.int .u64 (x : Nat)) := by rw [hx]; exact HSS.out wr HB.out j hlt
      have hnx : (st.take (j + 1)).flatMap (Sha.bytesOf wd) = (st.take j).flatMap (Sha.bytesOf wd) ++ Sha.bytesOf wd x := by rw [hx]; exact getD_flatMap_bytes wd st j (by rw [HST8.out]; exact hlt)
      have HNX := Lib.hid hnx
      have HC := Lib.hid (fun u => HRB.out x u hx64)
      clear hx hx64 hnx
      go_wp2_with fail
      refine (HC.out _).mono ?_
      rintro e w4 ⟨vr, rfl, hor, hbr⟩
      obtain ⟨g4, c4, rfl, hg4, _, hcr⟩ := hor.form (by rw [HLB.out]; omega)
      rw [HLB.out] at hcr ⊢
      have HO4 := Lib.hid (HO.out.grown (row := none) ⟨hbr.os, hbr.tape, hbr.output, hbr.size, fun k hk _ => hbr.block k hk⟩ (by rcases hv : Value.ownBlock _ <;> simp))
      have HB4 := Lib.hid (HB.out.trans (hbr.mono hbs))
      have hbs4 : base ≤ w4.heap.size := Nat.le_trans hbs hbr.size
      have HCR := Lib.hid hcr
      clear hor hbr hcr hg4 HC q1
      go_wp2_with (at_builtin; refine wpList_append_bytes rfl _ _ 42 rfl Try.underlying42 info5 rfl HO4.out ⟨g4, 0, none⟩ wide c4 (Sha.bytesOf wd x) rfl (HLB.out x) ?e1 ?e2 hbs4 ?_)
      case e1 => intro k hk; rw [addr_add00]; exact HCR.out k hk
      case e2 =>
        rw [HLEN.out]
        have : j * wide ≤ 8 * 8 := Nat.mul_le_mul hj hwl.2
        omega
      intro vm w5 ho5 hg5 _
      rw [← HNX.out] at ho5
      have HO5 := Lib.hid ho5
      have HB5 := Lib.hid (HB4.out.grown hg5 hbs4 (fun k hk => (HO4.out.block hk).1))
      have hbs5 : base ≤ w5.heap.size := Nat.le_trans hbs4 hg5.size
      clear ho5 hg5 HO4 HB4 HCR
      go_wp2_with fail
      exact ⟨⟨j + 1, by omega, rfl, HO5.out, hbs5, HB5.out⟩, by simp [intOf]; omega⟩
    · have hj8 : j = 8 := by omega
      have ho := HO.out
      have hlen := HLEN.out
      rw [hj8, List.take_of_length_le (by rw [HST8.out]; omega)] at ho
      rw [hj8, List.take_of_length_le (by rw [HST8.out]; omega)] at hlen
      obtain ⟨g, cap, rfl, hg, hcap, hcell⟩ := ho.form (by omega)
      rw [hlen] at hcap hcell ⊢
      have HC := Lib.hid hcell
      have HB2 := Lib.hid (HB0.out.trans HB.out)
      clear ho hlen hcell hj8
      go_wp2_with fail
      exact HEX.out _ _ _ _ _ _ _ _ _ _ _ _ _ g cap wr hcap HC.out HB2.out
end Go.Proofs.Ytjlhckgokdjajaa
