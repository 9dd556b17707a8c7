/- The reference's Sum, cut into declarations: the loop of the padding. (Written by gen_loops.py.)
   The reference's Sum, cut into declarations: the loop of the output. (Written by gen_loops.py.)
   The walk of the reference's Sum, of either kind, by its loops. (Written by gen_loops.py.)
   The reference's Sum and Mac by a kind's number. -/
import Derived.Test.YtilpbjcbffbjeaaGreatDoorPkM
import Derived.Test.YtilpbjcbffbjeaaGreatDoorPkL
namespace Go.Proofs.YtilpbjcbffbjeaaGreatDoor
set_option linter.unusedVariables false
open Go.RowKit
def slcN : Value → Nat
  | .slice _ n _ => n
  | _ => 0
set_option maxRecDepth 1000000 in
set_option maxHeartbeats 8000000 in
theorem padLoop (wide : Nat) (hw4 : wide = 4 ∨ wide = 8) (t : List Nat) (P : Nat) (hP : P = (2 * (16 * wide) - 1 - 2 * wide - t.length % (16 * wide)) % (16 * wide)) (ht : t.length ≤ 140737488354000) (base : Nat) (W1 w0 : World) (v0 : Value) (Q0 : Exit → Act → World → Prop) (c0 c1 c2 c3 c4 c7 c8 c9 c10 c11 c12 c13 c14 c15 c16 c17 c18 c19 c20 c21 c22 c23 c24 c25 c26 c27 c28 c29 c30 c31 c32 c33 c34 c35 c36 c37 c38 c39 c40 c41 c42 c43 c44 c45 c46 c47 c48 c49 c50 c51 c52 c53 c54 c55 c56 c57 c58 c59 c60 c61 c62 c63 c64 c65 c66 c67 c68 c69 c70 c71 c72 c73 c74 c75 c76 c77 c78 c79 c80 c81 c82 c83 c84 c85 c86 c87 c88 c89 c90 c91 c92 c93 c94 c95 c96 c97 c98 c99 c100 c101 c102 c103 c104 c105 c106 c107 c108 c109 c110 c111 c112 c113 c114 c115 c116 c117 c118 c119 c120 c121 c122 c123 c124 c125 c126 c127 c128 c129 c130 c131 c132 c133 c134 c135 c136 c137 c138 c139 c140 c141 c142 c143 c144 c145 c146 c147 c148 c149 c150 c151 c152 c153 c154 c155 c156 c157 c158 c159 c160 c161 c162 c163 c164 c165 c166 c167 c168 c169 c170 c171 c172 c173 c174 c175 c176 c177 c178 c179 c180 c181 c182 c183 c184 c185 c186 c187 c188 c189 c190 c191 c192 c193 c194 c195 c196 c197 c198 c199 c200 c201 c202 c203 c204 c205 c206 c207 c208 c209 c210 c211 c212 c213 c214 c215 c216 c217 c218 c219 c220 c221 c222 c223 c224 c225 c226 c227 c228 c229 c230 c231 c232 c233 c234 c235 c236 c237 c238 c239 c240 c241 c242 c243 c244 c245 c246 c247 c248 c249 c250 c251 c252 c253 c254 c255 c256 c257 c258 c259 c260 c261 c262 c263 c264 c265 c266 c267 c268 c269 c270 c271 c272 c273 c274 c275 c276 c277 c278 c279 c280 c281 c282 c283 c284 c285 c286 c287 c288 c289 c290 c291 c292 c293 c294 c295 c296 c297 c298 c299 c300 c301 c302 c303 c304 c305 c306 c307 c308 c309 c310 c311 c312 c313 c314 c315 c316 c317 c318 c319 c320 c321 c322 c323 c324 c325 c326 c327 c328 c329 c330 c331 c332 c333 c334 c335 c336 c337 c338 c339 : Value)
    (ho : Loose w0 base v0 (t ++ 128 :: List.replicate 0 0)) (hbs : base ≤ w0.heap.size) (hb : Below base W1 w0)
    (hexit : ∀ (u31 u32 u33 u34 u35 u36 u37 u38 u39 u40 u41 u42 : Value) (g cap : Nat) (w' : World), Loose w' base (.slice (some ⟨g, 0, none⟩) (t.length + 1 + P) cap) (t ++ 128 :: List.replicate P 0) → base ≤ w'.heap.size → Below base W1 w' → Q0 (.exit 0) ⟨#[c0, c1, c2, c3, c4, (.int .i64 (wide : Nat)), (.slice (some ⟨g, 0, none⟩) (t.length + 1 + P) cap), c7, c8, c9, c10, c11, c12, c13, c14, c15, c16, c17, c18, c19, c20, c21, c22, c23, c24, c25, c26, c27, c28, c29, c30, u31, u32, u33, u34, u35, u36, u37, u38, u39, u40, u41, u42, c43, c44, c45, c46, c47, c48, c49, c50, c51, c52, c53, c54, c55, c56, c57, c58, c59, c60, c61, c62, c63, c64, c65, c66, c67, c68, c69, c70, c71, c72, c73, c74, c75, c76, c77, c78, c79, c80, c81, c82, c83, c84, c85, c86, c87, c88, c89, c90, c91, c92, c93, c94, c95, c96, c97, c98, c99, c100, c101, c102, c103, c104, c105, c106, c107, c108, c109, c110, c111, c112, c113, c114, c115, c116, c117, c118, c119, c120, c121, c122, c123, c124, c125, c126, c127, c128, c129, c130, c131, c132, c133, c134, c135, c136, c137, c138, c139, c140, c141, c142, c143, c144, c145, c146, c147, c148, c149, c150, c151, c152, c153, c154, c155, c156, c157, c158, c159, c160, c161, c162, c163, c164, c165, c166, c167, c168, c169, c170, c171, c172, c173, c174, c175, c176, c177, c178, c179, c180, c181, c182, c183, c184, c185, c186, c187, c188, c189, c190, c191, c192, c193, c194, c195, c196, c197, c198, c199, c200, c201, c202, c203, c204, c205, c206, c207, c208, c209, c210, c211, c212, c213, c214, c215, c216, c217, c218, c219, c220, c221, c222, c223, c224, c225, c226, c227, c228, c229, c230, c231, c232, c233, c234, c235, c236, c237, c238, c239, c240, c241, c242, c243, c244, c245, c246, c247, c248, c249, c250, c251, c252, c253, c254, c255, c256, c257, c258, c259, c260, c261, c262, c263, c264, c265, c266, c267, c268, c269, c270, c271, c272, c273, c274, c275, c276, c277, c278, c279, c280, c281, c282, c283, c284, c285, c286, c287, c288, c289, c290, c291, c292, c293, c294, c295, c296, c297, c298, c299, c300, c301, c302, c303, c304, c305, c306, c307, c308, c309, c310, c311, c312, c313, c314, c315, c316, c317, c318, c319, c320, c321, c322, c323, c324, c325, c326, c327, c328, c329, c330, c331, c332, c333, c334, c335, c336, c337, c338, c339], []⟩ w') :
    Code.wp Tryz.prog (sumLoop 0) Q0 ⟨#[c0, c1, c2, c3, c4, (.int .i64 (wide : Nat)), v0, c7, c8, c9, c10, c11, c12, c13, c14, c15, c16, c17, c18, c19, c20, c21, c22, c23, c24, c25, c26, c27, c28, c29, c30, c31, c32, c33, c34, c35, c36, c37, c38, c39, c40, c41, c42, c43, c44, c45, c46, c47, c48, c49, c50, c51, c52, c53, c54, c55, c56, c57, c58, c59, c60, c61, c62, c63, c64, c65, c66, c67, c68, c69, c70, c71, c72, c73, c74, c75, c76, c77, c78, c79, c80, c81, c82, c83, c84, c85, c86, c87, c88, c89, c90, c91, c92, c93, c94, c95, c96, c97, c98, c99, c100, c101, c102, c103, c104, c105, c106, c107, c108, c109, c110, c111, c112, c113, c114, c115, c116, c117, c118, c119, c120, c121, c122, c123, c124, c125, c126, c127, c128, c129, c130, c131, c132, c133, c134, c135, c136, c137, c138, c139, c140, c141, c142, c143, c144, c145, c146, c147, c148, c149, c150, c151, c152, c153, c154, c155, c156, c157, c158, c159, c160, c161, c162, c163, c164, c165, c166, c167, c168, c169, c170, c171, c172, c173, c174, c175, c176, c177, c178, c179, c180, c181, c182, c183, c184, c185, c186, c187, c188, c189, c190, c191, c192, c193, c194, c195, c196, c197, c198, c199, c200, c201, c202, c203, c204, c205, c206, c207, c208, c209, c210, c211, c212, c213, c214, c215, c216, c217, c218, c219, c220, c221, c222, c223, c224, c225, c226, c227, c228, c229, c230, c231, c232, c233, c234, c235, c236, c237, c238, c239, c240, c241, c242, c243, c244, c245, c246, c247, c248, c249, c250, c251, c252, c253, c254, c255, c256, c257, c258, c259, c260, c261, c262, c263, c264, c265, c266, c267, c268, c269, c270, c271, c272, c273, c274, c275, c276, c277, c278, c279, c280, c281, c282, c283, c284, c285, c286, c287, c288, c289, c290, c291, c292, c293, c294, c295, c296, c297, c298, c299, c300, c301, c302, c303, c304, c305, c306, c307, c308, c309, c310, c311, c312, c313, c314, c315, c316, c317, c318, c319, c320, c321, c322, c323, c324, c325, c326, c327, c328, c329, c330, c331, c332, c333, c334, c335, c336, c337, c338, c339], []⟩ w0 := by
  have hwl : 4 ≤ wide ∧ wide ≤ 8 := by rcases hw4 with h | h <;> omega
  have HO0 := Lib.hid ho
  have HB0 := Lib.hid hb
  have HP := Lib.hid hP
  have HW4 := Lib.hid hw4
  have hP1 : P < 16 * wide := by rw [hP]; exact Nat.mod_lt _ (by omega)
  clear ho hb hP hw4
  dsimp only at hexit ⊢
  conv => arg 2; whnf
  obtain ⟨L, hL⟩ : ∃ L, L = t.length := ⟨_, rfl⟩
  have hLb : L ≤ 140737488354000 := by omega
  have HL := Lib.hid hL
  have HEX := Lib.hid hexit
  clear hL hexit ht
  go_loopw [6] (fun v wr => ∃ j : Nat, j ≤ P ∧ Loose wr base v (t ++ 128 :: List.replicate j 0) ∧ base ≤ wr.heap.size ∧ Below base W1 wr) (fun v _ => L + 400 - slcN v)
  case atStart => exact ⟨0, by omega, HO0.out, hbs, HB0.out⟩
  case round =>
    obtain ⟨j, hj, ho, hbs, hb⟩ := hrel
    obtain ⟨g, cap, rfl, hlo⟩ := ho
    have hlen : (t ++ 128 :: List.replicate j 0).length = L + 1 + j := by
      rw [List.length_append, List.length_cons, List.length_replicate, HL.out]; omega
    have ho : Loose wr base (.slice (some ⟨g, 0, none⟩) (L + 1 + j) cap) (t ++ 128 :: List.replicate j 0) := ⟨g, cap, by rw [hlen], hlo⟩
    rw [hlen]
    have HT := Lib.hid (show (t ++ 128 :: List.replicate j 0).length = L + 1 + j from hlen)
    obtain ⟨N, hN⟩ : ∃ N, N = L + 1 + j := ⟨_, rfl⟩
    rw [← hN] at ho hlen ⊢
    have hN1 : N ≤ L + 1 + j := by omega
    have hN2 : L + 1 + j ≤ N := by omega
    obtain ⟨l, hl⟩ : ∃ l, l = t ++ 128 :: List.replicate j 0 := ⟨_, rfl⟩
    rw [← hl] at ho hlen
    have HO := Lib.hid ho
    have HB := Lib.hid hb
    have HLEN := Lib.hid hlen
    have HLL := Lib.hid hl
    have HN := Lib.hid hN
    clear ho hb hlen hN hlo hl
    by_cases hlt : j < P
    · have hne : (((N : Int) + 2 * (wide : Int)) % (16 * (wide : Int)) != 0) = true := by
        have hP := HP.out
        rw [← HL.out] at hP
        rw [bne_iff_ne]
        rcases HW4.out with h | h <;> subst h <;> omega
      go_wp2_with (at_builtin; refine wpList_append_loose rfl _ _ 126 rfl Tryz.underlying126 info5 rfl (HO.out.alloc _) ⟨wr.heap.size, 0, none⟩ 1 1 [0] rfl rfl (by decide) ?d1 ?d2 ?d3 ?_)
      case d1 => intro k hk; obtain rfl : k = 0 := by omega
                 simp [Addr.add]
      case d2 => rw [HLEN.out]; omega
      case d3 => simp; omega
      intro v2 w4 ho4 hg4 _
      have hb4 : Below base W1 w4 := (HB.out.alloc hbs _).grown hg4 (by simp; omega) (fun k hk => (HO.out.block hk).1)
      have hbs4 : base ≤ w4.heap.size := by have := hg4.size; simp at this; omega
      have ho5 : Loose w4 base v2 (t ++ 128 :: List.replicate (j + 1) 0) := by
        rw [List.replicate_succ', ← List.cons_append, ← List.append_assoc, ← HLL.out]; exact ho4
      have hl5 : slcN v2 = N + 1 := by
        obtain ⟨g2, c2, rfl, _⟩ := ho4
        show (_ : List Nat).length = _
        rw [List.length_append, HLEN.out]; rfl
      have HO4 := Lib.hid ho5
      have HB4 := Lib.hid hb4
      have HL5 := Lib.hid hl5
      clear ho4 hb4 hg4 ho5 hl5 hne
      go_wp2_with fail
      exact ⟨⟨j + 1, by omega, HO4.out, hbs4, HB4.out⟩, by rw [HL5.out]; simp [slcN]; omega⟩
    · have hne : (((N : Int) + 2 * (wide : Int)) % (16 * (wide : Int)) != 0) = false := by
        have hP := HP.out
        rw [← HL.out] at hP
        rw [bne_eq_false_iff_eq]
        rcases HW4.out with h | h <;> subst h <;> omega
      have hjP : j = P := by omega
      have hfin : Loose wr base (.slice (some ⟨g, 0, none⟩) N cap) (t ++ 128 :: List.replicate P 0) := by rw [← hjP, ← HLL.out]; exact HO.out
      have hNP : N = t.length + 1 + P := by rw [HN.out, hjP, HL.out]
      have HFIN := Lib.hid hfin
      have HNP := Lib.hid hNP
      clear hfin hNP hjP
      go_wp2_with fail
      have hfin := HFIN.out
      have hNP := HNP.out
      subst hNP
      exact HEX.out _ _ _ _ _ _ _ _ _ _ _ _ g cap wr hfin hbs HB.out
end Go.Proofs.YtilpbjcbffbjeaaGreatDoor
namespace Go.Proofs.YtilpbjcbffbjeaaGreatDoor
set_option linter.unusedVariables false
open Go.RowKit
theorem addr_add00 (g k : Nat) : (⟨g, 0, none⟩ : Addr).add k = ⟨g, k, none⟩ := by unfold Addr.add; split <;> simp_all
theorem rb_wide (wide wd x : Nat) (hw4 : wide = 4 ∨ wide = 8) (hw8 : 8 * wide = wd) : rb x wide = Sha.bytesOf wd x := by
  rcases hw4 with rfl | rfl
  · subst hw8; exact rb_32 x
  · subst hw8; exact rb_64 x
set_option maxRecDepth 1000000 in
set_option maxHeartbeats 8000000 in
theorem toldLoop (wide : Nat) (hw4 : wide = 4 ∨ wide = 8) (wd : Nat) (hw8 : 8 * wide = wd) (gS cS : Nat) (st : List Nat) (hst8 : st.length = 8) (hstl : ∀ j, st.getD j 0 < 2 ^ 64) (base : Nat) (W1 w0 : World) (v0 : Value) (Q0 : Exit → Act → World → Prop) (c0 c1 c2 c3 c4 c6 c8 c9 c10 c11 c12 c13 c14 c15 c16 c17 c18 c19 c20 c21 c24 c25 c26 c27 c28 c29 c30 c31 c32 c33 c34 c35 c36 c37 c38 c39 c40 c41 c42 c43 c44 c45 c46 c47 c48 c49 c50 c51 c52 c53 c54 c55 c56 c57 c58 c59 c60 c61 c62 c63 c64 c65 c66 c67 c68 c69 c70 c71 c72 c73 c74 c75 c76 c77 c78 c79 c80 c81 c82 c83 c84 c85 c86 c87 c88 c89 c90 c91 c92 c93 c94 c95 c96 c97 c98 c99 c100 c101 c102 c103 c104 c105 c106 c107 c108 c109 c110 c111 c112 c113 c114 c115 c116 c117 c118 c119 c120 c121 c122 c123 c124 c125 c126 c127 c128 c129 c130 c131 c132 c133 c134 c135 c136 c137 c138 c139 c140 c141 c142 c143 c144 c145 c146 c147 c148 c149 c150 c151 c152 c153 c154 c155 c156 c157 c158 c159 c160 c161 c162 c163 c164 c165 c166 c167 c168 c169 c170 c171 c172 c173 c174 c175 c176 c177 c178 c179 c180 c181 c182 c183 c184 c185 c186 c187 c188 c189 c190 c191 c192 c193 c194 c195 c196 c197 c198 c199 c200 c201 c202 c203 c204 c205 c206 c207 c208 c209 c210 c211 c212 c213 c214 c215 c216 c217 c218 c219 c220 c221 c222 c223 c224 c225 c226 c227 c228 c229 c230 c231 c232 c233 c234 c235 c236 c237 c238 c239 c240 c241 c242 c243 c244 c245 c246 c247 c248 c249 c250 c251 c252 c253 c254 c255 c256 c257 c258 c259 c260 c261 c262 c263 c264 c265 c266 c267 c268 c269 c270 c271 c272 c273 c274 c275 c276 c277 c278 c279 c280 c281 c282 c283 c284 c285 c286 c287 c288 c289 c290 c291 c292 c293 c294 c295 c296 c297 c298 c299 c300 c301 c302 c303 c304 c305 c306 c307 c308 c309 c310 c311 c312 c313 c314 c315 c316 c317 c318 c319 c320 c321 c322 c323 c324 c325 c326 c327 c328 c329 c330 c331 c332 c333 c334 c335 c336 c337 c338 c339 : Value)
    (hs : Cells64 w0 gS 8 (fun j => st.getD j 0)) (hgS : gS < base) (ho : Owns w0 base 5 v0 []) (hbs : base ≤ w0.heap.size) (hb : Below base W1 w0)
    (hexit : ∀ (u23 u323 u324 u325 u326 u327 u328 u329 u330 u331 u332 u333 u334 : Value) (g cap : Nat) (w' : World), 8 * wide ≤ cap → (∀ j, j < 8 * wide → w'.cell? ⟨g, j, none⟩ = some (.int .u8 ((st.flatMap (Sha.bytesOf wd)).getD j 0 : Nat))) → Below base W1 w' → Q0 (.exit 14) ⟨#[c0, c1, c2, c3, c4, (.int .i64 (wide : Nat)), c6, (.slice (some ⟨gS, 0, none⟩) 8 cS), c8, c9, c10, c11, c12, c13, c14, c15, c16, c17, c18, c19, c20, c21, (.slice (some ⟨g, 0, none⟩) (8 * wide) cap), u23, c24, c25, c26, c27, c28, c29, c30, c31, c32, c33, c34, c35, c36, c37, c38, c39, c40, c41, c42, c43, c44, c45, c46, c47, c48, c49, c50, c51, c52, c53, c54, c55, c56, c57, c58, c59, c60, c61, c62, c63, c64, c65, c66, c67, c68, c69, c70, c71, c72, c73, c74, c75, c76, c77, c78, c79, c80, c81, c82, c83, c84, c85, c86, c87, c88, c89, c90, c91, c92, c93, c94, c95, c96, c97, c98, c99, c100, c101, c102, c103, c104, c105, c106, c107, c108, c109, c110, c111, c112, c113, c114, c115, c116, c117, c118, c119, c120, c121, c122, c123, c124, c125, c126, c127, c128, c129, c130, c131, c132, c133, c134, c135, c136, c137, c138, c139, c140, c141, c142, c143, c144, c145, c146, c147, c148, c149, c150, c151, c152, c153, c154, c155, c156, c157, c158, c159, c160, c161, c162, c163, c164, c165, c166, c167, c168, c169, c170, c171, c172, c173, c174, c175, c176, c177, c178, c179, c180, c181, c182, c183, c184, c185, c186, c187, c188, c189, c190, c191, c192, c193, c194, c195, c196, c197, c198, c199, c200, c201, c202, c203, c204, c205, c206, c207, c208, c209, c210, c211, c212, c213, c214, c215, c216, c217, c218, c219, c220, c221, c222, c223, c224, c225, c226, c227, c228, c229, c230, c231, c232, c233, c234, c235, c236, c237, c238, c239, c240, c241, c242, c243, c244, c245, c246, c247, c248, c249, c250, c251, c252, c253, c254, c255, c256, c257, c258, c259, c260, c261, c262, c263, c264, c265, c266, c267, c268, c269, c270, c271, c272, c273, c274, c275, c276, c277, c278, c279, c280, c281, c282, c283, c284, c285, c286, c287, c288, c289, c290, c291, c292, c293, c294, c295, c296, c297, c298, c299, c300, c301, c302, c303, c304, c305, c306, c307, c308, c309, c310, c311, c312, c313, c314, c315, c316, c317, c318, c319, c320, c321, c322, u323, u324, u325, u326, u327, u328, u329, u330, u331, u332, u333, u334, c335, c336, c337, c338, c339], []⟩ w') :
    Code.wp Tryz.prog (sumLoop 7) Q0 ⟨#[c0, c1, c2, c3, c4, (.int .i64 (wide : Nat)), c6, (.slice (some ⟨gS, 0, none⟩) 8 cS), c8, c9, c10, c11, c12, c13, c14, c15, c16, c17, c18, c19, c20, c21, v0, (.int .i64 0), c24, c25, c26, c27, c28, c29, c30, c31, c32, c33, c34, c35, c36, c37, c38, c39, c40, c41, c42, c43, c44, c45, c46, c47, c48, c49, c50, c51, c52, c53, c54, c55, c56, c57, c58, c59, c60, c61, c62, c63, c64, c65, c66, c67, c68, c69, c70, c71, c72, c73, c74, c75, c76, c77, c78, c79, c80, c81, c82, c83, c84, c85, c86, c87, c88, c89, c90, c91, c92, c93, c94, c95, c96, c97, c98, c99, c100, c101, c102, c103, c104, c105, c106, c107, c108, c109, c110, c111, c112, c113, c114, c115, c116, c117, c118, c119, c120, c121, c122, c123, c124, c125, c126, c127, c128, c129, c130, c131, c132, c133, c134, c135, c136, c137, c138, c139, c140, c141, c142, c143, c144, c145, c146, c147, c148, c149, c150, c151, c152, c153, c154, c155, c156, c157, c158, c159, c160, c161, c162, c163, c164, c165, c166, c167, c168, c169, c170, c171, c172, c173, c174, c175, c176, c177, c178, c179, c180, c181, c182, c183, c184, c185, c186, c187, c188, c189, c190, c191, c192, c193, c194, c195, c196, c197, c198, c199, c200, c201, c202, c203, c204, c205, c206, c207, c208, c209, c210, c211, c212, c213, c214, c215, c216, c217, c218, c219, c220, c221, c222, c223, c224, c225, c226, c227, c228, c229, c230, c231, c232, c233, c234, c235, c236, c237, c238, c239, c240, c241, c242, c243, c244, c245, c246, c247, c248, c249, c250, c251, c252, c253, c254, c255, c256, c257, c258, c259, c260, c261, c262, c263, c264, c265, c266, c267, c268, c269, c270, c271, c272, c273, c274, c275, c276, c277, c278, c279, c280, c281, c282, c283, c284, c285, c286, c287, c288, c289, c290, c291, c292, c293, c294, c295, c296, c297, c298, c299, c300, c301, c302, c303, c304, c305, c306, c307, c308, c309, c310, c311, c312, c313, c314, c315, c316, c317, c318, c319, c320, c321, c322, c323, c324, c325, c326, c327, c328, c329, c330, c331, c332, c333, c334, c335, c336, c337, c338, c339], []⟩ w0 := by
  have hwl : 4 ≤ wide ∧ wide ≤ 8 := by rcases hw4 with h | h <;> omega
  have HRB : Hid (∀ (x : Nat) (u : World), x < 2 ^ 64 → Calls Tryz.prog 164 #[.int .u64 (x : Nat), .int .i64 (wide : Nat)] u fun e w' => ∃ v, e = .returned v ∧ Owns w' u.heap.size 5 v (Sha.bytesOf wd x) ∧ Below u.heap.size u w') := fun x u hx => by
    have h := rbytesW x wide hx (by omega) u
    rw [rb_wide wide wd x hw4 hw8] at h
    exact h
  have HLB : Hid (∀ x, (Sha.bytesOf wd x).length = wide) := fun x => by rw [← rb_wide wide wd x hw4 hw8, length_rb]
  have HLT : Hid (∀ j, ((st.take j).flatMap (Sha.bytesOf wd)).length = (st.take j).length * wide) := fun j => by rw [Sha.length_flatMap_const]; congr 1; omega
  have HSS : Hid (∀ (w' : World), Below base w0 w' → Cells64 w' gS 8 (fun j => st.getD j 0)) := fun w' h j hj => (h.cell (p := ⟨gS, j, none⟩) hgS).trans (hs j hj)
  have HST8 := Lib.hid hst8
  have HSTL := Lib.hid hstl
  have HO0 := Lib.hid ho
  have HB0 := Lib.hid hb
  clear hw4 hw8 hst8 hstl hs ho hb
  dsimp only at hexit ⊢
  have HEX := Lib.hid hexit
  clear hexit
  conv => arg 2; whnf
  go_loopw [22, 23] (fun v vj wr => ∃ j : Nat, j ≤ 8 ∧ vj = .int .i64 (j : Nat) ∧ Owns wr base 5 v ((st.take j).flatMap (Sha.bytesOf wd)) ∧ base ≤ wr.heap.size ∧ Below base w0 wr) (fun _ vj _ => (8 - intOf vj).toNat)
  case atStart => exact ⟨0, by omega, rfl, HO0.out, hbs, Below.refl _ _⟩
  case round =>
    obtain ⟨j, hj, rfl, ho, hbs, hb⟩ := hrel
    have HO := Lib.hid ho
    have HB := Lib.hid hb
    have hjl : (st.take j).length = j := by rw [List.length_take, HST8.out]; omega
    have hlen := HLT.out j
    rw [hjl] at hlen
    have HLEN := Lib.hid hlen
    clear ho hb hjl hlen
    by_cases hlt : j < 8
    · obtain ⟨x, hx⟩ : ∃ x, x = st.getD j 0 := ⟨_, rfl⟩
      have hx64 : x < 2 ^ 64 := by rw [hx]; exact HSTL.out j
      have q1 : wr.cell? ⟨gS, j, none⟩ = some (.int .u64 (x : Nat)) := by rw [hx]; exact HSS.out wr HB.out j hlt
      have hnx : (st.take (j + 1)).flatMap (Sha.bytesOf wd) = (st.take j).flatMap (Sha.bytesOf wd) ++ Sha.bytesOf wd x := by rw [hx]; exact getD_flatMap_bytes wd st j (by rw [HST8.out]; exact hlt)
      have HNX := Lib.hid hnx
      have HC := Lib.hid (fun u => HRB.out x u hx64)
      clear hx hx64 hnx
      go_wp2_with fail
      refine (HC.out _).mono ?_
      rintro e w4 ⟨vr, rfl, hor, hbr⟩
      obtain ⟨g4, c4, rfl, hg4, _, hcr⟩ := hor.form (by rw [HLB.out]; omega)
      rw [HLB.out] at hcr ⊢
      have HO4 := Lib.hid (HO.out.grown (row := none) ⟨hbr.os, hbr.tape, hbr.output, hbr.size, fun k hk _ => hbr.block k hk⟩ (by rcases hv : Value.ownBlock _ <;> simp))
      have HB4 := Lib.hid (HB.out.trans (hbr.mono hbs))
      have hbs4 : base ≤ w4.heap.size := Nat.le_trans hbs hbr.size
      have HCR := Lib.hid hcr
      clear hor hbr hcr hg4 HC q1
      go_wp2_with (at_builtin; refine wpList_append_bytes rfl _ _ 126 rfl Tryz.underlying126 info5 rfl HO4.out ⟨g4, 0, none⟩ wide c4 (Sha.bytesOf wd x) rfl (HLB.out x) ?e1 ?e2 hbs4 ?_)
      case e1 => intro k hk; rw [addr_add00]; exact HCR.out k hk
      case e2 =>
        rw [HLEN.out]
        have : j * wide ≤ 8 * 8 := Nat.mul_le_mul hj hwl.2
        omega
      intro vm w5 ho5 hg5 _
      rw [← HNX.out] at ho5
      have HO5 := Lib.hid ho5
      have HB5 := Lib.hid (HB4.out.grown hg5 hbs4 (fun k hk => (HO4.out.block hk).1))
      have hbs5 : base ≤ w5.heap.size := Nat.le_trans hbs4 hg5.size
      clear ho5 hg5 HO4 HB4 HCR
      go_wp2_with fail
      exact ⟨⟨j + 1, by omega, rfl, HO5.out, hbs5, HB5.out⟩, by simp [intOf]; omega⟩
    · have hj8 : j = 8 := by omega
      have ho := HO.out
      have hlen := HLEN.out
      rw [hj8, List.take_of_length_le (by rw [HST8.out]; omega)] at ho
      rw [hj8, List.take_of_length_le (by rw [HST8.out]; omega)] at hlen
      obtain ⟨g, cap, rfl, hg, hcap, hcell⟩ := ho.form (by omega)
      rw [hlen] at hcap hcell ⊢
      have HC := Lib.hid hcell
      have HB2 := Lib.hid (HB0.out.trans HB.out)
      clear ho hlen hcell hj8
      go_wp2_with fail
      exact HEX.out _ _ _ _ _ _ _ _ _ _ _ _ _ g cap wr hcap HC.out HB2.out
end Go.Proofs.YtilpbjcbffbjeaaGreatDoor
namespace Go.Proofs.YtilpbjcbffbjeaaGreatDoor
set_option linter.unusedVariables false
open Go.RowKit
/-- What more a kind's cells say. -/
structure KMore (κ : Sha.Kind) (cs : Array Value) (wide : Nat) (gF cF : Nat) : Prop where
  h0 : cs[0]? = some (.int .i64 (κ.w : Nat))
  h2 : cs[2]? = some (.int .i64 (κ.size : Nat))
  h16 : cs[16]? = some (.slice (some ⟨gF, 0, none⟩) 8 cF)
  fin : κ.fin = 2 * wide
  size : κ.size ≤ 8 * wide
  msg : ∀ t : List Nat, t.length ≤ 140737488354000 → (t ++ 128 :: List.replicate (Sha.padN κ t.length) 0) ++ rb (8 * t.length) (2 * wide) = t ++ Sha.pad κ t.length
  whole : ∀ n, (n + 1 + Sha.padN κ n + 2 * wide) % (16 * wide) = 0
set_option maxRecDepth 1000000 in
set_option maxHeartbeats 8000000 in
theorem rsumW (κ : Sha.Kind) (cs : Array Value) (R wide gK cK gF cF : Nat) (ka : KAll κ cs R wide gK cK) (kb : KMore κ cs wide gF cF) (s : ByteArray) (w : World)
    (hk : Cells64 w gK R (fun j => κ.keys.getD j 0)) (hf : Cells64 w gF 8 (fun j => κ.init.getD j 0)) (hs : s.size ≤ 140737488354000) :
    Calls Tryz.prog 143 #[.agg cs, .string s] w fun e w' => e = .returned (.string (strOf (Sha.sum κ (bs s)))) ∧ Below w.heap.size w w' := by
  have hwl : 4 ≤ wide ∧ wide ≤ 8 := by rcases ka.w4 with h | h <;> omega
  obtain ⟨wd, hwd⟩ : ∃ x, x = κ.w := ⟨_, rfl⟩
  have hwd8 : wd = 8 * wide := by rw [hwd, ka.w8]
  have hwq : (wd : Int) / 8 = (wide : Int) := by omega
  have hwd64 : wd ≤ 64 := by omega
  obtain ⟨P, hP⟩ : ∃ P, P = Sha.padN κ s.size := ⟨_, rfl⟩
  have hP0 : P = (2 * (16 * wide) - 1 - 2 * wide - (bs s).length % (16 * wide)) % (16 * wide) := by rw [hP]; unfold Sha.padN; rw [kb.fin, ka.bk, length_bs]
  have hPl : P < 16 * wide := by rw [hP0]; exact Nat.mod_lt _ (by omega)
  obtain ⟨W1, hW1⟩ : ∃ v, v = w.alloc (.cells cs 230) := ⟨_, rfl⟩
  have hblk : W1.heap[w.heap.size]? = some (.cells cs 230 (0, 0)) := by rw [hW1]; exact heap_at rfl
  have hsz : W1.heap.size = w.heap.size + 1 := by rw [hW1]; simp
  have hbw : Below w.heap.size w W1 := by rw [hW1]; exact (Below.refl _ _).alloc (Nat.le_refl _) _
  have hc0 : (w.alloc (.cells cs 230)).cell? ⟨w.heap.size, 0, none⟩ = some (.int .i64 (wd : Nat)) := by rw [cell_of_row _ _ 0 _ _ _ (heap_at rfl), kb.h0, hwd]
  have HK := Lib.hid (hk.below hbw)
  have HF := Lib.hid (hf.below hbw)
  have HW1 := Lib.hid hW1
  have HBW := Lib.hid hbw
  have HSZ := Lib.hid hsz
  have HBLK := Lib.hid hblk
  have KA := Lib.hid ka
  have KB := Lib.hid kb
  have HWD := Lib.hid hwd
  have HP := Lib.hid hP
  have HP0 := Lib.hid hP0
  have hR1 := ka.R1
  clear hk hf hW1 hbw hsz hblk ka kb hwd hP hP0 hwd8
  go_enter Tryz.func143, Tryz.ntmps143
  go_wp2_with (with_reducible refine wpList_string_bytes (o := ⟨some 28, _, _, _, _, _⟩) rfl 9 126 _ rfl Tryz.underlying9 Tryz.underlying126 Tryz.underlying5 s rfl ?_)
  intro vb w2 ho2 hb2
  rw [← HW1.out] at hb2
  obtain ⟨base, hbase⟩ : ∃ b, b = w.heap.size := ⟨_, rfl⟩
  rw [← hbase] at ho2 hb2
  have hbs2 : base + 1 ≤ w2.heap.size := by have := hb2.size; rw [HSZ.out, ← hbase] at this; exact this
  have HO2 := Lib.hid ho2
  have HB2 := Lib.hid hb2
  have HBASE := Lib.hid hbase
  clear ho2 hb2 hc0
  rw [← hbase]
  clear hbase
  go_wp2_with (at_builtin; refine wpList_append_loose rfl _ _ 126 rfl Tryz.underlying126 info5 rfl (HO2.out.alloc _) ⟨w2.heap.size, 0, none⟩ 1 1 [128] rfl rfl (by decide) ?c1 ?c2 ?c3 ?_)
  case c1 => intro j hj; obtain rfl : j = 0 := by omega
             simp [Addr.add]
  case c2 => rw [length_bs]; omega
  case c3 => simp; omega
  intro v' w3 ho3 hg3 hv3
  have hb3 : Below (base + 1) W1 w3 := (HB2.out.alloc (by omega) _).grown hg3 (by simp; omega) (fun k hk => (HO2.out.block hk).1)
  have hbs3 : base + 1 ≤ w3.heap.size := by have := hg3.size; simp at this; omega
  have HO3 := Lib.hid ho3
  have HB3 := Lib.hid hb3
  clear ho3 hb3 hg3 hv3 HO2 HB2 hbs2
  go_wp2_with fail
  refine padLoop wide KA.out.w4 (bs s) P HP0.out (by rw [length_bs]; exact hs) (base + 1) W1 w3 v' _ _ _ _ _ _ _ _ _ _ _ _ _ _ _ _ _ _ _ _ _ _ _ _ _ _ _ _ _ _ _ _ _ _ _ _ _ _ _ _ _ _ _ _ _ _ _ _ _ _ _ _ _ _ _ _ _ _ _ _ _ _ _ _ _ _ _ _ _ _ _ _ _ _ _ _ _ _ _ _ _ _ _ _ _ _ _ _ _ _ _ _ _ _ _ _ _ _ _ _ _ _ _ _ _ _ _ _ _ _ _ _ _ _ _ _ _ _ _ _ _ _ _ _ _ _ _ _ _ _ _ _ _ _ _ _ _ _ _ _ _ _ _ _ _ _ _ _ _ _ _ _ _ _ _ _ _ _ _ _ _ _ _ _ _ _ _ _ _ _ _ _ _ _ _ _ _ _ _ _ _ _ _ _ _ _ _ _ _ _ _ _ _ _ _ _ _ _ _ _ _ _ _ _ _ _ _ _ _ _ _ _ _ _ _ _ _ _ _ _ _ _ _ _ _ _ _ _ _ _ _ _ _ _ _ _ _ _ _ _ _ _ _ _ _ _ _ _ _ _ _ _ _ _ _ _ _ _ _ _ _ _ _ _ _ _ _ _ _ _ _ _ _ _ _ _ _ _ _ _ _ _ _ _ _ _ _ _ _ _ _ _ _ _ _ _ _ _ _ _ _ _ _ _ _ _ _ _ _ _ _ _ _ _ _ _ _ _ _ _ _ _ _ _ _ _ _ _ _ _ _ _ _ _ _ _ _ _ _ HO3.out hbs3 HB3.out ?_
  intro u31 u32 u33 u34 u35 u36 u37 u38 u39 u40 u41 u42 g cap w4 ho4 hbs4 hb4
  obtain ⟨N, hN⟩ : ∃ N, N = (bs s).length + 1 + P := ⟨_, rfl⟩
  rw [← hN] at ho4 ⊢
  rw [length_bs] at hN
  have hNb : N ≤ 140737488354130 := by omega
  obtain ⟨l, hl⟩ : ∃ l, l = bs s ++ 128 :: List.replicate P 0 := ⟨_, rfl⟩
  have hll : l.length = N := by rw [hl, List.length_append, List.length_cons, List.length_replicate, length_bs]; omega
  have hmsg : l ++ rb (8 * s.size) (2 * wide) = bs s ++ Sha.pad κ (bs s).length := by
    have h := KB.out.msg (bs s) (by rw [length_bs]; exact hs)
    rw [length_bs] at h ⊢
    rw [hl, HP.out]
    exact h
  have hMl : (bs s ++ Sha.pad κ (bs s).length).length = N + 2 * wide := by rw [← hmsg, List.length_append, hll, length_rb]
  rw [← hl] at ho4
  have hwh : (N + 2 * wide) % (16 * wide) = 0 := by have := KB.out.whole s.size; rw [← HP.out, show s.size + 1 + P = N by omega] at this; exact this
  have hrb : ∀ u : World, Calls Tryz.prog 164 #[.int .u64 ((8 * s.size : Nat) : Int), .int .i64 ((2 * wide : Nat) : Int)] u fun e w' => ∃ v, e = .returned v ∧ Owns w' u.heap.size 5 v (rb (8 * s.size) (2 * wide)) ∧ Below u.heap.size u w' := fun u => rbytesW (8 * s.size) (2 * wide) (by omega) (by omega) u
  have HO4 := Lib.hid ho4
  have HB4 := Lib.hid hb4
  have HLL := Lib.hid hll
  have HMSG := Lib.hid hmsg
  have HML := Lib.hid hMl
  have HWH := Lib.hid hwh
  have HRB := Lib.hid hrb
  clear ho4 hb4 hl hll hmsg hMl hwh hrb hN HO3 HB3 hbs3
  go_wp2_with fail
  rw [show (8 * (s.size : Int)) = ((8 * s.size : Nat) : Int) by omega, show (2 * (wide : Int)) = ((2 * wide : Nat) : Int) by omega]
  refine (HRB.out _).mono ?_
  rintro e w5 ⟨vr, rfl, hor, hbr⟩
  obtain ⟨g4, c4, rfl, hg4, _, hcr⟩ := hor.form (by rw [length_rb]; omega)
  rw [length_rb] at hcr ⊢
  have HO5 := Lib.hid (HO4.out.below hbr)
  have HB5 := Lib.hid (HB4.out.trans (hbr.mono hbs4))
  have hbs5 : base + 1 ≤ w5.heap.size := Nat.le_trans hbs4 hbr.size
  have HCR := Lib.hid hcr
  clear hor hbr hcr hg4 HRB HO4 HB4
  obtain ⟨lr, hlr⟩ : ∃ l, l = rb (8 * s.size) (2 * wide) := ⟨_, rfl⟩
  rw [← hlr] at HCR HMSG
  have hlr8 : lr.length = 2 * wide := by rw [hlr, length_rb]
  have HLR := Lib.hid hlr8
  clear hlr hlr8
  go_wp2_with (at_builtin; refine wpList_append_loose rfl _ _ 126 rfl Tryz.underlying126 info5 rfl HO5.out ⟨g4, 0, none⟩ (2 * wide) c4 lr ?e0 HLR.out (by omega) ?e1 ?e2 hbs5 ?_)
  case e0 => rfl
  case e1 => intro k hk; rw [addr_add0]; exact HCR.out k hk
  case e2 => rw [HLL.out]; omega
  intro vm w6 ho6 hg6 _
  rw [HMSG.out] at ho6
  have HB6 := Lib.hid (HB5.out.grown hg6 hbs5 (fun k hk => (HO5.out.block hk).1))
  have hbs6 : base + 1 ≤ w6.heap.size := Nat.le_trans hbs5 hg6.size
  obtain ⟨M, hM⟩ : ∃ M, M = bs s ++ Sha.pad κ (bs s).length := ⟨_, rfl⟩
  rw [← hM] at ho6 HML
  have HO6 := Lib.hid ho6
  have HMM := Lib.hid hM
  clear ho6 hg6 hM HO5 HB5 HCR HLR HMSG
  have HCELL : Hid (∀ (wt : World) (j : Nat) (v : Value), Below (base + 1) W1 wt → cs[j]? = some v → wt.cell? ⟨base, j, none⟩ = some v) := fun wt j v hb hv => by
    have h1 := HBASE.out
    subst h1
    exact (hb.cell (p := ⟨w.heap.size, j, none⟩) (by show w.heap.size < w.heap.size + 1; omega)).trans ((cell_of_row _ _ j _ _ _ HBLK.out).trans hv)
  have hc16 := HCELL.out (w6.alloc (.cells #[] 199)) 16 _ (HB6.out.alloc hbs6 _) KB.out.h16
  have HFLT : Hid (∀ j, j < 8 → gF < base + 1) := fun j hj => by have := block_lt_of_cell (HF.out j hj); rw [HSZ.out, ← HBASE.out] at this; exact this
  have hcF : Cells64 w6 gF 8 (fun j => κ.init.getD j 0) := fun j hj => (HB6.out.cell (HFLT.out j hj)).trans (HF.out j hj)
  have HCF := Lib.hid (hcF.below ((Below.refl w6.heap.size w6).alloc (Nat.le_refl _) (.cells #[] 199)))
  have hi8 : κ.init.length = 8 := KA.out.i8
  have HI8 := Lib.hid hi8
  clear hcF hi8
  go_wp2_with (at_builtin; refine wpList_append_u64 rfl _ _ 228 rfl Tryz.underlying228 info58 rfl (Owns64.lit (base := w6.heap.size) w6 [] #[] (Nat.le_refl _) rfl (by decide)) ⟨gF, 0, none⟩ 8 cF κ.init rfl HI8.out ?f1 ?f2 ?f3 ?_)
  case f1 => intro k hk; rw [addr_add0]; exact HCF.out k hk
  case f2 => decide
  case f3 => simp
  intro vs w7 ho7 hg7 _
  obtain ⟨gS, cS, rfl, hgS, _, hcS, hfS⟩ := ho7.form (by show 0 < κ.init.length; rw [HI8.out]; decide)
  have hb67 : Below w6.heap.size w6 w7 := ((Below.refl _ _).alloc (Nat.le_refl _) _).grown hg7 (by simp) (fun k hk => by simp [Value.ownBlock] at hk; omega)
  have hl8 : κ.init.length = 8 := HI8.out
  have hcS8 : Cells64 w7 gS 8 (fun j => κ.init.getD j 0) := fun j hj => hcS j (by rw [hl8]; exact hj)
  rw [hl8]
  have hmb := fun g hg => HO6.out.block (k := g) hg
  have HO7 := Lib.hid (HO6.out.below hb67)
  have HB7 := Lib.hid (HB6.out.trans (hb67.mono hbs6))
  have hbs7 : base + 1 ≤ w7.heap.size := Nat.le_trans hbs6 hb67.size
  have hgS1 : base + 1 ≤ gS := Nat.le_trans hbs6 hgS
  have hgS2 : gS < w7.heap.size := block_lt_of_cell (hcS8 0 (by decide))
  obtain ⟨gM, cM, rfl, hlm⟩ := HO7.out
  have hgM : gM ≠ gS := by have := (hmb gM rfl).2; omega
  have HMC := Lib.hid hlm.cells
  have hgM2 : gM < w7.heap.size := hlm.lt
  have hM8 : M.length = N + 2 * wide := HML.out
  obtain ⟨ML, hML⟩ : ∃ ML, ML = M.length := ⟨_, rfl⟩
  rw [← hML] at HMC hM8 ⊢
  have hMLb : ML ≤ 200000000000000 := by omega
  obtain ⟨nb, hnb⟩ : ∃ nb, nb = ML / (16 * wide) := ⟨_, rfl⟩
  have hML64 : ML = 16 * wide * nb := by
    have h1 := HWH.out
    rw [← hM8] at h1
    have h2 := Nat.div_add_mod ML (16 * wide)
    rw [h1, ← hnb] at h2
    omega
  have HNB := Lib.hid hnb
  have HMLL := Lib.hid hML
  have HM64 := Lib.hid hML64
  have HM256 : Hid (∀ c ∈ M, c < 256) := fun c hc => by
    rw [HMM.out] at hc
    rcases List.mem_append.1 hc with h | h
    · exact bs_lt s c h
    · exact Sha.pad_lt _ _ c h
  have HCS8 := Lib.hid hcS8
  have HFS := Lib.hid hfS
  clear ho7 hg7 hcS hfS hcS8 hmb hlm hb67 HB6 HO6 HO7 HCF hc16 hgS hM8 hML hl8 hnb hML64
  go_wp2_with fail
  have hblk7 : w7.heap[base]? = some (.cells cs 230 (0, 0)) := by
    have h1 := HBASE.out
    subst h1
    exact (HB7.out.block w.heap.size (by omega)).trans HBLK.out
  have hkey7 : Cells64 w7 gK R (fun j => κ.keys.getD j 0) := fun j hj => (HB7.out.cell (by have := block_lt_of_cell (HK.out j hj); rw [HSZ.out, ← HBASE.out] at this; exact this)).trans (HK.out j hj)
  have hgK : gK ≠ gS := by
    have h1 := KA.out.R0
    have := block_lt_of_cell (HK.out 0 (by omega))
    rw [HSZ.out, ← HBASE.out] at this
    intro e
    have : gK < base + 1 := this
    omega
  refine blockLoop κ cs R wide gK cK KA.out base gM ML cM gS cS nb hMLb HM64.out M HMLL.out.symm HM256.out w7 _ _ _ _ _ _ _ _ _ _ _ _ _ _ _ _ _ _ _ _ _ _ _ _ _ _ _ _ _ _ _ _ _ _ _ _ _ _ _ _ _ _ _ _ _ _ _ _ _ _ _ _ _ _ _ _ _ _ _ _ _ _ _ _ _ _ _ _ _ _ _ _ _ _ _ _ _ _ _ _ _ _ _ _ _ _ _ _ _ _ _ _ _ _ _ _ _ _ _ _ _ _ _ _ _ _ _ _ _ _ _ _ _ _ _ _ _ _ _ _ _ _ _ _ _ _ _ _ _ _ _ _ _ _ _ _ _ _ _ _ _ _ _ _ _ _ _ _ _ _ _ _ _ _ _ _ _ _ _ _ _ _ _ _ _ _ _ _ _ _ _ _ _ _ _ _ _ _ _ _ _ _ _ _ _ _ _ _ _ _ _ _ _ _ _ _ _ _ _ _ _ _ _ _ _ _ _ _ _ _ _ _ _ _ _ _ _ _ _ _ _ _ _ _ _ _ _ _ _ _ _ _ _ _ _ _ _ _ _ _ _ _ _ _ _ _ _ _ _ _ _ _ _ _ _ _ _ _ _ _ _ _ _ _ _ _ _ _ _ _ _ _ _ _ _ _ _ _ _ _ _ _ _ _ _ _ _ _ _ _ _ _ _ _ _ _ _ _ _ _ _ _ _ _ _ _ _ _ _ _ _ _ _ _ _ _ _ _ _ _ _ _ _ _ _ _ _ _ _ _ _ _ _ _ _ _ hblk7 hkey7 HMC.out HCS8.out HFS.out hgM2 (by omega) hgK hgM ?_
  clear hblk7 hkey7
  intro u8 u9 u10 u11 u12 u13 u14 u15 u16 u17 u18 u19 u20 u21 u56 u57 u58 u59 u60 u61 u62 u63 u64 u65 u66 u67 u68 u69 u70 u71 u72 u73 u74 u75 u76 u77 u78 u79 u80 u81 u82 u83 u84 u85 u86 u87 u88 u89 u90 u91 u92 u93 u94 u95 u96 u97 u98 u99 u100 u101 u102 u103 u104 u105 u106 u107 u108 u109 u110 u111 u112 u113 u114 u115 u116 u117 u118 u119 u120 u121 u122 u123 u124 u125 u126 u127 u128 u129 u130 u131 u132 u133 u134 u135 u136 u137 u138 u139 u140 u141 u142 u143 u144 u145 u146 u147 u148 u149 u150 u151 u152 u153 u154 u155 u156 u157 u158 u159 u160 u161 u162 u163 u164 u165 u166 u167 u168 u169 u170 u171 u172 u173 u174 u175 u176 u177 u178 u179 u180 u181 u182 u183 u184 u185 u186 u187 u188 u189 u190 u191 u192 u193 u194 u195 u196 u197 u198 u199 u200 u201 u202 u203 u204 u205 u206 u207 u208 u209 u210 u211 u212 u213 u214 u215 u216 u217 u218 u219 u220 u221 u222 u223 u224 u225 u226 u227 u228 u229 u230 u231 u232 u233 u234 u235 u236 u237 u238 u239 u240 u241 u242 u243 u244 u245 u246 u247 u248 u249 u250 u251 u252 u253 u254 u255 u256 u257 u258 u259 u260 u261 u262 u263 u264 u265 u266 u267 u268 u269 u270 u271 u272 u273 u274 u275 u276 u277 u278 u279 u280 u281 u282 u283 u284 u285 u286 u287 u288 u289 u290 u291 u292 u293 u294 u295 u296 u297 u298 u299 u300 u301 u302 u303 u304 u305 u306 u307 u308 u309 u310 u311 u312 u313 u314 u315 u316 u317 u318 u319 u320 u321 w8 hc8 hg8
  obtain ⟨st, hst⟩ : ∃ st, st = Sha.stateN κ M nb := ⟨_, rfl⟩
  rw [← hst] at hc8
  have hst8 : st.length = 8 := by rw [hst]; exact Sha.length_stateN κ KA.out.i8 M nb
  have hstl : ∀ j, st.getD j 0 < 2 ^ 64 := fun j => by
    rw [hst]
    exact Nat.lt_of_lt_of_le (Sha.stateN_lt κ KA.out.il M nb j) (Nat.pow_le_pow_right (by decide) (by rw [← HWD.out]; exact hwd64))
  have HB8 := Lib.hid (HB7.out.grown hg8 hbs7 (fun k hk => by injection hk with hk; omega))
  have hs8 : w7.heap.size ≤ w8.heap.size := hg8.size
  have HC8 := Lib.hid hc8
  have HST := Lib.hid hst
  have HST8 := Lib.hid hst8
  have HSTL := Lib.hid hstl
  clear hc8 hg8 hst hst8 hstl
  go_wp2_with fail
  have hown : Owns (w8.alloc (.cells #[] 5)) w8.heap.size 5 (.slice (some ⟨w8.heap.size, 0, none⟩) 0 0) [] := Owns.lit w8 [] #[] (Nat.le_refl _) rfl (by decide)
  have hbel : Below w8.heap.size w8 (w8.alloc (.cells #[] 5)) := (Below.refl _ _).alloc (Nat.le_refl _) _
  refine toldLoop wide KA.out.w4 wd (by rw [HWD.out]; exact KA.out.w8) gS cS st HST8.out HSTL.out w8.heap.size w8 _ _ _ _ _ _ _ _ _ _ _ _ _ _ _ _ _ _ _ _ _ _ _ _ _ _ _ _ _ _ _ _ _ _ _ _ _ _ _ _ _ _ _ _ _ _ _ _ _ _ _ _ _ _ _ _ _ _ _ _ _ _ _ _ _ _ _ _ _ _ _ _ _ _ _ _ _ _ _ _ _ _ _ _ _ _ _ _ _ _ _ _ _ _ _ _ _ _ _ _ _ _ _ _ _ _ _ _ _ _ _ _ _ _ _ _ _ _ _ _ _ _ _ _ _ _ _ _ _ _ _ _ _ _ _ _ _ _ _ _ _ _ _ _ _ _ _ _ _ _ _ _ _ _ _ _ _ _ _ _ _ _ _ _ _ _ _ _ _ _ _ _ _ _ _ _ _ _ _ _ _ _ _ _ _ _ _ _ _ _ _ _ _ _ _ _ _ _ _ _ _ _ _ _ _ _ _ _ _ _ _ _ _ _ _ _ _ _ _ _ _ _ _ _ _ _ _ _ _ _ _ _ _ _ _ _ _ _ _ _ _ _ _ _ _ _ _ _ _ _ _ _ _ _ _ _ _ _ _ _ _ _ _ _ _ _ _ _ _ _ _ _ _ _ _ _ _ _ _ _ _ _ _ _ _ _ _ _ _ _ _ _ _ _ _ _ _ _ _ _ _ _ _ _ _ _ _ _ _ _ _ _ _ _ _ _ _ _ _ _ _ _ _ _ _ _ _ _ _ _ _ _ _ _ _ _ _ _ _ (HC8.out.below hbel) (by omega) hown (by simp) hbel ?_
  clear hown hbel
  intro u23 u323 u324 u325 u326 u327 u328 u329 u330 u331 u332 u333 u334 gO cO w9 hcap hc9 hb9
  have hsz9 := KB.out.size
  have hc2 : w9.cell? ⟨base, 2, none⟩ = some (.int .i64 (κ.size : Nat)) := HCELL.out w9 2 _ (HB8.out.trans (hb9.mono (by omega))) KB.out.h2
  obtain ⟨size, hsize⟩ : ∃ x, x = κ.size := ⟨_, rfl⟩
  rw [← hsize] at hc2 hsz9
  have hle1 : (size : Int) ≤ (cO : Int) := by omega
  have hlst : (st.flatMap (Sha.bytesOf wd)).length = 8 * wide := by
    rw [Sha.length_flatMap_const, HST8.out, HWD.out, show κ.w = 8 * wide from KA.out.w8.symm]; omega
  have HLST := Lib.hid hlst
  have HC9 := Lib.hid hc9
  have HB9 := Lib.hid (HBW.out.trans ((HB8.out.trans (hb9.mono (by omega))).mono (by rw [HBASE.out]; omega)))
  have HSIZE := Lib.hid hsize
  clear hlst hc9 hb9 hsize
  go_wp2_with (with_reducible refine wpList_bytes_string (o := ⟨some 339, _, _, _, _, _⟩) rfl 126 9 _ rfl Tryz.underlying126 Tryz.underlying5 Tryz.underlying9 gO 0 size cO ?hx ((st.flatMap (Sha.bytesOf wd)).take size) ?hl ?hc ?_)
  case hx => rfl
  case hl => rw [List.length_take, HLST.out]; omega
  case hc =>
    intro j hj
    rw [Nat.zero_add, HC9.out j (by omega), List.getD_eq_getElem?_getD, List.getD_eq_getElem?_getD, List.getElem?_take, if_pos hj]
  go_ret
  refine ⟨?_, HB9.out⟩
  have e : (st.flatMap (Sha.bytesOf wd)).take size = Sha.sum κ (bs s) := by
    unfold Sha.sum Sha.told Sha.stateOf
    rw [← HMM.out, KA.out.bk, ← HMLL.out, ← HNB.out, ← HST.out, HWD.out, HSIZE.out]
  rw [← e]
  rfl
theorem k32_all (gK cK gF cF : Nat) : KAll Sha.k32 (rk32 (sl gK 64 cK) (sl gF 8 cF)) 64 4 gK cK := by
  refine ⟨.inl rfl, ⟨rfl, rfl⟩, rfl, .inl rfl, by decide, by decide, rfl, rfl, rfl, Sha.init32_lt, rfl, rfl, rfl, rfl, rfl, rfl, rfl, rfl, rfl, rfl, rfl, rfl, rfl, rfl, ?_, ?_, ?_, ?_, ?_, ?_, ?_, ?_, ?_, ?_, ?_, ?_⟩ <;> decide
theorem k64_all (gK cK gF cF : Nat) : KAll Sha.k64 (rk64 (sl gK 80 cK) (sl gF 8 cF)) 80 8 gK cK := by
  refine ⟨.inr rfl, ⟨rfl, rfl⟩, rfl, .inr rfl, by decide, by decide, rfl, rfl, rfl, Sha.init64_lt, rfl, rfl, rfl, rfl, rfl, rfl, rfl, rfl, rfl, rfl, rfl, rfl, rfl, rfl, ?_, ?_, ?_, ?_, ?_, ?_, ?_, ?_, ?_, ?_, ?_, ?_⟩ <;> decide
theorem k32_more (gK cK gF cF : Nat) : KMore Sha.k32 (rk32 (sl gK 64 cK) (sl gF 8 cF)) 4 gF cF := by
  refine ⟨rfl, rfl, rfl, rfl, by decide, fun t ht => ?_, fun n => ?_⟩
  · unfold Sha.pad
    rw [show 2 * 4 = 8 from rfl, rb_64, Nat.mod_eq_of_lt (show 8 * t.length < 2 ^ 64 by omega), List.append_assoc]
    rfl
  · show (n + 1 + (2 * 64 - 1 - 8 - n % 64) % 64 + 2 * 4) % (16 * 4) = 0
    omega
theorem k64_more (gK cK gF cF : Nat) : KMore Sha.k64 (rk64 (sl gK 80 cK) (sl gF 8 cF)) 8 gF cF := by
  refine ⟨rfl, rfl, rfl, rfl, by decide, fun t ht => ?_, fun n => ?_⟩
  · unfold Sha.pad
    rw [show 2 * 8 = 16 from rfl, rb_128, Nat.mod_eq_of_lt (show 8 * t.length < 2 ^ 64 by omega), List.append_assoc]
    rfl
  · show (n + 1 + (2 * 128 - 1 - 16 - n % 128) % 128 + 2 * 8) % (16 * 8) = 0
    omega
end Go.Proofs.YtilpbjcbffbjeaaGreatDoor
namespace Go.Proofs.YtilpbjcbffbjeaaGreatDoor
set_option linter.unusedVariables false
open Go.RowKit
/-- What the two kinds have alike. -/
structure KindOf (k : Nat) (κ : Sha.Kind) (R wide : Nat) (C : Nat → Nat → Nat → Nat → Array Value) : Prop where
  of : ∀ w, Calls Tryz.prog 142 #[.int .i64 (k : Nat)] w fun e w' => ∃ gK cK gF cF, e = .returned (.tuple #[.agg (C gK cK gF cF), .bool true]) ∧
      Cells64 w' gK R (fun j => κ.keys.getD j 0) ∧ Cells64 w' gF 8 (fun j => κ.init.getD j 0) ∧ Below w.heap.size w w'
  ka : ∀ gK cK gF cF, KAll κ (C gK cK gF cF) R wide gK cK
  kb : ∀ gK cK gF cF, KMore κ (C gK cK gF cF) wide gF cF
  one : ∀ gK cK gF cF, ∀ v ∈ (C gK cK gF cF).toList, v.oneCell' = true
theorem kindOf0 : KindOf 0 Sha.k32 64 4 (fun gK cK gF cF => rk32 (sl gK 64 cK) (sl gF 8 cF)) := ⟨of0, k32_all, k32_more, fun _ _ _ _ => one_rk32 _ _ rfl rfl⟩
set_option maxRecDepth 100000 in
set_option maxHeartbeats 800000 in
theorem rsumK {k : Nat} {κ : Sha.Kind} {R wide : Nat} {C : Nat → Nat → Nat → Nat → Array Value} (ko : KindOf k κ R wide C) (s : ByteArray) (w : World) (hs : s.size ≤ 140737488354000) :
    Calls Tryz.prog 122 #[.int .i64 (k : Nat), .string s] w fun e w' => e = .returned (.tuple #[.string (strOf (Sha.sum κ (bs s))), .int .i64 0]) ∧ Below w.heap.size w w' := by
  have hinf : (Tryz.prog.info? 230).map (·.size) = some 17 := by kernel_rfl
  have HINF := Lib.hid hinf
  have KO := Lib.hid ko
  clear hinf ko
  go_enter Tryz.func122, Tryz.ntmps122
  go_wp2_with fail
  refine (KO.out.of _).mono ?_
  rintro e w1 ⟨gK, cK, gF, cF, rfl, hk, hf, hb1⟩
  have KA := Lib.hid (KO.out.ka gK cK gF cF)
  have KB := Lib.hid (KO.out.kb gK cK gF cF)
  have ONE := Lib.hid (KO.out.one gK cK gF cF)
  obtain ⟨cs, hcs⟩ : ∃ cs, cs = C gK cK gF cF := ⟨_, rfl⟩
  rw [← hcs] at KA KB ONE ⊢
  have hn : cs.size = 17 := KA.out.kc.n
  have HN := Lib.hid hn
  have HK := Lib.hid hk
  have HF := Lib.hid hf
  have HB1 := Lib.hid hb1
  clear hcs hn hk hf hb1 KO
  go_wp2_with (first
    | (with_reducible refine wpList_run (o := ⟨some 6, _, _, _, _, _⟩) rfl (.pointer (some ⟨w1.heap.size, 0, none⟩)) (w1.alloc (.cells rkz 230)) (by kernel_rfl) ?_)
    | (refine wpList_store_blk rfl 230 _ _ rfl w1.heap.size 0 cs rfl rfl rkz 230 (heap_at rfl) (by rw [HN.out]; decide) (by rw [HN.out]; exact HINF.out) ONE.out ?_; intro w2 hh2 hg2 hs2; replace hh2 := Lib.hid hh2; replace hg2 := Lib.hid hg2; replace hs2 := Lib.hid hs2; have kl := run_kindLoad w2 w1.heap.size cs HN.out (hh2.out.trans (by
        refine congrArg (fun l : List Value => some (Obj.cells l.toArray 230 (0, 0))) ?_
        rw [List.take_zero, List.nil_append, List.drop_eq_nil_of_le (by rw [HN.out]; decide), List.append_nil]))))
  have hb2 : Below w1.heap.size w1 w2 := ((Below.refl _ _).alloc (Nat.le_refl _) _).trans (grown_below hg2.out (Nat.le_refl _) (by simp))
  refine (rsumW κ cs R wide gK cK gF cF KA.out KB.out s w2 (HK.out.below hb2) (HF.out.below hb2) hs).mono ?_
  rintro e w3 ⟨rfl, hb3⟩
  have HB3 := Lib.hid (HB1.out.trans ((hb2.trans (hb3.mono hb2.size)).mono HB1.out.size))
  clear hb2 hb3
  go_wp2_with fail
  go_ret2
  exact ⟨rfl, HB3.out⟩
end Go.Proofs.YtilpbjcbffbjeaaGreatDoor
