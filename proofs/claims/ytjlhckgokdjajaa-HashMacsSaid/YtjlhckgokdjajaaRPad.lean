/- The reference's Sum, cut into declarations: the loop of the padding. (Written by gen_loops.py.) -/
import Derived.Test.YtjlhckgokdjajaaRL
namespace Go.Proofs.Ytjlhckgokdjajaa
open Go.RowKit
def slcN : Value → Nat
  | .slice _ n _ => n
  | _ => 0
set_option maxRecDepth 1000000 in
set_option maxHeartbeats 8000000 in
theorem padLoop (wide : Nat) (hw4 : wide = 4 ∨ wide = 8) (t : List Nat) (P : Nat) (hP : P = (2 * (16 * wide) - 1 - 2 * wide - t.length % (16 * wide)) % (16 * wide)) (ht : t.length ≤ 140737488354000) (base : Nat) (W1 w0 : World) (v0 : Value) (Q0 : Exit → Act → World → Prop) (c0 c1 c2 c3 c4 c7 c8 c9 c10 c11 c12 c13 c14 c15 c16 c17 c18 c19 c20 c21 c22 c23 c24 c25 c26 c27 c28 c29 c30 c31 c32 c33 c34 c35 c36 c37 c38 c39 c40 c41 c42 c43 c44 c45 c46 c47 c48 c49 c50 c51 c52 c53 c54 c55 c56 c57 c58 c59 c60 c61 c62 c63 c64 c65 c66 c67 c68 c69 c70 c71 c72 c73 c74 c75 c76 c77 c78 c79 c80 c81 c82 c83 c84 c85 c86 c87 c88 c89 c90 c91 c92 c93 c94 c95 c96 c97 c98 c99 c100 c101 c102 c103 c104 c105 c106 c107 c108 c109 c110 c111 c112 c113 c114 c115 c116 c117 c118 c119 c120 c121 c122 c123 c124 c125 c126 c127 c128 c129 c130 c131 c132 c133 c134 c135 c136 c137 c138 c139 c140 c141 c142 c143 c144 c145 c146 c147 c148 c149 c150 c151 c152 c153 c154 c155 c156 c157 c158 c159 c160 c161 c162 c163 c164 c165 c166 c167 c168 c169 c170 c171 c172 c173 c174 c175 c176 c177 c178 c179 c180 c181 c182 c183 c184 c185 c186 c187 c188 c189 c190 c191 c192 c193 c194 c195 c196 c197 c198 c199 c200 c201 c202 c203 c204 c205 c206 c207 c208 c209 c210 c211 c212 c213 c214 c215 c216 c217 c218 c219 c220 c221 c222 c223 c224 c225 c226 c227 c228 c229 c230 c231 c232 c233 c234 c235 c236 c237 c238 c239 c240 c241 c242 c243 c244 c245 c246 c247 c248 c249 c250 c251 c252 c253 c254 c255 c256 c257 c258 c259 c260 c261 c262 c263 c264 c265 c266 c267 c268 c269 c270 c271 c272 c273 c274 c275 c276 c277 c278 c279 c280 c281 c282 c283 c284 c285 c286 c287 c288 c289 c290 c291 c292 c293 c294 c295 c296 c297 c298 c299 c300 c301 c302 c303 c304 c305 c306 c307 c308 c309 c310 c311 c312 c313 c314 c315 c316 c317 c318 c319 c320 c321 c322 c323 c324 c325 c326 c327 c328 c329 c330 c331 c332 c333 c334 c335 c336 c337 c338 c339 : Value)
    (ho : Loose w0 base v0 (t ++ 128 :: List.replicate 0 0)) (hbs : base ≤ w0.heap.size) (hb : Below base W1 w0)
    (hexit : ∀ (u31 u32 u33 u34 u35 u36 u37 u38 u39 u40 u41 u42 : Value) (g cap : Nat) (w' : World), Loose w' base (.slice (some ⟨g, 0, none⟩) (t.length + 1 + P) cap) (t ++ 128 :: List.replicate P 0) → base ≤ w'.heap.size → Below base W1 w' → Q0 (.exit 0) ⟨#[c0, c1, c2, c3, c4, (.int .i64 (wide : Nat)), (.slice (some ⟨g, 0, none⟩) (t.length + 1 + P) cap), c7, c8, c9, c10, c11, c12, c13, c14, c15, c16, c17, c18, c19, c20, c21, c22, c23, c24, c25, c26, c27, c28, c29, c30, u31, u32, u33, u34, u35, u36, u37, u38, u39, u40, u41, u42, c43, c44, c45, c46, c47, c48, c49, c50, c51, c52, c53, c54, c55, c56, c57, c58, c59, c60, c61, c62, c63, c64, c65, c66, c67, c68, c69, c70, c71, c72, c73, c74, c75, c76, c77, c78, c79, c80, c81, c82, c83, c84, c85, c86, c87, c88, c89, c90, c91, c92, c93, c94, c95, c96, c97, c98, c99, c100, c101, c102, c103, c104, c105, c106, c107, c108, c109, c110, c111, c112, c113, c114, c115, c116, c117, c118, c119, c120, c121, c122, c123, c124, c125, c126, c127, c128, c129, c130, c131, c132, c133, c134, c135, c136, c137, c138, c139, c140, c141, c142, c143, c144, c145, c146, c147, c148, c149, c150, c151, c152, c153, c154, c155, c156, c157, c158, c159, c160, c161, c162, c163, c164, c165, c166, c167, c168, c169, c170, c171, c172, c173, c174, c175, c176, c177, c178, c179, c180, c181, c182, c183, c184, c185, c186, c187, c188, c189, c190, c191, c192, c193, c194, c195, c196, c197, c198, c199, c200, c201, c202, c203, c204, c205, c206, c207, c208, c209, c210, c211, c212, c213, c214, c215, c216, c217, c218, c219, c220, c221, c222, c223, c224, c225, c226, c227, c228, c229, c230, c231, c232, c233, c234, c235, c236, c237, c238, c239, c240, c241, c242, c243, c244, c245, c246, c247, c248, c249, c250, c251, c252, c253, c254, c255, c256, c257, c258, c259, c260, c261, c262, c263, c264, c265, c266, c267, c268, c269, c270, c271, c272, c273, c274, c275, c276, c277, c278, c279, c280, c281, c282, c283, c284, c285, c286, c287, c288, c289, c290, c291, c292, c293, c294, c295, c296, c297, c298, c299, c300, c301, c302, c303, c304, c305, c306, c307, c308, c309, c310, c311, c312, c313, c314, c315, c316, c317, c318, c319, c320, c321, c322, c323, c324, c325, c326, c327, c328, c329, c330, c331, c332, c333, c334, c335, c336, c337, c338, c339], []⟩ w') :
    Code.wp Try.prog (sumLoop 0) Q0 ⟨#[c0, c1, c2, c3, c4, (.int .i64 (wide : Nat)), v0, c7, c8, c9, c10, c11, c12, c13, c14, c15, c16, c17, c18, c19, c20, c21, c22, c23, c24, c25, c26, c27, c28, c29, c30, c31, c32, c33, c34, c35, c36, c37, c38, c39, c40, c41, c42, c43, c44, c45, c46, c47, c48, c49, c50, c51, c52, c53, c54, c55, c56, c57, c58, c59, c60, c61, c62, c63, c64, c65, c66, c67, c68, c69, c70, c71, c72, c73, c74, c75, c76, c77, c78, c79, c80, c81, c82, c83, c84, c85, c86, c87, c88, c89, c90, c91, c92, c93, c94, c95, c96, c97, c98, c99, c100, c101, c102, c103, c104, c105, c106, c107, c108, c109, c110, c111, c112, c113, c114, c115, c116, c117, c118, c119, c120, c121, c122, c123, c124, c125, c126, c127, c128, c129, c130, c131, c132, c133, c134, c135, c136, c137, c138, c139, c140, c141, c142, c143, c144, c145, c146, c147, c148, c149, c150, c151, c152, c153, c154, c155, c156, c157, c158, c159, c160, c161, c162, c163, c164, c165, c166, c167, c168, c169, c170, c171, c172, c173, c174, c175, c176, c177, c178, c179, c180, c181, c182, c183, c184, c185, c186, c187, c188, c189, c190, c191, c192, c193, c194, c195, c196, c197, c198, c199, c200, c201, c202, c203, c204, c205, c206, c207, c208, c209, c210, c211, c212, c213, c214, c215, c216, c217, c218, c219, c220, c221, c222, c223, c224, c225, c226, c227, c228, c229, c230, c231, c232, c233, c234, c235, c236, c237, c238, c239, c240, c241, c242, c243, c244, c245, c246, c247, c248, c249, c250, c251, c252, c253, c254, c255, c256, c257, c258, c259, c260, c261, c262, c263, c264, c265, c266, c267, c268, c269, c270, c271, c272, c273, c274, c275, c276, c277, c278, c279, c280, c281, c282, c283, c284, c285, c286, c287, c288, c289, c290, c291, c292, c293, c294, c295, c296, c297, c298, c299, c300, c301, c302, c303, c304, c305, c306, c307, c308, c309, c310, c311, c312, c313, c314, c315, c316, c317, c318, c319, c320, c321, c322, c323, c324, c325, c326, c327, c328, c329, c330, c331, c332, c333, c334, c335, c336, c337, c338, c339], []⟩ w0 := by
  have hwl : 4 ≤ wide ∧ wide ≤ 8 := by rcases hw4 with h | h <;> omega
  have HO0 := Lib.hid ho
  have HB0 := Lib.hid hb
  have HP := Lib.hid hP
  have HW4 := Lib.hid hw4
  have hP1 : P < 16 * wide := by rw [hP]; exact Nat.mod_lt _ (by omega)
  clear ho hb hP hw4
  dsimp only at hexit ⊢
  conv => arg 2; whnf
  obtain ⟨L, hL⟩ : ∃ L, L = t.length := ⟨_, rfl⟩
  have hLb : L ≤ 140737488354000 := by omega
  have HL := Lib.hid hL
  have HEX := Lib.hid hexit
  clear hL hexit ht
  go_loopw [6] (fun v wr => ∃ j : Nat, j ≤ P ∧ Loose wr base v (t ++ 128 :: List.replicate j 0) ∧ base ≤ wr.heap.size ∧ Below base W1 wr) (fun v _ => L + 400 - slcN v)
  case atStart => exact ⟨0, by omega, HO0.out, hbs, HB0.out⟩
  case round =>
    obtain ⟨j, hj, ho, hbs, hb⟩ := hrel
    obtain ⟨g, cap, rfl, hlo⟩ := ho
    have hlen : (t ++ 128 :: List.replicate j 0).length = L + 1 + j := by
      rw [List.length_append, List.length_cons, List.length_replicate, HL.out]; omega
    have ho : Loose wr base (.slice (some ⟨g, 0, none⟩) (L + 1 + j) cap) (t ++ 128 :: List.replicate j 0) := ⟨g, cap, by rw [hlen], hlo⟩
    rw [hlen]
    have HT := Lib.hid (show (t ++ 128 :: List.replicate j 0).length = L + 1 + j from hlen)
    obtain ⟨N, hN⟩ : ∃ N, N = L + 1 + j := ⟨_, rfl⟩
    rw [← hN] at ho hlen ⊢
    have hN1 : N ≤ L + 1 + j := by omega
    have hN2 : L + 1 + j ≤ N := by omega
    obtain ⟨l, hl⟩ : ∃ l, l = t ++ 128 :: List.replicate j 0 := ⟨_, rfl⟩
    rw [← hl] at ho hlen
    have HO := Lib.hid ho
    have HB := Lib.hid hb
    have HLEN := Lib.hid hlen
    have HLL := Lib.hid hl
    have HN := Lib.hid hN
    clear ho hb hlen hN hlo hl
    by_cases hlt : j < P
    · have hne : (((N : Int) + 2 * (wide : Int)) % (16 * (wide : Int)) != 0) = true := by
        have hP := HP.out
        rw [← HL.out] at hP
        rw [bne_iff_ne]
        rcases HW4.out with h | h <;> subst h <;> omega
      go_wp2_with (at_builtin; refine wpList_append_loose rfl _ _ 42 rfl Try.underlying42 info5 rfl (HO.out.alloc _) ⟨wr.heap.size, 0, none⟩ 1 1 [0] rfl rfl (by decide) ?d1 ?d2 ?d3 ?_)
      case d1 => intro k hk; obtain rfl : k = 0 := by omega
                 simp [Addr.add]
      case d2 => rw [HLEN.out]; omega
      case d3 => simp; omega
      intro v2 w4 ho4 hg4 _
      have hb4 : Below base W1 w4 := (HB.out.alloc hbs _).grown hg4 (by simp; omega) (fun k hk => (HO.out.block hk).1)
      have hbs4 : base ≤ w4.heap.size := by have := hg4.size; simp at this; omega
      have ho5 : Loose w4 base v2 (t ++ 128 :: List.replicate (j + 1) 0) := by
        rw [List.replicate_succ', ← List.cons_append, ← List.append_assoc, ← HLL.out]; exact ho4
      have hl5 : slcN v2 = N + 1 := by
        obtain ⟨g2, c2, rfl, _⟩ := ho4
        show (_ : List Nat).length = _
        rw [List.length_append, HLEN.out]; rfl
      have HO4 := Lib.hid ho5
      have HB4 := Lib.hid hb4
      have HL5 := Lib.hid hl5
      clear ho4 hb4 hg4 ho5 hl5 hne
      go_wp2_with fail
      exact ⟨⟨j + 1, by omega, HO4.out, hbs4, HB4.out⟩, by rw [HL5.out]; simp [slcN]; omega⟩
    · have hne : (((N : Int) + 2 * (wide : Int)) % (16 * (wide : Int)) != 0) = false := by
        have hP := HP.out
        rw [← HL.out] at hP
        rw [bne_eq_false_iff_eq]
        rcases HW4.out with h | h <;> subst h <;> omega
      have hjP : j = P := by omega
      have hfin : Loose wr base (.slice (some ⟨g, 0, none⟩) N cap) (t ++ 128 :: List.replicate P 0) := by rw [← hjP, ← HLL.out]; exact HO.out
      have hNP : N = t.length + 1 + P := by rw [HN.out, hjP, HL.out]
      have HFIN := Lib.hid hfin
      have HNP := Lib.hid hNP
      clear hfin hNP hjP
      go_wp2_with fail
      have hfin := HFIN.out
      have hNP := HNP.out
      subst hNP
      exact HEX.out _ _ _ _ _ _ _ _ _ _ _ _ g cap wr hfin hbs HB.out
end Go.Proofs.Ytjlhckgokdjajaa
