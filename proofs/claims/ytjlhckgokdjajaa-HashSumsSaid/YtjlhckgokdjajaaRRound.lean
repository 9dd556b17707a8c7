/- The reference's Sum, cut into declarations: the loop of the rounds. (Written by gen_loops.py.) -/
import Derived.Test.YtjlhckgokdjajaaRL
namespace Go.Proofs.Ytjlhckgokdjajaa
open Go.RowKit
set_option maxRecDepth 1000000 in
set_option maxHeartbeats 8000000 in
theorem roundLoop (κ : Sha.Kind) (hwd : WD κ.w) (cs : Array Value) (hk : KCells cs κ.w) (R : Nat) (hR : R ≤ 1000) (base gS Bw gK cK gv cv : Nat) (ws st : List Nat) (w7 : World) (Q0 : Exit → Act → World → Prop) (c0 c1 c3 c4 c5 c6 c7 c8 c10 c11 c12 c13 c14 c17 c18 c19 c20 c21 c22 c23 c24 c25 c26 c27 c28 c29 c30 c31 c32 c33 c34 c35 c36 c37 c38 c39 c40 c41 c42 c43 c44 c45 c46 c47 c48 c49 c50 c51 c52 c53 c54 c55 c56 c57 c58 c59 c60 c61 c62 c63 c64 c65 c66 c67 c68 c69 c70 c71 c72 c73 c74 c75 c76 c77 c78 c79 c80 c81 c82 c83 c84 c85 c86 c87 c88 c89 c90 c91 c92 c93 c94 c95 c96 c97 c98 c99 c100 c101 c102 c103 c104 c105 c106 c107 c108 c109 c110 c111 c112 c113 c114 c115 c116 c117 c118 c119 c120 c121 c122 c123 c124 c125 c126 c127 c128 c129 c130 c131 c132 c133 c134 c135 c136 c137 c138 c139 c140 c141 c142 c143 c144 c145 c146 c147 c148 c149 c150 c151 c152 c153 c154 c155 c156 c157 c158 c159 c160 c161 c162 c163 c164 c165 c166 c167 c168 c169 c170 c171 c172 c173 c174 c175 c176 c177 c178 c179 c180 c181 c182 c183 c184 c185 c186 c187 c188 c189 c190 c191 c192 c193 c194 c195 c196 c197 c198 c199 c200 c201 c202 c203 c204 c205 c206 c207 c208 c209 c210 c211 c212 c213 c214 c215 c216 c217 c218 c219 c220 c221 c222 c223 c224 c225 c226 c227 c228 c229 c230 c231 c232 c233 c234 c235 c236 c237 c238 c239 c240 c241 c242 c243 c244 c245 c246 c247 c248 c249 c250 c251 c252 c253 c254 c255 c256 c257 c258 c259 c260 c261 c262 c263 c264 c265 c266 c267 c268 c269 c270 c271 c272 c273 c274 c275 c276 c277 c278 c279 c280 c281 c282 c283 c284 c285 c286 c287 c288 c289 c290 c291 c292 c293 c294 c295 c296 c297 c298 c299 c300 c301 c302 c303 c304 c305 c306 c307 c308 c309 c310 c311 c312 c313 c314 c315 c316 c317 c318 c319 c320 c321 c322 c323 c324 c325 c326 c327 c328 c329 c330 c331 c332 c333 c334 c335 c336 c337 c338 c339 : Value)
    (hblk : w7.heap[base]? = some (.cells cs 51 (0, 0))) (h1 : cs[1]? = some (.int .i64 (R : Nat)))
    (h9 : cs[9]? = some (.int .i64 (κ.c.1 : Nat))) (h10 : cs[10]? = some (.int .i64 (κ.c.2.1 : Nat))) (h11 : cs[11]? = some (.int .i64 (κ.c.2.2 : Nat))) (h12 : cs[12]? = some (.int .i64 (κ.d.1 : Nat))) (h13 : cs[13]? = some (.int .i64 (κ.d.2.1 : Nat))) (h14 : cs[14]? = some (.int .i64 (κ.d.2.2 : Nat)))
    (h15 : cs[15]? = some (.slice (some ⟨gK, 0, none⟩) R cK)) (i9 : κ.c.1 ≤ κ.w) (i10 : κ.c.2.1 ≤ κ.w) (i11 : κ.c.2.2 ≤ κ.w) (i12 : κ.d.1 ≤ κ.w) (i13 : κ.d.2.1 ≤ κ.w) (i14 : κ.d.2.2 ≤ κ.w)
    (hK : Cells64 w7 gK R (fun j => κ.keys.getD j 0)) (hW : Cells64 w7 Bw R (fun j => ws.getD j 0)) (hv : Cells64 w7 gv 8 (fun j => st.getD j 0)) (hst : ∀ j, st.getD j 0 < 2 ^ κ.w) (hne : gS ≠ gv) (hgS : gS < w7.heap.size)
    (hexit : ∀ (u16 u17 u18 u19 u20 u171 u172 u173 u174 u175 u176 u177 u178 u179 u180 u181 u182 u183 u184 u185 u186 u187 u188 u189 u190 u191 u192 u193 u194 u195 u196 u197 u198 u199 u200 u201 u202 u203 u204 u205 u206 u207 u208 u209 u210 u211 u212 u213 u214 u215 u216 u217 u218 u219 u220 u221 u222 u223 u224 u225 u226 u227 u228 u229 u230 u231 u232 u233 u234 u235 u236 u237 u238 u239 u240 u241 u242 u243 u244 u245 u246 u247 u248 u249 u250 u251 u252 u253 u254 u255 u256 u257 u258 u259 u260 u261 u262 u263 u264 u265 u266 u267 u268 u269 u270 u271 u272 u273 u274 u275 u276 u277 u278 u279 u280 u281 u282 u283 u284 u285 u286 u287 u288 u289 u290 u291 u292 u293 u294 u295 u296 u297 u298 u299 u300 u301 u302 u303 : Value) (gx cx : Nat) (w' : World), Cells64 w' gx 8 (Sha.rF κ ws st R) → gS ≠ gx → Below w7.heap.size w7 w' → Q0 (.exit 10) ⟨#[c0, c1, (.pointer (some ⟨base, 0, none⟩)), c3, c4, c5, c6, c7, c8, (.slice (some ⟨Bw, 0, none⟩) R R), c10, c11, c12, c13, c14, (.slice (some ⟨gx, 0, none⟩) 8 cx), u16, u17, u18, u19, u20, c21, c22, c23, c24, c25, c26, c27, c28, c29, c30, c31, c32, c33, c34, c35, c36, c37, c38, c39, c40, c41, c42, c43, c44, c45, c46, c47, c48, c49, c50, c51, c52, c53, c54, c55, c56, c57, c58, c59, c60, c61, c62, c63, c64, c65, c66, c67, c68, c69, c70, c71, c72, c73, c74, c75, c76, c77, c78, c79, c80, c81, c82, c83, c84, c85, c86, c87, c88, c89, c90, c91, c92, c93, c94, c95, c96, c97, c98, c99, c100, c101, c102, c103, c104, c105, c106, c107, c108, c109, c110, c111, c112, c113, c114, c115, c116, c117, c118, c119, c120, c121, c122, c123, c124, c125, c126, c127, c128, c129, c130, c131, c132, c133, c134, c135, c136, c137, c138, c139, c140, c141, c142, c143, c144, c145, c146, c147, c148, c149, c150, c151, c152, c153, c154, c155, c156, c157, c158, c159, c160, c161, c162, c163, c164, c165, c166, c167, c168, c169, c170, u171, u172, u173, u174, u175, u176, u177, u178, u179, u180, u181, u182, u183, u184, u185, u186, u187, u188, u189, u190, u191, u192, u193, u194, u195, u196, u197, u198, u199, u200, u201, u202, u203, u204, u205, u206, u207, u208, u209, u210, u211, u212, u213, u214, u215, u216, u217, u218, u219, u220, u221, u222, u223, u224, u225, u226, u227, u228, u229, u230, u231, u232, u233, u234, u235, u236, u237, u238, u239, u240, u241, u242, u243, u244, u245, u246, u247, u248, u249, u250, u251, u252, u253, u254, u255, u256, u257, u258, u259, u260, u261, u262, u263, u264, u265, u266, u267, u268, u269, u270, u271, u272, u273, u274, u275, u276, u277, u278, u279, u280, u281, u282, u283, u284, u285, u286, u287, u288, u289, u290, u291, u292, u293, u294, u295, u296, u297, u298, u299, u300, u301, u302, u303, c304, c305, c306, c307, c308, c309, c310, c311, c312, c313, c314, c315, c316, c317, c318, c319, c320, c321, c322, c323, c324, c325, c326, c327, c328, c329, c330, c331, c332, c333, c334, c335, c336, c337, c338, c339], []⟩ w') :
    Code.wp Try.prog (sumLoop 5) Q0 ⟨#[c0, c1, (.pointer (some ⟨base, 0, none⟩)), c3, c4, c5, c6, c7, c8, (.slice (some ⟨Bw, 0, none⟩) R R), c10, c11, c12, c13, c14, (.slice (some ⟨gv, 0, none⟩) 8 cv), (.int .i64 0), c17, c18, c19, c20, c21, c22, c23, c24, c25, c26, c27, c28, c29, c30, c31, c32, c33, c34, c35, c36, c37, c38, c39, c40, c41, c42, c43, c44, c45, c46, c47, c48, c49, c50, c51, c52, c53, c54, c55, c56, c57, c58, c59, c60, c61, c62, c63, c64, c65, c66, c67, c68, c69, c70, c71, c72, c73, c74, c75, c76, c77, c78, c79, c80, c81, c82, c83, c84, c85, c86, c87, c88, c89, c90, c91, c92, c93, c94, c95, c96, c97, c98, c99, c100, c101, c102, c103, c104, c105, c106, c107, c108, c109, c110, c111, c112, c113, c114, c115, c116, c117, c118, c119, c120, c121, c122, c123, c124, c125, c126, c127, c128, c129, c130, c131, c132, c133, c134, c135, c136, c137, c138, c139, c140, c141, c142, c143, c144, c145, c146, c147, c148, c149, c150, c151, c152, c153, c154, c155, c156, c157, c158, c159, c160, c161, c162, c163, c164, c165, c166, c167, c168, c169, c170, c171, c172, c173, c174, c175, c176, c177, c178, c179, c180, c181, c182, c183, c184, c185, c186, c187, c188, c189, c190, c191, c192, c193, c194, c195, c196, c197, c198, c199, c200, c201, c202, c203, c204, c205, c206, c207, c208, c209, c210, c211, c212, c213, c214, c215, c216, c217, c218, c219, c220, c221, c222, c223, c224, c225, c226, c227, c228, c229, c230, c231, c232, c233, c234, c235, c236, c237, c238, c239, c240, c241, c242, c243, c244, c245, c246, c247, c248, c249, c250, c251, c252, c253, c254, c255, c256, c257, c258, c259, c260, c261, c262, c263, c264, c265, c266, c267, c268, c269, c270, c271, c272, c273, c274, c275, c276, c277, c278, c279, c280, c281, c282, c283, c284, c285, c286, c287, c288, c289, c290, c291, c292, c293, c294, c295, c296, c297, c298, c299, c300, c301, c302, c303, c304, c305, c306, c307, c308, c309, c310, c311, c312, c313, c314, c315, c316, c317, c318, c319, c320, c321, c322, c323, c324, c325, c326, c327, c328, c329, c330, c331, c332, c333, c334, c335, c336, c337, c338, c339], []⟩ w7 := by
  have hwd64 : 2 ^ κ.w ≤ 2 ^ 64 := by rcases hwd with h | h <;> rw [h] <;> decide
  have hwd6 : κ.w ≤ 64 := by rcases hwd with h | h <;> omega
  have LT : Hid (∀ x, x < 2 ^ κ.w → x < 2 ^ 64) := fun x h => Nat.lt_of_lt_of_le h hwd64
  have HK := Lib.hid hk
  have HWD := Lib.hid hwd
  have HBLK := Lib.hid hblk
  have HKEY := Lib.hid hK
  have HWS := Lib.hid hW
  have HST := Lib.hid hst
  have hbl : base < w7.heap.size := (Array.getElem?_eq_some_iff.1 hblk).1
  have HCELL : Hid (∀ (wt : World) (j : Nat) (v : Value), Below w7.heap.size w7 wt → cs[j]? = some v → wt.cell? ⟨base, j, none⟩ = some v) := fun wt j v hb hv =>
    (hb.cell (p := ⟨base, j, none⟩) hbl).trans ((cell_of_row w7 base j cs 51 (0, 0) hblk).trans hv)
  have H1 := Lib.hid h1
  have HH := Lib.hid (And.intro h9 (And.intro h10 (And.intro h11 (And.intro h12 (And.intro h13 (And.intro h14 h15))))))
  have HV := Lib.hid hv
  clear hwd hk hblk h1 h9 h10 h11 h12 h13 h14 h15 hK hW hv hst
  dsimp only at hexit ⊢
  conv => arg 2; whnf
  go_loopw [15, 16] (fun vv vn wr => ∃ (n gv cv : Nat), n ≤ R ∧ vn = .int .i64 (n : Nat) ∧ vv = .slice (some ⟨gv, 0, none⟩) 8 cv ∧ Cells64 wr gv 8 (Sha.rF κ ws st n) ∧ gS ≠ gv ∧ Below w7.heap.size w7 wr) (fun _ vn _ => (R - intOf vn).toNat)
  case atStart => exact ⟨0, gv, cv, by omega, rfl, rfl, HV.out, hne, Below.refl _ _⟩
  case round =>
    obtain ⟨n, gx, cx, hn, rfl, rfl, hcx, hnx, hbel⟩ := hrel
    have HCX := Lib.hid hcx
    have HB := Lib.hid hbel
    clear hcx hbel
    have q1 := HCELL.out wr 1 _ HB.out H1.out
    by_cases hnt : n < R
    · obtain ⟨f, hf⟩ : ∃ f, f = Sha.rF κ ws st n := ⟨_, rfl⟩
      have hcx := HCX.out
      rw [← hf] at hcx
      have hfl : ∀ j, j < 8 → f j < 2 ^ κ.w := by rw [hf]; exact Sha.rF_lt κ _ st HST.out n
      have HF2 := Lib.hid hf
      have HCF2 := Lib.hid hcx
      have l0 := hfl 0 (by decide)
      have l1 := hfl 1 (by decide)
      have l2 := hfl 2 (by decide)
      have l3 := hfl 3 (by decide)
      have l4 := hfl 4 (by decide)
      have l5 := hfl 5 (by decide)
      have l6 := hfl 6 (by decide)
      have l7 := hfl 7 (by decide)
      obtain ⟨f0, hf0⟩ : ∃ a, a = f 0 := ⟨_, rfl⟩
      obtain ⟨f1, hf1⟩ : ∃ a, a = f 1 := ⟨_, rfl⟩
      obtain ⟨f2, hf2⟩ : ∃ a, a = f 2 := ⟨_, rfl⟩
      obtain ⟨f3, hf3⟩ : ∃ a, a = f 3 := ⟨_, rfl⟩
      obtain ⟨f4, hf4⟩ : ∃ a, a = f 4 := ⟨_, rfl⟩
      obtain ⟨f5, hf5⟩ : ∃ a, a = f 5 := ⟨_, rfl⟩
      obtain ⟨f6, hf6⟩ : ∃ a, a = f 6 := ⟨_, rfl⟩
      obtain ⟨f7, hf7⟩ : ∃ a, a = f 7 := ⟨_, rfl⟩
      rw [← hf0] at l0
      rw [← hf1] at l1
      rw [← hf2] at l2
      rw [← hf3] at l3
      rw [← hf4] at l4
      rw [← hf5] at l5
      rw [← hf6] at l6
      rw [← hf7] at l7
      have v0 : ∀ t : Grow wr, t.val.cell? ⟨gx, 0, none⟩ = some (.int .u64 (f0 : Nat)) := fun t => by rw [hf0]; exact t.cell (HCF2.out 0 (by decide))
      have v1 : ∀ t : Grow wr, t.val.cell? ⟨gx, 1, none⟩ = some (.int .u64 (f1 : Nat)) := fun t => by rw [hf1]; exact t.cell (HCF2.out 1 (by decide))
      have v2 : ∀ t : Grow wr, t.val.cell? ⟨gx, 2, none⟩ = some (.int .u64 (f2 : Nat)) := fun t => by rw [hf2]; exact t.cell (HCF2.out 2 (by decide))
      have v3 : ∀ t : Grow wr, t.val.cell? ⟨gx, 3, none⟩ = some (.int .u64 (f3 : Nat)) := fun t => by rw [hf3]; exact t.cell (HCF2.out 3 (by decide))
      have v4 : ∀ t : Grow wr, t.val.cell? ⟨gx, 4, none⟩ = some (.int .u64 (f4 : Nat)) := fun t => by rw [hf4]; exact t.cell (HCF2.out 4 (by decide))
      have v5 : ∀ t : Grow wr, t.val.cell? ⟨gx, 5, none⟩ = some (.int .u64 (f5 : Nat)) := fun t => by rw [hf5]; exact t.cell (HCF2.out 5 (by decide))
      have v6 : ∀ t : Grow wr, t.val.cell? ⟨gx, 6, none⟩ = some (.int .u64 (f6 : Nat)) := fun t => by rw [hf6]; exact t.cell (HCF2.out 6 (by decide))
      have v7 : ∀ t : Grow wr, t.val.cell? ⟨gx, 7, none⟩ = some (.int .u64 (f7 : Nat)) := fun t => by rw [hf7]; exact t.cell (HCF2.out 7 (by decide))
      obtain ⟨ki, hki⟩ : ∃ a, a = κ.keys.getD n 0 := ⟨_, rfl⟩
      obtain ⟨wi, hwi⟩ : ∃ a, a = ws.getD n 0 := ⟨_, rfl⟩
      have x1 : ∀ t : Grow wr, t.val.cell? ⟨gK, n, none⟩ = some (.int .u64 (ki : Nat)) := fun t => by rw [hki]; exact t.cell ((HB.out.cell (p := ⟨gK, n, none⟩) (block_lt_of_cell (HKEY.out n hnt))).trans (HKEY.out n hnt))
      have x2 : ∀ t : Grow wr, t.val.cell? ⟨Bw, n, none⟩ = some (.int .u64 (wi : Nat)) := fun t => by rw [hwi]; exact t.cell ((HB.out.cell (p := ⟨Bw, n, none⟩) (block_lt_of_cell (HWS.out n hnt))).trans (HWS.out n hnt))
      have kl : ∀ t : Grow wr, (kindLoad (.pointer (some ⟨base, 0, none⟩))).run Try.prog t.val = .ok (.value (.agg cs)) t.val := fun t => by
        refine run_kindLoad _ _ _ HK.out.n ?_
        rw [t.below.block _ (Nat.lt_of_lt_of_le hbl HB.out.size), HB.out.block _ hbl]
        exact HBLK.out
      have kcl : ∀ (j : Nat) (v : Value), cs[j]? = some v → ∀ t : Grow wr, t.val.cell? ⟨base, j, none⟩ = some v := fun j v hv t => t.cell (HCELL.out wr j v HB.out hv)
      obtain ⟨e1, he1⟩ : ∃ a, a = κ.c.1 := ⟨_, rfl⟩
      obtain ⟨e2, he2⟩ : ∃ a, a = κ.c.2.1 := ⟨_, rfl⟩
      obtain ⟨e3, he3⟩ : ∃ a, a = κ.c.2.2 := ⟨_, rfl⟩
      obtain ⟨e4, he4⟩ : ∃ a, a = κ.d.1 := ⟨_, rfl⟩
      obtain ⟨e5, he5⟩ : ∃ a, a = κ.d.2.1 := ⟨_, rfl⟩
      obtain ⟨e6, he6⟩ : ∃ a, a = κ.d.2.2 := ⟨_, rfl⟩
      have k9 : ∀ t : Grow wr, t.val.cell? ⟨base, 9, none⟩ = some (.int .i64 (e1 : Nat)) := kcl 9 _ (by rw [he1]; exact HH.out.1)
      have k10 : ∀ t : Grow wr, t.val.cell? ⟨base, 10, none⟩ = some (.int .i64 (e2 : Nat)) := kcl 10 _ (by rw [he2]; exact HH.out.2.1)
      have k11 : ∀ t : Grow wr, t.val.cell? ⟨base, 11, none⟩ = some (.int .i64 (e3 : Nat)) := kcl 11 _ (by rw [he3]; exact HH.out.2.2.1)
      have k12 : ∀ t : Grow wr, t.val.cell? ⟨base, 12, none⟩ = some (.int .i64 (e4 : Nat)) := kcl 12 _ (by rw [he4]; exact HH.out.2.2.2.1)
      have k13 : ∀ t : Grow wr, t.val.cell? ⟨base, 13, none⟩ = some (.int .i64 (e5 : Nat)) := kcl 13 _ (by rw [he5]; exact HH.out.2.2.2.2.1)
      have k14 : ∀ t : Grow wr, t.val.cell? ⟨base, 14, none⟩ = some (.int .i64 (e6 : Nat)) := kcl 14 _ (by rw [he6]; exact HH.out.2.2.2.2.2.1)
      have k15 := kcl 15 _ HH.out.2.2.2.2.2.2
      have j1 : e1 ≤ κ.w := by rw [he1]; exact i9
      have j2 : e2 ≤ κ.w := by rw [he2]; exact i10
      have j3 : e3 ≤ κ.w := by rw [he3]; exact i11
      have j4 : e4 ≤ κ.w := by rw [he4]; exact i12
      have j5 : e5 ≤ κ.w := by rw [he5]; exact i13
      have j6 : e6 ≤ κ.w := by rw [he6]; exact i14
      clear kcl
      obtain ⟨a1, ha1⟩ : ∃ a, a = Sha.ror κ.w f4 e1 := ⟨_, rfl⟩
      obtain ⟨a2, ha2⟩ : ∃ a, a = Sha.ror κ.w f4 e2 := ⟨_, rfl⟩
      obtain ⟨a3, ha3⟩ : ∃ a, a = Sha.ror κ.w f4 e3 := ⟨_, rfl⟩
      obtain ⟨b1, hb1⟩ : ∃ a, a = Sha.ror κ.w f0 e4 := ⟨_, rfl⟩
      obtain ⟨b2, hb2⟩ : ∃ a, a = Sha.ror κ.w f0 e5 := ⟨_, rfl⟩
      obtain ⟨b3, hb3⟩ : ∃ a, a = Sha.ror κ.w f0 e6 := ⟨_, rfl⟩
      have C1 : Hid (∀ t : Grow wr, Calls Try.prog 40 #[.agg cs, .int .u64 (f4 : Nat), .int .i64 (e1 : Nat)] t.val fun e w' => e = .returned (.int .u64 (a1 : Nat)) ∧ Below t.val.heap.size t.val w') := fun t => by rw [ha1]; exact rorW cs κ.w HWD.out HK.out f4 e1 l4 j1 t.val
      have C2 : Hid (∀ t : Grow wr, Calls Try.prog 40 #[.agg cs, .int .u64 (f4 : Nat), .int .i64 (e2 : Nat)] t.val fun e w' => e = .returned (.int .u64 (a2 : Nat)) ∧ Below t.val.heap.size t.val w') := fun t => by rw [ha2]; exact rorW cs κ.w HWD.out HK.out f4 e2 l4 j2 t.val
      have C3 : Hid (∀ t : Grow wr, Calls Try.prog 40 #[.agg cs, .int .u64 (f4 : Nat), .int .i64 (e3 : Nat)] t.val fun e w' => e = .returned (.int .u64 (a3 : Nat)) ∧ Below t.val.heap.size t.val w') := fun t => by rw [ha3]; exact rorW cs κ.w HWD.out HK.out f4 e3 l4 j3 t.val
      have C4 : Hid (∀ t : Grow wr, Calls Try.prog 40 #[.agg cs, .int .u64 (f0 : Nat), .int .i64 (e4 : Nat)] t.val fun e w' => e = .returned (.int .u64 (b1 : Nat)) ∧ Below t.val.heap.size t.val w') := fun t => by rw [hb1]; exact rorW cs κ.w HWD.out HK.out f0 e4 l0 j4 t.val
      have C5 : Hid (∀ t : Grow wr, Calls Try.prog 40 #[.agg cs, .int .u64 (f0 : Nat), .int .i64 (e5 : Nat)] t.val fun e w' => e = .returned (.int .u64 (b2 : Nat)) ∧ Below t.val.heap.size t.val w') := fun t => by rw [hb2]; exact rorW cs κ.w HWD.out HK.out f0 e5 l0 j5 t.val
      have C6 : Hid (∀ t : Grow wr, Calls Try.prog 40 #[.agg cs, .int .u64 (f0 : Nat), .int .i64 (e6 : Nat)] t.val fun e w' => e = .returned (.int .u64 (b3 : Nat)) ∧ Below t.val.heap.size t.val w') := fun t => by rw [hb3]; exact rorW cs κ.w HWD.out HK.out f0 e6 l0 j6 t.val
      have a1l : a1 < 2 ^ κ.w := by rw [ha1]; exact ror_lt κ.w f4 e1 l4
      have a2l : a2 < 2 ^ κ.w := by rw [ha2]; exact ror_lt κ.w f4 e2 l4
      have a3l : a3 < 2 ^ κ.w := by rw [ha3]; exact ror_lt κ.w f4 e3 l4
      have b1l : b1 < 2 ^ κ.w := by rw [hb1]; exact ror_lt κ.w f0 e4 l0
      have b2l : b2 < 2 ^ κ.w := by rw [hb2]; exact ror_lt κ.w f0 e5 l0
      have b3l : b3 < 2 ^ κ.w := by rw [hb3]; exact ror_lt κ.w f0 e6 l0
      obtain ⟨ax, hax⟩ : ∃ a, a = a1 ^^^ a2 := ⟨_, rfl⟩
      obtain ⟨am, ham⟩ : ∃ a, a = ax ^^^ a3 := ⟨_, rfl⟩
      obtain ⟨bx, hbx⟩ : ∃ a, a = b1 ^^^ b2 := ⟨_, rfl⟩
      obtain ⟨bm, hbm⟩ : ∃ a, a = bx ^^^ b3 := ⟨_, rfl⟩
      obtain ⟨c1, hc1⟩ : ∃ a, a = f4 &&& f5 := ⟨_, rfl⟩
      obtain ⟨ne, hne1⟩ : ∃ a, a = 2 ^ 64 - 1 - f4 := ⟨_, rfl⟩
      obtain ⟨nc, hnc⟩ : ∃ a, a = ne % 2 ^ κ.w := ⟨_, rfl⟩
      obtain ⟨c2, hc2⟩ : ∃ a, a = nc &&& f6 := ⟨_, rfl⟩
      obtain ⟨ch, hch⟩ : ∃ a, a = c1 ^^^ c2 := ⟨_, rfl⟩
      obtain ⟨u1, hu1⟩ : ∃ a, a = (f7 + am) % 2 ^ 64 := ⟨_, rfl⟩
      obtain ⟨u2, hu2⟩ : ∃ a, a = (u1 + ch) % 2 ^ 64 := ⟨_, rfl⟩
      obtain ⟨u3, hu3⟩ : ∃ a, a = (u2 + ki) % 2 ^ 64 := ⟨_, rfl⟩
      obtain ⟨tt, htt⟩ : ∃ a, a = (u3 + wi) % 2 ^ 64 := ⟨_, rfl⟩
      obtain ⟨d1, hd1⟩ : ∃ a, a = f0 &&& f1 := ⟨_, rfl⟩
      obtain ⟨d2, hd2⟩ : ∃ a, a = f0 &&& f2 := ⟨_, rfl⟩
      obtain ⟨d3, hd3⟩ : ∃ a, a = f1 &&& f2 := ⟨_, rfl⟩
      obtain ⟨dx, hdx⟩ : ∃ a, a = d1 ^^^ d2 := ⟨_, rfl⟩
      obtain ⟨mj, hmj⟩ : ∃ a, a = dx ^^^ d3 := ⟨_, rfl⟩
      obtain ⟨uu, huu⟩ : ∃ a, a = (bm + mj) % 2 ^ 64 := ⟨_, rfl⟩
      obtain ⟨tu, htu⟩ : ∃ a, a = (tt + uu) % 2 ^ 64 := ⟨_, rfl⟩
      obtain ⟨ft, hft⟩ : ∃ a, a = (f3 + tt) % 2 ^ 64 := ⟨_, rfl⟩
      obtain ⟨z0, hz0⟩ : ∃ a, a = tu % 2 ^ κ.w := ⟨_, rfl⟩
      obtain ⟨z4, hz4⟩ : ∃ a, a = ft % 2 ^ κ.w := ⟨_, rfl⟩
      have axl : ax < 2 ^ κ.w := by rw [hax]; exact Nat.xor_lt_two_pow a1l a2l
      have bxl : bx < 2 ^ κ.w := by rw [hbx]; exact Nat.xor_lt_two_pow b1l b2l
      have c1l : c1 < 2 ^ κ.w := by rw [hc1]; exact Nat.and_lt_two_pow _ l5
      have nel : ne < 2 ^ 64 := by omega
      have ncl : nc < 2 ^ κ.w := by rw [hnc]; exact Nat.mod_lt _ (Nat.two_pow_pos _)
      have c2l : c2 < 2 ^ κ.w := by rw [hc2]; exact Nat.and_lt_two_pow _ l6
      have d1l : d1 < 2 ^ κ.w := by rw [hd1]; exact Nat.and_lt_two_pow _ l1
      have d2l : d2 < 2 ^ κ.w := by rw [hd2]; exact Nat.and_lt_two_pow _ l2
      have d3l : d3 < 2 ^ κ.w := by rw [hd3]; exact Nat.and_lt_two_pow _ l2
      have dxl : dx < 2 ^ κ.w := by rw [hdx]; exact Nat.xor_lt_two_pow d1l d2l
      have C7 : Hid (∀ t : Grow wr, Calls Try.prog 39 #[.agg cs, .int .u64 (ne : Nat)] t.val fun e w' => e = .returned (.int .u64 (nc : Nat)) ∧ Below t.val.heap.size t.val w') := fun t => by rw [hnc]; exact cutW cs κ.w HWD.out HK.out ne nel t.val
      have hT : tt % 2 ^ κ.w = Sha.tF κ f ki wi := by
        have g1 : am = Sha.mix κ.w (f 4) κ.c.1 κ.c.2.1 κ.c.2.2 false := by rw [ham, hax, ha1, ha2, ha3, hf4, he1, he2, he3]; rfl
        have g2 : nc = 2 ^ κ.w - 1 - f 4 := by rw [hnc, hne1, not_cut κ.w f4 hwd6 l4, hf4]
        have g3 : tt = t64 κ f ki wi % 2 ^ 64 := by rw [htt, hu3, hu2, hu1, hch, hc1, hc2, g1, g2, hf4, hf5, hf6, hf7]; rfl
        rw [g3]; exact t64_cut κ hwd6 f ki wi
      have hU : uu % 2 ^ κ.w = Sha.uF κ f := by
        have g1 : bm = Sha.mix κ.w (f 0) κ.d.1 κ.d.2.1 κ.d.2.2 false := by rw [hbm, hbx, hb1, hb2, hb3, hf0, he4, he5, he6]; rfl
        have g3 : uu = u64s κ f % 2 ^ 64 := by rw [huu, hmj, hdx, hd1, hd2, hd3, g1, hf0, hf1, hf2]; rfl
        rw [g3]; exact u64_cut κ hwd6 f
      have HZ0 : Hid (z0 = Sha.add κ.w (Sha.tF κ f ki wi) (Sha.uF κ f)) := by rw [hz0, htu]; exact add_cut κ.w _ _ _ _ hwd6 hT hU
      have HZ4 : Hid (z4 = Sha.add κ.w (f 3) (Sha.tF κ f ki wi)) := by rw [hz4, hft]; exact add_cut κ.w _ _ _ _ hwd6 (by rw [← hf3]; exact Nat.mod_eq_of_lt l3) hT
      have E1 := xor_u64v a1 a2 ax (LT.out _ a1l) (LT.out _ a2l) hax
      have E2 := xor_u64v ax a3 am (LT.out _ axl) (LT.out _ a3l) ham
      have E3 := xor_u64v b1 b2 bx (LT.out _ b1l) (LT.out _ b2l) hbx
      have E4 := xor_u64v bx b3 bm (LT.out _ bxl) (LT.out _ b3l) hbm
      have E5 := and_u64v f4 f5 c1 (LT.out _ l4) (LT.out _ l5) hc1
      have E6 : bits .xor .u64 (if IntKind.u64.signed = true then -1 else IntKind.u64.max) (f4 : Int) = (ne : Int) := by rw [if_neg (by decide)]; exact not_u64v f4 ne (LT.out _ l4) hne1
      have E7 := and_u64v nc f6 c2 (LT.out _ ncl) (LT.out _ l6) hc2
      have E8 := xor_u64v c1 c2 ch (LT.out _ c1l) (LT.out _ c2l) hch
      have E9 := wrap_u64v f7 am u1 hu1
      have E10 := wrap_u64v u1 ch u2 hu2
      have E11 := wrap_u64v u2 ki u3 hu3
      have E12 := wrap_u64v u3 wi tt htt
      have E13 := and_u64v f0 f1 d1 (LT.out _ l0) (LT.out _ l1) hd1
      have E14 := and_u64v f0 f2 d2 (LT.out _ l0) (LT.out _ l2) hd2
      have E15 := and_u64v f1 f2 d3 (LT.out _ l1) (LT.out _ l2) hd3
      have E16 := xor_u64v d1 d2 dx (LT.out _ d1l) (LT.out _ d2l) hdx
      have E17 := xor_u64v dx d3 mj (LT.out _ dxl) (LT.out _ d3l) hmj
      have E18 := wrap_u64v bm mj uu huu
      have E19 := wrap_u64v tt uu tu htu
      have E20 := wrap_u64v f3 tt ft hft
      have C8 : Hid (∀ t : Grow wr, Calls Try.prog 39 #[.agg cs, .int .u64 (tu : Nat)] t.val fun e w' => e = .returned (.int .u64 (z0 : Nat)) ∧ Below t.val.heap.size t.val w') := fun t => by rw [hz0]; exact cutW cs κ.w HWD.out HK.out tu (by rw [htu]; exact Nat.mod_lt _ (by decide)) t.val
      have C9 : Hid (∀ t : Grow wr, Calls Try.prog 39 #[.agg cs, .int .u64 (ft : Nat)] t.val fun e w' => e = .returned (.int .u64 (z4 : Nat)) ∧ Below t.val.heap.size t.val w') := fun t => by rw [hz4]; exact cutW cs κ.w HWD.out HK.out ft (by rw [hft]; exact Nat.mod_lt _ (by decide)) t.val
      have HFJ := Lib.hid (And.intro hf0 (And.intro hf1 (And.intro hf2 (And.intro hf4 (And.intro hf5 hf6)))))
      have HKI := Lib.hid hki
      have HWI := Lib.hid hwi
      clear hf hcx hfl hax ham hbx hbm hc1 hne1 hnc hc2 hch hu1 hu2 hu3 htt hd1 hd2 hd3 hdx hmj huu htu hft hz0 hz4 ha1 a1l ha2 a2l ha3 a3l hb1 b1l hb2 b2l hb3 b3l axl bxl c1l nel ncl c2l d1l d2l d3l dxl hT hU hf0 l0 hf1 l1 hf2 l2 hf3 l3 hf4 l4 hf5 l5 hf6 l6 hf7 l7 hki hwi he1 j1 he2 j2 he3 j3 he4 j4 he5 j5 he6 j6
      go_wp2_with fail
      refine wp_region_fam (by kernel_rfl) (by kernel_rfl) Grow.val (Grow.start wr) ?_
      repeat go_big_quiet_step (fail)
      refine wpQuiet_nil ?_
      intro t
      go_wp2_with fail
      refine wp_region_fam (by kernel_rfl) (by kernel_rfl) Grow.val t.again ?_
      repeat go_big_quiet_step ((first | (with_reducible refine Calls.fam_of (C1.out _) (Grow.more _)) | (with_reducible refine Calls.fam_of (C2.out _) (Grow.more _)) | (with_reducible refine Calls.fam_of (C3.out _) (Grow.more _)) | (with_reducible refine Calls.fam_of (C7.out _) (Grow.more _))))
      refine wpQuiet_nil ?_
      clear t
      intro t
      clear E1 E2 E5 E6 E7 E8 E9 E10 E11 E12 C1 C2 C3 C7 x1 x2 k9 k10 k11 k15
      go_wp2_with fail
      refine wp_region_fam (by kernel_rfl) (by kernel_rfl) Grow.val t.again ?_
      repeat go_big_quiet_step ((first | (with_reducible refine Calls.fam_of (C4.out _) (Grow.more _)) | (with_reducible refine Calls.fam_of (C5.out _) (Grow.more _)) | (with_reducible refine Calls.fam_of (C6.out _) (Grow.more _))))
      refine wpQuiet_nil ?_
      clear t
      intro t
      clear E3 E4 E13 E14 E15 E16 E17 E18 C4 C5 C6 k12 k13 k14
      go_wp2_with fail
      refine wp_region_fam_tail 30 (by kernel_rfl) (by kernel_rfl) Grow.val t.again ?_
      simp only [List.take_succ_cons, List.take_zero, List.drop_succ_cons, List.drop_zero]
      repeat go_big_quiet_step ((first | (with_reducible refine Calls.fam_of (C8.out _) (Grow.more _)) | (with_reducible refine Calls.fam_of (C9.out _) (Grow.more _))))
      refine wpQuiet_nil ?_
      clear t
      intro t
      clear E19 E20 C8 C9 kl v0 v1 v2 v3 v4 v5 v6 v7 q1
      go_wp2_with fail
      have hfin : Cells64 (t.val.alloc (.cells #[.int .u64 z0, .int .u64 f0, .int .u64 f1, .int .u64 f2, .int .u64 z4, .int .u64 f4, .int .u64 f5, .int .u64 f6] 58)) t.val.heap.size 8 (Sha.rF κ ws st (n + 1)) := by
        have h1 := Row.new t.val 58 .u64 8 (Sha.nF κ f (Sha.tF κ f ki wi) (Sha.uF κ f)) #[.int .u64 z0, .int .u64 f0, .int .u64 f1, .int .u64 f2, .int .u64 z4, .int .u64 f4, .int .u64 f5, .int .u64 f6] (by
          rw [HZ0.out, HZ4.out, HFJ.out.1, HFJ.out.2.1, HFJ.out.2.2.1, HFJ.out.2.2.2.1, HFJ.out.2.2.2.2.1, HFJ.out.2.2.2.2.2]; rfl)
        intro j hj
        rw [h1.cell hj, Sha.rF_step _ _ _ _ _ hj, ← HF2.out, ← HWI.out, ← HKI.out]
      refine ⟨⟨n + 1, _, _, by omega, rfl, rfl, hfin, ?_, ?_⟩, by simp [intOf]; omega⟩
      · have h1 := t.below.size
        have h2 := HB.out.size
        omega
      · exact (HB.out.trans (t.below.mono HB.out.size)).alloc (Nat.le_trans HB.out.size t.below.size) _
    · have hnR : n = R := by omega
      have hcx := HCX.out
      rw [hnR] at hcx
      have HCX2 := Lib.hid hcx
      clear hcx hnR
      go_wp2_with fail
      exact hexit _ _ _ _ _ _ _ _ _ _ _ _ _ _ _ _ _ _ _ _ _ _ _ _ _ _ _ _ _ _ _ _ _ _ _ _ _ _ _ _ _ _ _ _ _ _ _ _ _ _ _ _ _ _ _ _ _ _ _ _ _ _ _ _ _ _ _ _ _ _ _ _ _ _ _ _ _ _ _ _ _ _ _ _ _ _ _ _ _ _ _ _ _ _ _ _ _ _ _ _ _ _ _ _ _ _ _ _ _ _ _ _ _ _ _ _ _ _ _ _ _ _ _ _ _ _ _ _ _ _ _ _ _ _ _ _ _ _ gx cx wr HCX2.out hnx HB.out
end Go.Proofs.Ytjlhckgokdjajaa
