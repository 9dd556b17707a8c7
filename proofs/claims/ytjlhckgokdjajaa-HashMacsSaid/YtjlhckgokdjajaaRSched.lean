/- The reference's Sum, cut into declarations: the loop of the schedule. (Written by gen_loops.py.) -/
import Derived.Test.YtjlhckgokdjajaaRL
namespace Go.Proofs.Ytjlhckgokdjajaa
open Go.RowKit
set_option maxRecDepth 1000000 in
set_option maxHeartbeats 8000000 in
theorem schedLoop (κ : Sha.Kind) (hwd : WD κ.w) (cs : Array Value) (hk : KCells cs κ.w) (R : Nat) (hR0 : 16 ≤ R) (hR : R ≤ 1000) (base Bw : Nat) (bl : List Nat) (hbl8 : ∀ c ∈ bl, c < 256) (w3 : World) (Q0 : Exit → Act → World → Prop) (c0 c1 c3 c4 c5 c6 c7 c8 c10 c11 c13 c14 c15 c16 c17 c18 c19 c20 c21 c22 c23 c24 c25 c26 c27 c28 c29 c30 c31 c32 c33 c34 c35 c36 c37 c38 c39 c40 c41 c42 c43 c44 c45 c46 c47 c48 c49 c50 c51 c52 c53 c54 c55 c56 c57 c58 c59 c60 c61 c62 c63 c64 c65 c66 c67 c68 c69 c70 c71 c72 c73 c74 c75 c76 c77 c78 c79 c80 c81 c82 c83 c84 c85 c86 c87 c88 c89 c90 c91 c92 c93 c94 c95 c96 c97 c98 c99 c100 c101 c102 c103 c104 c105 c106 c107 c108 c109 c110 c111 c112 c113 c114 c115 c116 c117 c118 c119 c120 c121 c122 c123 c124 c125 c126 c127 c128 c129 c130 c131 c132 c133 c134 c135 c136 c137 c138 c139 c140 c141 c142 c143 c144 c145 c146 c147 c148 c149 c150 c151 c152 c153 c154 c155 c156 c157 c158 c159 c160 c161 c162 c163 c164 c165 c166 c167 c168 c169 c170 c171 c172 c173 c174 c175 c176 c177 c178 c179 c180 c181 c182 c183 c184 c185 c186 c187 c188 c189 c190 c191 c192 c193 c194 c195 c196 c197 c198 c199 c200 c201 c202 c203 c204 c205 c206 c207 c208 c209 c210 c211 c212 c213 c214 c215 c216 c217 c218 c219 c220 c221 c222 c223 c224 c225 c226 c227 c228 c229 c230 c231 c232 c233 c234 c235 c236 c237 c238 c239 c240 c241 c242 c243 c244 c245 c246 c247 c248 c249 c250 c251 c252 c253 c254 c255 c256 c257 c258 c259 c260 c261 c262 c263 c264 c265 c266 c267 c268 c269 c270 c271 c272 c273 c274 c275 c276 c277 c278 c279 c280 c281 c282 c283 c284 c285 c286 c287 c288 c289 c290 c291 c292 c293 c294 c295 c296 c297 c298 c299 c300 c301 c302 c303 c304 c305 c306 c307 c308 c309 c310 c311 c312 c313 c314 c315 c316 c317 c318 c319 c320 c321 c322 c323 c324 c325 c326 c327 c328 c329 c330 c331 c332 c333 c334 c335 c336 c337 c338 c339 : Value)
    (hblk : w3.heap[base]? = some (.cells cs 51 (0, 0))) (h1 : cs[1]? = some (.int .i64 (R : Nat)))
    (h3 : cs[3]? = some (.int .i64 (κ.a.1 : Nat))) (h4 : cs[4]? = some (.int .i64 (κ.a.2.1 : Nat))) (h5 : cs[5]? = some (.int .i64 (κ.a.2.2 : Nat))) (h6 : cs[6]? = some (.int .i64 (κ.b.1 : Nat))) (h7 : cs[7]? = some (.int .i64 (κ.b.2.1 : Nat))) (h8 : cs[8]? = some (.int .i64 (κ.b.2.2 : Nat)))
    (i3 : κ.a.1 ≤ κ.w) (i4 : κ.a.2.1 ≤ κ.w) (i5 : κ.a.2.2 ≤ 64) (i8 : κ.b.2.2 ≤ 64) (i6 : κ.b.1 ≤ κ.w) (i7 : κ.b.2.1 ≤ κ.w) (hrow : Row w3 Bw 58 .u64 R (Sha.gF κ bl 0)) (hne : base ≠ Bw)
    (hexit : ∀ (u12 u13 u14 u96 u97 u98 u99 u100 u101 u102 u103 u104 u105 u106 u107 u108 u109 u110 u111 u112 u113 u114 u115 u116 u117 u118 u119 u120 u121 u122 u123 u124 u125 u126 u127 u128 u129 u130 u131 u132 u133 u134 u135 u136 u137 u138 u139 u140 u141 u142 u143 u144 u145 u146 u147 u148 u149 u150 u151 u152 u153 u154 u155 u156 u157 u158 u159 u160 u161 u162 u163 u164 u165 u166 u167 : Value) (w' : World), Row w' Bw 58 .u64 R (Sha.gF κ bl (R - 16)) → w3.grownBy w' (some Bw) → Q0 (.exit 8) ⟨#[c0, c1, (.pointer (some ⟨base, 0, none⟩)), c3, c4, c5, c6, c7, c8, (.slice (some ⟨Bw, 0, none⟩) R R), c10, c11, u12, u13, u14, c15, c16, c17, c18, c19, c20, c21, c22, c23, c24, c25, c26, c27, c28, c29, c30, c31, c32, c33, c34, c35, c36, c37, c38, c39, c40, c41, c42, c43, c44, c45, c46, c47, c48, c49, c50, c51, c52, c53, c54, c55, c56, c57, c58, c59, c60, c61, c62, c63, c64, c65, c66, c67, c68, c69, c70, c71, c72, c73, c74, c75, c76, c77, c78, c79, c80, c81, c82, c83, c84, c85, c86, c87, c88, c89, c90, c91, c92, c93, c94, c95, u96, u97, u98, u99, u100, u101, u102, u103, u104, u105, u106, u107, u108, u109, u110, u111, u112, u113, u114, u115, u116, u117, u118, u119, u120, u121, u122, u123, u124, u125, u126, u127, u128, u129, u130, u131, u132, u133, u134, u135, u136, u137, u138, u139, u140, u141, u142, u143, u144, u145, u146, u147, u148, u149, u150, u151, u152, u153, u154, u155, u156, u157, u158, u159, u160, u161, u162, u163, u164, u165, u166, u167, c168, c169, c170, c171, c172, c173, c174, c175, c176, c177, c178, c179, c180, c181, c182, c183, c184, c185, c186, c187, c188, c189, c190, c191, c192, c193, c194, c195, c196, c197, c198, c199, c200, c201, c202, c203, c204, c205, c206, c207, c208, c209, c210, c211, c212, c213, c214, c215, c216, c217, c218, c219, c220, c221, c222, c223, c224, c225, c226, c227, c228, c229, c230, c231, c232, c233, c234, c235, c236, c237, c238, c239, c240, c241, c242, c243, c244, c245, c246, c247, c248, c249, c250, c251, c252, c253, c254, c255, c256, c257, c258, c259, c260, c261, c262, c263, c264, c265, c266, c267, c268, c269, c270, c271, c272, c273, c274, c275, c276, c277, c278, c279, c280, c281, c282, c283, c284, c285, c286, c287, c288, c289, c290, c291, c292, c293, c294, c295, c296, c297, c298, c299, c300, c301, c302, c303, c304, c305, c306, c307, c308, c309, c310, c311, c312, c313, c314, c315, c316, c317, c318, c319, c320, c321, c322, c323, c324, c325, c326, c327, c328, c329, c330, c331, c332, c333, c334, c335, c336, c337, c338, c339], []⟩ w') :
    Code.wp Try.prog (sumLoop 4) Q0 ⟨#[c0, c1, (.pointer (some ⟨base, 0, none⟩)), c3, c4, c5, c6, c7, c8, (.slice (some ⟨Bw, 0, none⟩) R R), c10, c11, (.int .i64 16), c13, c14, c15, c16, c17, c18, c19, c20, c21, c22, c23, c24, c25, c26, c27, c28, c29, c30, c31, c32, c33, c34, c35, c36, c37, c38, c39, c40, c41, c42, c43, c44, c45, c46, c47, c48, c49, c50, c51, c52, c53, c54, c55, c56, c57, c58, c59, c60, c61, c62, c63, c64, c65, c66, c67, c68, c69, c70, c71, c72, c73, c74, c75, c76, c77, c78, c79, c80, c81, c82, c83, c84, c85, c86, c87, c88, c89, c90, c91, c92, c93, c94, c95, c96, c97, c98, c99, c100, c101, c102, c103, c104, c105, c106, c107, c108, c109, c110, c111, c112, c113, c114, c115, c116, c117, c118, c119, c120, c121, c122, c123, c124, c125, c126, c127, c128, c129, c130, c131, c132, c133, c134, c135, c136, c137, c138, c139, c140, c141, c142, c143, c144, c145, c146, c147, c148, c149, c150, c151, c152, c153, c154, c155, c156, c157, c158, c159, c160, c161, c162, c163, c164, c165, c166, c167, c168, c169, c170, c171, c172, c173, c174, c175, c176, c177, c178, c179, c180, c181, c182, c183, c184, c185, c186, c187, c188, c189, c190, c191, c192, c193, c194, c195, c196, c197, c198, c199, c200, c201, c202, c203, c204, c205, c206, c207, c208, c209, c210, c211, c212, c213, c214, c215, c216, c217, c218, c219, c220, c221, c222, c223, c224, c225, c226, c227, c228, c229, c230, c231, c232, c233, c234, c235, c236, c237, c238, c239, c240, c241, c242, c243, c244, c245, c246, c247, c248, c249, c250, c251, c252, c253, c254, c255, c256, c257, c258, c259, c260, c261, c262, c263, c264, c265, c266, c267, c268, c269, c270, c271, c272, c273, c274, c275, c276, c277, c278, c279, c280, c281, c282, c283, c284, c285, c286, c287, c288, c289, c290, c291, c292, c293, c294, c295, c296, c297, c298, c299, c300, c301, c302, c303, c304, c305, c306, c307, c308, c309, c310, c311, c312, c313, c314, c315, c316, c317, c318, c319, c320, c321, c322, c323, c324, c325, c326, c327, c328, c329, c330, c331, c332, c333, c334, c335, c336, c337, c338, c339], []⟩ w3 := by
  have hwd64 : 2 ^ κ.w ≤ 2 ^ 64 := by rcases hwd with h | h <;> rw [h] <;> decide
  have hwd6 : κ.w ≤ 64 := by rcases hwd with h | h <;> omega
  have hwd8 : 256 ≤ 2 ^ κ.w := by rcases hwd with h | h <;> rw [h] <;> decide
  have LT : Hid (∀ x, x < 2 ^ κ.w → x < 2 ^ 64) := fun x h => Nat.lt_of_lt_of_le h hwd64
  have HK := Lib.hid hk
  have HWD := Lib.hid hwd
  have HBLK := Lib.hid hblk
  have hb0 : base < w3.heap.size := (Array.getElem?_eq_some_iff.1 hblk).1
  have HCELL : Hid (∀ (wt : World) (j : Nat) (v : Value), w3.grownBy wt (some Bw) → cs[j]? = some v → wt.cell? ⟨base, j, none⟩ = some v) := fun wt j v hb hv =>
    (hb.cell_far ⟨base, j, none⟩ hb0 (fun e => hne (by injection e))).trans ((cell_of_row w3 base j cs 51 (0, 0) hblk).trans hv)
  have HGL : Hid (∀ n j, Sha.gF κ bl n j < 2 ^ κ.w) := fun n j => Sha.gF_lt κ bl (fun c hc => Nat.lt_of_lt_of_le (hbl8 c hc) hwd8) n j
  have H1 := Lib.hid h1
  have HH := Lib.hid (And.intro h3 (And.intro h4 (And.intro h5 (And.intro h6 (And.intro h7 h8)))))
  have HROW := Lib.hid hrow
  clear hwd hk hblk h1 h3 h4 h5 h6 h7 h8 hrow hbl8
  dsimp only at hexit ⊢
  conv => arg 2; whnf
  go_loopw [12] (fun v wr => ∃ k : Nat, 16 ≤ k ∧ k ≤ R ∧ v = .int .i64 (k : Nat) ∧ Row wr Bw 58 .u64 R (Sha.gF κ bl (k - 16)) ∧ w3.grownBy wr (some Bw)) (fun v _ => (R - intOf v).toNat)
  case atStart => exact ⟨16, by omega, by omega, rfl, HROW.out, ⟨rfl, rfl, rfl, Nat.le_refl _, fun _ _ _ => rfl⟩⟩
  case round =>
    obtain ⟨k, hk0, hk, rfl, hrow, hbel⟩ := hrel
    have HR := Lib.hid hrow
    have HB := Lib.hid hbel
    clear hrow hbel
    have q1 := HCELL.out wr 1 _ HB.out H1.out
    by_cases hkt : k < R
    · obtain ⟨f, hf⟩ : ∃ f, f = Sha.gF κ bl (k - 16) := ⟨_, rfl⟩
      have hrow := HR.out
      rw [← hf] at hrow
      have hfl : ∀ j, f j < 2 ^ κ.w := by subst hf; exact HGL.out _
      have HF2 := Lib.hid hf
      have HRT := Lib.hid hrow
      obtain ⟨x, hx⟩ : ∃ x, x = f (k - 15) := ⟨_, rfl⟩
      obtain ⟨y, hy⟩ : ∃ y, y = f (k - 2) := ⟨_, rfl⟩
      obtain ⟨wa, hwa⟩ : ∃ y, y = f (k - 16) := ⟨_, rfl⟩
      obtain ⟨wb, hwb⟩ : ∃ y, y = f (k - 7) := ⟨_, rfl⟩
      have hxl : x < 2 ^ κ.w := by rw [hx]; exact hfl _
      have hyl : y < 2 ^ κ.w := by rw [hy]; exact hfl _
      have r0 : ∀ t : Grow wr, t.val.cell? ⟨Bw, k - 15, none⟩ = some (.int .u64 (x : Nat)) := fun t => by rw [hx]; exact t.cell (HRT.out.cell (by omega))
      have r3 : ∀ t : Grow wr, t.val.cell? ⟨Bw, k - 2, none⟩ = some (.int .u64 (y : Nat)) := fun t => by rw [hy]; exact t.cell (HRT.out.cell (by omega))
      have r1 : ∀ t : Grow wr, t.val.cell? ⟨Bw, k - 16, none⟩ = some (.int .u64 (wa : Nat)) := fun t => by rw [hwa]; exact t.cell (HRT.out.cell (by omega))
      have r2 : ∀ t : Grow wr, t.val.cell? ⟨Bw, k - 7, none⟩ = some (.int .u64 (wb : Nat)) := fun t => by rw [hwb]; exact t.cell (HRT.out.cell (by omega))
      have kl : ∀ t : Grow wr, (kindLoad (.pointer (some ⟨base, 0, none⟩))).run Try.prog t.val = .ok (.value (.agg cs)) t.val := fun t => by
        refine run_kindLoad _ _ _ HK.out.n ?_
        rw [t.below.block _ (Nat.lt_of_lt_of_le hb0 HB.out.size), HB.out.block _ hb0 (by intro e; injection e with e; exact hne e)]
        exact HBLK.out
      have kcl : ∀ (j : Nat) (v : Value), cs[j]? = some v → ∀ t : Grow wr, t.val.cell? ⟨base, j, none⟩ = some v := fun j v hv t => t.cell (HCELL.out wr j v HB.out hv)
      obtain ⟨e1, he1⟩ : ∃ a, a = κ.a.1 := ⟨_, rfl⟩
      obtain ⟨e2, he2⟩ : ∃ a, a = κ.a.2.1 := ⟨_, rfl⟩
      obtain ⟨e3, he3⟩ : ∃ a, a = κ.a.2.2 := ⟨_, rfl⟩
      obtain ⟨e4, he4⟩ : ∃ a, a = κ.b.1 := ⟨_, rfl⟩
      obtain ⟨e5, he5⟩ : ∃ a, a = κ.b.2.1 := ⟨_, rfl⟩
      obtain ⟨e6, he6⟩ : ∃ a, a = κ.b.2.2 := ⟨_, rfl⟩
      have k3 : ∀ t : Grow wr, t.val.cell? ⟨base, 3, none⟩ = some (.int .i64 (e1 : Nat)) := kcl 3 _ (by rw [he1]; exact HH.out.1)
      have k4 : ∀ t : Grow wr, t.val.cell? ⟨base, 4, none⟩ = some (.int .i64 (e2 : Nat)) := kcl 4 _ (by rw [he2]; exact HH.out.2.1)
      have k5 : ∀ t : Grow wr, t.val.cell? ⟨base, 5, none⟩ = some (.int .i64 (e3 : Nat)) := kcl 5 _ (by rw [he3]; exact HH.out.2.2.1)
      have k6 : ∀ t : Grow wr, t.val.cell? ⟨base, 6, none⟩ = some (.int .i64 (e4 : Nat)) := kcl 6 _ (by rw [he4]; exact HH.out.2.2.2.1)
      have k7 : ∀ t : Grow wr, t.val.cell? ⟨base, 7, none⟩ = some (.int .i64 (e5 : Nat)) := kcl 7 _ (by rw [he5]; exact HH.out.2.2.2.2.1)
      have k8 : ∀ t : Grow wr, t.val.cell? ⟨base, 8, none⟩ = some (.int .i64 (e6 : Nat)) := kcl 8 _ (by rw [he6]; exact HH.out.2.2.2.2.2)
      clear kcl
      obtain ⟨a1, ha1⟩ : ∃ a, a = Sha.ror κ.w x e1 := ⟨_, rfl⟩
      obtain ⟨a2, ha2⟩ : ∃ a, a = Sha.ror κ.w x e2 := ⟨_, rfl⟩
      obtain ⟨b1, hb1⟩ : ∃ a, a = Sha.ror κ.w y e4 := ⟨_, rfl⟩
      obtain ⟨b2, hb2⟩ : ∃ a, a = Sha.ror κ.w y e5 := ⟨_, rfl⟩
      have C1 : Hid (∀ t : Grow wr, Calls Try.prog 40 #[.agg cs, .int .u64 (x : Nat), .int .i64 (e1 : Nat)] t.val fun e w' => e = .returned (.int .u64 (a1 : Nat)) ∧ Below t.val.heap.size t.val w') := fun t => by rw [ha1]; exact rorW cs κ.w HWD.out HK.out x e1 hxl (by rw [he1]; exact i3) t.val
      have C2 : Hid (∀ t : Grow wr, Calls Try.prog 40 #[.agg cs, .int .u64 (x : Nat), .int .i64 (e2 : Nat)] t.val fun e w' => e = .returned (.int .u64 (a2 : Nat)) ∧ Below t.val.heap.size t.val w') := fun t => by rw [ha2]; exact rorW cs κ.w HWD.out HK.out x e2 hxl (by rw [he2]; exact i4) t.val
      have C3 : Hid (∀ t : Grow wr, Calls Try.prog 40 #[.agg cs, .int .u64 (y : Nat), .int .i64 (e4 : Nat)] t.val fun e w' => e = .returned (.int .u64 (b1 : Nat)) ∧ Below t.val.heap.size t.val w') := fun t => by rw [hb1]; exact rorW cs κ.w HWD.out HK.out y e4 hyl (by rw [he4]; exact i6) t.val
      have C4 : Hid (∀ t : Grow wr, Calls Try.prog 40 #[.agg cs, .int .u64 (y : Nat), .int .i64 (e5 : Nat)] t.val fun e w' => e = .returned (.int .u64 (b2 : Nat)) ∧ Below t.val.heap.size t.val w') := fun t => by rw [hb2]; exact rorW cs κ.w HWD.out HK.out y e5 hyl (by rw [he5]; exact i7) t.val
      have a1l : a1 < 2 ^ κ.w := by rw [ha1]; exact ror_lt κ.w x e1 hxl
      have a2l : a2 < 2 ^ κ.w := by rw [ha2]; exact ror_lt κ.w x e2 hxl
      have b1l : b1 < 2 ^ κ.w := by rw [hb1]; exact ror_lt κ.w y e4 hyl
      have b2l : b2 < 2 ^ κ.w := by rw [hb2]; exact ror_lt κ.w y e5 hyl
      obtain ⟨s1, hs1⟩ : ∃ a, a = x / 2 ^ e3 := ⟨_, rfl⟩
      obtain ⟨s2, hs2⟩ : ∃ a, a = y / 2 ^ e6 := ⟨_, rfl⟩
      have s1l : s1 < 2 ^ κ.w := by rw [hs1]; exact Nat.lt_of_le_of_lt (Nat.div_le_self _ _) hxl
      have s2l : s2 < 2 ^ κ.w := by rw [hs2]; exact Nat.lt_of_le_of_lt (Nat.div_le_self _ _) hyl
      obtain ⟨ax, hax⟩ : ∃ a, a = a1 ^^^ a2 := ⟨_, rfl⟩
      obtain ⟨m1, hm1⟩ : ∃ a, a = ax ^^^ s1 := ⟨_, rfl⟩
      obtain ⟨bx, hbx⟩ : ∃ a, a = b1 ^^^ b2 := ⟨_, rfl⟩
      obtain ⟨m2, hm2⟩ : ∃ a, a = bx ^^^ s2 := ⟨_, rfl⟩
      obtain ⟨u1, hu1⟩ : ∃ a, a = (wa + m1) % 2 ^ 64 := ⟨_, rfl⟩
      obtain ⟨u2, hu2⟩ : ∃ a, a = (u1 + wb) % 2 ^ 64 := ⟨_, rfl⟩
      obtain ⟨u3, hu3⟩ : ∃ a, a = (u2 + m2) % 2 ^ 64 := ⟨_, rfl⟩
      obtain ⟨z, hz⟩ : ∃ a, a = u3 % 2 ^ κ.w := ⟨_, rfl⟩
      have axl : ax < 2 ^ κ.w := by rw [hax]; exact Nat.xor_lt_two_pow a1l a2l
      have bxl : bx < 2 ^ κ.w := by rw [hbx]; exact Nat.xor_lt_two_pow b1l b2l
      have C5 : Hid (∀ t : Grow wr, Calls Try.prog 39 #[.agg cs, .int .u64 (u3 : Nat)] t.val fun e w' => e = .returned (.int .u64 (z : Nat)) ∧ Below t.val.heap.size t.val w') := fun t => by rw [hz]; exact cutW cs κ.w HWD.out HK.out u3 (by rw [hu3]; exact Nat.mod_lt _ (by decide)) t.val
      have E1 : (x : Int) / 2 ^ min e3 64 = (s1 : Int) := by rw [hs1, Nat.min_eq_left (by rw [he3]; exact i5), shr_nat]
      have E2 : (y : Int) / 2 ^ min e6 64 = (s2 : Int) := by rw [hs2, Nat.min_eq_left (by rw [he6]; exact i8), shr_nat]
      have E3 := xor_u64v a1 a2 ax (LT.out _ a1l) (LT.out _ a2l) hax
      have E4 := xor_u64v ax s1 m1 (LT.out _ axl) (LT.out _ s1l) hm1
      have E5 := xor_u64v b1 b2 bx (LT.out _ b1l) (LT.out _ b2l) hbx
      have E6 := xor_u64v bx s2 m2 (LT.out _ bxl) (LT.out _ s2l) hm2
      have E7 := wrap_u64v wa m1 u1 hu1
      have E8 := wrap_u64v u1 wb u2 hu2
      have E9 := wrap_u64v u2 m2 u3 hu3
      have HZ : Hid (z = Sha.add κ.w (Sha.add κ.w (Sha.add κ.w (f (k - 16)) (Sha.mix κ.w (f (k - 15)) κ.a.1 κ.a.2.1 κ.a.2.2 true)) (f (k - 7))) (Sha.mix κ.w (f (k - 2)) κ.b.1 κ.b.2.1 κ.b.2.2 true)) := by
        have g1 : m1 = Sha.mix κ.w x κ.a.1 κ.a.2.1 κ.a.2.2 true := by rw [hm1, hax, ha1, ha2, hs1, he1, he2, he3]; rfl
        have g2 : m2 = Sha.mix κ.w y κ.b.1 κ.b.2.1 κ.b.2.2 true := by rw [hm2, hbx, hb1, hb2, hs2, he4, he5, he6]; rfl
        rw [hz, hu3, hu2, hu1, cut_add4 κ.w _ _ _ _ hwd6, g1, g2, ← hwa, ← hwb, ← hx, ← hy]
        rfl
      clear hf hfl hrow hx hy hwa hwb ha1 ha2 hb1 hb2 a1l a2l b1l b2l hs1 hs2 s1l s2l hax hm1 hbx hm2 hu1 hu2 hu3 hz axl bxl hxl hyl he1 he2 he3 he4 he5 he6
      go_wp2_with fail
      refine wp_region_fam (by kernel_rfl) (by kernel_rfl) Grow.val (Grow.start wr) ?_
      repeat go_big_quiet_step (fail)
      refine wpQuiet_nil ?_
      intro t
      go_wp2_with fail
      refine wp_region_fam_tail 56 (by kernel_rfl) (by kernel_rfl) Grow.val t.again ?_
      simp only [List.take_succ_cons, List.take_zero, List.drop_succ_cons, List.drop_zero]
      repeat go_big_quiet_step ((first | (with_reducible refine Calls.fam_of (C1.out _) (Grow.more _)) | (with_reducible refine Calls.fam_of (C2.out _) (Grow.more _)) | (with_reducible refine Calls.fam_of (C3.out _) (Grow.more _)) | (with_reducible refine Calls.fam_of (C4.out _) (Grow.more _)) | (with_reducible refine Calls.fam_of (C5.out _) (Grow.more _))))
      refine wpQuiet_nil ?_
      clear t
      intro t
      have hrow := t.row HRT.out
      have q4 := hrow.cell (j := k) (by omega)
      have q5 := hrow.free k
      have HROW2 := Lib.hid hrow
      clear hrow r0 r1 r2 r3 kl k3 k4 k5 k6 k7 k8 E1 E2 E3 E4 E5 E6 E7 E8 E9 C1 C2 C3 C4 C5 q1
      go_wp2_with fail
      exact ⟨⟨k + 1, by omega, by omega, rfl, rgRow_step κ hk0 (by omega) HF2.out HZ.out HROW2.out, grownBy_trans (grownBy_trans HB.out (below_grownBy t.below _)) (grownBy_setCell _ _ _ _)⟩, by simp [intOf]; omega⟩
    · have hr := HR.out
      rw [show k = R by omega] at hr
      have HR2 := Lib.hid hr
      clear hr
      go_wp2_with fail
      exact hexit _ _ _ _ _ _ _ _ _ _ _ _ _ _ _ _ _ _ _ _ _ _ _ _ _ _ _ _ _ _ _ _ _ _ _ _ _ _ _ _ _ _ _ _ _ _ _ _ _ _ _ _ _ _ _ _ _ _ _ _ _ _ _ _ _ _ _ _ _ _ _ _ _ _ _ wr HR2.out HB.out
end Go.Proofs.Ytjlhckgokdjajaa
