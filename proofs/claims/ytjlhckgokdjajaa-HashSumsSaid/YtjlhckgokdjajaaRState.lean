/- The reference's Sum, cut into declarations: the loop that adds to the state. (Written by gen_loops.py.) -/
import Derived.Test.YtjlhckgokdjajaaRL
namespace Go.Proofs.Ytjlhckgokdjajaa
open Go.RowKit
set_option maxRecDepth 1000000 in
set_option maxHeartbeats 4000000 in
theorem stateLoop (wd : Nat) (hwd : WD wd) (cs : Array Value) (hk : KCells cs wd) (base gS cS gx cx : Nat) (s v : Nat → Nat) (w4 : World) (Q0 : Exit → Act → World → Prop) (c0 c1 c3 c4 c5 c6 c8 c9 c10 c11 c12 c13 c14 c16 c17 c18 c19 c20 c22 c23 c24 c25 c26 c27 c28 c29 c30 c31 c32 c33 c34 c35 c36 c37 c38 c39 c40 c41 c42 c43 c44 c45 c46 c47 c48 c49 c50 c51 c52 c53 c54 c55 c56 c57 c58 c59 c60 c61 c62 c63 c64 c65 c66 c67 c68 c69 c70 c71 c72 c73 c74 c75 c76 c77 c78 c79 c80 c81 c82 c83 c84 c85 c86 c87 c88 c89 c90 c91 c92 c93 c94 c95 c96 c97 c98 c99 c100 c101 c102 c103 c104 c105 c106 c107 c108 c109 c110 c111 c112 c113 c114 c115 c116 c117 c118 c119 c120 c121 c122 c123 c124 c125 c126 c127 c128 c129 c130 c131 c132 c133 c134 c135 c136 c137 c138 c139 c140 c141 c142 c143 c144 c145 c146 c147 c148 c149 c150 c151 c152 c153 c154 c155 c156 c157 c158 c159 c160 c161 c162 c163 c164 c165 c166 c167 c168 c169 c170 c171 c172 c173 c174 c175 c176 c177 c178 c179 c180 c181 c182 c183 c184 c185 c186 c187 c188 c189 c190 c191 c192 c193 c194 c195 c196 c197 c198 c199 c200 c201 c202 c203 c204 c205 c206 c207 c208 c209 c210 c211 c212 c213 c214 c215 c216 c217 c218 c219 c220 c221 c222 c223 c224 c225 c226 c227 c228 c229 c230 c231 c232 c233 c234 c235 c236 c237 c238 c239 c240 c241 c242 c243 c244 c245 c246 c247 c248 c249 c250 c251 c252 c253 c254 c255 c256 c257 c258 c259 c260 c261 c262 c263 c264 c265 c266 c267 c268 c269 c270 c271 c272 c273 c274 c275 c276 c277 c278 c279 c280 c281 c282 c283 c284 c285 c286 c287 c288 c289 c290 c291 c292 c293 c294 c295 c296 c297 c298 c299 c300 c301 c302 c303 c304 c305 c306 c307 c308 c309 c310 c311 c312 c313 c314 c315 c316 c317 c318 c319 c320 c321 c322 c323 c324 c325 c326 c327 c328 c329 c330 c331 c332 c333 c334 c335 c336 c337 c338 c339 : Value)
    (hblk : w4.heap[base]? = some (.cells cs 51 (0, 0))) (hs : Cells64 w4 gS 8 s) (hv : Cells64 w4 gx 8 v) (hsl : ∀ j, j < 8 → s j < 2 ^ wd) (hvl : ∀ j, j < 8 → v j < 2 ^ wd) (hfr : ∀ j, w4.frozen? ⟨gS, j, none⟩ = false) (hne : gS ≠ gx) (hneb : base ≠ gS)
    (hexit : ∀ (u21 u304 u305 u306 u307 u308 u309 u310 u311 u312 u313 u314 u315 u316 u317 u318 u319 u320 u321 : Value) (w' : World), Cells64 w' gS 8 (fun j => Sha.add wd (v j) (s j)) → (∀ j, w'.frozen? ⟨gS, j, none⟩ = false) → w4.grownBy w' (some gS) → Q0 (.exit 12) ⟨#[c0, c1, (.pointer (some ⟨base, 0, none⟩)), c3, c4, c5, c6, (.slice (some ⟨gS, 0, none⟩) 8 cS), c8, c9, c10, c11, c12, c13, c14, (.slice (some ⟨gx, 0, none⟩) 8 cx), c16, c17, c18, c19, c20, u21, c22, c23, c24, c25, c26, c27, c28, c29, c30, c31, c32, c33, c34, c35, c36, c37, c38, c39, c40, c41, c42, c43, c44, c45, c46, c47, c48, c49, c50, c51, c52, c53, c54, c55, c56, c57, c58, c59, c60, c61, c62, c63, c64, c65, c66, c67, c68, c69, c70, c71, c72, c73, c74, c75, c76, c77, c78, c79, c80, c81, c82, c83, c84, c85, c86, c87, c88, c89, c90, c91, c92, c93, c94, c95, c96, c97, c98, c99, c100, c101, c102, c103, c104, c105, c106, c107, c108, c109, c110, c111, c112, c113, c114, c115, c116, c117, c118, c119, c120, c121, c122, c123, c124, c125, c126, c127, c128, c129, c130, c131, c132, c133, c134, c135, c136, c137, c138, c139, c140, c141, c142, c143, c144, c145, c146, c147, c148, c149, c150, c151, c152, c153, c154, c155, c156, c157, c158, c159, c160, c161, c162, c163, c164, c165, c166, c167, c168, c169, c170, c171, c172, c173, c174, c175, c176, c177, c178, c179, c180, c181, c182, c183, c184, c185, c186, c187, c188, c189, c190, c191, c192, c193, c194, c195, c196, c197, c198, c199, c200, c201, c202, c203, c204, c205, c206, c207, c208, c209, c210, c211, c212, c213, c214, c215, c216, c217, c218, c219, c220, c221, c222, c223, c224, c225, c226, c227, c228, c229, c230, c231, c232, c233, c234, c235, c236, c237, c238, c239, c240, c241, c242, c243, c244, c245, c246, c247, c248, c249, c250, c251, c252, c253, c254, c255, c256, c257, c258, c259, c260, c261, c262, c263, c264, c265, c266, c267, c268, c269, c270, c271, c272, c273, c274, c275, c276, c277, c278, c279, c280, c281, c282, c283, c284, c285, c286, c287, c288, c289, c290, c291, c292, c293, c294, c295, c296, c297, c298, c299, c300, c301, c302, c303, u304, u305, u306, u307, u308, u309, u310, u311, u312, u313, u314, u315, u316, u317, u318, u319, u320, u321, c322, c323, c324, c325, c326, c327, c328, c329, c330, c331, c332, c333, c334, c335, c336, c337, c338, c339], []⟩ w') :
    Code.wp Try.prog (sumLoop 6) Q0 ⟨#[c0, c1, (.pointer (some ⟨base, 0, none⟩)), c3, c4, c5, c6, (.slice (some ⟨gS, 0, none⟩) 8 cS), c8, c9, c10, c11, c12, c13, c14, (.slice (some ⟨gx, 0, none⟩) 8 cx), c16, c17, c18, c19, c20, (.int .i64 0), c22, c23, c24, c25, c26, c27, c28, c29, c30, c31, c32, c33, c34, c35, c36, c37, c38, c39, c40, c41, c42, c43, c44, c45, c46, c47, c48, c49, c50, c51, c52, c53, c54, c55, c56, c57, c58, c59, c60, c61, c62, c63, c64, c65, c66, c67, c68, c69, c70, c71, c72, c73, c74, c75, c76, c77, c78, c79, c80, c81, c82, c83, c84, c85, c86, c87, c88, c89, c90, c91, c92, c93, c94, c95, c96, c97, c98, c99, c100, c101, c102, c103, c104, c105, c106, c107, c108, c109, c110, c111, c112, c113, c114, c115, c116, c117, c118, c119, c120, c121, c122, c123, c124, c125, c126, c127, c128, c129, c130, c131, c132, c133, c134, c135, c136, c137, c138, c139, c140, c141, c142, c143, c144, c145, c146, c147, c148, c149, c150, c151, c152, c153, c154, c155, c156, c157, c158, c159, c160, c161, c162, c163, c164, c165, c166, c167, c168, c169, c170, c171, c172, c173, c174, c175, c176, c177, c178, c179, c180, c181, c182, c183, c184, c185, c186, c187, c188, c189, c190, c191, c192, c193, c194, c195, c196, c197, c198, c199, c200, c201, c202, c203, c204, c205, c206, c207, c208, c209, c210, c211, c212, c213, c214, c215, c216, c217, c218, c219, c220, c221, c222, c223, c224, c225, c226, c227, c228, c229, c230, c231, c232, c233, c234, c235, c236, c237, c238, c239, c240, c241, c242, c243, c244, c245, c246, c247, c248, c249, c250, c251, c252, c253, c254, c255, c256, c257, c258, c259, c260, c261, c262, c263, c264, c265, c266, c267, c268, c269, c270, c271, c272, c273, c274, c275, c276, c277, c278, c279, c280, c281, c282, c283, c284, c285, c286, c287, c288, c289, c290, c291, c292, c293, c294, c295, c296, c297, c298, c299, c300, c301, c302, c303, c304, c305, c306, c307, c308, c309, c310, c311, c312, c313, c314, c315, c316, c317, c318, c319, c320, c321, c322, c323, c324, c325, c326, c327, c328, c329, c330, c331, c332, c333, c334, c335, c336, c337, c338, c339], []⟩ w4 := by
  have HK := Lib.hid hk
  have HWD := Lib.hid hwd
  have HBLK := Lib.hid hblk
  have HS := Lib.hid hs
  have HV := Lib.hid hv
  have HSL := Lib.hid hsl
  have HVL := Lib.hid hvl
  have HFR := Lib.hid hfr
  have hgS : gS < w4.heap.size := block_lt_of_cell (hs 0 (by decide))
  have hbl : base < w4.heap.size := (Array.getElem?_eq_some_iff.1 hblk).1
  have hwd64 : 2 ^ wd ≤ 18446744073709551616 := by rcases hwd with rfl | rfl <;> decide
  have hwd6 : wd ≤ 64 := by rcases hwd with rfl | rfl <;> decide
  clear hk hwd hblk hs hv hsl hvl hfr
  dsimp only at hexit ⊢
  conv => arg 2; whnf
  go_loopw [21] (fun v21 wr => ∃ i : Nat, i ≤ 8 ∧ v21 = .int .i64 (i : Nat) ∧ Cells64 wr gS 8 (fun j => if j < i then Sha.add wd (v j) (s j) else s j) ∧ (∀ j, wr.frozen? ⟨gS, j, none⟩ = false) ∧ w4.grownBy wr (some gS)) (fun v21 _ => (8 - intOf v21).toNat)
  case atStart => exact ⟨0, by omega, rfl, fun j hj => by dsimp only; rw [if_neg (by omega)]; exact HS.out j hj, HFR.out, ⟨rfl, rfl, rfl, Nat.le_refl _, fun _ _ _ => rfl⟩⟩
  case round =>
    obtain ⟨p, hp, rfl, hcp, hfp, hgp⟩ := hrel
    have HCP := Lib.hid hcp
    have HFP := Lib.hid hfp
    have HGP := Lib.hid hgp
    have hszp := hgp.size
    clear hcp hfp hgp
    by_cases hpt : p < 8
    · obtain ⟨x, hx⟩ : ∃ x, x = s p := ⟨_, rfl⟩
      obtain ⟨y, hy⟩ : ∃ y, y = v p := ⟨_, rfl⟩
      have p1 : ∀ t : Grow wr, t.val.cell? ⟨gS, p, none⟩ = some (.int .u64 (x : Nat)) := fun t => by
        have := HCP.out p hpt
        dsimp only at this
        rw [if_neg (by omega), ← hx] at this
        exact t.cell this
      have p2 : ∀ t : Grow wr, t.val.cell? ⟨gx, p, none⟩ = some (.int .u64 (y : Nat)) := fun t => by
        have h1 := HV.out p hpt
        rw [hy]
        exact t.cell ((HGP.out.cell_far ⟨gx, p, none⟩ (block_lt_of_cell h1) (fun e => hne (by injection e with e; exact e.symm))).trans h1)
      have kl : ∀ t : Grow wr, (kindLoad (.pointer (some ⟨base, 0, none⟩))).run Try.prog t.val = .ok (.value (.agg cs)) t.val := fun t => by
        refine run_kindLoad _ _ _ HK.out.n ?_
        rw [t.below.block _ (by omega), HGP.out.block _ (by omega) (by intro e; injection e with e; omega)]
        exact HBLK.out
      obtain ⟨u, hu⟩ : ∃ u, u = (x + y) % 2 ^ 64 := ⟨_, rfl⟩
      obtain ⟨z, hz⟩ : ∃ z, z = u % 2 ^ wd := ⟨_, rfl⟩
      have E1 := wrap_u64v x y u hu
      have C1 : Hid (∀ t : Grow wr, Calls Try.prog 39 #[.agg cs, .int .u64 (u : Nat)] t.val fun e w' => e = .returned (.int .u64 (z : Nat)) ∧ Below t.val.heap.size t.val w') := fun t => by rw [hz]; exact cutW cs wd HWD.out HK.out u (by rw [hu]; exact Nat.mod_lt _ (by decide)) t.val
      have HZ : Hid (z = Sha.add wd (v p) (s p)) := by
        rw [hz, hu, cut_add2 wd x y hwd6, hx, hy]
        unfold Hid Sha.add
        rw [Nat.add_comm]
      clear hx hy hu hz
      go_wp2_with fail
      refine wp_region_fam_tail 14 (by kernel_rfl) (by kernel_rfl) Grow.val (Grow.start wr) ?_
      simp only [List.take_succ_cons, List.take_zero, List.drop_succ_cons, List.drop_zero]
      repeat go_big_quiet_step ((with_reducible refine Calls.fam_of (C1.out _) (Grow.more _)))
      refine wpQuiet_nil ?_
      intro t
      have q4 := p1 t
      have q5 : t.val.frozen? ⟨gS, p, none⟩ = false := (t.below.frozen (p := ⟨gS, p, none⟩) (by show gS < wr.heap.size; omega)).trans (HFP.out p)
      clear p1 p2 kl E1 C1
      go_wp2_with fail
      refine ⟨⟨p + 1, by omega, rfl, fun j hj => ?_, fun j => ?_, grownBy_trans (grownBy_trans HGP.out (below_grownBy t.below _)) (grownBy_setCell _ _ _ _)⟩, by simp [intOf]; omega⟩
      · by_cases hjp : j = p
        · dsimp only
          rw [hjp, if_pos (by omega), ← HZ.out]
          exact World.cell?_setCell_same _ _ _ q4
        · rw [World.cell?_setCell_other _ _ _ _ (by intro e; injection e with _ e; exact hjp e.symm)]
          have h1 := t.cell (HCP.out j hj)
          rw [h1]
          dsimp only
          by_cases hlt : j < p
          · rw [if_pos hlt, if_pos (by omega)]
          · rw [if_neg hlt, if_neg (by omega)]
      · rw [World.frozen?_setCell]
        exact (t.below.frozen (p := ⟨gS, j, none⟩) (by show gS < wr.heap.size; omega)).trans (HFP.out j)
    · have hcf : Cells64 wr gS 8 (fun j => Sha.add wd (v j) (s j)) := fun j hj => by
        have h1 := HCP.out j hj
        dsimp only at h1
        rw [if_pos (by omega)] at h1
        exact h1
      have HCF := Lib.hid hcf
      clear hcf
      go_wp2_with fail
      exact hexit _ _ _ _ _ _ _ _ _ _ _ _ _ _ _ _ _ _ _ wr HCF.out HFP.out HGP.out
end Go.Proofs.Ytjlhckgokdjajaa
