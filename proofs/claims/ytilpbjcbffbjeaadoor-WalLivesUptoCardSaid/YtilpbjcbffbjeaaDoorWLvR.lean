/- Region 24 of the law WalLives: the state behind an append. -/
import Derived.Test.YtilpbjcbffbjeaaDoorWLvP
import Derived.Deep.CutBlock
import Derived.Deep.DeepCutAuto
namespace Go.Proofs.YtilpbjcbffbjeaaDoor
set_option linter.unusedVariables false
set_option maxRecDepth 100000
open Go.RowKit
noncomputable def lvR24 : Code := ((Tryd.f5.body.bind (findRegion 24)).getD .skip)
/-- The step of an alloc behind those facts. -/
theorem alloc_below {base : Nat} {w0 u : World} (h : Below base w0 u) (hz : base ≤ u.heap.size) (o : Obj) : Below base w0 (u.alloc o) ∧ base ≤ (u.alloc o).heap.size := ⟨h.alloc hz o, by simp; omega⟩
set_option maxRecDepth 1000000 in
set_option maxHeartbeats 8000000 in
theorem lvReg24 (snap s : ByteArray) (ps : List ByteArray) (nv : Value) (nb xb tb tf tc m i : Nat) (w : World) (Q : Exit → Act → World → Prop) (c0 c1 c2 c3 c4 c5 c6 c7 c9 c11 c13 c14 c15 c16 c17 c18 c19 c20 c21 c22 c23 c24 c25 c26 c27 c28 c29 c30 c31 c32 c33 c34 c35 c36 c37 c38 c39 c40 c41 c42 c43 c44 c45 c46 c47 c48 c49 c50 c51 c52 c53 c54 c55 c56 c57 c58 c59 c60 c61 c62 c63 c64 c65 c66 c67 c68 c69 c70 c71 c72 c73 c74 c75 c76 c77 c78 c79 c80 c81 c82 c83 c84 c85 c86 c87 c88 c89 c90 c91 c92 c93 c94 c95 c96 c97 c98 c99 c100 c101 c102 c103 c104 c105 c106 c107 c108 c109 c110 c111 c112 c113 c114 c115 c116 c117 c118 c119 c120 c121 c122 c123 c124 c125 c126 c127 c128 c129 c130 c131 c132 c133 c134 c135 c136 c137 c138 c139 c140 c141 c142 c143 c144 c145 c146 c147 c148 c149 c150 c151 c152 c153 c154 c155 c156 c157 c158 c159 c160 c161 c162 c163 c164 c165 c166 c167 c168 c169 c170 c171 c172 c173 c174 c175 c176 c177 c178 c179 c180 c181 c182 c183 c184 c185 c186 c187 c188 c189 c190 c191 c192 c193 c194 c195 c196 c197 c198 c199 c200 c201 c202 c203 c204 c205 c206 c207 c208 c209 c210 c211 c212 c213 c214 c215 c216 c217 c218 c219 c220 c221 c222 c223 c224 c225 c226 c227 c228 c229 c230 c231 c232 c233 c234 c235 c236 c237 c238 c239 c240 c241 c242 c243 c244 c245 c246 c247 c248 c249 c250 c251 c252 c253 c254 c255 c256 c257 c258 c259 c260 c261 c262 c263 c264 c265 c266 c267 c268 c269 c270 c271 c272 c273 c274 c275 c276 c277 c278 c279 c280 c281 c282 c283 c284 c285 c286 c287 c288 c289 c290 c291 c292 c293 c294 c295 c296 c297 c298 c299 c300 c301 c302 c303 c304 c305 c306 c307 c308 c309 c310 c311 c312 c313 c314 c315 : Value)
    (n0 : w.heap[nb]? = some (.cells #[.string snap, nv] 50 (0, 0))) (hnv : WS w nv ps) (hx : w.cell? ⟨xb, 0, none⟩ = some (.slice (some ⟨tb, tf, none⟩) m tc)) (ht : w.cell? ⟨tb, tf + i, none⟩ = some (.string s)) (hi : (i : Int) < (m : Int)) (hl : ps.length ≤ 1048576) (hpan : ∀ m a (i : Nat) v u, Q (.panic m) (a.put (some i) v) u → Q (.panic m) a u)
    (hexit : ∀ (u122 u123 u124 u125 u126 u127 u128 u129 u130 u131 u132 u133 u134 u135 : Value) (nx : Nat) (w' : World), Below w.heap.size w w' → w.heap.size ≤ nx → NowAt w' nx snap (ps ++ [s]) → Q .normal ⟨#[c0, c1, c2, c3, c4, c5, c6, c7, (.pointer (some ⟨nb, 0, none⟩)), c9, (.pointer (some ⟨xb, 0, none⟩)), c11, (.int .i64 (i : Nat)), c13, c14, c15, (.pointer (some ⟨nx, 0, none⟩)), c17, c18, c19, c20, c21, c22, c23, c24, c25, c26, c27, c28, c29, c30, c31, c32, c33, c34, c35, c36, c37, c38, c39, c40, c41, c42, c43, c44, c45, c46, c47, c48, c49, c50, c51, c52, c53, c54, c55, c56, c57, c58, c59, c60, c61, c62, c63, c64, c65, c66, c67, c68, c69, c70, c71, c72, c73, c74, c75, c76, c77, c78, c79, c80, c81, c82, c83, c84, c85, c86, c87, c88, c89, c90, c91, c92, c93, c94, c95, c96, c97, c98, c99, c100, c101, c102, c103, c104, c105, c106, c107, c108, c109, c110, c111, c112, c113, c114, c115, c116, c117, c118, c119, c120, c121, u122, u123, u124, u125, u126, u127, u128, u129, u130, u131, u132, u133, u134, u135, c136, c137, c138, c139, c140, c141, c142, c143, c144, c145, c146, c147, c148, c149, c150, c151, c152, c153, c154, c155, c156, c157, c158, c159, c160, c161, c162, c163, c164, c165, c166, c167, c168, c169, c170, c171, c172, c173, c174, c175, c176, c177, c178, c179, c180, c181, c182, c183, c184, c185, c186, c187, c188, c189, c190, c191, c192, c193, c194, c195, c196, c197, c198, c199, c200, c201, c202, c203, c204, c205, c206, c207, c208, c209, c210, c211, c212, c213, c214, c215, c216, c217, c218, c219, c220, c221, c222, c223, c224, c225, c226, c227, c228, c229, c230, c231, c232, c233, c234, c235, c236, c237, c238, c239, c240, c241, c242, c243, c244, c245, c246, c247, c248, c249, c250, c251, c252, c253, c254, c255, c256, c257, c258, c259, c260, c261, c262, c263, c264, c265, c266, c267, c268, c269, c270, c271, c272, c273, c274, c275, c276, c277, c278, c279, c280, c281, c282, c283, c284, c285, c286, c287, c288, c289, c290, c291, c292, c293, c294, c295, c296, c297, c298, c299, c300, c301, c302, c303, c304, c305, c306, c307, c308, c309, c310, c311, c312, c313, c314, c315], []⟩ w') :
    Code.wp Tryd.prog lvR24 Q ⟨#[c0, c1, c2, c3, c4, c5, c6, c7, (.pointer (some ⟨nb, 0, none⟩)), c9, (.pointer (some ⟨xb, 0, none⟩)), c11, (.int .i64 (i : Nat)), c13, c14, c15, c16, c17, c18, c19, c20, c21, c22, c23, c24, c25, c26, c27, c28, c29, c30, c31, c32, c33, c34, c35, c36, c37, c38, c39, c40, c41, c42, c43, c44, c45, c46, c47, c48, c49, c50, c51, c52, c53, c54, c55, c56, c57, c58, c59, c60, c61, c62, c63, c64, c65, c66, c67, c68, c69, c70, c71, c72, c73, c74, c75, c76, c77, c78, c79, c80, c81, c82, c83, c84, c85, c86, c87, c88, c89, c90, c91, c92, c93, c94, c95, c96, c97, c98, c99, c100, c101, c102, c103, c104, c105, c106, c107, c108, c109, c110, c111, c112, c113, c114, c115, c116, c117, c118, c119, c120, c121, c122, c123, c124, c125, c126, c127, c128, c129, c130, c131, c132, c133, c134, c135, c136, c137, c138, c139, c140, c141, c142, c143, c144, c145, c146, c147, c148, c149, c150, c151, c152, c153, c154, c155, c156, c157, c158, c159, c160, c161, c162, c163, c164, c165, c166, c167, c168, c169, c170, c171, c172, c173, c174, c175, c176, c177, c178, c179, c180, c181, c182, c183, c184, c185, c186, c187, c188, c189, c190, c191, c192, c193, c194, c195, c196, c197, c198, c199, c200, c201, c202, c203, c204, c205, c206, c207, c208, c209, c210, c211, c212, c213, c214, c215, c216, c217, c218, c219, c220, c221, c222, c223, c224, c225, c226, c227, c228, c229, c230, c231, c232, c233, c234, c235, c236, c237, c238, c239, c240, c241, c242, c243, c244, c245, c246, c247, c248, c249, c250, c251, c252, c253, c254, c255, c256, c257, c258, c259, c260, c261, c262, c263, c264, c265, c266, c267, c268, c269, c270, c271, c272, c273, c274, c275, c276, c277, c278, c279, c280, c281, c282, c283, c284, c285, c286, c287, c288, c289, c290, c291, c292, c293, c294, c295, c296, c297, c298, c299, c300, c301, c302, c303, c304, c305, c306, c307, c308, c309, c310, c311, c312, c313, c314, c315], []⟩ w := by
  have hx0 := cell_of_row w nb 0 _ _ _ n0
  have hx1 := cell_of_row w nb 1 _ _ _ n0
  obtain ⟨base, hbase⟩ : ∃ base, base = w.heap.size := ⟨_, rfl⟩
  have HSB : Hid (∀ u : World, Below base w u → (fun u => u.cell? ⟨nb, 0, none⟩ = some (.string snap) ∧ u.cell? ⟨nb, 1, none⟩ = some nv ∧ u.cell? ⟨xb, 0, none⟩ = some (.slice (some ⟨tb, tf, none⟩) m tc) ∧ u.cell? ⟨tb, tf + i, none⟩ = some (.string s)) u) := fun u hb => by
    subst hbase
    exact ⟨(hb.cell (block_lt_of_cell hx0)).trans hx0, (hb.cell (block_lt_of_cell hx1)).trans hx1, (hb.cell (block_lt_of_cell hx)).trans hx, (hb.cell (block_lt_of_cell ht)).trans ht⟩
  have HNV : Hid (∀ u : World, Below base w u → Strs u nv ps) := fun u hb => by
    subst hbase
    exact hnv.strs.below hb
  obtain ⟨np, nc, hnvv⟩ : ∃ p c, nv = .slice p ps.length c := by
    obtain ⟨p, c, h, _⟩ := hnv.form
    exact ⟨p, c, h⟩
  have HNVV := Lib.hid hnvv
  rw [← hbase] at hexit
  have HEX := Lib.hid hexit
  have HPAN := Lib.hid hpan
  have HBS := Lib.hid hbase
  clear hexit hpan n0 hnv hx ht hx0 hx1 hbase hnvv
  conv => arg 2; whnf
  refine wp_region_U 15 (fun u => u.cell? ⟨nb, 0, none⟩ = some (.string snap) ∧ u.cell? ⟨nb, 1, none⟩ = some nv ∧ u.cell? ⟨xb, 0, none⟩ = some (.slice (some ⟨tb, tf, none⟩) m tc) ∧ u.cell? ⟨tb, tf + i, none⟩ = some (.string s)) (by kernel_rfl) ?_
  change wpAnyU _ _ _ _ _ _ 16 (Array.replicate 16 false) _ _
  obtain ⟨w2, hw2⟩ : ∃ w2, w2 = w.drew := ⟨_, rfl⟩
  rw [← hw2]
  have HB : Hid (Below base w w2) := by unfold Hid; rw [hw2, HBS.out]; exact (Below.refl _ _).drew
  have HZ : Hid (base ≤ w2.heap.size) := by unfold Hid; rw [hw2, HBS.out]; exact Nat.le_refl _
  have hS := HSB.out w2 HB.out
  have HS := Lib.hid hS
  clear hw2 hS
  refine takeU 0 (v := ?_) rfl (by kernel_rfl) (by kernel_rfl) (fun _ _ _ h => HPAN.out _ _ _ _ _ h) rfl (fun u hu => ?_) HS.out ?_
  rotate_left
  · obtain ⟨q0, q1, q2, q3⟩ := hu; go_simp <;> with_reducible rfl
  simp only [Act.put, List.setIfInBounds_toArray, List.set_cons_zero, List.set_cons_succ]
  refine takeU 1 (v := ?_) rfl (by kernel_rfl) (by kernel_rfl) (fun _ _ _ h => HPAN.out _ _ _ _ _ h) rfl (fun u hu => ?_) HS.out ?_
  rotate_left
  · obtain ⟨q0, q1, q2, q3⟩ := hu; go_simp <;> with_reducible rfl
  simp only [Act.put, List.setIfInBounds_toArray, List.set_cons_zero, List.set_cons_succ]
  refine takeU 3 (v := ?_) rfl (by kernel_rfl) (by kernel_rfl) (fun _ _ _ h => HPAN.out _ _ _ _ _ h) rfl (fun u hu => ?_) HS.out ?_
  rotate_left
  · obtain ⟨q0, q1, q2, q3⟩ := hu; go_simp <;> with_reducible rfl
  simp only [Act.put, List.setIfInBounds_toArray, List.set_cons_zero, List.set_cons_succ]
  refine takeU 4 (v := ?_) rfl (by kernel_rfl) (by kernel_rfl) (fun _ _ _ h => HPAN.out _ _ _ _ _ h) rfl (fun u hu => ?_) HS.out ?_
  rotate_left
  · obtain ⟨q0, q1, q2, q3⟩ := hu; go_simp <;> with_reducible rfl
  simp only [Act.put, List.setIfInBounds_toArray, List.set_cons_zero, List.set_cons_succ]
  refine takeU 6 (v := ?_) rfl (by kernel_rfl) (by kernel_rfl) (fun _ _ _ h => HPAN.out _ _ _ _ _ h) rfl (fun u hu => ?_) HS.out ?_
  rotate_left
  · obtain ⟨q0, q1, q2, q3⟩ := hu; go_simp <;> with_reducible rfl
  simp only [Act.put, List.setIfInBounds_toArray, List.set_cons_zero, List.set_cons_succ]
  refine takeU 7 (v := ?_) rfl (by kernel_rfl) (by kernel_rfl) (fun _ _ _ h => HPAN.out _ _ _ _ _ h) rfl (fun u hu => ?_) HS.out ?_
  rotate_left
  · obtain ⟨q0, q1, q2, q3⟩ := hu; go_simp <;> with_reducible rfl
  simp only [Act.put, List.setIfInBounds_toArray, List.set_cons_zero, List.set_cons_succ]
  refine takeU 8 (v := ?_) rfl (by kernel_rfl) (by kernel_rfl) (fun _ _ _ h => HPAN.out _ _ _ _ _ h) rfl (fun u hu => ?_) HS.out ?_
  rotate_left
  · obtain ⟨q0, q1, q2, q3⟩ := hu; go_simp <;> with_reducible rfl
  simp only [Act.put, List.setIfInBounds_toArray, List.set_cons_zero, List.set_cons_succ]
  refine takeU 9 (v := ?_) rfl (by kernel_rfl) (by kernel_rfl) (fun _ _ _ h => HPAN.out _ _ _ _ _ h) rfl (fun u hu => ?_) HS.out ?_
  rotate_left
  · obtain ⟨q0, q1, q2, q3⟩ := hu; go_simp <;> with_reducible rfl
  simp only [Act.put, List.setIfInBounds_toArray, List.set_cons_zero, List.set_cons_succ]
  refine takeU 10 (v := ?_) rfl (by kernel_rfl) (by kernel_rfl) (fun _ _ _ h => HPAN.out _ _ _ _ _ h) rfl (fun u hu => ?_) HS.out ?_
  rotate_left
  · obtain ⟨q0, q1, q2, q3⟩ := hu; go_simp <;> with_reducible rfl
  simp only [Act.put, List.setIfInBounds_toArray, List.set_cons_zero, List.set_cons_succ]
  refine threeU 2 11 14 (by kernel_rfl) ?_ ?_ ?_
  · refine someU 2 rfl (by kernel_rfl) ?_
    refine step_runW rfl (.slice (some ⟨w2.heap.size, 0, none⟩) 0 0) (w2.alloc (.cells #[] 9)) (by go_simp <;> with_reducible rfl) ?_
    obtain ⟨w3, hw3⟩ : ∃ v, v = w2.alloc (.cells #[] 9) := ⟨_, rfl⟩
    obtain ⟨a2, ha2⟩ : ∃ v, v = w2.heap.size := ⟨_, rfl⟩
    have hal := alloc_below HB.out HZ.out (.cells #[] 9)
    have hbl : Below w2.heap.size w2 (w2.alloc (.cells #[] 9)) := (Below.refl _ _).alloc (Nat.le_refl _) _
    rw [← hw3] at hal hbl ⊢
    rw [← ha2]
    have LA2 : Hid (base ≤ a2 ∧ a2 < w3.heap.size) := by unfold Hid; rw [hw3, ha2]; simp; exact HZ.out
    have O : Hid (OwnsS w3 base (.slice (some ⟨a2, 0, none⟩) 0 0) []) := by unfold Hid; rw [hw3, ha2]; exact OwnsS.baseL (OwnsS.emptyL w2) HZ.out
    have HB := Lib.hid hal.1
    have HZ := Lib.hid hal.2
    clear hal hbl hw3 ha2
    have HS := Lib.hid (HSB.out w3 HB.out)
    refine ⟨HS.out, ?_⟩
    simp only [Act.put, List.setIfInBounds_toArray, List.set_cons_zero, List.set_cons_succ]
    refine threeU 5 11 14 (by kernel_rfl) ?_ ?_ ?_
    · refine someU 5 rfl (by kernel_rfl) ?_
      refine step_appS (base := base) (v := (.slice (some ⟨a2, 0, none⟩) 0 0)) (x := nv) (ns := ps) rfl _ _ rfl rfl rfl O.out (HNV.out w3 HB.out) (by simp; omega) HZ.out ?_
      intro v5 w4 ho hg hv
      have HB1 := Lib.hid (O.out.belowG hg HB.out HZ.out)
      have HZ1 : Hid (base ≤ w4.heap.size) := Nat.le_trans HZ.out hg.size
      rw [List.nil_append] at ho
      have HB := HB1
      have HZ := HZ1
      have O := Lib.hid ho
      clear HB1 HZ1 ho hg hv
      have HS := Lib.hid (HSB.out w4 HB.out)
      refine ⟨HS.out, ?_⟩
      simp only [Act.put, List.setIfInBounds_toArray, List.set_cons_zero, List.set_cons_succ]
      refine twoU 11 14 (by kernel_rfl) ?_ ?_
      · refine someU 11 rfl (by kernel_rfl) ?_
        refine step_runW rfl (.slice (some ⟨w4.heap.size, 0, none⟩) 1 1) (w4.alloc (.cells #[.string s] 9)) (by go_simp <;> with_reducible rfl) ?_
        obtain ⟨w5, hw5⟩ : ∃ v, v = w4.alloc (.cells #[.string s] 9) := ⟨_, rfl⟩
        obtain ⟨a11, ha11⟩ : ∃ v, v = w4.heap.size := ⟨_, rfl⟩
        have hal := alloc_below HB.out HZ.out (.cells #[.string s] 9)
        have hbl : Below w4.heap.size w4 (w4.alloc (.cells #[.string s] 9)) := (Below.refl _ _).alloc (Nat.le_refl _) _
        rw [← hw5] at hal hbl ⊢
        rw [← ha11]
        have LA11 : Hid (base ≤ a11 ∧ a11 < w5.heap.size) := by unfold Hid; rw [hw5, ha11]; simp; exact HZ.out
        have OB : Hid (∀ k, v5.ownBlock = some k → k < w4.heap.size) := fun k hk => (O.out.block hk).2
        have O := Lib.hid (O.out.kept hbl)
        have C11 : Hid (w5.cell? ⟨a11, 0, none⟩ = some (.string s)) := by unfold Hid; rw [hw5, ha11]; simp
        have N11 : Hid (∀ k, (Value.ownBlock v5) = some k → k ≠ a11) := fun k hk => by have h1 := (OB.out k hk); omega
        have HB := Lib.hid hal.1
        have HZ := Lib.hid hal.2
        clear hal hbl hw5 ha11
        have HS := Lib.hid (HSB.out w5 HB.out)
        refine ⟨HS.out, ?_⟩
        simp only [Act.put, List.setIfInBounds_toArray, List.set_cons_zero, List.set_cons_succ]
        refine twoU 12 14 (by kernel_rfl) ?_ ?_
        · refine someU 12 rfl (by kernel_rfl) ?_
          refine step_appS (base := base) (v := v5) (x := (.slice (some ⟨a11, 0, none⟩) 1 1)) (ns := [s]) rfl _ _ rfl rfl rfl O.out (strs_one C11.out) (by simp; omega) HZ.out ?_
          intro v12 w6 ho hg hv
          have HB1 := Lib.hid (O.out.belowG hg HB.out HZ.out)
          have HZ1 : Hid (base ≤ w6.heap.size) := Nat.le_trans HZ.out hg.size
          obtain ⟨p12, c12, hv12⟩ := ho.shape
          obtain ⟨n12, e12⟩ : ∃ n, n = (ps ++ [s]).length := ⟨_, rfl⟩
          rw [← e12] at hv12
          subst hv12
          clear e12
          have HB := HB1
          have HZ := HZ1
          have O := Lib.hid ho
          clear HB1 HZ1 ho hg hv
          have HS := Lib.hid (HSB.out w6 HB.out)
          refine ⟨HS.out, ?_⟩
          simp only [Act.put, List.setIfInBounds_toArray, List.set_cons_zero, List.set_cons_succ]
          refine takeU 13 (v := ?_) rfl (by kernel_rfl) (by kernel_rfl) (fun _ _ _ h => HPAN.out _ _ _ _ _ h) rfl (fun u hu => ?_) HS.out ?_
          rotate_left
          · obtain ⟨q0, q1, q2, q3⟩ := hu; go_simp <;> with_reducible rfl
          simp only [Act.put, List.setIfInBounds_toArray, List.set_cons_zero, List.set_cons_succ]
          refine oneU 14 (by kernel_rfl) ?_
          refine someU 14 rfl (by kernel_rfl) ?_
          refine step_runW rfl (.pointer (some ⟨w6.heap.size, 0, none⟩)) (w6.alloc (.cells #[.string ⟨#[]⟩, .slice none 0 0] 50)) (by go_simp <;> with_reducible rfl) ?_
          obtain ⟨w7, hw7⟩ : ∃ v, v = w6.alloc (.cells #[.string ⟨#[]⟩, .slice none 0 0] 50) := ⟨_, rfl⟩
          obtain ⟨a14, ha14⟩ : ∃ v, v = w6.heap.size := ⟨_, rfl⟩
          have hal := alloc_below HB.out HZ.out (.cells #[.string ⟨#[]⟩, .slice none 0 0] 50)
          have hbl : Below w6.heap.size w6 (w6.alloc (.cells #[.string ⟨#[]⟩, .slice none 0 0] 50)) := (Below.refl _ _).alloc (Nat.le_refl _) _
          rw [← hw7] at hal hbl ⊢
          rw [← ha14]
          have LA14 : Hid (base ≤ a14 ∧ a14 < w7.heap.size) := by unfold Hid; rw [hw7, ha14]; simp; exact HZ.out
          have O := Lib.hid (O.out.kept hbl)
          have X14 : Hid (w7.heap[a14]? = some (.cells #[.string ⟨#[]⟩, .slice none 0 0] 50 (0, 0))) := by unfold Hid; rw [hw7, ha14]; exact heap_alloc_new w6 _
          have HB := Lib.hid hal.1
          have HZ := Lib.hid hal.2
          clear hal hbl hw7 ha14
          have HS := Lib.hid (HSB.out w7 HB.out)
          refine ⟨HS.out, ?_⟩
          simp only [Act.put, List.setIfInBounds_toArray, List.set_cons_zero, List.set_cons_succ]
          refine oneU 15 (by kernel_rfl) ?_
          refine lastU 15 rfl (by kernel_rfl) (by kernel_rfl) ?_
          have k0 := cell_of_row w7 a14 0 _ _ _ X14.out
          have k1 := cell_of_row w7 a14 1 _ _ _ X14.out
          have f0 := frozen_of_row w7 a14 0 _ _ X14.out
          have f1 := frozen_of_row w7 a14 1 _ _ X14.out
          refine step_skipW rfl ((w7.setCell ⟨a14, 0, none⟩ (.string snap)).setCell ⟨a14, 1, none⟩ (.slice p12 n12 c12)) (by go_simp) ?_
          clear k0 k1 f0 f1
          simp only [Act.put]
          exact HEX.out _ _ _ _ _ _ _ _ _ _ _ _ _ _ a14 _ ((HB.out.setCell (p := ⟨a14, 0, none⟩) LA14.out.1 _).setCell (p := ⟨a14, 1, none⟩) LA14.out.1 _) LA14.out.1 (lvNow X14.out O.out rfl)
        · refine someU 14 rfl (by kernel_rfl) ?_
          refine step_runW rfl (.pointer (some ⟨w5.heap.size, 0, none⟩)) (w5.alloc (.cells #[.string ⟨#[]⟩, .slice none 0 0] 50)) (by go_simp <;> with_reducible rfl) ?_
          obtain ⟨w8, hw8⟩ : ∃ v, v = w5.alloc (.cells #[.string ⟨#[]⟩, .slice none 0 0] 50) := ⟨_, rfl⟩
          obtain ⟨a14, ha14⟩ : ∃ v, v = w5.heap.size := ⟨_, rfl⟩
          have hal := alloc_below HB.out HZ.out (.cells #[.string ⟨#[]⟩, .slice none 0 0] 50)
          have hbl : Below w5.heap.size w5 (w5.alloc (.cells #[.string ⟨#[]⟩, .slice none 0 0] 50)) := (Below.refl _ _).alloc (Nat.le_refl _) _
          rw [← hw8] at hal hbl ⊢
          rw [← ha14]
          have LA14 : Hid (base ≤ a14 ∧ a14 < w8.heap.size) := by unfold Hid; rw [hw8, ha14]; simp; exact HZ.out
          have L11 : Hid (a11 < w5.heap.size) := block_lt_of_cell C11.out
          have OB : Hid (∀ k, v5.ownBlock = some k → k < w5.heap.size) := fun k hk => (O.out.block hk).2
          have O := Lib.hid (O.out.kept hbl)
          have C11 : Hid (w8.cell? ⟨a11, 0, none⟩ = some (.string s)) := (hbl.cell (block_lt_of_cell C11.out)).trans C11.out
          have X14 : Hid (w8.heap[a14]? = some (.cells #[.string ⟨#[]⟩, .slice none 0 0] 50 (0, 0))) := by unfold Hid; rw [hw8, ha14]; exact heap_alloc_new w5 _
          have HB := Lib.hid hal.1
          have HZ := Lib.hid hal.2
          clear hal hbl hw8 ha14
          have HS := Lib.hid (HSB.out w8 HB.out)
          refine ⟨HS.out, ?_⟩
          simp only [Act.put, List.setIfInBounds_toArray, List.set_cons_zero, List.set_cons_succ]
          refine oneU 12 (by kernel_rfl) ?_
          refine someU 12 rfl (by kernel_rfl) ?_
          refine step_appS (base := base) (v := v5) (x := (.slice (some ⟨a11, 0, none⟩) 1 1)) (ns := [s]) rfl _ _ rfl rfl rfl O.out (strs_one C11.out) (by simp; omega) HZ.out ?_
          intro v12 w9 ho hg hv
          have HB1 := Lib.hid (O.out.belowG hg HB.out HZ.out)
          have HZ1 : Hid (base ≤ w9.heap.size) := Nat.le_trans HZ.out hg.size
          have X14 : Hid (w9.heap[a14]? = some (.cells #[.string ⟨#[]⟩, .slice none 0 0] 50 (0, 0))) := O.out.other hg X14.out (by decide)
          obtain ⟨p12, c12, hv12⟩ := ho.shape
          obtain ⟨n12, e12⟩ : ∃ n, n = (ps ++ [s]).length := ⟨_, rfl⟩
          rw [← e12] at hv12
          subst hv12
          clear e12
          have HB := HB1
          have HZ := HZ1
          have O := Lib.hid ho
          clear HB1 HZ1 ho hg hv
          have HS := Lib.hid (HSB.out w9 HB.out)
          refine ⟨HS.out, ?_⟩
          simp only [Act.put, List.setIfInBounds_toArray, List.set_cons_zero, List.set_cons_succ]
          refine takeU 13 (v := ?_) rfl (by kernel_rfl) (by kernel_rfl) (fun _ _ _ h => HPAN.out _ _ _ _ _ h) rfl (fun u hu => ?_) HS.out ?_
          rotate_left
          · obtain ⟨q0, q1, q2, q3⟩ := hu; go_simp <;> with_reducible rfl
          simp only [Act.put, List.setIfInBounds_toArray, List.set_cons_zero, List.set_cons_succ]
          refine oneU 15 (by kernel_rfl) ?_
          refine lastU 15 rfl (by kernel_rfl) (by kernel_rfl) ?_
          have k0 := cell_of_row w9 a14 0 _ _ _ X14.out
          have k1 := cell_of_row w9 a14 1 _ _ _ X14.out
          have f0 := frozen_of_row w9 a14 0 _ _ X14.out
          have f1 := frozen_of_row w9 a14 1 _ _ X14.out
          refine step_skipW rfl ((w9.setCell ⟨a14, 0, none⟩ (.string snap)).setCell ⟨a14, 1, none⟩ (.slice p12 n12 c12)) (by go_simp) ?_
          clear k0 k1 f0 f1
          simp only [Act.put]
          exact HEX.out _ _ _ _ _ _ _ _ _ _ _ _ _ _ a14 _ ((HB.out.setCell (p := ⟨a14, 0, none⟩) LA14.out.1 _).setCell (p := ⟨a14, 1, none⟩) LA14.out.1 _) LA14.out.1 (lvNow X14.out O.out rfl)
      · refine someU 14 rfl (by kernel_rfl) ?_
        refine step_runW rfl (.pointer (some ⟨w4.heap.size, 0, none⟩)) (w4.alloc (.cells #[.string ⟨#[]⟩, .slice none 0 0] 50)) (by go_simp <;> with_reducible rfl) ?_
        obtain ⟨w10, hw10⟩ : ∃ v, v = w4.alloc (.cells #[.string ⟨#[]⟩, .slice none 0 0] 50) := ⟨_, rfl⟩
        obtain ⟨a14, ha14⟩ : ∃ v, v = w4.heap.size := ⟨_, rfl⟩
        have hal := alloc_below HB.out HZ.out (.cells #[.string ⟨#[]⟩, .slice none 0 0] 50)
        have hbl : Below w4.heap.size w4 (w4.alloc (.cells #[.string ⟨#[]⟩, .slice none 0 0] 50)) := (Below.refl _ _).alloc (Nat.le_refl _) _
        rw [← hw10] at hal hbl ⊢
        rw [← ha14]
        have LA14 : Hid (base ≤ a14 ∧ a14 < w10.heap.size) := by unfold Hid; rw [hw10, ha14]; simp; exact HZ.out
        have OB : Hid (∀ k, v5.ownBlock = some k → k < w4.heap.size) := fun k hk => (O.out.block hk).2
        have O := Lib.hid (O.out.kept hbl)
        have X14 : Hid (w10.heap[a14]? = some (.cells #[.string ⟨#[]⟩, .slice none 0 0] 50 (0, 0))) := by unfold Hid; rw [hw10, ha14]; exact heap_alloc_new w4 _
        have HB := Lib.hid hal.1
        have HZ := Lib.hid hal.2
        clear hal hbl hw10 ha14
        have HS := Lib.hid (HSB.out w10 HB.out)
        refine ⟨HS.out, ?_⟩
        simp only [Act.put, List.setIfInBounds_toArray, List.set_cons_zero, List.set_cons_succ]
        refine oneU 11 (by kernel_rfl) ?_
        refine someU 11 rfl (by kernel_rfl) ?_
        refine step_runW rfl (.slice (some ⟨w10.heap.size, 0, none⟩) 1 1) (w10.alloc (.cells #[.string s] 9)) (by go_simp <;> with_reducible rfl) ?_
        obtain ⟨w11, hw11⟩ : ∃ v, v = w10.alloc (.cells #[.string s] 9) := ⟨_, rfl⟩
        obtain ⟨a11, ha11⟩ : ∃ v, v = w10.heap.size := ⟨_, rfl⟩
        have hal := alloc_below HB.out HZ.out (.cells #[.string s] 9)
        have hbl : Below w10.heap.size w10 (w10.alloc (.cells #[.string s] 9)) := (Below.refl _ _).alloc (Nat.le_refl _) _
        rw [← hw11] at hal hbl ⊢
        rw [← ha11]
        have LA11 : Hid (base ≤ a11 ∧ a11 < w11.heap.size) := by unfold Hid; rw [hw11, ha11]; simp; exact HZ.out
        have OB : Hid (∀ k, v5.ownBlock = some k → k < w10.heap.size) := fun k hk => (O.out.block hk).2
        have O := Lib.hid (O.out.kept hbl)
        have X14 : Hid (w11.heap[a14]? = some (.cells #[.string ⟨#[]⟩, .slice none 0 0] 50 (0, 0))) := (hbl.block a14 (Array.getElem?_eq_some_iff.1 X14.out).1).trans X14.out
        have C11 : Hid (w11.cell? ⟨a11, 0, none⟩ = some (.string s)) := by unfold Hid; rw [hw11, ha11]; simp
        have N11 : Hid (∀ k, (Value.ownBlock v5) = some k → k ≠ a11) := fun k hk => by have h1 := (OB.out k hk); omega
        have HB := Lib.hid hal.1
        have HZ := Lib.hid hal.2
        clear hal hbl hw11 ha11
        have HS := Lib.hid (HSB.out w11 HB.out)
        refine ⟨HS.out, ?_⟩
        simp only [Act.put, List.setIfInBounds_toArray, List.set_cons_zero, List.set_cons_succ]
        refine oneU 12 (by kernel_rfl) ?_
        refine someU 12 rfl (by kernel_rfl) ?_
        refine step_appS (base := base) (v := v5) (x := (.slice (some ⟨a11, 0, none⟩) 1 1)) (ns := [s]) rfl _ _ rfl rfl rfl O.out (strs_one C11.out) (by simp; omega) HZ.out ?_
        intro v12 w12 ho hg hv
        have HB1 := Lib.hid (O.out.belowG hg HB.out HZ.out)
        have HZ1 : Hid (base ≤ w12.heap.size) := Nat.le_trans HZ.out hg.size
        have X14 : Hid (w12.heap[a14]? = some (.cells #[.string ⟨#[]⟩, .slice none 0 0] 50 (0, 0))) := O.out.other hg X14.out (by decide)
        obtain ⟨p12, c12, hv12⟩ := ho.shape
        obtain ⟨n12, e12⟩ : ∃ n, n = (ps ++ [s]).length := ⟨_, rfl⟩
        rw [← e12] at hv12
        subst hv12
        clear e12
        have HB := HB1
        have HZ := HZ1
        have O := Lib.hid ho
        clear HB1 HZ1 ho hg hv
        have HS := Lib.hid (HSB.out w12 HB.out)
        refine ⟨HS.out, ?_⟩
        simp only [Act.put, List.setIfInBounds_toArray, List.set_cons_zero, List.set_cons_succ]
        refine takeU 13 (v := ?_) rfl (by kernel_rfl) (by kernel_rfl) (fun _ _ _ h => HPAN.out _ _ _ _ _ h) rfl (fun u hu => ?_) HS.out ?_
        rotate_left
        · obtain ⟨q0, q1, q2, q3⟩ := hu; go_simp <;> with_reducible rfl
        simp only [Act.put, List.setIfInBounds_toArray, List.set_cons_zero, List.set_cons_succ]
        refine oneU 15 (by kernel_rfl) ?_
        refine lastU 15 rfl (by kernel_rfl) (by kernel_rfl) ?_
        have k0 := cell_of_row w12 a14 0 _ _ _ X14.out
        have k1 := cell_of_row w12 a14 1 _ _ _ X14.out
        have f0 := frozen_of_row w12 a14 0 _ _ X14.out
        have f1 := frozen_of_row w12 a14 1 _ _ X14.out
        refine step_skipW rfl ((w12.setCell ⟨a14, 0, none⟩ (.string snap)).setCell ⟨a14, 1, none⟩ (.slice p12 n12 c12)) (by go_simp) ?_
        clear k0 k1 f0 f1
        simp only [Act.put]
        exact HEX.out _ _ _ _ _ _ _ _ _ _ _ _ _ _ a14 _ ((HB.out.setCell (p := ⟨a14, 0, none⟩) LA14.out.1 _).setCell (p := ⟨a14, 1, none⟩) LA14.out.1 _) LA14.out.1 (lvNow X14.out O.out rfl)
    · refine someU 11 rfl (by kernel_rfl) ?_
      refine step_runW rfl (.slice (some ⟨w3.heap.size, 0, none⟩) 1 1) (w3.alloc (.cells #[.string s] 9)) (by go_simp <;> with_reducible rfl) ?_
      obtain ⟨w13, hw13⟩ : ∃ v, v = w3.alloc (.cells #[.string s] 9) := ⟨_, rfl⟩
      obtain ⟨a11, ha11⟩ : ∃ v, v = w3.heap.size := ⟨_, rfl⟩
      have hal := alloc_below HB.out HZ.out (.cells #[.string s] 9)
      have hbl : Below w3.heap.size w3 (w3.alloc (.cells #[.string s] 9)) := (Below.refl _ _).alloc (Nat.le_refl _) _
      rw [← hw13] at hal hbl ⊢
      rw [← ha11]
      have LA11 : Hid (base ≤ a11 ∧ a11 < w13.heap.size) := by unfold Hid; rw [hw13, ha11]; simp; exact HZ.out
      have OB : Hid (∀ k, (Value.slice (some ⟨a2, 0, none⟩) 0 0).ownBlock = some k → k < w3.heap.size) := fun k hk => (O.out.block hk).2
      have O := Lib.hid (O.out.kept hbl)
      have C11 : Hid (w13.cell? ⟨a11, 0, none⟩ = some (.string s)) := by unfold Hid; rw [hw13, ha11]; simp
      have N11 : Hid (∀ k, (Value.ownBlock (.slice (some ⟨a2, 0, none⟩) 0 0)) = some k → k ≠ a11) := fun k hk => by have h1 := (OB.out k hk); omega
      have HB := Lib.hid hal.1
      have HZ := Lib.hid hal.2
      clear hal hbl hw13 ha11
      have HS := Lib.hid (HSB.out w13 HB.out)
      refine ⟨HS.out, ?_⟩
      simp only [Act.put, List.setIfInBounds_toArray, List.set_cons_zero, List.set_cons_succ]
      refine twoU 5 14 (by kernel_rfl) ?_ ?_
      · have N0 := N11
        refine someU 5 rfl (by kernel_rfl) ?_
        refine step_appS (base := base) (v := (.slice (some ⟨a2, 0, none⟩) 0 0)) (x := nv) (ns := ps) rfl _ _ rfl rfl rfl O.out (HNV.out w13 HB.out) (by simp; omega) HZ.out ?_
        intro v5 w14 ho hg hv
        have HB1 := Lib.hid (O.out.belowG hg HB.out HZ.out)
        have HZ1 : Hid (base ≤ w14.heap.size) := Nat.le_trans HZ.out hg.size
        have N11 : Hid (∀ k, v5.ownBlock = some k → k ≠ a11) := fun k hk => by
          rcases hv with e | e
          · rw [e] at hk; exact N11.out k hk
          · rw [e] at hk
            injection hk with hk
            have h2 : a11 < w13.heap.size := block_lt_of_cell C11.out
            omega
        have C11 : Hid (w14.cell? ⟨a11, 0, none⟩ = some (.string s)) := by
          unfold Hid
          rw [World.cell?_of_block (a := ⟨a11, 0, none⟩) (hg.block a11 (block_lt_of_cell C11.out) (fun e => N0.out a11 e.symm rfl))]
          exact C11.out
        rw [List.nil_append] at ho
        have HB := HB1
        have HZ := HZ1
        have O := Lib.hid ho
        clear HB1 HZ1 ho hg hv
        have HS := Lib.hid (HSB.out w14 HB.out)
        refine ⟨HS.out, ?_⟩
        simp only [Act.put, List.setIfInBounds_toArray, List.set_cons_zero, List.set_cons_succ]
        refine twoU 12 14 (by kernel_rfl) ?_ ?_
        · refine someU 12 rfl (by kernel_rfl) ?_
          refine step_appS (base := base) (v := v5) (x := (.slice (some ⟨a11, 0, none⟩) 1 1)) (ns := [s]) rfl _ _ rfl rfl rfl O.out (strs_one C11.out) (by simp; omega) HZ.out ?_
          intro v12 w15 ho hg hv
          have HB1 := Lib.hid (O.out.belowG hg HB.out HZ.out)
          have HZ1 : Hid (base ≤ w15.heap.size) := Nat.le_trans HZ.out hg.size
          obtain ⟨p12, c12, hv12⟩ := ho.shape
          obtain ⟨n12, e12⟩ : ∃ n, n = (ps ++ [s]).length := ⟨_, rfl⟩
          rw [← e12] at hv12
          subst hv12
          clear e12
          have HB := HB1
          have HZ := HZ1
          have O := Lib.hid ho
          clear HB1 HZ1 ho hg hv
          have HS := Lib.hid (HSB.out w15 HB.out)
          refine ⟨HS.out, ?_⟩
          simp only [Act.put, List.setIfInBounds_toArray, List.set_cons_zero, List.set_cons_succ]
          refine takeU 13 (v := ?_) rfl (by kernel_rfl) (by kernel_rfl) (fun _ _ _ h => HPAN.out _ _ _ _ _ h) rfl (fun u hu => ?_) HS.out ?_
          rotate_left
          · obtain ⟨q0, q1, q2, q3⟩ := hu; go_simp <;> with_reducible rfl
          simp only [Act.put, List.setIfInBounds_toArray, List.set_cons_zero, List.set_cons_succ]
          refine oneU 14 (by kernel_rfl) ?_
          refine someU 14 rfl (by kernel_rfl) ?_
          refine step_runW rfl (.pointer (some ⟨w15.heap.size, 0, none⟩)) (w15.alloc (.cells #[.string ⟨#[]⟩, .slice none 0 0] 50)) (by go_simp <;> with_reducible rfl) ?_
          obtain ⟨w16, hw16⟩ : ∃ v, v = w15.alloc (.cells #[.string ⟨#[]⟩, .slice none 0 0] 50) := ⟨_, rfl⟩
          obtain ⟨a14, ha14⟩ : ∃ v, v = w15.heap.size := ⟨_, rfl⟩
          have hal := alloc_below HB.out HZ.out (.cells #[.string ⟨#[]⟩, .slice none 0 0] 50)
          have hbl : Below w15.heap.size w15 (w15.alloc (.cells #[.string ⟨#[]⟩, .slice none 0 0] 50)) := (Below.refl _ _).alloc (Nat.le_refl _) _
          rw [← hw16] at hal hbl ⊢
          rw [← ha14]
          have LA14 : Hid (base ≤ a14 ∧ a14 < w16.heap.size) := by unfold Hid; rw [hw16, ha14]; simp; exact HZ.out
          have O := Lib.hid (O.out.kept hbl)
          have X14 : Hid (w16.heap[a14]? = some (.cells #[.string ⟨#[]⟩, .slice none 0 0] 50 (0, 0))) := by unfold Hid; rw [hw16, ha14]; exact heap_alloc_new w15 _
          have HB := Lib.hid hal.1
          have HZ := Lib.hid hal.2
          clear hal hbl hw16 ha14
          have HS := Lib.hid (HSB.out w16 HB.out)
          refine ⟨HS.out, ?_⟩
          simp only [Act.put, List.setIfInBounds_toArray, List.set_cons_zero, List.set_cons_succ]
          refine oneU 15 (by kernel_rfl) ?_
          refine lastU 15 rfl (by kernel_rfl) (by kernel_rfl) ?_
          have k0 := cell_of_row w16 a14 0 _ _ _ X14.out
          have k1 := cell_of_row w16 a14 1 _ _ _ X14.out
          have f0 := frozen_of_row w16 a14 0 _ _ X14.out
          have f1 := frozen_of_row w16 a14 1 _ _ X14.out
          refine step_skipW rfl ((w16.setCell ⟨a14, 0, none⟩ (.string snap)).setCell ⟨a14, 1, none⟩ (.slice p12 n12 c12)) (by go_simp) ?_
          clear k0 k1 f0 f1
          simp only [Act.put]
          exact HEX.out _ _ _ _ _ _ _ _ _ _ _ _ _ _ a14 _ ((HB.out.setCell (p := ⟨a14, 0, none⟩) LA14.out.1 _).setCell (p := ⟨a14, 1, none⟩) LA14.out.1 _) LA14.out.1 (lvNow X14.out O.out rfl)
        · refine someU 14 rfl (by kernel_rfl) ?_
          refine step_runW rfl (.pointer (some ⟨w14.heap.size, 0, none⟩)) (w14.alloc (.cells #[.string ⟨#[]⟩, .slice none 0 0] 50)) (by go_simp <;> with_reducible rfl) ?_
          obtain ⟨w17, hw17⟩ : ∃ v, v = w14.alloc (.cells #[.string ⟨#[]⟩, .slice none 0 0] 50) := ⟨_, rfl⟩
          obtain ⟨a14, ha14⟩ : ∃ v, v = w14.heap.size := ⟨_, rfl⟩
          have hal := alloc_below HB.out HZ.out (.cells #[.string ⟨#[]⟩, .slice none 0 0] 50)
          have hbl : Below w14.heap.size w14 (w14.alloc (.cells #[.string ⟨#[]⟩, .slice none 0 0] 50)) := (Below.refl _ _).alloc (Nat.le_refl _) _
          rw [← hw17] at hal hbl ⊢
          rw [← ha14]
          have LA14 : Hid (base ≤ a14 ∧ a14 < w17.heap.size) := by unfold Hid; rw [hw17, ha14]; simp; exact HZ.out
          have L11 : Hid (a11 < w14.heap.size) := block_lt_of_cell C11.out
          have OB : Hid (∀ k, v5.ownBlock = some k → k < w14.heap.size) := fun k hk => (O.out.block hk).2
          have O := Lib.hid (O.out.kept hbl)
          have C11 : Hid (w17.cell? ⟨a11, 0, none⟩ = some (.string s)) := (hbl.cell (block_lt_of_cell C11.out)).trans C11.out
          have X14 : Hid (w17.heap[a14]? = some (.cells #[.string ⟨#[]⟩, .slice none 0 0] 50 (0, 0))) := by unfold Hid; rw [hw17, ha14]; exact heap_alloc_new w14 _
          have HB := Lib.hid hal.1
          have HZ := Lib.hid hal.2
          clear hal hbl hw17 ha14
          have HS := Lib.hid (HSB.out w17 HB.out)
          refine ⟨HS.out, ?_⟩
          simp only [Act.put, List.setIfInBounds_toArray, List.set_cons_zero, List.set_cons_succ]
          refine oneU 12 (by kernel_rfl) ?_
          refine someU 12 rfl (by kernel_rfl) ?_
          refine step_appS (base := base) (v := v5) (x := (.slice (some ⟨a11, 0, none⟩) 1 1)) (ns := [s]) rfl _ _ rfl rfl rfl O.out (strs_one C11.out) (by simp; omega) HZ.out ?_
          intro v12 w18 ho hg hv
          have HB1 := Lib.hid (O.out.belowG hg HB.out HZ.out)
          have HZ1 : Hid (base ≤ w18.heap.size) := Nat.le_trans HZ.out hg.size
          have X14 : Hid (w18.heap[a14]? = some (.cells #[.string ⟨#[]⟩, .slice none 0 0] 50 (0, 0))) := O.out.other hg X14.out (by decide)
          obtain ⟨p12, c12, hv12⟩ := ho.shape
          obtain ⟨n12, e12⟩ : ∃ n, n = (ps ++ [s]).length := ⟨_, rfl⟩
          rw [← e12] at hv12
          subst hv12
          clear e12
          have HB := HB1
          have HZ := HZ1
          have O := Lib.hid ho
          clear HB1 HZ1 ho hg hv
          have HS := Lib.hid (HSB.out w18 HB.out)
          refine ⟨HS.out, ?_⟩
          simp only [Act.put, List.setIfInBounds_toArray, List.set_cons_zero, List.set_cons_succ]
          refine takeU 13 (v := ?_) rfl (by kernel_rfl) (by kernel_rfl) (fun _ _ _ h => HPAN.out _ _ _ _ _ h) rfl (fun u hu => ?_) HS.out ?_
          rotate_left
          · obtain ⟨q0, q1, q2, q3⟩ := hu; go_simp <;> with_reducible rfl
          simp only [Act.put, List.setIfInBounds_toArray, List.set_cons_zero, List.set_cons_succ]
          refine oneU 15 (by kernel_rfl) ?_
          refine lastU 15 rfl (by kernel_rfl) (by kernel_rfl) ?_
          have k0 := cell_of_row w18 a14 0 _ _ _ X14.out
          have k1 := cell_of_row w18 a14 1 _ _ _ X14.out
          have f0 := frozen_of_row w18 a14 0 _ _ X14.out
          have f1 := frozen_of_row w18 a14 1 _ _ X14.out
          refine step_skipW rfl ((w18.setCell ⟨a14, 0, none⟩ (.string snap)).setCell ⟨a14, 1, none⟩ (.slice p12 n12 c12)) (by go_simp) ?_
          clear k0 k1 f0 f1
          simp only [Act.put]
          exact HEX.out _ _ _ _ _ _ _ _ _ _ _ _ _ _ a14 _ ((HB.out.setCell (p := ⟨a14, 0, none⟩) LA14.out.1 _).setCell (p := ⟨a14, 1, none⟩) LA14.out.1 _) LA14.out.1 (lvNow X14.out O.out rfl)
      · refine someU 14 rfl (by kernel_rfl) ?_
        refine step_runW rfl (.pointer (some ⟨w13.heap.size, 0, none⟩)) (w13.alloc (.cells #[.string ⟨#[]⟩, .slice none 0 0] 50)) (by go_simp <;> with_reducible rfl) ?_
        obtain ⟨w19, hw19⟩ : ∃ v, v = w13.alloc (.cells #[.string ⟨#[]⟩, .slice none 0 0] 50) := ⟨_, rfl⟩
        obtain ⟨a14, ha14⟩ : ∃ v, v = w13.heap.size := ⟨_, rfl⟩
        have hal := alloc_below HB.out HZ.out (.cells #[.string ⟨#[]⟩, .slice none 0 0] 50)
        have hbl : Below w13.heap.size w13 (w13.alloc (.cells #[.string ⟨#[]⟩, .slice none 0 0] 50)) := (Below.refl _ _).alloc (Nat.le_refl _) _
        rw [← hw19] at hal hbl ⊢
        rw [← ha14]
        have LA14 : Hid (base ≤ a14 ∧ a14 < w19.heap.size) := by unfold Hid; rw [hw19, ha14]; simp; exact HZ.out
        have L11 : Hid (a11 < w13.heap.size) := block_lt_of_cell C11.out
        have OB : Hid (∀ k, (Value.slice (some ⟨a2, 0, none⟩) 0 0).ownBlock = some k → k < w13.heap.size) := fun k hk => (O.out.block hk).2
        have O := Lib.hid (O.out.kept hbl)
        have C11 : Hid (w19.cell? ⟨a11, 0, none⟩ = some (.string s)) := (hbl.cell (block_lt_of_cell C11.out)).trans C11.out
        have X14 : Hid (w19.heap[a14]? = some (.cells #[.string ⟨#[]⟩, .slice none 0 0] 50 (0, 0))) := by unfold Hid; rw [hw19, ha14]; exact heap_alloc_new w13 _
        have HB := Lib.hid hal.1
        have HZ := Lib.hid hal.2
        clear hal hbl hw19 ha14
        have HS := Lib.hid (HSB.out w19 HB.out)
        refine ⟨HS.out, ?_⟩
        simp only [Act.put, List.setIfInBounds_toArray, List.set_cons_zero, List.set_cons_succ]
        refine oneU 5 (by kernel_rfl) ?_
        have N0 := N11
        refine someU 5 rfl (by kernel_rfl) ?_
        refine step_appS (base := base) (v := (.slice (some ⟨a2, 0, none⟩) 0 0)) (x := nv) (ns := ps) rfl _ _ rfl rfl rfl O.out (HNV.out w19 HB.out) (by simp; omega) HZ.out ?_
        intro v5 w20 ho hg hv
        have HB1 := Lib.hid (O.out.belowG hg HB.out HZ.out)
        have HZ1 : Hid (base ≤ w20.heap.size) := Nat.le_trans HZ.out hg.size
        have N11 : Hid (∀ k, v5.ownBlock = some k → k ≠ a11) := fun k hk => by
          rcases hv with e | e
          · rw [e] at hk; exact N11.out k hk
          · rw [e] at hk
            injection hk with hk
            have h2 : a11 < w19.heap.size := block_lt_of_cell C11.out
            omega
        have C11 : Hid (w20.cell? ⟨a11, 0, none⟩ = some (.string s)) := by
          unfold Hid
          rw [World.cell?_of_block (a := ⟨a11, 0, none⟩) (hg.block a11 (block_lt_of_cell C11.out) (fun e => N0.out a11 e.symm rfl))]
          exact C11.out
        have X14 : Hid (w20.heap[a14]? = some (.cells #[.string ⟨#[]⟩, .slice none 0 0] 50 (0, 0))) := O.out.other hg X14.out (by decide)
        rw [List.nil_append] at ho
        have HB := HB1
        have HZ := HZ1
        have O := Lib.hid ho
        clear HB1 HZ1 ho hg hv
        have HS := Lib.hid (HSB.out w20 HB.out)
        refine ⟨HS.out, ?_⟩
        simp only [Act.put, List.setIfInBounds_toArray, List.set_cons_zero, List.set_cons_succ]
        refine oneU 12 (by kernel_rfl) ?_
        refine someU 12 rfl (by kernel_rfl) ?_
        refine step_appS (base := base) (v := v5) (x := (.slice (some ⟨a11, 0, none⟩) 1 1)) (ns := [s]) rfl _ _ rfl rfl rfl O.out (strs_one C11.out) (by simp; omega) HZ.out ?_
        intro v12 w21 ho hg hv
        have HB1 := Lib.hid (O.out.belowG hg HB.out HZ.out)
        have HZ1 : Hid (base ≤ w21.heap.size) := Nat.le_trans HZ.out hg.size
        have X14 : Hid (w21.heap[a14]? = some (.cells #[.string ⟨#[]⟩, .slice none 0 0] 50 (0, 0))) := O.out.other hg X14.out (by decide)
        obtain ⟨p12, c12, hv12⟩ := ho.shape
        obtain ⟨n12, e12⟩ : ∃ n, n = (ps ++ [s]).length := ⟨_, rfl⟩
        rw [← e12] at hv12
        subst hv12
        clear e12
        have HB := HB1
        have HZ := HZ1
        have O := Lib.hid ho
        clear HB1 HZ1 ho hg hv
        have HS := Lib.hid (HSB.out w21 HB.out)
        refine ⟨HS.out, ?_⟩
        simp only [Act.put, List.setIfInBounds_toArray, List.set_cons_zero, List.set_cons_succ]
        refine takeU 13 (v := ?_) rfl (by kernel_rfl) (by kernel_rfl) (fun _ _ _ h => HPAN.out _ _ _ _ _ h) rfl (fun u hu => ?_) HS.out ?_
        rotate_left
        · obtain ⟨q0, q1, q2, q3⟩ := hu; go_simp <;> with_reducible rfl
        simp only [Act.put, List.setIfInBounds_toArray, List.set_cons_zero, List.set_cons_succ]
        refine oneU 15 (by kernel_rfl) ?_
        refine lastU 15 rfl (by kernel_rfl) (by kernel_rfl) ?_
        have k0 := cell_of_row w21 a14 0 _ _ _ X14.out
        have k1 := cell_of_row w21 a14 1 _ _ _ X14.out
        have f0 := frozen_of_row w21 a14 0 _ _ X14.out
        have f1 := frozen_of_row w21 a14 1 _ _ X14.out
        refine step_skipW rfl ((w21.setCell ⟨a14, 0, none⟩ (.string snap)).setCell ⟨a14, 1, none⟩ (.slice p12 n12 c12)) (by go_simp) ?_
        clear k0 k1 f0 f1
        simp only [Act.put]
        exact HEX.out _ _ _ _ _ _ _ _ _ _ _ _ _ _ a14 _ ((HB.out.setCell (p := ⟨a14, 0, none⟩) LA14.out.1 _).setCell (p := ⟨a14, 1, none⟩) LA14.out.1 _) LA14.out.1 (lvNow X14.out O.out rfl)
    · refine someU 14 rfl (by kernel_rfl) ?_
      refine step_runW rfl (.pointer (some ⟨w3.heap.size, 0, none⟩)) (w3.alloc (.cells #[.string ⟨#[]⟩, .slice none 0 0] 50)) (by go_simp <;> with_reducible rfl) ?_
      obtain ⟨w22, hw22⟩ : ∃ v, v = w3.alloc (.cells #[.string ⟨#[]⟩, .slice none 0 0] 50) := ⟨_, rfl⟩
      obtain ⟨a14, ha14⟩ : ∃ v, v = w3.heap.size := ⟨_, rfl⟩
      have hal := alloc_below HB.out HZ.out (.cells #[.string ⟨#[]⟩, .slice none 0 0] 50)
      have hbl : Below w3.heap.size w3 (w3.alloc (.cells #[.string ⟨#[]⟩, .slice none 0 0] 50)) := (Below.refl _ _).alloc (Nat.le_refl _) _
      rw [← hw22] at hal hbl ⊢
      rw [← ha14]
      have LA14 : Hid (base ≤ a14 ∧ a14 < w22.heap.size) := by unfold Hid; rw [hw22, ha14]; simp; exact HZ.out
      have OB : Hid (∀ k, (Value.slice (some ⟨a2, 0, none⟩) 0 0).ownBlock = some k → k < w3.heap.size) := fun k hk => (O.out.block hk).2
      have O := Lib.hid (O.out.kept hbl)
      have X14 : Hid (w22.heap[a14]? = some (.cells #[.string ⟨#[]⟩, .slice none 0 0] 50 (0, 0))) := by unfold Hid; rw [hw22, ha14]; exact heap_alloc_new w3 _
      have HB := Lib.hid hal.1
      have HZ := Lib.hid hal.2
      clear hal hbl hw22 ha14
      have HS := Lib.hid (HSB.out w22 HB.out)
      refine ⟨HS.out, ?_⟩
      simp only [Act.put, List.setIfInBounds_toArray, List.set_cons_zero, List.set_cons_succ]
      refine twoU 5 11 (by kernel_rfl) ?_ ?_
      · refine someU 5 rfl (by kernel_rfl) ?_
        refine step_appS (base := base) (v := (.slice (some ⟨a2, 0, none⟩) 0 0)) (x := nv) (ns := ps) rfl _ _ rfl rfl rfl O.out (HNV.out w22 HB.out) (by simp; omega) HZ.out ?_
        intro v5 w23 ho hg hv
        have HB1 := Lib.hid (O.out.belowG hg HB.out HZ.out)
        have HZ1 : Hid (base ≤ w23.heap.size) := Nat.le_trans HZ.out hg.size
        have X14 : Hid (w23.heap[a14]? = some (.cells #[.string ⟨#[]⟩, .slice none 0 0] 50 (0, 0))) := O.out.other hg X14.out (by decide)
        rw [List.nil_append] at ho
        have HB := HB1
        have HZ := HZ1
        have O := Lib.hid ho
        clear HB1 HZ1 ho hg hv
        have HS := Lib.hid (HSB.out w23 HB.out)
        refine ⟨HS.out, ?_⟩
        simp only [Act.put, List.setIfInBounds_toArray, List.set_cons_zero, List.set_cons_succ]
        refine oneU 11 (by kernel_rfl) ?_
        refine someU 11 rfl (by kernel_rfl) ?_
        refine step_runW rfl (.slice (some ⟨w23.heap.size, 0, none⟩) 1 1) (w23.alloc (.cells #[.string s] 9)) (by go_simp <;> with_reducible rfl) ?_
        obtain ⟨w24, hw24⟩ : ∃ v, v = w23.alloc (.cells #[.string s] 9) := ⟨_, rfl⟩
        obtain ⟨a11, ha11⟩ : ∃ v, v = w23.heap.size := ⟨_, rfl⟩
        have hal := alloc_below HB.out HZ.out (.cells #[.string s] 9)
        have hbl : Below w23.heap.size w23 (w23.alloc (.cells #[.string s] 9)) := (Below.refl _ _).alloc (Nat.le_refl _) _
        rw [← hw24] at hal hbl ⊢
        rw [← ha11]
        have LA11 : Hid (base ≤ a11 ∧ a11 < w24.heap.size) := by unfold Hid; rw [hw24, ha11]; simp; exact HZ.out
        have OB : Hid (∀ k, v5.ownBlock = some k → k < w23.heap.size) := fun k hk => (O.out.block hk).2
        have O := Lib.hid (O.out.kept hbl)
        have X14 : Hid (w24.heap[a14]? = some (.cells #[.string ⟨#[]⟩, .slice none 0 0] 50 (0, 0))) := (hbl.block a14 (Array.getElem?_eq_some_iff.1 X14.out).1).trans X14.out
        have C11 : Hid (w24.cell? ⟨a11, 0, none⟩ = some (.string s)) := by unfold Hid; rw [hw24, ha11]; simp
        have N11 : Hid (∀ k, (Value.ownBlock v5) = some k → k ≠ a11) := fun k hk => by have h1 := (OB.out k hk); omega
        have HB := Lib.hid hal.1
        have HZ := Lib.hid hal.2
        clear hal hbl hw24 ha11
        have HS := Lib.hid (HSB.out w24 HB.out)
        refine ⟨HS.out, ?_⟩
        simp only [Act.put, List.setIfInBounds_toArray, List.set_cons_zero, List.set_cons_succ]
        refine oneU 12 (by kernel_rfl) ?_
        refine someU 12 rfl (by kernel_rfl) ?_
        refine step_appS (base := base) (v := v5) (x := (.slice (some ⟨a11, 0, none⟩) 1 1)) (ns := [s]) rfl _ _ rfl rfl rfl O.out (strs_one C11.out) (by simp; omega) HZ.out ?_
        intro v12 w25 ho hg hv
        have HB1 := Lib.hid (O.out.belowG hg HB.out HZ.out)
        have HZ1 : Hid (base ≤ w25.heap.size) := Nat.le_trans HZ.out hg.size
        have X14 : Hid (w25.heap[a14]? = some (.cells #[.string ⟨#[]⟩, .slice none 0 0] 50 (0, 0))) := O.out.other hg X14.out (by decide)
        obtain ⟨p12, c12, hv12⟩ := ho.shape
        obtain ⟨n12, e12⟩ : ∃ n, n = (ps ++ [s]).length := ⟨_, rfl⟩
        rw [← e12] at hv12
        subst hv12
        clear e12
        have HB := HB1
        have HZ := HZ1
        have O := Lib.hid ho
        clear HB1 HZ1 ho hg hv
        have HS := Lib.hid (HSB.out w25 HB.out)
        refine ⟨HS.out, ?_⟩
        simp only [Act.put, List.setIfInBounds_toArray, List.set_cons_zero, List.set_cons_succ]
        refine takeU 13 (v := ?_) rfl (by kernel_rfl) (by kernel_rfl) (fun _ _ _ h => HPAN.out _ _ _ _ _ h) rfl (fun u hu => ?_) HS.out ?_
        rotate_left
        · obtain ⟨q0, q1, q2, q3⟩ := hu; go_simp <;> with_reducible rfl
        simp only [Act.put, List.setIfInBounds_toArray, List.set_cons_zero, List.set_cons_succ]
        refine oneU 15 (by kernel_rfl) ?_
        refine lastU 15 rfl (by kernel_rfl) (by kernel_rfl) ?_
        have k0 := cell_of_row w25 a14 0 _ _ _ X14.out
        have k1 := cell_of_row w25 a14 1 _ _ _ X14.out
        have f0 := frozen_of_row w25 a14 0 _ _ X14.out
        have f1 := frozen_of_row w25 a14 1 _ _ X14.out
        refine step_skipW rfl ((w25.setCell ⟨a14, 0, none⟩ (.string snap)).setCell ⟨a14, 1, none⟩ (.slice p12 n12 c12)) (by go_simp) ?_
        clear k0 k1 f0 f1
        simp only [Act.put]
        exact HEX.out _ _ _ _ _ _ _ _ _ _ _ _ _ _ a14 _ ((HB.out.setCell (p := ⟨a14, 0, none⟩) LA14.out.1 _).setCell (p := ⟨a14, 1, none⟩) LA14.out.1 _) LA14.out.1 (lvNow X14.out O.out rfl)
      · refine someU 11 rfl (by kernel_rfl) ?_
        refine step_runW rfl (.slice (some ⟨w22.heap.size, 0, none⟩) 1 1) (w22.alloc (.cells #[.string s] 9)) (by go_simp <;> with_reducible rfl) ?_
        obtain ⟨w26, hw26⟩ : ∃ v, v = w22.alloc (.cells #[.string s] 9) := ⟨_, rfl⟩
        obtain ⟨a11, ha11⟩ : ∃ v, v = w22.heap.size := ⟨_, rfl⟩
        have hal := alloc_below HB.out HZ.out (.cells #[.string s] 9)
        have hbl : Below w22.heap.size w22 (w22.alloc (.cells #[.string s] 9)) := (Below.refl _ _).alloc (Nat.le_refl _) _
        rw [← hw26] at hal hbl ⊢
        rw [← ha11]
        have LA11 : Hid (base ≤ a11 ∧ a11 < w26.heap.size) := by unfold Hid; rw [hw26, ha11]; simp; exact HZ.out
        have OB : Hid (∀ k, (Value.slice (some ⟨a2, 0, none⟩) 0 0).ownBlock = some k → k < w22.heap.size) := fun k hk => (O.out.block hk).2
        have O := Lib.hid (O.out.kept hbl)
        have X14 : Hid (w26.heap[a14]? = some (.cells #[.string ⟨#[]⟩, .slice none 0 0] 50 (0, 0))) := (hbl.block a14 (Array.getElem?_eq_some_iff.1 X14.out).1).trans X14.out
        have C11 : Hid (w26.cell? ⟨a11, 0, none⟩ = some (.string s)) := by unfold Hid; rw [hw26, ha11]; simp
        have N11 : Hid (∀ k, (Value.ownBlock (.slice (some ⟨a2, 0, none⟩) 0 0)) = some k → k ≠ a11) := fun k hk => by have h1 := (OB.out k hk); omega
        have HB := Lib.hid hal.1
        have HZ := Lib.hid hal.2
        clear hal hbl hw26 ha11
        have HS := Lib.hid (HSB.out w26 HB.out)
        refine ⟨HS.out, ?_⟩
        simp only [Act.put, List.setIfInBounds_toArray, List.set_cons_zero, List.set_cons_succ]
        refine oneU 5 (by kernel_rfl) ?_
        have N0 := N11
        refine someU 5 rfl (by kernel_rfl) ?_
        refine step_appS (base := base) (v := (.slice (some ⟨a2, 0, none⟩) 0 0)) (x := nv) (ns := ps) rfl _ _ rfl rfl rfl O.out (HNV.out w26 HB.out) (by simp; omega) HZ.out ?_
        intro v5 w27 ho hg hv
        have HB1 := Lib.hid (O.out.belowG hg HB.out HZ.out)
        have HZ1 : Hid (base ≤ w27.heap.size) := Nat.le_trans HZ.out hg.size
        have N11 : Hid (∀ k, v5.ownBlock = some k → k ≠ a11) := fun k hk => by
          rcases hv with e | e
          · rw [e] at hk; exact N11.out k hk
          · rw [e] at hk
            injection hk with hk
            have h2 : a11 < w26.heap.size := block_lt_of_cell C11.out
            omega
        have C11 : Hid (w27.cell? ⟨a11, 0, none⟩ = some (.string s)) := by
          unfold Hid
          rw [World.cell?_of_block (a := ⟨a11, 0, none⟩) (hg.block a11 (block_lt_of_cell C11.out) (fun e => N0.out a11 e.symm rfl))]
          exact C11.out
        have X14 : Hid (w27.heap[a14]? = some (.cells #[.string ⟨#[]⟩, .slice none 0 0] 50 (0, 0))) := O.out.other hg X14.out (by decide)
        rw [List.nil_append] at ho
        have HB := HB1
        have HZ := HZ1
        have O := Lib.hid ho
        clear HB1 HZ1 ho hg hv
        have HS := Lib.hid (HSB.out w27 HB.out)
        refine ⟨HS.out, ?_⟩
        simp only [Act.put, List.setIfInBounds_toArray, List.set_cons_zero, List.set_cons_succ]
        refine oneU 12 (by kernel_rfl) ?_
        refine someU 12 rfl (by kernel_rfl) ?_
        refine step_appS (base := base) (v := v5) (x := (.slice (some ⟨a11, 0, none⟩) 1 1)) (ns := [s]) rfl _ _ rfl rfl rfl O.out (strs_one C11.out) (by simp; omega) HZ.out ?_
        intro v12 w28 ho hg hv
        have HB1 := Lib.hid (O.out.belowG hg HB.out HZ.out)
        have HZ1 : Hid (base ≤ w28.heap.size) := Nat.le_trans HZ.out hg.size
        have X14 : Hid (w28.heap[a14]? = some (.cells #[.string ⟨#[]⟩, .slice none 0 0] 50 (0, 0))) := O.out.other hg X14.out (by decide)
        obtain ⟨p12, c12, hv12⟩ := ho.shape
        obtain ⟨n12, e12⟩ : ∃ n, n = (ps ++ [s]).length := ⟨_, rfl⟩
        rw [← e12] at hv12
        subst hv12
        clear e12
        have HB := HB1
        have HZ := HZ1
        have O := Lib.hid ho
        clear HB1 HZ1 ho hg hv
        have HS := Lib.hid (HSB.out w28 HB.out)
        refine ⟨HS.out, ?_⟩
        simp only [Act.put, List.setIfInBounds_toArray, List.set_cons_zero, List.set_cons_succ]
        refine takeU 13 (v := ?_) rfl (by kernel_rfl) (by kernel_rfl) (fun _ _ _ h => HPAN.out _ _ _ _ _ h) rfl (fun u hu => ?_) HS.out ?_
        rotate_left
        · obtain ⟨q0, q1, q2, q3⟩ := hu; go_simp <;> with_reducible rfl
        simp only [Act.put, List.setIfInBounds_toArray, List.set_cons_zero, List.set_cons_succ]
        refine oneU 15 (by kernel_rfl) ?_
        refine lastU 15 rfl (by kernel_rfl) (by kernel_rfl) ?_
        have k0 := cell_of_row w28 a14 0 _ _ _ X14.out
        have k1 := cell_of_row w28 a14 1 _ _ _ X14.out
        have f0 := frozen_of_row w28 a14 0 _ _ X14.out
        have f1 := frozen_of_row w28 a14 1 _ _ X14.out
        refine step_skipW rfl ((w28.setCell ⟨a14, 0, none⟩ (.string snap)).setCell ⟨a14, 1, none⟩ (.slice p12 n12 c12)) (by go_simp) ?_
        clear k0 k1 f0 f1
        simp only [Act.put]
        exact HEX.out _ _ _ _ _ _ _ _ _ _ _ _ _ _ a14 _ ((HB.out.setCell (p := ⟨a14, 0, none⟩) LA14.out.1 _).setCell (p := ⟨a14, 1, none⟩) LA14.out.1 _) LA14.out.1 (lvNow X14.out O.out rfl)
  · refine someU 11 rfl (by kernel_rfl) ?_
    refine step_runW rfl (.slice (some ⟨w2.heap.size, 0, none⟩) 1 1) (w2.alloc (.cells #[.string s] 9)) (by go_simp <;> with_reducible rfl) ?_
    obtain ⟨w29, hw29⟩ : ∃ v, v = w2.alloc (.cells #[.string s] 9) := ⟨_, rfl⟩
    obtain ⟨a11, ha11⟩ : ∃ v, v = w2.heap.size := ⟨_, rfl⟩
    have hal := alloc_below HB.out HZ.out (.cells #[.string s] 9)
    have hbl : Below w2.heap.size w2 (w2.alloc (.cells #[.string s] 9)) := (Below.refl _ _).alloc (Nat.le_refl _) _
    rw [← hw29] at hal hbl ⊢
    rw [← ha11]
    have LA11 : Hid (base ≤ a11 ∧ a11 < w29.heap.size) := by unfold Hid; rw [hw29, ha11]; simp; exact HZ.out
    have C11 : Hid (w29.cell? ⟨a11, 0, none⟩ = some (.string s)) := by unfold Hid; rw [hw29, ha11]; simp
    have HB := Lib.hid hal.1
    have HZ := Lib.hid hal.2
    clear hal hbl hw29 ha11
    have HS := Lib.hid (HSB.out w29 HB.out)
    refine ⟨HS.out, ?_⟩
    simp only [Act.put, List.setIfInBounds_toArray, List.set_cons_zero, List.set_cons_succ]
    refine twoU 2 14 (by kernel_rfl) ?_ ?_
    · refine someU 2 rfl (by kernel_rfl) ?_
      refine step_runW rfl (.slice (some ⟨w29.heap.size, 0, none⟩) 0 0) (w29.alloc (.cells #[] 9)) (by go_simp <;> with_reducible rfl) ?_
      obtain ⟨w30, hw30⟩ : ∃ v, v = w29.alloc (.cells #[] 9) := ⟨_, rfl⟩
      obtain ⟨a2, ha2⟩ : ∃ v, v = w29.heap.size := ⟨_, rfl⟩
      have hal := alloc_below HB.out HZ.out (.cells #[] 9)
      have hbl : Below w29.heap.size w29 (w29.alloc (.cells #[] 9)) := (Below.refl _ _).alloc (Nat.le_refl _) _
      rw [← hw30] at hal hbl ⊢
      rw [← ha2]
      have LA2 : Hid (base ≤ a2 ∧ a2 < w30.heap.size) := by unfold Hid; rw [hw30, ha2]; simp; exact HZ.out
      have L11 : Hid (a11 < w29.heap.size) := block_lt_of_cell C11.out
      have C11 : Hid (w30.cell? ⟨a11, 0, none⟩ = some (.string s)) := (hbl.cell (block_lt_of_cell C11.out)).trans C11.out
      have O : Hid (OwnsS w30 base (.slice (some ⟨a2, 0, none⟩) 0 0) []) := by unfold Hid; rw [hw30, ha2]; exact OwnsS.baseL (OwnsS.emptyL w29) HZ.out
      have N11 : Hid (∀ k, (Value.slice (some ⟨a2, 0, none⟩) 0 0).ownBlock = some k → k ≠ a11) := by
        intro k hk
        have h1 : a2 = k := by simpa [Value.ownBlock] using hk
        have h2 := L11.out
        omega
      have HB := Lib.hid hal.1
      have HZ := Lib.hid hal.2
      clear hal hbl hw30 ha2
      have HS := Lib.hid (HSB.out w30 HB.out)
      refine ⟨HS.out, ?_⟩
      simp only [Act.put, List.setIfInBounds_toArray, List.set_cons_zero, List.set_cons_succ]
      refine twoU 5 14 (by kernel_rfl) ?_ ?_
      · have N0 := N11
        refine someU 5 rfl (by kernel_rfl) ?_
        refine step_appS (base := base) (v := (.slice (some ⟨a2, 0, none⟩) 0 0)) (x := nv) (ns := ps) rfl _ _ rfl rfl rfl O.out (HNV.out w30 HB.out) (by simp; omega) HZ.out ?_
        intro v5 w31 ho hg hv
        have HB1 := Lib.hid (O.out.belowG hg HB.out HZ.out)
        have HZ1 : Hid (base ≤ w31.heap.size) := Nat.le_trans HZ.out hg.size
        have N11 : Hid (∀ k, v5.ownBlock = some k → k ≠ a11) := fun k hk => by
          rcases hv with e | e
          · rw [e] at hk; exact N11.out k hk
          · rw [e] at hk
            injection hk with hk
            have h2 : a11 < w30.heap.size := block_lt_of_cell C11.out
            omega
        have C11 : Hid (w31.cell? ⟨a11, 0, none⟩ = some (.string s)) := by
          unfold Hid
          rw [World.cell?_of_block (a := ⟨a11, 0, none⟩) (hg.block a11 (block_lt_of_cell C11.out) (fun e => N0.out a11 e.symm rfl))]
          exact C11.out
        rw [List.nil_append] at ho
        have HB := HB1
        have HZ := HZ1
        have O := Lib.hid ho
        clear HB1 HZ1 ho hg hv
        have HS := Lib.hid (HSB.out w31 HB.out)
        refine ⟨HS.out, ?_⟩
        simp only [Act.put, List.setIfInBounds_toArray, List.set_cons_zero, List.set_cons_succ]
        refine twoU 12 14 (by kernel_rfl) ?_ ?_
        · refine someU 12 rfl (by kernel_rfl) ?_
          refine step_appS (base := base) (v := v5) (x := (.slice (some ⟨a11, 0, none⟩) 1 1)) (ns := [s]) rfl _ _ rfl rfl rfl O.out (strs_one C11.out) (by simp; omega) HZ.out ?_
          intro v12 w32 ho hg hv
          have HB1 := Lib.hid (O.out.belowG hg HB.out HZ.out)
          have HZ1 : Hid (base ≤ w32.heap.size) := Nat.le_trans HZ.out hg.size
          obtain ⟨p12, c12, hv12⟩ := ho.shape
          obtain ⟨n12, e12⟩ : ∃ n, n = (ps ++ [s]).length := ⟨_, rfl⟩
          rw [← e12] at hv12
          subst hv12
          clear e12
          have HB := HB1
          have HZ := HZ1
          have O := Lib.hid ho
          clear HB1 HZ1 ho hg hv
          have HS := Lib.hid (HSB.out w32 HB.out)
          refine ⟨HS.out, ?_⟩
          simp only [Act.put, List.setIfInBounds_toArray, List.set_cons_zero, List.set_cons_succ]
          refine takeU 13 (v := ?_) rfl (by kernel_rfl) (by kernel_rfl) (fun _ _ _ h => HPAN.out _ _ _ _ _ h) rfl (fun u hu => ?_) HS.out ?_
          rotate_left
          · obtain ⟨q0, q1, q2, q3⟩ := hu; go_simp <;> with_reducible rfl
          simp only [Act.put, List.setIfInBounds_toArray, List.set_cons_zero, List.set_cons_succ]
          refine oneU 14 (by kernel_rfl) ?_
          refine someU 14 rfl (by kernel_rfl) ?_
          refine step_runW rfl (.pointer (some ⟨w32.heap.size, 0, none⟩)) (w32.alloc (.cells #[.string ⟨#[]⟩, .slice none 0 0] 50)) (by go_simp <;> with_reducible rfl) ?_
          obtain ⟨w33, hw33⟩ : ∃ v, v = w32.alloc (.cells #[.string ⟨#[]⟩, .slice none 0 0] 50) := ⟨_, rfl⟩
          obtain ⟨a14, ha14⟩ : ∃ v, v = w32.heap.size := ⟨_, rfl⟩
          have hal := alloc_below HB.out HZ.out (.cells #[.string ⟨#[]⟩, .slice none 0 0] 50)
          have hbl : Below w32.heap.size w32 (w32.alloc (.cells #[.string ⟨#[]⟩, .slice none 0 0] 50)) := (Below.refl _ _).alloc (Nat.le_refl _) _
          rw [← hw33] at hal hbl ⊢
          rw [← ha14]
          have LA14 : Hid (base ≤ a14 ∧ a14 < w33.heap.size) := by unfold Hid; rw [hw33, ha14]; simp; exact HZ.out
          have O := Lib.hid (O.out.kept hbl)
          have X14 : Hid (w33.heap[a14]? = some (.cells #[.string ⟨#[]⟩, .slice none 0 0] 50 (0, 0))) := by unfold Hid; rw [hw33, ha14]; exact heap_alloc_new w32 _
          have HB := Lib.hid hal.1
          have HZ := Lib.hid hal.2
          clear hal hbl hw33 ha14
          have HS := Lib.hid (HSB.out w33 HB.out)
          refine ⟨HS.out, ?_⟩
          simp only [Act.put, List.setIfInBounds_toArray, List.set_cons_zero, List.set_cons_succ]
          refine oneU 15 (by kernel_rfl) ?_
          refine lastU 15 rfl (by kernel_rfl) (by kernel_rfl) ?_
          have k0 := cell_of_row w33 a14 0 _ _ _ X14.out
          have k1 := cell_of_row w33 a14 1 _ _ _ X14.out
          have f0 := frozen_of_row w33 a14 0 _ _ X14.out
          have f1 := frozen_of_row w33 a14 1 _ _ X14.out
          refine step_skipW rfl ((w33.setCell ⟨a14, 0, none⟩ (.string snap)).setCell ⟨a14, 1, none⟩ (.slice p12 n12 c12)) (by go_simp) ?_
          clear k0 k1 f0 f1
          simp only [Act.put]
          exact HEX.out _ _ _ _ _ _ _ _ _ _ _ _ _ _ a14 _ ((HB.out.setCell (p := ⟨a14, 0, none⟩) LA14.out.1 _).setCell (p := ⟨a14, 1, none⟩) LA14.out.1 _) LA14.out.1 (lvNow X14.out O.out rfl)
        · refine someU 14 rfl (by kernel_rfl) ?_
          refine step_runW rfl (.pointer (some ⟨w31.heap.size, 0, none⟩)) (w31.alloc (.cells #[.string ⟨#[]⟩, .slice none 0 0] 50)) (by go_simp <;> with_reducible rfl) ?_
          obtain ⟨w34, hw34⟩ : ∃ v, v = w31.alloc (.cells #[.string ⟨#[]⟩, .slice none 0 0] 50) := ⟨_, rfl⟩
          obtain ⟨a14, ha14⟩ : ∃ v, v = w31.heap.size := ⟨_, rfl⟩
          have hal := alloc_below HB.out HZ.out (.cells #[.string ⟨#[]⟩, .slice none 0 0] 50)
          have hbl : Below w31.heap.size w31 (w31.alloc (.cells #[.string ⟨#[]⟩, .slice none 0 0] 50)) := (Below.refl _ _).alloc (Nat.le_refl _) _
          rw [← hw34] at hal hbl ⊢
          rw [← ha14]
          have LA14 : Hid (base ≤ a14 ∧ a14 < w34.heap.size) := by unfold Hid; rw [hw34, ha14]; simp; exact HZ.out
          have L11 : Hid (a11 < w31.heap.size) := block_lt_of_cell C11.out
          have OB : Hid (∀ k, v5.ownBlock = some k → k < w31.heap.size) := fun k hk => (O.out.block hk).2
          have O := Lib.hid (O.out.kept hbl)
          have C11 : Hid (w34.cell? ⟨a11, 0, none⟩ = some (.string s)) := (hbl.cell (block_lt_of_cell C11.out)).trans C11.out
          have X14 : Hid (w34.heap[a14]? = some (.cells #[.string ⟨#[]⟩, .slice none 0 0] 50 (0, 0))) := by unfold Hid; rw [hw34, ha14]; exact heap_alloc_new w31 _
          have HB := Lib.hid hal.1
          have HZ := Lib.hid hal.2
          clear hal hbl hw34 ha14
          have HS := Lib.hid (HSB.out w34 HB.out)
          refine ⟨HS.out, ?_⟩
          simp only [Act.put, List.setIfInBounds_toArray, List.set_cons_zero, List.set_cons_succ]
          refine oneU 12 (by kernel_rfl) ?_
          refine someU 12 rfl (by kernel_rfl) ?_
          refine step_appS (base := base) (v := v5) (x := (.slice (some ⟨a11, 0, none⟩) 1 1)) (ns := [s]) rfl _ _ rfl rfl rfl O.out (strs_one C11.out) (by simp; omega) HZ.out ?_
          intro v12 w35 ho hg hv
          have HB1 := Lib.hid (O.out.belowG hg HB.out HZ.out)
          have HZ1 : Hid (base ≤ w35.heap.size) := Nat.le_trans HZ.out hg.size
          have X14 : Hid (w35.heap[a14]? = some (.cells #[.string ⟨#[]⟩, .slice none 0 0] 50 (0, 0))) := O.out.other hg X14.out (by decide)
          obtain ⟨p12, c12, hv12⟩ := ho.shape
          obtain ⟨n12, e12⟩ : ∃ n, n = (ps ++ [s]).length := ⟨_, rfl⟩
          rw [← e12] at hv12
          subst hv12
          clear e12
          have HB := HB1
          have HZ := HZ1
          have O := Lib.hid ho
          clear HB1 HZ1 ho hg hv
          have HS := Lib.hid (HSB.out w35 HB.out)
          refine ⟨HS.out, ?_⟩
          simp only [Act.put, List.setIfInBounds_toArray, List.set_cons_zero, List.set_cons_succ]
          refine takeU 13 (v := ?_) rfl (by kernel_rfl) (by kernel_rfl) (fun _ _ _ h => HPAN.out _ _ _ _ _ h) rfl (fun u hu => ?_) HS.out ?_
          rotate_left
          · obtain ⟨q0, q1, q2, q3⟩ := hu; go_simp <;> with_reducible rfl
          simp only [Act.put, List.setIfInBounds_toArray, List.set_cons_zero, List.set_cons_succ]
          refine oneU 15 (by kernel_rfl) ?_
          refine lastU 15 rfl (by kernel_rfl) (by kernel_rfl) ?_
          have k0 := cell_of_row w35 a14 0 _ _ _ X14.out
          have k1 := cell_of_row w35 a14 1 _ _ _ X14.out
          have f0 := frozen_of_row w35 a14 0 _ _ X14.out
          have f1 := frozen_of_row w35 a14 1 _ _ X14.out
          refine step_skipW rfl ((w35.setCell ⟨a14, 0, none⟩ (.string snap)).setCell ⟨a14, 1, none⟩ (.slice p12 n12 c12)) (by go_simp) ?_
          clear k0 k1 f0 f1
          simp only [Act.put]
          exact HEX.out _ _ _ _ _ _ _ _ _ _ _ _ _ _ a14 _ ((HB.out.setCell (p := ⟨a14, 0, none⟩) LA14.out.1 _).setCell (p := ⟨a14, 1, none⟩) LA14.out.1 _) LA14.out.1 (lvNow X14.out O.out rfl)
      · refine someU 14 rfl (by kernel_rfl) ?_
        refine step_runW rfl (.pointer (some ⟨w30.heap.size, 0, none⟩)) (w30.alloc (.cells #[.string ⟨#[]⟩, .slice none 0 0] 50)) (by go_simp <;> with_reducible rfl) ?_
        obtain ⟨w36, hw36⟩ : ∃ v, v = w30.alloc (.cells #[.string ⟨#[]⟩, .slice none 0 0] 50) := ⟨_, rfl⟩
        obtain ⟨a14, ha14⟩ : ∃ v, v = w30.heap.size := ⟨_, rfl⟩
        have hal := alloc_below HB.out HZ.out (.cells #[.string ⟨#[]⟩, .slice none 0 0] 50)
        have hbl : Below w30.heap.size w30 (w30.alloc (.cells #[.string ⟨#[]⟩, .slice none 0 0] 50)) := (Below.refl _ _).alloc (Nat.le_refl _) _
        rw [← hw36] at hal hbl ⊢
        rw [← ha14]
        have LA14 : Hid (base ≤ a14 ∧ a14 < w36.heap.size) := by unfold Hid; rw [hw36, ha14]; simp; exact HZ.out
        have L11 : Hid (a11 < w30.heap.size) := block_lt_of_cell C11.out
        have OB : Hid (∀ k, (Value.slice (some ⟨a2, 0, none⟩) 0 0).ownBlock = some k → k < w30.heap.size) := fun k hk => (O.out.block hk).2
        have O := Lib.hid (O.out.kept hbl)
        have C11 : Hid (w36.cell? ⟨a11, 0, none⟩ = some (.string s)) := (hbl.cell (block_lt_of_cell C11.out)).trans C11.out
        have X14 : Hid (w36.heap[a14]? = some (.cells #[.string ⟨#[]⟩, .slice none 0 0] 50 (0, 0))) := by unfold Hid; rw [hw36, ha14]; exact heap_alloc_new w30 _
        have HB := Lib.hid hal.1
        have HZ := Lib.hid hal.2
        clear hal hbl hw36 ha14
        have HS := Lib.hid (HSB.out w36 HB.out)
        refine ⟨HS.out, ?_⟩
        simp only [Act.put, List.setIfInBounds_toArray, List.set_cons_zero, List.set_cons_succ]
        refine oneU 5 (by kernel_rfl) ?_
        have N0 := N11
        refine someU 5 rfl (by kernel_rfl) ?_
        refine step_appS (base := base) (v := (.slice (some ⟨a2, 0, none⟩) 0 0)) (x := nv) (ns := ps) rfl _ _ rfl rfl rfl O.out (HNV.out w36 HB.out) (by simp; omega) HZ.out ?_
        intro v5 w37 ho hg hv
        have HB1 := Lib.hid (O.out.belowG hg HB.out HZ.out)
        have HZ1 : Hid (base ≤ w37.heap.size) := Nat.le_trans HZ.out hg.size
        have N11 : Hid (∀ k, v5.ownBlock = some k → k ≠ a11) := fun k hk => by
          rcases hv with e | e
          · rw [e] at hk; exact N11.out k hk
          · rw [e] at hk
            injection hk with hk
            have h2 : a11 < w36.heap.size := block_lt_of_cell C11.out
            omega
        have C11 : Hid (w37.cell? ⟨a11, 0, none⟩ = some (.string s)) := by
          unfold Hid
          rw [World.cell?_of_block (a := ⟨a11, 0, none⟩) (hg.block a11 (block_lt_of_cell C11.out) (fun e => N0.out a11 e.symm rfl))]
          exact C11.out
        have X14 : Hid (w37.heap[a14]? = some (.cells #[.string ⟨#[]⟩, .slice none 0 0] 50 (0, 0))) := O.out.other hg X14.out (by decide)
        rw [List.nil_append] at ho
        have HB := HB1
        have HZ := HZ1
        have O := Lib.hid ho
        clear HB1 HZ1 ho hg hv
        have HS := Lib.hid (HSB.out w37 HB.out)
        refine ⟨HS.out, ?_⟩
        simp only [Act.put, List.setIfInBounds_toArray, List.set_cons_zero, List.set_cons_succ]
        refine oneU 12 (by kernel_rfl) ?_
        refine someU 12 rfl (by kernel_rfl) ?_
        refine step_appS (base := base) (v := v5) (x := (.slice (some ⟨a11, 0, none⟩) 1 1)) (ns := [s]) rfl _ _ rfl rfl rfl O.out (strs_one C11.out) (by simp; omega) HZ.out ?_
        intro v12 w38 ho hg hv
        have HB1 := Lib.hid (O.out.belowG hg HB.out HZ.out)
        have HZ1 : Hid (base ≤ w38.heap.size) := Nat.le_trans HZ.out hg.size
        have X14 : Hid (w38.heap[a14]? = some (.cells #[.string ⟨#[]⟩, .slice none 0 0] 50 (0, 0))) := O.out.other hg X14.out (by decide)
        obtain ⟨p12, c12, hv12⟩ := ho.shape
        obtain ⟨n12, e12⟩ : ∃ n, n = (ps ++ [s]).length := ⟨_, rfl⟩
        rw [← e12] at hv12
        subst hv12
        clear e12
        have HB := HB1
        have HZ := HZ1
        have O := Lib.hid ho
        clear HB1 HZ1 ho hg hv
        have HS := Lib.hid (HSB.out w38 HB.out)
        refine ⟨HS.out, ?_⟩
        simp only [Act.put, List.setIfInBounds_toArray, List.set_cons_zero, List.set_cons_succ]
        refine takeU 13 (v := ?_) rfl (by kernel_rfl) (by kernel_rfl) (fun _ _ _ h => HPAN.out _ _ _ _ _ h) rfl (fun u hu => ?_) HS.out ?_
        rotate_left
        · obtain ⟨q0, q1, q2, q3⟩ := hu; go_simp <;> with_reducible rfl
        simp only [Act.put, List.setIfInBounds_toArray, List.set_cons_zero, List.set_cons_succ]
        refine oneU 15 (by kernel_rfl) ?_
        refine lastU 15 rfl (by kernel_rfl) (by kernel_rfl) ?_
        have k0 := cell_of_row w38 a14 0 _ _ _ X14.out
        have k1 := cell_of_row w38 a14 1 _ _ _ X14.out
        have f0 := frozen_of_row w38 a14 0 _ _ X14.out
        have f1 := frozen_of_row w38 a14 1 _ _ X14.out
        refine step_skipW rfl ((w38.setCell ⟨a14, 0, none⟩ (.string snap)).setCell ⟨a14, 1, none⟩ (.slice p12 n12 c12)) (by go_simp) ?_
        clear k0 k1 f0 f1
        simp only [Act.put]
        exact HEX.out _ _ _ _ _ _ _ _ _ _ _ _ _ _ a14 _ ((HB.out.setCell (p := ⟨a14, 0, none⟩) LA14.out.1 _).setCell (p := ⟨a14, 1, none⟩) LA14.out.1 _) LA14.out.1 (lvNow X14.out O.out rfl)
    · refine someU 14 rfl (by kernel_rfl) ?_
      refine step_runW rfl (.pointer (some ⟨w29.heap.size, 0, none⟩)) (w29.alloc (.cells #[.string ⟨#[]⟩, .slice none 0 0] 50)) (by go_simp <;> with_reducible rfl) ?_
      obtain ⟨w39, hw39⟩ : ∃ v, v = w29.alloc (.cells #[.string ⟨#[]⟩, .slice none 0 0] 50) := ⟨_, rfl⟩
      obtain ⟨a14, ha14⟩ : ∃ v, v = w29.heap.size := ⟨_, rfl⟩
      have hal := alloc_below HB.out HZ.out (.cells #[.string ⟨#[]⟩, .slice none 0 0] 50)
      have hbl : Below w29.heap.size w29 (w29.alloc (.cells #[.string ⟨#[]⟩, .slice none 0 0] 50)) := (Below.refl _ _).alloc (Nat.le_refl _) _
      rw [← hw39] at hal hbl ⊢
      rw [← ha14]
      have LA14 : Hid (base ≤ a14 ∧ a14 < w39.heap.size) := by unfold Hid; rw [hw39, ha14]; simp; exact HZ.out
      have L11 : Hid (a11 < w29.heap.size) := block_lt_of_cell C11.out
      have C11 : Hid (w39.cell? ⟨a11, 0, none⟩ = some (.string s)) := (hbl.cell (block_lt_of_cell C11.out)).trans C11.out
      have X14 : Hid (w39.heap[a14]? = some (.cells #[.string ⟨#[]⟩, .slice none 0 0] 50 (0, 0))) := by unfold Hid; rw [hw39, ha14]; exact heap_alloc_new w29 _
      have HB := Lib.hid hal.1
      have HZ := Lib.hid hal.2
      clear hal hbl hw39 ha14
      have HS := Lib.hid (HSB.out w39 HB.out)
      refine ⟨HS.out, ?_⟩
      simp only [Act.put, List.setIfInBounds_toArray, List.set_cons_zero, List.set_cons_succ]
      refine oneU 2 (by kernel_rfl) ?_
      refine someU 2 rfl (by kernel_rfl) ?_
      refine step_runW rfl (.slice (some ⟨w39.heap.size, 0, none⟩) 0 0) (w39.alloc (.cells #[] 9)) (by go_simp <;> with_reducible rfl) ?_
      obtain ⟨w40, hw40⟩ : ∃ v, v = w39.alloc (.cells #[] 9) := ⟨_, rfl⟩
      obtain ⟨a2, ha2⟩ : ∃ v, v = w39.heap.size := ⟨_, rfl⟩
      have hal := alloc_below HB.out HZ.out (.cells #[] 9)
      have hbl : Below w39.heap.size w39 (w39.alloc (.cells #[] 9)) := (Below.refl _ _).alloc (Nat.le_refl _) _
      rw [← hw40] at hal hbl ⊢
      rw [← ha2]
      have LA2 : Hid (base ≤ a2 ∧ a2 < w40.heap.size) := by unfold Hid; rw [hw40, ha2]; simp; exact HZ.out
      have L11 : Hid (a11 < w39.heap.size) := block_lt_of_cell C11.out
      have C11 : Hid (w40.cell? ⟨a11, 0, none⟩ = some (.string s)) := (hbl.cell (block_lt_of_cell C11.out)).trans C11.out
      have X14 : Hid (w40.heap[a14]? = some (.cells #[.string ⟨#[]⟩, .slice none 0 0] 50 (0, 0))) := (hbl.block a14 (Array.getElem?_eq_some_iff.1 X14.out).1).trans X14.out
      have O : Hid (OwnsS w40 base (.slice (some ⟨a2, 0, none⟩) 0 0) []) := by unfold Hid; rw [hw40, ha2]; exact OwnsS.baseL (OwnsS.emptyL w39) HZ.out
      have N11 : Hid (∀ k, (Value.slice (some ⟨a2, 0, none⟩) 0 0).ownBlock = some k → k ≠ a11) := by
        intro k hk
        have h1 : a2 = k := by simpa [Value.ownBlock] using hk
        have h2 := L11.out
        omega
      have HB := Lib.hid hal.1
      have HZ := Lib.hid hal.2
      clear hal hbl hw40 ha2
      have HS := Lib.hid (HSB.out w40 HB.out)
      refine ⟨HS.out, ?_⟩
      simp only [Act.put, List.setIfInBounds_toArray, List.set_cons_zero, List.set_cons_succ]
      refine oneU 5 (by kernel_rfl) ?_
      have N0 := N11
      refine someU 5 rfl (by kernel_rfl) ?_
      refine step_appS (base := base) (v := (.slice (some ⟨a2, 0, none⟩) 0 0)) (x := nv) (ns := ps) rfl _ _ rfl rfl rfl O.out (HNV.out w40 HB.out) (by simp; omega) HZ.out ?_
      intro v5 w41 ho hg hv
      have HB1 := Lib.hid (O.out.belowG hg HB.out HZ.out)
      have HZ1 : Hid (base ≤ w41.heap.size) := Nat.le_trans HZ.out hg.size
      have N11 : Hid (∀ k, v5.ownBlock = some k → k ≠ a11) := fun k hk => by
        rcases hv with e | e
        · rw [e] at hk; exact N11.out k hk
        · rw [e] at hk
          injection hk with hk
          have h2 : a11 < w40.heap.size := block_lt_of_cell C11.out
          omega
      have C11 : Hid (w41.cell? ⟨a11, 0, none⟩ = some (.string s)) := by
        unfold Hid
        rw [World.cell?_of_block (a := ⟨a11, 0, none⟩) (hg.block a11 (block_lt_of_cell C11.out) (fun e => N0.out a11 e.symm rfl))]
        exact C11.out
      have X14 : Hid (w41.heap[a14]? = some (.cells #[.string ⟨#[]⟩, .slice none 0 0] 50 (0, 0))) := O.out.other hg X14.out (by decide)
      rw [List.nil_append] at ho
      have HB := HB1
      have HZ := HZ1
      have O := Lib.hid ho
      clear HB1 HZ1 ho hg hv
      have HS := Lib.hid (HSB.out w41 HB.out)
      refine ⟨HS.out, ?_⟩
      simp only [Act.put, List.setIfInBounds_toArray, List.set_cons_zero, List.set_cons_succ]
      refine oneU 12 (by kernel_rfl) ?_
      refine someU 12 rfl (by kernel_rfl) ?_
      refine step_appS (base := base) (v := v5) (x := (.slice (some ⟨a11, 0, none⟩) 1 1)) (ns := [s]) rfl _ _ rfl rfl rfl O.out (strs_one C11.out) (by simp; omega) HZ.out ?_
      intro v12 w42 ho hg hv
      have HB1 := Lib.hid (O.out.belowG hg HB.out HZ.out)
      have HZ1 : Hid (base ≤ w42.heap.size) := Nat.le_trans HZ.out hg.size
      have X14 : Hid (w42.heap[a14]? = some (.cells #[.string ⟨#[]⟩, .slice none 0 0] 50 (0, 0))) := O.out.other hg X14.out (by decide)
      obtain ⟨p12, c12, hv12⟩ := ho.shape
      obtain ⟨n12, e12⟩ : ∃ n, n = (ps ++ [s]).length := ⟨_, rfl⟩
      rw [← e12] at hv12
      subst hv12
      clear e12
      have HB := HB1
      have HZ := HZ1
      have O := Lib.hid ho
      clear HB1 HZ1 ho hg hv
      have HS := Lib.hid (HSB.out w42 HB.out)
      refine ⟨HS.out, ?_⟩
      simp only [Act.put, List.setIfInBounds_toArray, List.set_cons_zero, List.set_cons_succ]
      refine takeU 13 (v := ?_) rfl (by kernel_rfl) (by kernel_rfl) (fun _ _ _ h => HPAN.out _ _ _ _ _ h) rfl (fun u hu => ?_) HS.out ?_
      rotate_left
      · obtain ⟨q0, q1, q2, q3⟩ := hu; go_simp <;> with_reducible rfl
      simp only [Act.put, List.setIfInBounds_toArray, List.set_cons_zero, List.set_cons_succ]
      refine oneU 15 (by kernel_rfl) ?_
      refine lastU 15 rfl (by kernel_rfl) (by kernel_rfl) ?_
      have k0 := cell_of_row w42 a14 0 _ _ _ X14.out
      have k1 := cell_of_row w42 a14 1 _ _ _ X14.out
      have f0 := frozen_of_row w42 a14 0 _ _ X14.out
      have f1 := frozen_of_row w42 a14 1 _ _ X14.out
      refine step_skipW rfl ((w42.setCell ⟨a14, 0, none⟩ (.string snap)).setCell ⟨a14, 1, none⟩ (.slice p12 n12 c12)) (by go_simp) ?_
      clear k0 k1 f0 f1
      simp only [Act.put]
      exact HEX.out _ _ _ _ _ _ _ _ _ _ _ _ _ _ a14 _ ((HB.out.setCell (p := ⟨a14, 0, none⟩) LA14.out.1 _).setCell (p := ⟨a14, 1, none⟩) LA14.out.1 _) LA14.out.1 (lvNow X14.out O.out rfl)
  · refine someU 14 rfl (by kernel_rfl) ?_
    refine step_runW rfl (.pointer (some ⟨w2.heap.size, 0, none⟩)) (w2.alloc (.cells #[.string ⟨#[]⟩, .slice none 0 0] 50)) (by go_simp <;> with_reducible rfl) ?_
    obtain ⟨w43, hw43⟩ : ∃ v, v = w2.alloc (.cells #[.string ⟨#[]⟩, .slice none 0 0] 50) := ⟨_, rfl⟩
    obtain ⟨a14, ha14⟩ : ∃ v, v = w2.heap.size := ⟨_, rfl⟩
    have hal := alloc_below HB.out HZ.out (.cells #[.string ⟨#[]⟩, .slice none 0 0] 50)
    have hbl : Below w2.heap.size w2 (w2.alloc (.cells #[.string ⟨#[]⟩, .slice none 0 0] 50)) := (Below.refl _ _).alloc (Nat.le_refl _) _
    rw [← hw43] at hal hbl ⊢
    rw [← ha14]
    have LA14 : Hid (base ≤ a14 ∧ a14 < w43.heap.size) := by unfold Hid; rw [hw43, ha14]; simp; exact HZ.out
    have X14 : Hid (w43.heap[a14]? = some (.cells #[.string ⟨#[]⟩, .slice none 0 0] 50 (0, 0))) := by unfold Hid; rw [hw43, ha14]; exact heap_alloc_new w2 _
    have HB := Lib.hid hal.1
    have HZ := Lib.hid hal.2
    clear hal hbl hw43 ha14
    have HS := Lib.hid (HSB.out w43 HB.out)
    refine ⟨HS.out, ?_⟩
    simp only [Act.put, List.setIfInBounds_toArray, List.set_cons_zero, List.set_cons_succ]
    refine twoU 2 11 (by kernel_rfl) ?_ ?_
    · refine someU 2 rfl (by kernel_rfl) ?_
      refine step_runW rfl (.slice (some ⟨w43.heap.size, 0, none⟩) 0 0) (w43.alloc (.cells #[] 9)) (by go_simp <;> with_reducible rfl) ?_
      obtain ⟨w44, hw44⟩ : ∃ v, v = w43.alloc (.cells #[] 9) := ⟨_, rfl⟩
      obtain ⟨a2, ha2⟩ : ∃ v, v = w43.heap.size := ⟨_, rfl⟩
      have hal := alloc_below HB.out HZ.out (.cells #[] 9)
      have hbl : Below w43.heap.size w43 (w43.alloc (.cells #[] 9)) := (Below.refl _ _).alloc (Nat.le_refl _) _
      rw [← hw44] at hal hbl ⊢
      rw [← ha2]
      have LA2 : Hid (base ≤ a2 ∧ a2 < w44.heap.size) := by unfold Hid; rw [hw44, ha2]; simp; exact HZ.out
      have X14 : Hid (w44.heap[a14]? = some (.cells #[.string ⟨#[]⟩, .slice none 0 0] 50 (0, 0))) := (hbl.block a14 (Array.getElem?_eq_some_iff.1 X14.out).1).trans X14.out
      have O : Hid (OwnsS w44 base (.slice (some ⟨a2, 0, none⟩) 0 0) []) := by unfold Hid; rw [hw44, ha2]; exact OwnsS.baseL (OwnsS.emptyL w43) HZ.out
      have HB := Lib.hid hal.1
      have HZ := Lib.hid hal.2
      clear hal hbl hw44 ha2
      have HS := Lib.hid (HSB.out w44 HB.out)
      refine ⟨HS.out, ?_⟩
      simp only [Act.put, List.setIfInBounds_toArray, List.set_cons_zero, List.set_cons_succ]
      refine twoU 5 11 (by kernel_rfl) ?_ ?_
      · refine someU 5 rfl (by kernel_rfl) ?_
        refine step_appS (base := base) (v := (.slice (some ⟨a2, 0, none⟩) 0 0)) (x := nv) (ns := ps) rfl _ _ rfl rfl rfl O.out (HNV.out w44 HB.out) (by simp; omega) HZ.out ?_
        intro v5 w45 ho hg hv
        have HB1 := Lib.hid (O.out.belowG hg HB.out HZ.out)
        have HZ1 : Hid (base ≤ w45.heap.size) := Nat.le_trans HZ.out hg.size
        have X14 : Hid (w45.heap[a14]? = some (.cells #[.string ⟨#[]⟩, .slice none 0 0] 50 (0, 0))) := O.out.other hg X14.out (by decide)
        rw [List.nil_append] at ho
        have HB := HB1
        have HZ := HZ1
        have O := Lib.hid ho
        clear HB1 HZ1 ho hg hv
        have HS := Lib.hid (HSB.out w45 HB.out)
        refine ⟨HS.out, ?_⟩
        simp only [Act.put, List.setIfInBounds_toArray, List.set_cons_zero, List.set_cons_succ]
        refine oneU 11 (by kernel_rfl) ?_
        refine someU 11 rfl (by kernel_rfl) ?_
        refine step_runW rfl (.slice (some ⟨w45.heap.size, 0, none⟩) 1 1) (w45.alloc (.cells #[.string s] 9)) (by go_simp <;> with_reducible rfl) ?_
        obtain ⟨w46, hw46⟩ : ∃ v, v = w45.alloc (.cells #[.string s] 9) := ⟨_, rfl⟩
        obtain ⟨a11, ha11⟩ : ∃ v, v = w45.heap.size := ⟨_, rfl⟩
        have hal := alloc_below HB.out HZ.out (.cells #[.string s] 9)
        have hbl : Below w45.heap.size w45 (w45.alloc (.cells #[.string s] 9)) := (Below.refl _ _).alloc (Nat.le_refl _) _
        rw [← hw46] at hal hbl ⊢
        rw [← ha11]
        have LA11 : Hid (base ≤ a11 ∧ a11 < w46.heap.size) := by unfold Hid; rw [hw46, ha11]; simp; exact HZ.out
        have OB : Hid (∀ k, v5.ownBlock = some k → k < w45.heap.size) := fun k hk => (O.out.block hk).2
        have O := Lib.hid (O.out.kept hbl)
        have X14 : Hid (w46.heap[a14]? = some (.cells #[.string ⟨#[]⟩, .slice none 0 0] 50 (0, 0))) := (hbl.block a14 (Array.getElem?_eq_some_iff.1 X14.out).1).trans X14.out
        have C11 : Hid (w46.cell? ⟨a11, 0, none⟩ = some (.string s)) := by unfold Hid; rw [hw46, ha11]; simp
        have N11 : Hid (∀ k, (Value.ownBlock v5) = some k → k ≠ a11) := fun k hk => by have h1 := (OB.out k hk); omega
        have HB := Lib.hid hal.1
        have HZ := Lib.hid hal.2
        clear hal hbl hw46 ha11
        have HS := Lib.hid (HSB.out w46 HB.out)
        refine ⟨HS.out, ?_⟩
        simp only [Act.put, List.setIfInBounds_toArray, List.set_cons_zero, List.set_cons_succ]
        refine oneU 12 (by kernel_rfl) ?_
        refine someU 12 rfl (by kernel_rfl) ?_
        refine step_appS (base := base) (v := v5) (x := (.slice (some ⟨a11, 0, none⟩) 1 1)) (ns := [s]) rfl _ _ rfl rfl rfl O.out (strs_one C11.out) (by simp; omega) HZ.out ?_
        intro v12 w47 ho hg hv
        have HB1 := Lib.hid (O.out.belowG hg HB.out HZ.out)
        have HZ1 : Hid (base ≤ w47.heap.size) := Nat.le_trans HZ.out hg.size
        have X14 : Hid (w47.heap[a14]? = some (.cells #[.string ⟨#[]⟩, .slice none 0 0] 50 (0, 0))) := O.out.other hg X14.out (by decide)
        obtain ⟨p12, c12, hv12⟩ := ho.shape
        obtain ⟨n12, e12⟩ : ∃ n, n = (ps ++ [s]).length := ⟨_, rfl⟩
        rw [← e12] at hv12
        subst hv12
        clear e12
        have HB := HB1
        have HZ := HZ1
        have O := Lib.hid ho
        clear HB1 HZ1 ho hg hv
        have HS := Lib.hid (HSB.out w47 HB.out)
        refine ⟨HS.out, ?_⟩
        simp only [Act.put, List.setIfInBounds_toArray, List.set_cons_zero, List.set_cons_succ]
        refine takeU 13 (v := ?_) rfl (by kernel_rfl) (by kernel_rfl) (fun _ _ _ h => HPAN.out _ _ _ _ _ h) rfl (fun u hu => ?_) HS.out ?_
        rotate_left
        · obtain ⟨q0, q1, q2, q3⟩ := hu; go_simp <;> with_reducible rfl
        simp only [Act.put, List.setIfInBounds_toArray, List.set_cons_zero, List.set_cons_succ]
        refine oneU 15 (by kernel_rfl) ?_
        refine lastU 15 rfl (by kernel_rfl) (by kernel_rfl) ?_
        have k0 := cell_of_row w47 a14 0 _ _ _ X14.out
        have k1 := cell_of_row w47 a14 1 _ _ _ X14.out
        have f0 := frozen_of_row w47 a14 0 _ _ X14.out
        have f1 := frozen_of_row w47 a14 1 _ _ X14.out
        refine step_skipW rfl ((w47.setCell ⟨a14, 0, none⟩ (.string snap)).setCell ⟨a14, 1, none⟩ (.slice p12 n12 c12)) (by go_simp) ?_
        clear k0 k1 f0 f1
        simp only [Act.put]
        exact HEX.out _ _ _ _ _ _ _ _ _ _ _ _ _ _ a14 _ ((HB.out.setCell (p := ⟨a14, 0, none⟩) LA14.out.1 _).setCell (p := ⟨a14, 1, none⟩) LA14.out.1 _) LA14.out.1 (lvNow X14.out O.out rfl)
      · refine someU 11 rfl (by kernel_rfl) ?_
        refine step_runW rfl (.slice (some ⟨w44.heap.size, 0, none⟩) 1 1) (w44.alloc (.cells #[.string s] 9)) (by go_simp <;> with_reducible rfl) ?_
        obtain ⟨w48, hw48⟩ : ∃ v, v = w44.alloc (.cells #[.string s] 9) := ⟨_, rfl⟩
        obtain ⟨a11, ha11⟩ : ∃ v, v = w44.heap.size := ⟨_, rfl⟩
        have hal := alloc_below HB.out HZ.out (.cells #[.string s] 9)
        have hbl : Below w44.heap.size w44 (w44.alloc (.cells #[.string s] 9)) := (Below.refl _ _).alloc (Nat.le_refl _) _
        rw [← hw48] at hal hbl ⊢
        rw [← ha11]
        have LA11 : Hid (base ≤ a11 ∧ a11 < w48.heap.size) := by unfold Hid; rw [hw48, ha11]; simp; exact HZ.out
        have OB : Hid (∀ k, (Value.slice (some ⟨a2, 0, none⟩) 0 0).ownBlock = some k → k < w44.heap.size) := fun k hk => (O.out.block hk).2
        have O := Lib.hid (O.out.kept hbl)
        have X14 : Hid (w48.heap[a14]? = some (.cells #[.string ⟨#[]⟩, .slice none 0 0] 50 (0, 0))) := (hbl.block a14 (Array.getElem?_eq_some_iff.1 X14.out).1).trans X14.out
        have C11 : Hid (w48.cell? ⟨a11, 0, none⟩ = some (.string s)) := by unfold Hid; rw [hw48, ha11]; simp
        have N11 : Hid (∀ k, (Value.ownBlock (.slice (some ⟨a2, 0, none⟩) 0 0)) = some k → k ≠ a11) := fun k hk => by have h1 := (OB.out k hk); omega
        have HB := Lib.hid hal.1
        have HZ := Lib.hid hal.2
        clear hal hbl hw48 ha11
        have HS := Lib.hid (HSB.out w48 HB.out)
        refine ⟨HS.out, ?_⟩
        simp only [Act.put, List.setIfInBounds_toArray, List.set_cons_zero, List.set_cons_succ]
        refine oneU 5 (by kernel_rfl) ?_
        have N0 := N11
        refine someU 5 rfl (by kernel_rfl) ?_
        refine step_appS (base := base) (v := (.slice (some ⟨a2, 0, none⟩) 0 0)) (x := nv) (ns := ps) rfl _ _ rfl rfl rfl O.out (HNV.out w48 HB.out) (by simp; omega) HZ.out ?_
        intro v5 w49 ho hg hv
        have HB1 := Lib.hid (O.out.belowG hg HB.out HZ.out)
        have HZ1 : Hid (base ≤ w49.heap.size) := Nat.le_trans HZ.out hg.size
        have N11 : Hid (∀ k, v5.ownBlock = some k → k ≠ a11) := fun k hk => by
          rcases hv with e | e
          · rw [e] at hk; exact N11.out k hk
          · rw [e] at hk
            injection hk with hk
            have h2 : a11 < w48.heap.size := block_lt_of_cell C11.out
            omega
        have C11 : Hid (w49.cell? ⟨a11, 0, none⟩ = some (.string s)) := by
          unfold Hid
          rw [World.cell?_of_block (a := ⟨a11, 0, none⟩) (hg.block a11 (block_lt_of_cell C11.out) (fun e => N0.out a11 e.symm rfl))]
          exact C11.out
        have X14 : Hid (w49.heap[a14]? = some (.cells #[.string ⟨#[]⟩, .slice none 0 0] 50 (0, 0))) := O.out.other hg X14.out (by decide)
        rw [List.nil_append] at ho
        have HB := HB1
        have HZ := HZ1
        have O := Lib.hid ho
        clear HB1 HZ1 ho hg hv
        have HS := Lib.hid (HSB.out w49 HB.out)
        refine ⟨HS.out, ?_⟩
        simp only [Act.put, List.setIfInBounds_toArray, List.set_cons_zero, List.set_cons_succ]
        refine oneU 12 (by kernel_rfl) ?_
        refine someU 12 rfl (by kernel_rfl) ?_
        refine step_appS (base := base) (v := v5) (x := (.slice (some ⟨a11, 0, none⟩) 1 1)) (ns := [s]) rfl _ _ rfl rfl rfl O.out (strs_one C11.out) (by simp; omega) HZ.out ?_
        intro v12 w50 ho hg hv
        have HB1 := Lib.hid (O.out.belowG hg HB.out HZ.out)
        have HZ1 : Hid (base ≤ w50.heap.size) := Nat.le_trans HZ.out hg.size
        have X14 : Hid (w50.heap[a14]? = some (.cells #[.string ⟨#[]⟩, .slice none 0 0] 50 (0, 0))) := O.out.other hg X14.out (by decide)
        obtain ⟨p12, c12, hv12⟩ := ho.shape
        obtain ⟨n12, e12⟩ : ∃ n, n = (ps ++ [s]).length := ⟨_, rfl⟩
        rw [← e12] at hv12
        subst hv12
        clear e12
        have HB := HB1
        have HZ := HZ1
        have O := Lib.hid ho
        clear HB1 HZ1 ho hg hv
        have HS := Lib.hid (HSB.out w50 HB.out)
        refine ⟨HS.out, ?_⟩
        simp only [Act.put, List.setIfInBounds_toArray, List.set_cons_zero, List.set_cons_succ]
        refine takeU 13 (v := ?_) rfl (by kernel_rfl) (by kernel_rfl) (fun _ _ _ h => HPAN.out _ _ _ _ _ h) rfl (fun u hu => ?_) HS.out ?_
        rotate_left
        · obtain ⟨q0, q1, q2, q3⟩ := hu; go_simp <;> with_reducible rfl
        simp only [Act.put, List.setIfInBounds_toArray, List.set_cons_zero, List.set_cons_succ]
        refine oneU 15 (by kernel_rfl) ?_
        refine lastU 15 rfl (by kernel_rfl) (by kernel_rfl) ?_
        have k0 := cell_of_row w50 a14 0 _ _ _ X14.out
        have k1 := cell_of_row w50 a14 1 _ _ _ X14.out
        have f0 := frozen_of_row w50 a14 0 _ _ X14.out
        have f1 := frozen_of_row w50 a14 1 _ _ X14.out
        refine step_skipW rfl ((w50.setCell ⟨a14, 0, none⟩ (.string snap)).setCell ⟨a14, 1, none⟩ (.slice p12 n12 c12)) (by go_simp) ?_
        clear k0 k1 f0 f1
        simp only [Act.put]
        exact HEX.out _ _ _ _ _ _ _ _ _ _ _ _ _ _ a14 _ ((HB.out.setCell (p := ⟨a14, 0, none⟩) LA14.out.1 _).setCell (p := ⟨a14, 1, none⟩) LA14.out.1 _) LA14.out.1 (lvNow X14.out O.out rfl)
    · refine someU 11 rfl (by kernel_rfl) ?_
      refine step_runW rfl (.slice (some ⟨w43.heap.size, 0, none⟩) 1 1) (w43.alloc (.cells #[.string s] 9)) (by go_simp <;> with_reducible rfl) ?_
      obtain ⟨w51, hw51⟩ : ∃ v, v = w43.alloc (.cells #[.string s] 9) := ⟨_, rfl⟩
      obtain ⟨a11, ha11⟩ : ∃ v, v = w43.heap.size := ⟨_, rfl⟩
      have hal := alloc_below HB.out HZ.out (.cells #[.string s] 9)
      have hbl : Below w43.heap.size w43 (w43.alloc (.cells #[.string s] 9)) := (Below.refl _ _).alloc (Nat.le_refl _) _
      rw [← hw51] at hal hbl ⊢
      rw [← ha11]
      have LA11 : Hid (base ≤ a11 ∧ a11 < w51.heap.size) := by unfold Hid; rw [hw51, ha11]; simp; exact HZ.out
      have X14 : Hid (w51.heap[a14]? = some (.cells #[.string ⟨#[]⟩, .slice none 0 0] 50 (0, 0))) := (hbl.block a14 (Array.getElem?_eq_some_iff.1 X14.out).1).trans X14.out
      have C11 : Hid (w51.cell? ⟨a11, 0, none⟩ = some (.string s)) := by unfold Hid; rw [hw51, ha11]; simp
      have HB := Lib.hid hal.1
      have HZ := Lib.hid hal.2
      clear hal hbl hw51 ha11
      have HS := Lib.hid (HSB.out w51 HB.out)
      refine ⟨HS.out, ?_⟩
      simp only [Act.put, List.setIfInBounds_toArray, List.set_cons_zero, List.set_cons_succ]
      refine oneU 2 (by kernel_rfl) ?_
      refine someU 2 rfl (by kernel_rfl) ?_
      refine step_runW rfl (.slice (some ⟨w51.heap.size, 0, none⟩) 0 0) (w51.alloc (.cells #[] 9)) (by go_simp <;> with_reducible rfl) ?_
      obtain ⟨w52, hw52⟩ : ∃ v, v = w51.alloc (.cells #[] 9) := ⟨_, rfl⟩
      obtain ⟨a2, ha2⟩ : ∃ v, v = w51.heap.size := ⟨_, rfl⟩
      have hal := alloc_below HB.out HZ.out (.cells #[] 9)
      have hbl : Below w51.heap.size w51 (w51.alloc (.cells #[] 9)) := (Below.refl _ _).alloc (Nat.le_refl _) _
      rw [← hw52] at hal hbl ⊢
      rw [← ha2]
      have LA2 : Hid (base ≤ a2 ∧ a2 < w52.heap.size) := by unfold Hid; rw [hw52, ha2]; simp; exact HZ.out
      have L11 : Hid (a11 < w51.heap.size) := block_lt_of_cell C11.out
      have C11 : Hid (w52.cell? ⟨a11, 0, none⟩ = some (.string s)) := (hbl.cell (block_lt_of_cell C11.out)).trans C11.out
      have X14 : Hid (w52.heap[a14]? = some (.cells #[.string ⟨#[]⟩, .slice none 0 0] 50 (0, 0))) := (hbl.block a14 (Array.getElem?_eq_some_iff.1 X14.out).1).trans X14.out
      have O : Hid (OwnsS w52 base (.slice (some ⟨a2, 0, none⟩) 0 0) []) := by unfold Hid; rw [hw52, ha2]; exact OwnsS.baseL (OwnsS.emptyL w51) HZ.out
      have N11 : Hid (∀ k, (Value.slice (some ⟨a2, 0, none⟩) 0 0).ownBlock = some k → k ≠ a11) := by
        intro k hk
        have h1 : a2 = k := by simpa [Value.ownBlock] using hk
        have h2 := L11.out
        omega
      have HB := Lib.hid hal.1
      have HZ := Lib.hid hal.2
      clear hal hbl hw52 ha2
      have HS := Lib.hid (HSB.out w52 HB.out)
      refine ⟨HS.out, ?_⟩
      simp only [Act.put, List.setIfInBounds_toArray, List.set_cons_zero, List.set_cons_succ]
      refine oneU 5 (by kernel_rfl) ?_
      have N0 := N11
      refine someU 5 rfl (by kernel_rfl) ?_
      refine step_appS (base := base) (v := (.slice (some ⟨a2, 0, none⟩) 0 0)) (x := nv) (ns := ps) rfl _ _ rfl rfl rfl O.out (HNV.out w52 HB.out) (by simp; omega) HZ.out ?_
      intro v5 w53 ho hg hv
      have HB1 := Lib.hid (O.out.belowG hg HB.out HZ.out)
      have HZ1 : Hid (base ≤ w53.heap.size) := Nat.le_trans HZ.out hg.size
      have N11 : Hid (∀ k, v5.ownBlock = some k → k ≠ a11) := fun k hk => by
        rcases hv with e | e
        · rw [e] at hk; exact N11.out k hk
        · rw [e] at hk
          injection hk with hk
          have h2 : a11 < w52.heap.size := block_lt_of_cell C11.out
          omega
      have C11 : Hid (w53.cell? ⟨a11, 0, none⟩ = some (.string s)) := by
        unfold Hid
        rw [World.cell?_of_block (a := ⟨a11, 0, none⟩) (hg.block a11 (block_lt_of_cell C11.out) (fun e => N0.out a11 e.symm rfl))]
        exact C11.out
      have X14 : Hid (w53.heap[a14]? = some (.cells #[.string ⟨#[]⟩, .slice none 0 0] 50 (0, 0))) := O.out.other hg X14.out (by decide)
      rw [List.nil_append] at ho
      have HB := HB1
      have HZ := HZ1
      have O := Lib.hid ho
      clear HB1 HZ1 ho hg hv
      have HS := Lib.hid (HSB.out w53 HB.out)
      refine ⟨HS.out, ?_⟩
      simp only [Act.put, List.setIfInBounds_toArray, List.set_cons_zero, List.set_cons_succ]
      refine oneU 12 (by kernel_rfl) ?_
      refine someU 12 rfl (by kernel_rfl) ?_
      refine step_appS (base := base) (v := v5) (x := (.slice (some ⟨a11, 0, none⟩) 1 1)) (ns := [s]) rfl _ _ rfl rfl rfl O.out (strs_one C11.out) (by simp; omega) HZ.out ?_
      intro v12 w54 ho hg hv
      have HB1 := Lib.hid (O.out.belowG hg HB.out HZ.out)
      have HZ1 : Hid (base ≤ w54.heap.size) := Nat.le_trans HZ.out hg.size
      have X14 : Hid (w54.heap[a14]? = some (.cells #[.string ⟨#[]⟩, .slice none 0 0] 50 (0, 0))) := O.out.other hg X14.out (by decide)
      obtain ⟨p12, c12, hv12⟩ := ho.shape
      obtain ⟨n12, e12⟩ : ∃ n, n = (ps ++ [s]).length := ⟨_, rfl⟩
      rw [← e12] at hv12
      subst hv12
      clear e12
      have HB := HB1
      have HZ := HZ1
      have O := Lib.hid ho
      clear HB1 HZ1 ho hg hv
      have HS := Lib.hid (HSB.out w54 HB.out)
      refine ⟨HS.out, ?_⟩
      simp only [Act.put, List.setIfInBounds_toArray, List.set_cons_zero, List.set_cons_succ]
      refine takeU 13 (v := ?_) rfl (by kernel_rfl) (by kernel_rfl) (fun _ _ _ h => HPAN.out _ _ _ _ _ h) rfl (fun u hu => ?_) HS.out ?_
      rotate_left
      · obtain ⟨q0, q1, q2, q3⟩ := hu; go_simp <;> with_reducible rfl
      simp only [Act.put, List.setIfInBounds_toArray, List.set_cons_zero, List.set_cons_succ]
      refine oneU 15 (by kernel_rfl) ?_
      refine lastU 15 rfl (by kernel_rfl) (by kernel_rfl) ?_
      have k0 := cell_of_row w54 a14 0 _ _ _ X14.out
      have k1 := cell_of_row w54 a14 1 _ _ _ X14.out
      have f0 := frozen_of_row w54 a14 0 _ _ X14.out
      have f1 := frozen_of_row w54 a14 1 _ _ X14.out
      refine step_skipW rfl ((w54.setCell ⟨a14, 0, none⟩ (.string snap)).setCell ⟨a14, 1, none⟩ (.slice p12 n12 c12)) (by go_simp) ?_
      clear k0 k1 f0 f1
      simp only [Act.put]
      exact HEX.out _ _ _ _ _ _ _ _ _ _ _ _ _ _ a14 _ ((HB.out.setCell (p := ⟨a14, 0, none⟩) LA14.out.1 _).setCell (p := ⟨a14, 1, none⟩) LA14.out.1 _) LA14.out.1 (lvNow X14.out O.out rfl)
end Go.Proofs.YtilpbjcbffbjeaaDoor
