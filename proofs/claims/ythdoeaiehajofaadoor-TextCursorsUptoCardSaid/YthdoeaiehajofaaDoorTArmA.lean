/- Five arms of TextCursors' switch. (Written by gen_cursors.py.) -/
import Derived.Test.YthdoeaiehajofaaDoorTBoth
namespace Go.Proofs.YthdoeaiehajofaaDoor
set_option linter.unusedVariables false
set_option maxRecDepth 1000000
open Go.RowKit
set_option maxHeartbeats 16000000 in
theorem armTake {w wo : World} {px py : Option Addr} {n cx cy k ob : Nat} {on nn : Int} {cs : CS} {X Y : List Nat} {Q0 : Exit → Act → World → Prop} {c0 c1 c2 c3 c4 c7 c14 c15 c16 c17 c18 c19 c20 c21 c22 c23 c24 c25 c26 c27 c28 c29 c30 c31 c32 c33 c34 c35 c36 c37 c38 c39 c40 c41 c42 c43 c44 c45 c46 c47 c48 c49 c50 c51 c52 c53 c54 c55 c56 c57 c58 c59 c61 c62 c63 c64 c65 c66 c67 c68 c69 c70 c71 c72 c73 c74 c75 c76 c77 c78 c79 c80 c81 c82 c83 c84 c85 c86 c87 c88 c89 c90 c91 c92 c93 c94 c95 c96 c97 c98 c99 c100 c101 c102 c103 c104 c105 c106 c107 c108 c109 c110 c111 c112 c113 c114 c115 c116 c117 c118 c119 c120 c121 c122 c123 c124 c125 c126 c127 c128 c129 c130 c131 c132 c133 c134 c135 c136 c137 c138 c139 c140 c141 c142 c143 c144 c145 c146 c147 c148 c149 c150 c151 c152 c153 c154 c155 c156 c157 c158 c159 c160 c161 c162 c163 c164 c165 c166 c167 c168 c169 c170 c171 c172 c173 c174 c175 c176 c177 c178 c179 c180 c181 c182 c183 c184 c185 c186 c187 c188 c189 c190 c191 c192 c193 c194 c195 c196 c197 c198 c199 c200 c201 c202 c203 c204 c205 c206 c207 c208 c209 c210 c211 c212 c213 c214 c215 c216 c217 c218 c219 c220 c221 c222 c223 c224 c225 c226 c227 c228 c229 c230 c231 c232 c233 c234 c235 c236 c237 c238 c239 c240 c241 c242 c243 c244 c245 c246 : Value}
    (hBO : Both w wo w.heap.size (.slice px n cx) (.slice py n cy) cs X Y) (hOB : wo.heap[ob]? = some (.cells #[.int .i64 on, .int .i64 1, .int .i64 nn] 53 (0, 0))) (hN : n = cs.length) (hk : k < n) (hn1 : 1 ≤ n) (hn3 : n ≤ 1048577) (r5 : -9223372036854775808 ≤ nn) (r6 : nn ≤ 9223372036854775807)
    (hp : ∀ (m : List PanicEntry) (a : Act) (i : Nat) (v : Value) (u : World), Q0 (.panic m) (a.put (some i) v) u → Q0 (.panic m) a u)(hexit : ∀ (u5 u6 u10 u11 u12 u13 u14 u15 u16 u17 u18 u19 u20 u21 u61 u62 u63 u64 u65 u66 u67 u68 u69 u70 u71 u72 u73 u74 u75 u76 u77 u78 u79 u80 u81 u82 u83 u84 u85 u86 u87 u88 u89 u90 u91 u92 u93 u94 u95 u96 u97 u98 u99 u100 u101 u102 u103 u104 u105 u106 u107 u108 u109 u110 u111 u112 u113 u114 u115 u116 u117 u118 u119 u120 u121 u122 u123 u124 u125 u126 u127 u128 u129 u130 u131 u132 u133 u134 u135 u136 u137 u138 u139 u140 u141 u142 u143 u144 u145 u146 u147 u148 u149 u150 u151 u152 u153 u154 u155 u156 u157 u158 u159 u160 u161 u162 u163 u164 u165 u166 u167 u168 u169 u170 u171 u172 u173 u174 u175 u176 u177 u178 u179 u180 u181 u182 u183 u184 u185 u186 u187 u188 u189 u190 u191 u192 u193 u194 u195 : Value) (wx : World), ArmRel w n u5 u6 u10 u11 u12 u13 wx → Q0 .normal ⟨#[c0, c1, c2, c3, c4, u5, u6, c7, .pointer (some ⟨ob, 0, none⟩), .int .i64 (k : Int), u10, u11, u12, u13, u14, u15, u16, u17, u18, u19, u20, u21, c22, c23, c24, c25, c26, c27, c28, c29, c30, c31, c32, c33, c34, c35, c36, c37, c38, c39, c40, c41, c42, c43, c44, c45, c46, c47, c48, c49, c50, c51, c52, c53, c54, c55, c56, c57, c58, c59, .int .i64 1, u61, u62, u63, u64, u65, u66, u67, u68, u69, u70, u71, u72, u73, u74, u75, u76, u77, u78, u79, u80, u81, u82, u83, u84, u85, u86, u87, u88, u89, u90, u91, u92, u93, u94, u95, u96, u97, u98, u99, u100, u101, u102, u103, u104, u105, u106, u107, u108, u109, u110, u111, u112, u113, u114, u115, u116, u117, u118, u119, u120, u121, u122, u123, u124, u125, u126, u127, u128, u129, u130, u131, u132, u133, u134, u135, u136, u137, u138, u139, u140, u141, u142, u143, u144, u145, u146, u147, u148, u149, u150, u151, u152, u153, u154, u155, u156, u157, u158, u159, u160, u161, u162, u163, u164, u165, u166, u167, u168, u169, u170, u171, u172, u173, u174, u175, u176, u177, u178, u179, u180, u181, u182, u183, u184, u185, u186, u187, u188, u189, u190, u191, u192, u193, u194, u195, c196, c197, c198, c199, c200, c201, c202, c203, c204, c205, c206, c207, c208, c209, c210, c211, c212, c213, c214, c215, c216, c217, c218, c219, c220, c221, c222, c223, c224, c225, c226, c227, c228, c229, c230, c231, c232, c233, c234, c235, c236, c237, c238, c239, c240, c241, c242, c243, c244, c245, c246], []⟩ wx) :
    Code.wp Tryd.prog blk2 Q0 ⟨#[c0, c1, c2, c3, c4, .slice px n cx, .slice py n cy, c7, .pointer (some ⟨ob, 0, none⟩), .int .i64 (k : Int), .string ⟨#[]⟩, .string ⟨#[]⟩, .int .i64 0, .int .i64 0, c14, c15, c16, c17, c18, c19, c20, c21, c22, c23, c24, c25, c26, c27, c28, c29, c30, c31, c32, c33, c34, c35, c36, c37, c38, c39, c40, c41, c42, c43, c44, c45, c46, c47, c48, c49, c50, c51, c52, c53, c54, c55, c56, c57, c58, c59, .int .i64 1, c61, c62, c63, c64, c65, c66, c67, c68, c69, c70, c71, c72, c73, c74, c75, c76, c77, c78, c79, c80, c81, c82, c83, c84, c85, c86, c87, c88, c89, c90, c91, c92, c93, c94, c95, c96, c97, c98, c99, c100, c101, c102, c103, c104, c105, c106, c107, c108, c109, c110, c111, c112, c113, c114, c115, c116, c117, c118, c119, c120, c121, c122, c123, c124, c125, c126, c127, c128, c129, c130, c131, c132, c133, c134, c135, c136, c137, c138, c139, c140, c141, c142, c143, c144, c145, c146, c147, c148, c149, c150, c151, c152, c153, c154, c155, c156, c157, c158, c159, c160, c161, c162, c163, c164, c165, c166, c167, c168, c169, c170, c171, c172, c173, c174, c175, c176, c177, c178, c179, c180, c181, c182, c183, c184, c185, c186, c187, c188, c189, c190, c191, c192, c193, c194, c195, c196, c197, c198, c199, c200, c201, c202, c203, c204, c205, c206, c207, c208, c209, c210, c211, c212, c213, c214, c215, c216, c217, c218, c219, c220, c221, c222, c223, c224, c225, c226, c227, c228, c229, c230, c231, c232, c233, c234, c235, c236, c237, c238, c239, c240, c241, c242, c243, c244, c245, c246], []⟩ wo := by
  have HP := Lib.hid hp
  clear hp
  have HBO := Lib.hid hBO
  have HOB := Lib.hid hOB
  have HN := Lib.hid hN
  dsimp only at hexit ⊢
  have HEX := Lib.hid hexit
  clear hBO hOB hN hexit
  obtain ⟨gx, capx, hvx, hcx⟩ := HBO.out.x.pos (j := k) (by rw [← HN.out]; exact hk)
  have e1 := (Value.slice.inj hvx).1
  clear hvx
  subst e1
  obtain ⟨gy, capy, hvy, hcy⟩ := HBO.out.y.pos (j := k) (by rw [← HN.out]; exact hk)
  have e2 := (Value.slice.inj hvy).1
  clear hvy
  subst e2
  obtain ⟨bx, hbx⟩ : ∃ b, b = X.getD k 0 := ⟨_, rfl⟩
  obtain ⟨byy, hby⟩ : ∃ b, b = Y.getD k 0 := ⟨_, rfl⟩
  rw [← hbx] at hcx
  rw [← hby] at hcy
  obtain ⟨⟨sk, kk⟩, hsk⟩ : ∃ p, cs.getD k cz = p := ⟨_, rfl⟩
  have hix := HBO.out.x.cur k (by rw [← HN.out]; exact hk)
  have hiy := HBO.out.y.cur k (by rw [← HN.out]; exact hk)
  rw [← hbx, hsk] at hix
  rw [← hby, hsk] at hiy
  have HIX : Hid (IsC wo bx 70 sk kk) := hix
  have HIY : Hid (IsC wo byy 50 sk kk) := hiy
  have HCX := Lib.hid hcx
  have HCY := Lib.hid hcy
  have HBX := Lib.hid hbx
  have HBY := Lib.hid hby
  have HSK := Lib.hid hsk
  have HON : Hid (wo.cell? ⟨ob, 2, none⟩ = some (.int .i64 nn)) := by unfold Hid; rw [cell_of_row wo ob 2 _ _ (0, 0) HOB.out]; rfl
  have kd1 : wo.cell? ⟨ob, 1, none⟩ = some (.int .i64 1) := by rw [cell_of_row wo ob 1 _ _ (0, 0) HOB.out]; rfl
  have HNX : Hid (some gx ≠ some bx ∧ some ob ≠ some bx) := by
    refine ⟨fun e => ?_, fun e => ?_⟩
    · injection e with e; subst e; exact HBO.out.x.own.ne hix.blk (by decide) rfl
    · injection e with e; subst e; have := hix.blk; rw [HOB.out] at this; simp at this
  have HNY0 : Hid (some gy ≠ some byy ∧ some ob ≠ some byy) := by
    refine ⟨fun e => ?_, fun e => ?_⟩
    · injection e with e; subst e; exact HBO.out.y.own.ne hiy.blk (by decide) rfl
    · injection e with e; subst e; have := hiy.blk; rw [HOB.out] at this; simp at this
  clear hcx hcy hbx hby hsk hix hiy
  conv => arg 2; whnf
  obtain ⟨⟨t1, e1, m1⟩, htk⟩ : ∃ x, took sk kk nn = x := ⟨_, rfl⟩
  have HTX : Hid (Calls Tryd.prog 23 #[ptr bx, .int .i64 nn] wo.drew fun e w' => ∃ v, e = .returned v ∧ (v = .tuple #[.string t1, .int .i64 e1] ∧ IsC w' bx 70 sk m1 ∧ wo.drew.grownBy w' (some bx))) := by
    have h := takeCW wo.drew nn HIX.out.drew r5 r6
    rw [htk] at h
    exact h.mono fun e w' h => ⟨_, h.1, rfl, h.2.1, h.2.2⟩
  have HTK := Lib.hid htk
  clear htk kd1
  have HSA : Hid (wo.drew.cell? ⟨gx, k, none⟩ = some (ptr bx) ∧ wo.drew.cell? ⟨ob, 2, none⟩ = some (.int .i64 nn)) := ⟨HCX.out, HON.out⟩
  go_wp2_with fail
  refine wp_region_U 11 (fun u => u.cell? ⟨gx, k, none⟩ = some (ptr bx) ∧ u.cell? ⟨ob, 2, none⟩ = some (.int .i64 nn)) (by kernel_rfl) ?_
  change wpAnyU _ _ _ _ _ _ 12 (Array.replicate 12 false) _ _
  refine takeU 0 (v := ?_) rfl (by kernel_rfl) (by kernel_rfl) (fun _ _ _ h => HP.out _ _ _ _ _ h) rfl (fun u hu => ?_) HSA.out ?_
  rotate_left
  · skip; go_simp <;> with_reducible rfl
  simp only [Act.put, List.setIfInBounds_toArray, List.set_cons_zero, List.set_cons_succ]
  refine takeU 1 (v := ?_) rfl (by kernel_rfl) (by kernel_rfl) (fun _ _ _ h => HP.out _ _ _ _ _ h) rfl (fun u hu => ?_) HSA.out ?_
  rotate_left
  · skip; go_simp <;> with_reducible rfl
  simp only [Act.put, List.setIfInBounds_toArray, List.set_cons_zero, List.set_cons_succ]
  refine takeU 2 (v := ?_) rfl (by kernel_rfl) (by kernel_rfl) (fun _ _ _ h => HP.out _ _ _ _ _ h) rfl (fun u hu => ?_) HSA.out ?_
  rotate_left
  · skip; go_simp <;> with_reducible rfl
  simp only [Act.put, List.setIfInBounds_toArray, List.set_cons_zero, List.set_cons_succ]
  refine takeU 3 (v := ?_) rfl (by kernel_rfl) (by kernel_rfl) (fun _ _ _ h => HP.out _ _ _ _ _ h) rfl (fun u hu => ?_) HSA.out ?_
  rotate_left
  · have q0 := hu.1; have q1 := hu.2; go_simp <;> with_reducible rfl
  simp only [Act.put, List.setIfInBounds_toArray, List.set_cons_zero, List.set_cons_succ]
  refine takeU 4 (v := ?_) rfl (by kernel_rfl) (by kernel_rfl) (fun _ _ _ h => HP.out _ _ _ _ _ h) rfl (fun u hu => ?_) HSA.out ?_
  rotate_left
  · skip; go_simp <;> with_reducible rfl
  simp only [Act.put, List.setIfInBounds_toArray, List.set_cons_zero, List.set_cons_succ]
  refine takeU 5 (v := ?_) rfl (by kernel_rfl) (by kernel_rfl) (fun _ _ _ h => HP.out _ _ _ _ _ h) rfl (fun u hu => ?_) HSA.out ?_
  rotate_left
  · have q0 := hu.1; have q1 := hu.2; go_simp <;> with_reducible rfl
  simp only [Act.put, List.setIfInBounds_toArray, List.set_cons_zero, List.set_cons_succ]
  refine oneU 6 (by kernel_rfl) ?_
  refine callU 6 rfl (by kernel_rfl) rfl 23 _ _ rfl #[ptr bx, .int .i64 nn] (by simp [Act.eval]) (enters_of Tryd.func23 (by kernel_rfl) rfl) (fun v u => v = .tuple #[.string t1, .int .i64 e1] ∧ IsC u bx 70 sk m1 ∧ wo.drew.grownBy u (some bx)) HTX.out ?_
  rintro v w1 ⟨rfl, hc1, hg1⟩
  have HSB : Hid (w1.cell? ⟨gx, k, none⟩ = some (ptr bx) ∧ w1.cell? ⟨ob, 2, none⟩ = some (.int .i64 nn)) := by
    have e1 := hg1.block gx (block_lt_of_cell HSA.out.1) HNX.out.1
    have e2 := hg1.block ob (block_lt_of_cell HSA.out.2) HNX.out.2
    refine ⟨?_, ?_⟩
    · rw [← HSA.out.1]; unfold World.cell?; rw [e1]
    · rw [← HSA.out.2]; unfold World.cell?; rw [e2]
  have HIX1 := Lib.hid hc1
  have HG1 := Lib.hid hg1
  clear hc1 hg1
  refine ⟨HSB.out, ?_⟩
  simp only [Act.put, List.setIfInBounds_toArray, List.set_cons_zero, List.set_cons_succ]
  refine takeU 7 (v := ?_) rfl (by kernel_rfl) (by kernel_rfl) (fun _ _ _ h => HP.out _ _ _ _ _ h) rfl (fun u hu => ?_) HSB.out ?_
  rotate_left
  · skip; go_simp <;> with_reducible rfl
  simp only [Act.put, List.setIfInBounds_toArray, List.set_cons_zero, List.set_cons_succ]
  refine takeU 8 (v := ?_) rfl (by kernel_rfl) (by kernel_rfl) (fun _ _ _ h => HP.out _ _ _ _ _ h) rfl (fun u hu => ?_) HSB.out ?_
  rotate_left
  · skip; go_simp <;> with_reducible rfl
  simp only [Act.put, List.setIfInBounds_toArray, List.set_cons_zero, List.set_cons_succ]
  refine takeU 9 (v := ?_) rfl (by kernel_rfl) (by kernel_rfl) (fun _ _ _ h => HP.out _ _ _ _ _ h) rfl (fun u hu => ?_) HSB.out ?_
  rotate_left
  · skip; go_simp <;> with_reducible rfl
  simp only [Act.put, List.setIfInBounds_toArray, List.set_cons_zero, List.set_cons_succ]
  refine takeU 10 (v := ?_) rfl (by kernel_rfl) (by kernel_rfl) (fun _ _ _ h => HP.out _ _ _ _ _ h) rfl (fun u hu => ?_) HSB.out ?_
  rotate_left
  · skip; go_simp <;> with_reducible rfl
  simp only [Act.put, List.setIfInBounds_toArray, List.set_cons_zero, List.set_cons_succ]
  refine oneU 11 (by kernel_rfl) ?_
  refine endU (v := ?_) 11 rfl (by kernel_rfl) (by kernel_rfl) rfl ?_ ?_
  rotate_left
  · go_simp <;> with_reducible rfl
  simp only [Act.put, List.setIfInBounds_toArray, List.set_cons_zero, List.set_cons_succ]
  obtain ⟨sx1, sy1, be1, z1⟩ := HBO.out.drew.stepX (by rw [← HN.out]; exact hk) (by rw [← HBX.out]; exact HG1.out) (by rw [← HBX.out, HSK.out]; exact HIX1.out)
  have HSX1 := Lib.hid sx1
  have HSY1 := Lib.hid sy1
  have HBE1 := Lib.hid be1
  have HZ1 := Lib.hid z1
  have HCY1 : Hid (w1.cell? ⟨gy, k, none⟩ = some (ptr byy)) := by
    obtain ⟨g, cap, hv, hc⟩ := sy1.pos (j := k) (by rw [← HN.out]; exact hk)
    injection hv with e1
    injection e1 with e1
    injection e1 with e1
    subst e1
    rw [← HBY.out] at hc
    exact hc
  have HON1 : Hid (w1.cell? ⟨ob, 2, none⟩ = some (.int .i64 nn)) := by
    have e2 := HG1.out.block ob (block_lt_of_cell HON.out) HNX.out.2
    unfold Hid
    rw [← HON.out]; unfold World.cell?; first | (rw [e2]; done) | (rw [e2]; rfl)
  have HIY1 : Hid (IsC w1 byy 50 sk kk) := by
    have := sy1.cur k (by rw [← HN.out]; exact hk)
    rw [← HBY.out, HSK.out] at this
    exact this
  clear sx1 sy1 be1 z1
  have HTY : Hid (Calls Tryd.prog 27 #[ptr byy, .int .i64 nn] w1.drew fun e w' => ∃ v, e = .returned v ∧ (v = .tuple #[.string t1, .int .i64 e1] ∧ IsC w' byy 50 sk m1 ∧ w1.drew.grownBy w' (some byy))) := by
    have h := rtakeW w1.drew nn HIY1.out.drew r5 r6
    rw [HTK.out] at h
    exact h.mono fun e w' h => ⟨_, h.1, rfl, h.2.1, h.2.2⟩
  have HSA : Hid (w1.drew.cell? ⟨gy, k, none⟩ = some (ptr byy) ∧ w1.drew.cell? ⟨ob, 2, none⟩ = some (.int .i64 nn)) := ⟨HCY1.out, HON1.out⟩
  have HNY : Hid (some gy ≠ some byy ∧ some ob ≠ some byy) := HNY0.out
  go_wp2_with fail
  refine wp_region_U 11 (fun u => u.cell? ⟨gy, k, none⟩ = some (ptr byy) ∧ u.cell? ⟨ob, 2, none⟩ = some (.int .i64 nn)) (by kernel_rfl) ?_
  change wpAnyU _ _ _ _ _ _ 12 (Array.replicate 12 false) _ _
  refine takeU 0 (v := ?_) rfl (by kernel_rfl) (by kernel_rfl) (fun _ _ _ h => HP.out _ _ _ _ _ h) rfl (fun u hu => ?_) HSA.out ?_
  rotate_left
  · skip; go_simp <;> with_reducible rfl
  simp only [Act.put, List.setIfInBounds_toArray, List.set_cons_zero, List.set_cons_succ]
  refine takeU 1 (v := ?_) rfl (by kernel_rfl) (by kernel_rfl) (fun _ _ _ h => HP.out _ _ _ _ _ h) rfl (fun u hu => ?_) HSA.out ?_
  rotate_left
  · skip; go_simp <;> with_reducible rfl
  simp only [Act.put, List.setIfInBounds_toArray, List.set_cons_zero, List.set_cons_succ]
  refine takeU 2 (v := ?_) rfl (by kernel_rfl) (by kernel_rfl) (fun _ _ _ h => HP.out _ _ _ _ _ h) rfl (fun u hu => ?_) HSA.out ?_
  rotate_left
  · skip; go_simp <;> with_reducible rfl
  simp only [Act.put, List.setIfInBounds_toArray, List.set_cons_zero, List.set_cons_succ]
  refine takeU 3 (v := ?_) rfl (by kernel_rfl) (by kernel_rfl) (fun _ _ _ h => HP.out _ _ _ _ _ h) rfl (fun u hu => ?_) HSA.out ?_
  rotate_left
  · have q0 := hu.1; have q1 := hu.2; go_simp <;> with_reducible rfl
  simp only [Act.put, List.setIfInBounds_toArray, List.set_cons_zero, List.set_cons_succ]
  refine takeU 4 (v := ?_) rfl (by kernel_rfl) (by kernel_rfl) (fun _ _ _ h => HP.out _ _ _ _ _ h) rfl (fun u hu => ?_) HSA.out ?_
  rotate_left
  · skip; go_simp <;> with_reducible rfl
  simp only [Act.put, List.setIfInBounds_toArray, List.set_cons_zero, List.set_cons_succ]
  refine takeU 5 (v := ?_) rfl (by kernel_rfl) (by kernel_rfl) (fun _ _ _ h => HP.out _ _ _ _ _ h) rfl (fun u hu => ?_) HSA.out ?_
  rotate_left
  · have q0 := hu.1; have q1 := hu.2; go_simp <;> with_reducible rfl
  simp only [Act.put, List.setIfInBounds_toArray, List.set_cons_zero, List.set_cons_succ]
  refine oneU 6 (by kernel_rfl) ?_
  refine callU 6 rfl (by kernel_rfl) rfl 27 _ _ rfl #[ptr byy, .int .i64 nn] (by simp [Act.eval]) (enters_of Tryd.func27 (by kernel_rfl) rfl) (fun v u => v = .tuple #[.string t1, .int .i64 e1] ∧ IsC u byy 50 sk m1 ∧ w1.drew.grownBy u (some byy)) HTY.out ?_
  rintro v w2 ⟨rfl, hc2, hg2⟩
  have HSB : Hid (w2.cell? ⟨gy, k, none⟩ = some (ptr byy) ∧ w2.cell? ⟨ob, 2, none⟩ = some (.int .i64 nn)) := by
    have e1 := hg2.block gy (block_lt_of_cell HSA.out.1) HNY.out.1
    have e2 := hg2.block ob (block_lt_of_cell HSA.out.2) HNY.out.2
    refine ⟨?_, ?_⟩
    · rw [← HSA.out.1]; unfold World.cell?; rw [e1]
    · rw [← HSA.out.2]; unfold World.cell?; rw [e2]
  have HIY2 := Lib.hid hc2
  have HG2 := Lib.hid hg2
  clear hc2 hg2
  refine ⟨HSB.out, ?_⟩
  simp only [Act.put, List.setIfInBounds_toArray, List.set_cons_zero, List.set_cons_succ]
  refine takeU 7 (v := ?_) rfl (by kernel_rfl) (by kernel_rfl) (fun _ _ _ h => HP.out _ _ _ _ _ h) rfl (fun u hu => ?_) HSB.out ?_
  rotate_left
  · skip; go_simp <;> with_reducible rfl
  simp only [Act.put, List.setIfInBounds_toArray, List.set_cons_zero, List.set_cons_succ]
  refine takeU 8 (v := ?_) rfl (by kernel_rfl) (by kernel_rfl) (fun _ _ _ h => HP.out _ _ _ _ _ h) rfl (fun u hu => ?_) HSB.out ?_
  rotate_left
  · skip; go_simp <;> with_reducible rfl
  simp only [Act.put, List.setIfInBounds_toArray, List.set_cons_zero, List.set_cons_succ]
  refine takeU 9 (v := ?_) rfl (by kernel_rfl) (by kernel_rfl) (fun _ _ _ h => HP.out _ _ _ _ _ h) rfl (fun u hu => ?_) HSB.out ?_
  rotate_left
  · skip; go_simp <;> with_reducible rfl
  simp only [Act.put, List.setIfInBounds_toArray, List.set_cons_zero, List.set_cons_succ]
  refine takeU 10 (v := ?_) rfl (by kernel_rfl) (by kernel_rfl) (fun _ _ _ h => HP.out _ _ _ _ _ h) rfl (fun u hu => ?_) HSB.out ?_
  rotate_left
  · skip; go_simp <;> with_reducible rfl
  simp only [Act.put, List.setIfInBounds_toArray, List.set_cons_zero, List.set_cons_succ]
  refine oneU 11 (by kernel_rfl) ?_
  refine endU (v := ?_) 11 rfl (by kernel_rfl) (by kernel_rfl) rfl ?_ ?_
  rotate_left
  · go_simp <;> with_reducible rfl
  simp only [Act.put, List.setIfInBounds_toArray, List.set_cons_zero, List.set_cons_succ]
  have HB2 := Lib.hid (Both.stepY HSX1.out.drew HSY1.out.drew HBE1.out.drew HZ1.out (by rw [← HN.out]; exact hk) (by rw [← HBY.out]; exact HG2.out) (by rw [← HBY.out, HSK.out]; exact HIY2.out))
  rw [HSK.out] at HB2
  go_wp2_with fail
  refine HEX.out _ _ _ _ _ _ _ _ _ _ _ _ _ _ _ _ _ _ _ _ _ _ _ _ _ _ _ _ _ _ _ _ _ _ _ _ _ _ _ _ _ _ _ _ _ _ _ _ _ _ _ _ _ _ _ _ _ _ _ _ _ _ _ _ _ _ _ _ _ _ _ _ _ _ _ _ _ _ _ _ _ _ _ _ _ _ _ _ _ _ _ _ _ _ _ _ _ _ _ _ _ _ _ _ _ _ _ _ _ _ _ _ _ _ _ _ _ _ _ _ _ _ _ _ _ _ _ _ _ _ _ _ _ _ _ _ _ _ _ _ _ _ _ _ _ _ _ _ _ _ ?_
  exact ⟨_, X, Y, t1, e1, rfl, rfl, rfl, rfl, by rw [List.length_set, ← HN.out]; exact hn1, by rw [List.length_set, ← HN.out]; omega, HB2.out⟩
set_option maxHeartbeats 16000000 in
theorem armUntil {w wo : World} {px py : Option Addr} {n cx cy k ob : Nat} {on nn : Int} {cs : CS} {X Y : List Nat} {Q0 : Exit → Act → World → Prop} {c0 c1 c2 c3 c4 c7 c14 c15 c16 c17 c18 c19 c20 c21 c22 c23 c24 c25 c26 c27 c28 c29 c30 c31 c32 c33 c34 c35 c36 c37 c38 c39 c40 c41 c42 c43 c44 c45 c46 c47 c48 c49 c50 c51 c52 c53 c54 c55 c56 c57 c58 c59 c61 c62 c63 c64 c65 c66 c67 c68 c69 c70 c71 c72 c73 c74 c75 c76 c77 c78 c79 c80 c81 c82 c83 c84 c85 c86 c87 c88 c89 c90 c91 c92 c93 c94 c95 c96 c97 c98 c99 c100 c101 c102 c103 c104 c105 c106 c107 c108 c109 c110 c111 c112 c113 c114 c115 c116 c117 c118 c119 c120 c121 c122 c123 c124 c125 c126 c127 c128 c129 c130 c131 c132 c133 c134 c135 c136 c137 c138 c139 c140 c141 c142 c143 c144 c145 c146 c147 c148 c149 c150 c151 c152 c153 c154 c155 c156 c157 c158 c159 c160 c161 c162 c163 c164 c165 c166 c167 c168 c169 c170 c171 c172 c173 c174 c175 c176 c177 c178 c179 c180 c181 c182 c183 c184 c185 c186 c187 c188 c189 c190 c191 c192 c193 c194 c195 c196 c197 c198 c199 c200 c201 c202 c203 c204 c205 c206 c207 c208 c209 c210 c211 c212 c213 c214 c215 c216 c217 c218 c219 c220 c221 c222 c223 c224 c225 c226 c227 c228 c229 c230 c231 c232 c233 c234 c235 c236 c237 c238 c239 c240 c241 c242 c243 c244 c245 c246 : Value}
    (hBO : Both w wo w.heap.size (.slice px n cx) (.slice py n cy) cs X Y) (hOB : wo.heap[ob]? = some (.cells #[.int .i64 on, .int .i64 2, .int .i64 nn] 53 (0, 0))) (hN : n = cs.length) (hk : k < n) (hn1 : 1 ≤ n) (hn3 : n ≤ 1048577) (r5 : -9223372036854775808 ≤ nn) (r6 : nn ≤ 9223372036854775807)
    (hp : ∀ (m : List PanicEntry) (a : Act) (i : Nat) (v : Value) (u : World), Q0 (.panic m) (a.put (some i) v) u → Q0 (.panic m) a u)(hexit : ∀ (u5 u6 u10 u11 u12 u13 u14 u15 u16 u17 u18 u19 u20 u21 u61 u62 u63 u64 u65 u66 u67 u68 u69 u70 u71 u72 u73 u74 u75 u76 u77 u78 u79 u80 u81 u82 u83 u84 u85 u86 u87 u88 u89 u90 u91 u92 u93 u94 u95 u96 u97 u98 u99 u100 u101 u102 u103 u104 u105 u106 u107 u108 u109 u110 u111 u112 u113 u114 u115 u116 u117 u118 u119 u120 u121 u122 u123 u124 u125 u126 u127 u128 u129 u130 u131 u132 u133 u134 u135 u136 u137 u138 u139 u140 u141 u142 u143 u144 u145 u146 u147 u148 u149 u150 u151 u152 u153 u154 u155 u156 u157 u158 u159 u160 u161 u162 u163 u164 u165 u166 u167 u168 u169 u170 u171 u172 u173 u174 u175 u176 u177 u178 u179 u180 u181 u182 u183 u184 u185 u186 u187 u188 u189 u190 u191 u192 u193 u194 u195 : Value) (wx : World), ArmRel w n u5 u6 u10 u11 u12 u13 wx → Q0 .normal ⟨#[c0, c1, c2, c3, c4, u5, u6, c7, .pointer (some ⟨ob, 0, none⟩), .int .i64 (k : Int), u10, u11, u12, u13, u14, u15, u16, u17, u18, u19, u20, u21, c22, c23, c24, c25, c26, c27, c28, c29, c30, c31, c32, c33, c34, c35, c36, c37, c38, c39, c40, c41, c42, c43, c44, c45, c46, c47, c48, c49, c50, c51, c52, c53, c54, c55, c56, c57, c58, c59, .int .i64 2, u61, u62, u63, u64, u65, u66, u67, u68, u69, u70, u71, u72, u73, u74, u75, u76, u77, u78, u79, u80, u81, u82, u83, u84, u85, u86, u87, u88, u89, u90, u91, u92, u93, u94, u95, u96, u97, u98, u99, u100, u101, u102, u103, u104, u105, u106, u107, u108, u109, u110, u111, u112, u113, u114, u115, u116, u117, u118, u119, u120, u121, u122, u123, u124, u125, u126, u127, u128, u129, u130, u131, u132, u133, u134, u135, u136, u137, u138, u139, u140, u141, u142, u143, u144, u145, u146, u147, u148, u149, u150, u151, u152, u153, u154, u155, u156, u157, u158, u159, u160, u161, u162, u163, u164, u165, u166, u167, u168, u169, u170, u171, u172, u173, u174, u175, u176, u177, u178, u179, u180, u181, u182, u183, u184, u185, u186, u187, u188, u189, u190, u191, u192, u193, u194, u195, c196, c197, c198, c199, c200, c201, c202, c203, c204, c205, c206, c207, c208, c209, c210, c211, c212, c213, c214, c215, c216, c217, c218, c219, c220, c221, c222, c223, c224, c225, c226, c227, c228, c229, c230, c231, c232, c233, c234, c235, c236, c237, c238, c239, c240, c241, c242, c243, c244, c245, c246], []⟩ wx) :
    Code.wp Tryd.prog blk2 Q0 ⟨#[c0, c1, c2, c3, c4, .slice px n cx, .slice py n cy, c7, .pointer (some ⟨ob, 0, none⟩), .int .i64 (k : Int), .string ⟨#[]⟩, .string ⟨#[]⟩, .int .i64 0, .int .i64 0, c14, c15, c16, c17, c18, c19, c20, c21, c22, c23, c24, c25, c26, c27, c28, c29, c30, c31, c32, c33, c34, c35, c36, c37, c38, c39, c40, c41, c42, c43, c44, c45, c46, c47, c48, c49, c50, c51, c52, c53, c54, c55, c56, c57, c58, c59, .int .i64 2, c61, c62, c63, c64, c65, c66, c67, c68, c69, c70, c71, c72, c73, c74, c75, c76, c77, c78, c79, c80, c81, c82, c83, c84, c85, c86, c87, c88, c89, c90, c91, c92, c93, c94, c95, c96, c97, c98, c99, c100, c101, c102, c103, c104, c105, c106, c107, c108, c109, c110, c111, c112, c113, c114, c115, c116, c117, c118, c119, c120, c121, c122, c123, c124, c125, c126, c127, c128, c129, c130, c131, c132, c133, c134, c135, c136, c137, c138, c139, c140, c141, c142, c143, c144, c145, c146, c147, c148, c149, c150, c151, c152, c153, c154, c155, c156, c157, c158, c159, c160, c161, c162, c163, c164, c165, c166, c167, c168, c169, c170, c171, c172, c173, c174, c175, c176, c177, c178, c179, c180, c181, c182, c183, c184, c185, c186, c187, c188, c189, c190, c191, c192, c193, c194, c195, c196, c197, c198, c199, c200, c201, c202, c203, c204, c205, c206, c207, c208, c209, c210, c211, c212, c213, c214, c215, c216, c217, c218, c219, c220, c221, c222, c223, c224, c225, c226, c227, c228, c229, c230, c231, c232, c233, c234, c235, c236, c237, c238, c239, c240, c241, c242, c243, c244, c245, c246], []⟩ wo := by
  have HP := Lib.hid hp
  clear hp
  have HBO := Lib.hid hBO
  have HOB := Lib.hid hOB
  have HN := Lib.hid hN
  dsimp only at hexit ⊢
  have HEX := Lib.hid hexit
  clear hBO hOB hN hexit
  obtain ⟨gx, capx, hvx, hcx⟩ := HBO.out.x.pos (j := k) (by rw [← HN.out]; exact hk)
  have e1 := (Value.slice.inj hvx).1
  clear hvx
  subst e1
  obtain ⟨gy, capy, hvy, hcy⟩ := HBO.out.y.pos (j := k) (by rw [← HN.out]; exact hk)
  have e2 := (Value.slice.inj hvy).1
  clear hvy
  subst e2
  obtain ⟨bx, hbx⟩ : ∃ b, b = X.getD k 0 := ⟨_, rfl⟩
  obtain ⟨byy, hby⟩ : ∃ b, b = Y.getD k 0 := ⟨_, rfl⟩
  rw [← hbx] at hcx
  rw [← hby] at hcy
  obtain ⟨⟨sk, kk⟩, hsk⟩ : ∃ p, cs.getD k cz = p := ⟨_, rfl⟩
  have hix := HBO.out.x.cur k (by rw [← HN.out]; exact hk)
  have hiy := HBO.out.y.cur k (by rw [← HN.out]; exact hk)
  rw [← hbx, hsk] at hix
  rw [← hby, hsk] at hiy
  have HIX : Hid (IsC wo bx 70 sk kk) := hix
  have HIY : Hid (IsC wo byy 50 sk kk) := hiy
  have HCX := Lib.hid hcx
  have HCY := Lib.hid hcy
  have HBX := Lib.hid hbx
  have HBY := Lib.hid hby
  have HSK := Lib.hid hsk
  have HON : Hid (wo.cell? ⟨ob, 2, none⟩ = some (.int .i64 nn)) := by unfold Hid; rw [cell_of_row wo ob 2 _ _ (0, 0) HOB.out]; rfl
  have kd1 : wo.cell? ⟨ob, 1, none⟩ = some (.int .i64 2) := by rw [cell_of_row wo ob 1 _ _ (0, 0) HOB.out]; rfl
  have HNX : Hid (some gx ≠ some bx ∧ some ob ≠ some bx) := by
    refine ⟨fun e => ?_, fun e => ?_⟩
    · injection e with e; subst e; exact HBO.out.x.own.ne hix.blk (by decide) rfl
    · injection e with e; subst e; have := hix.blk; rw [HOB.out] at this; simp at this
  have HNY0 : Hid (some gy ≠ some byy ∧ some ob ≠ some byy) := by
    refine ⟨fun e => ?_, fun e => ?_⟩
    · injection e with e; subst e; exact HBO.out.y.own.ne hiy.blk (by decide) rfl
    · injection e with e; subst e; have := hiy.blk; rw [HOB.out] at this; simp at this
  clear hcx hcy hbx hby hsk hix hiy
  conv => arg 2; whnf
  obtain ⟨c, hcc⟩ : ∃ c, c = (nn % 256).toNat := ⟨_, rfl⟩
  have hc256 : c < 256 := by omega
  have a1 : bits .and .i64 nn 255 = (c : Int) := by rw [hcc]; exact and255 nn r5 r6
  have a2 : nn % 256 = (c : Int) := by omega
  have a3 : IntKind.u8.wrap (c : Int) = (c : Int) := IntWalk.u8_in _ (by omega)
  obtain ⟨⟨t1, e1, m1⟩, htk⟩ : ∃ x, till sk kk c = x := ⟨_, rfl⟩
  have HTX : Hid (Calls Tryd.prog 26 #[ptr bx, .int .u8 (c : Int)] wo.drew fun e w' => ∃ v, e = .returned v ∧ (v = .tuple #[.string t1, .int .i64 e1] ∧ IsC w' bx 70 sk m1 ∧ wo.drew.grownBy w' (some bx))) := by
    have h := untilCW wo.drew c hc256 HIX.out.drew
    rw [htk] at h
    exact h.mono fun e w' h => ⟨_, h.1, rfl, h.2.1, h.2.2⟩
  have HTK := Lib.hid htk
  clear htk kd1 hcc
  have HSA : Hid (wo.drew.cell? ⟨gx, k, none⟩ = some (ptr bx) ∧ wo.drew.cell? ⟨ob, 2, none⟩ = some (.int .i64 nn)) := ⟨HCX.out, HON.out⟩
  go_wp2_with fail
  refine wp_region_U 13 (fun u => u.cell? ⟨gx, k, none⟩ = some (ptr bx) ∧ u.cell? ⟨ob, 2, none⟩ = some (.int .i64 nn)) (by kernel_rfl) ?_
  change wpAnyU _ _ _ _ _ _ 14 (Array.replicate 14 false) _ _
  refine takeU 0 (v := ?_) rfl (by kernel_rfl) (by kernel_rfl) (fun _ _ _ h => HP.out _ _ _ _ _ h) rfl (fun u hu => ?_) HSA.out ?_
  rotate_left
  · skip; go_simp <;> with_reducible rfl
  simp only [Act.put, List.setIfInBounds_toArray, List.set_cons_zero, List.set_cons_succ]
  refine takeU 1 (v := ?_) rfl (by kernel_rfl) (by kernel_rfl) (fun _ _ _ h => HP.out _ _ _ _ _ h) rfl (fun u hu => ?_) HSA.out ?_
  rotate_left
  · skip; go_simp <;> with_reducible rfl
  simp only [Act.put, List.setIfInBounds_toArray, List.set_cons_zero, List.set_cons_succ]
  refine takeU 2 (v := ?_) rfl (by kernel_rfl) (by kernel_rfl) (fun _ _ _ h => HP.out _ _ _ _ _ h) rfl (fun u hu => ?_) HSA.out ?_
  rotate_left
  · skip; go_simp <;> with_reducible rfl
  simp only [Act.put, List.setIfInBounds_toArray, List.set_cons_zero, List.set_cons_succ]
  refine takeU 3 (v := ?_) rfl (by kernel_rfl) (by kernel_rfl) (fun _ _ _ h => HP.out _ _ _ _ _ h) rfl (fun u hu => ?_) HSA.out ?_
  rotate_left
  · have q0 := hu.1; have q1 := hu.2; go_simp <;> with_reducible rfl
  simp only [Act.put, List.setIfInBounds_toArray, List.set_cons_zero, List.set_cons_succ]
  refine takeU 4 (v := ?_) rfl (by kernel_rfl) (by kernel_rfl) (fun _ _ _ h => HP.out _ _ _ _ _ h) rfl (fun u hu => ?_) HSA.out ?_
  rotate_left
  · skip; go_simp <;> with_reducible rfl
  simp only [Act.put, List.setIfInBounds_toArray, List.set_cons_zero, List.set_cons_succ]
  refine takeU 5 (v := ?_) rfl (by kernel_rfl) (by kernel_rfl) (fun _ _ _ h => HP.out _ _ _ _ _ h) rfl (fun u hu => ?_) HSA.out ?_
  rotate_left
  · have q0 := hu.1; have q1 := hu.2; go_simp <;> with_reducible rfl
  simp only [Act.put, List.setIfInBounds_toArray, List.set_cons_zero, List.set_cons_succ]
  refine takeU 6 (v := ?_) rfl (by kernel_rfl) (by kernel_rfl) (fun _ _ _ h => HP.out _ _ _ _ _ h) rfl (fun u hu => ?_) HSA.out ?_
  rotate_left
  · skip; go_simp <;> with_reducible rfl
  simp only [Act.put, List.setIfInBounds_toArray, List.set_cons_zero, List.set_cons_succ]
  refine takeU 7 (v := ?_) rfl (by kernel_rfl) (by kernel_rfl) (fun _ _ _ h => HP.out _ _ _ _ _ h) rfl (fun u hu => ?_) HSA.out ?_
  rotate_left
  · skip; go_simp <;> with_reducible rfl
  simp only [Act.put, List.setIfInBounds_toArray, List.set_cons_zero, List.set_cons_succ]
  refine oneU 8 (by kernel_rfl) ?_
  refine callU 8 rfl (by kernel_rfl) rfl 26 _ _ rfl #[ptr bx, .int .u8 (c : Int)] (by simp [Act.eval]) (enters_of Tryd.func26 (by kernel_rfl) rfl) (fun v u => v = .tuple #[.string t1, .int .i64 e1] ∧ IsC u bx 70 sk m1 ∧ wo.drew.grownBy u (some bx)) HTX.out ?_
  rintro v w1 ⟨rfl, hc1, hg1⟩
  have HSB : Hid (w1.cell? ⟨gx, k, none⟩ = some (ptr bx) ∧ w1.cell? ⟨ob, 2, none⟩ = some (.int .i64 nn)) := by
    have e1 := hg1.block gx (block_lt_of_cell HSA.out.1) HNX.out.1
    have e2 := hg1.block ob (block_lt_of_cell HSA.out.2) HNX.out.2
    refine ⟨?_, ?_⟩
    · rw [← HSA.out.1]; unfold World.cell?; rw [e1]
    · rw [← HSA.out.2]; unfold World.cell?; rw [e2]
  have HIX1 := Lib.hid hc1
  have HG1 := Lib.hid hg1
  clear hc1 hg1
  refine ⟨HSB.out, ?_⟩
  simp only [Act.put, List.setIfInBounds_toArray, List.set_cons_zero, List.set_cons_succ]
  refine takeU 9 (v := ?_) rfl (by kernel_rfl) (by kernel_rfl) (fun _ _ _ h => HP.out _ _ _ _ _ h) rfl (fun u hu => ?_) HSB.out ?_
  rotate_left
  · skip; go_simp <;> with_reducible rfl
  simp only [Act.put, List.setIfInBounds_toArray, List.set_cons_zero, List.set_cons_succ]
  refine takeU 10 (v := ?_) rfl (by kernel_rfl) (by kernel_rfl) (fun _ _ _ h => HP.out _ _ _ _ _ h) rfl (fun u hu => ?_) HSB.out ?_
  rotate_left
  · skip; go_simp <;> with_reducible rfl
  simp only [Act.put, List.setIfInBounds_toArray, List.set_cons_zero, List.set_cons_succ]
  refine takeU 11 (v := ?_) rfl (by kernel_rfl) (by kernel_rfl) (fun _ _ _ h => HP.out _ _ _ _ _ h) rfl (fun u hu => ?_) HSB.out ?_
  rotate_left
  · skip; go_simp <;> with_reducible rfl
  simp only [Act.put, List.setIfInBounds_toArray, List.set_cons_zero, List.set_cons_succ]
  refine takeU 12 (v := ?_) rfl (by kernel_rfl) (by kernel_rfl) (fun _ _ _ h => HP.out _ _ _ _ _ h) rfl (fun u hu => ?_) HSB.out ?_
  rotate_left
  · skip; go_simp <;> with_reducible rfl
  simp only [Act.put, List.setIfInBounds_toArray, List.set_cons_zero, List.set_cons_succ]
  refine oneU 13 (by kernel_rfl) ?_
  refine endU (v := ?_) 13 rfl (by kernel_rfl) (by kernel_rfl) rfl ?_ ?_
  rotate_left
  · go_simp <;> with_reducible rfl
  simp only [Act.put, List.setIfInBounds_toArray, List.set_cons_zero, List.set_cons_succ]
  obtain ⟨sx1, sy1, be1, z1⟩ := HBO.out.drew.stepX (by rw [← HN.out]; exact hk) (by rw [← HBX.out]; exact HG1.out) (by rw [← HBX.out, HSK.out]; exact HIX1.out)
  have HSX1 := Lib.hid sx1
  have HSY1 := Lib.hid sy1
  have HBE1 := Lib.hid be1
  have HZ1 := Lib.hid z1
  have HCY1 : Hid (w1.cell? ⟨gy, k, none⟩ = some (ptr byy)) := by
    obtain ⟨g, cap, hv, hc⟩ := sy1.pos (j := k) (by rw [← HN.out]; exact hk)
    injection hv with e1
    injection e1 with e1
    injection e1 with e1
    subst e1
    rw [← HBY.out] at hc
    exact hc
  have HON1 : Hid (w1.cell? ⟨ob, 2, none⟩ = some (.int .i64 nn)) := by
    have e2 := HG1.out.block ob (block_lt_of_cell HON.out) HNX.out.2
    unfold Hid
    rw [← HON.out]; unfold World.cell?; first | (rw [e2]; done) | (rw [e2]; rfl)
  have HIY1 : Hid (IsC w1 byy 50 sk kk) := by
    have := sy1.cur k (by rw [← HN.out]; exact hk)
    rw [← HBY.out, HSK.out] at this
    exact this
  clear sx1 sy1 be1 z1
  have HTY : Hid (Calls Tryd.prog 28 #[ptr byy, .int .u8 (c : Int)] w1.drew fun e w' => ∃ v, e = .returned v ∧ (v = .tuple #[.string t1, .int .i64 e1] ∧ IsC w' byy 50 sk m1 ∧ w1.drew.grownBy w' (some byy))) := by
    have h := runtilW w1.drew c hc256 HIY1.out.drew
    rw [HTK.out] at h
    exact h.mono fun e w' h => ⟨_, h.1, rfl, h.2.1, h.2.2⟩
  have HSA : Hid (w1.drew.cell? ⟨gy, k, none⟩ = some (ptr byy) ∧ w1.drew.cell? ⟨ob, 2, none⟩ = some (.int .i64 nn)) := ⟨HCY1.out, HON1.out⟩
  have HNY : Hid (some gy ≠ some byy ∧ some ob ≠ some byy) := HNY0.out
  go_wp2_with fail
  refine wp_region_U 13 (fun u => u.cell? ⟨gy, k, none⟩ = some (ptr byy) ∧ u.cell? ⟨ob, 2, none⟩ = some (.int .i64 nn)) (by kernel_rfl) ?_
  change wpAnyU _ _ _ _ _ _ 14 (Array.replicate 14 false) _ _
  refine takeU 0 (v := ?_) rfl (by kernel_rfl) (by kernel_rfl) (fun _ _ _ h => HP.out _ _ _ _ _ h) rfl (fun u hu => ?_) HSA.out ?_
  rotate_left
  · skip; go_simp <;> with_reducible rfl
  simp only [Act.put, List.setIfInBounds_toArray, List.set_cons_zero, List.set_cons_succ]
  refine takeU 1 (v := ?_) rfl (by kernel_rfl) (by kernel_rfl) (fun _ _ _ h => HP.out _ _ _ _ _ h) rfl (fun u hu => ?_) HSA.out ?_
  rotate_left
  · skip; go_simp <;> with_reducible rfl
  simp only [Act.put, List.setIfInBounds_toArray, List.set_cons_zero, List.set_cons_succ]
  refine takeU 2 (v := ?_) rfl (by kernel_rfl) (by kernel_rfl) (fun _ _ _ h => HP.out _ _ _ _ _ h) rfl (fun u hu => ?_) HSA.out ?_
  rotate_left
  · skip; go_simp <;> with_reducible rfl
  simp only [Act.put, List.setIfInBounds_toArray, List.set_cons_zero, List.set_cons_succ]
  refine takeU 3 (v := ?_) rfl (by kernel_rfl) (by kernel_rfl) (fun _ _ _ h => HP.out _ _ _ _ _ h) rfl (fun u hu => ?_) HSA.out ?_
  rotate_left
  · have q0 := hu.1; have q1 := hu.2; go_simp <;> with_reducible rfl
  simp only [Act.put, List.setIfInBounds_toArray, List.set_cons_zero, List.set_cons_succ]
  refine takeU 4 (v := ?_) rfl (by kernel_rfl) (by kernel_rfl) (fun _ _ _ h => HP.out _ _ _ _ _ h) rfl (fun u hu => ?_) HSA.out ?_
  rotate_left
  · skip; go_simp <;> with_reducible rfl
  simp only [Act.put, List.setIfInBounds_toArray, List.set_cons_zero, List.set_cons_succ]
  refine takeU 5 (v := ?_) rfl (by kernel_rfl) (by kernel_rfl) (fun _ _ _ h => HP.out _ _ _ _ _ h) rfl (fun u hu => ?_) HSA.out ?_
  rotate_left
  · have q0 := hu.1; have q1 := hu.2; go_simp <;> with_reducible rfl
  simp only [Act.put, List.setIfInBounds_toArray, List.set_cons_zero, List.set_cons_succ]
  refine takeU 6 (v := ?_) rfl (by kernel_rfl) (by kernel_rfl) (fun _ _ _ h => HP.out _ _ _ _ _ h) rfl (fun u hu => ?_) HSA.out ?_
  rotate_left
  · skip; go_simp <;> with_reducible rfl
  simp only [Act.put, List.setIfInBounds_toArray, List.set_cons_zero, List.set_cons_succ]
  refine takeU 7 (v := ?_) rfl (by kernel_rfl) (by kernel_rfl) (fun _ _ _ h => HP.out _ _ _ _ _ h) rfl (fun u hu => ?_) HSA.out ?_
  rotate_left
  · skip; go_simp <;> with_reducible rfl
  simp only [Act.put, List.setIfInBounds_toArray, List.set_cons_zero, List.set_cons_succ]
  refine oneU 8 (by kernel_rfl) ?_
  refine callU 8 rfl (by kernel_rfl) rfl 28 _ _ rfl #[ptr byy, .int .u8 (c : Int)] (by simp [Act.eval]) (enters_of Tryd.func28 (by kernel_rfl) rfl) (fun v u => v = .tuple #[.string t1, .int .i64 e1] ∧ IsC u byy 50 sk m1 ∧ w1.drew.grownBy u (some byy)) HTY.out ?_
  rintro v w2 ⟨rfl, hc2, hg2⟩
  have HSB : Hid (w2.cell? ⟨gy, k, none⟩ = some (ptr byy) ∧ w2.cell? ⟨ob, 2, none⟩ = some (.int .i64 nn)) := by
    have e1 := hg2.block gy (block_lt_of_cell HSA.out.1) HNY.out.1
    have e2 := hg2.block ob (block_lt_of_cell HSA.out.2) HNY.out.2
    refine ⟨?_, ?_⟩
    · rw [← HSA.out.1]; unfold World.cell?; rw [e1]
    · rw [← HSA.out.2]; unfold World.cell?; rw [e2]
  have HIY2 := Lib.hid hc2
  have HG2 := Lib.hid hg2
  clear hc2 hg2
  refine ⟨HSB.out, ?_⟩
  simp only [Act.put, List.setIfInBounds_toArray, List.set_cons_zero, List.set_cons_succ]
  refine takeU 9 (v := ?_) rfl (by kernel_rfl) (by kernel_rfl) (fun _ _ _ h => HP.out _ _ _ _ _ h) rfl (fun u hu => ?_) HSB.out ?_
  rotate_left
  · skip; go_simp <;> with_reducible rfl
  simp only [Act.put, List.setIfInBounds_toArray, List.set_cons_zero, List.set_cons_succ]
  refine takeU 10 (v := ?_) rfl (by kernel_rfl) (by kernel_rfl) (fun _ _ _ h => HP.out _ _ _ _ _ h) rfl (fun u hu => ?_) HSB.out ?_
  rotate_left
  · skip; go_simp <;> with_reducible rfl
  simp only [Act.put, List.setIfInBounds_toArray, List.set_cons_zero, List.set_cons_succ]
  refine takeU 11 (v := ?_) rfl (by kernel_rfl) (by kernel_rfl) (fun _ _ _ h => HP.out _ _ _ _ _ h) rfl (fun u hu => ?_) HSB.out ?_
  rotate_left
  · skip; go_simp <;> with_reducible rfl
  simp only [Act.put, List.setIfInBounds_toArray, List.set_cons_zero, List.set_cons_succ]
  refine takeU 12 (v := ?_) rfl (by kernel_rfl) (by kernel_rfl) (fun _ _ _ h => HP.out _ _ _ _ _ h) rfl (fun u hu => ?_) HSB.out ?_
  rotate_left
  · skip; go_simp <;> with_reducible rfl
  simp only [Act.put, List.setIfInBounds_toArray, List.set_cons_zero, List.set_cons_succ]
  refine oneU 13 (by kernel_rfl) ?_
  refine endU (v := ?_) 13 rfl (by kernel_rfl) (by kernel_rfl) rfl ?_ ?_
  rotate_left
  · go_simp <;> with_reducible rfl
  simp only [Act.put, List.setIfInBounds_toArray, List.set_cons_zero, List.set_cons_succ]
  have HB2 := Lib.hid (Both.stepY HSX1.out.drew HSY1.out.drew HBE1.out.drew HZ1.out (by rw [← HN.out]; exact hk) (by rw [← HBY.out]; exact HG2.out) (by rw [← HBY.out, HSK.out]; exact HIY2.out))
  rw [HSK.out] at HB2
  go_wp2_with fail
  refine HEX.out _ _ _ _ _ _ _ _ _ _ _ _ _ _ _ _ _ _ _ _ _ _ _ _ _ _ _ _ _ _ _ _ _ _ _ _ _ _ _ _ _ _ _ _ _ _ _ _ _ _ _ _ _ _ _ _ _ _ _ _ _ _ _ _ _ _ _ _ _ _ _ _ _ _ _ _ _ _ _ _ _ _ _ _ _ _ _ _ _ _ _ _ _ _ _ _ _ _ _ _ _ _ _ _ _ _ _ _ _ _ _ _ _ _ _ _ _ _ _ _ _ _ _ _ _ _ _ _ _ _ _ _ _ _ _ _ _ _ _ _ _ _ _ _ _ _ _ _ _ _ ?_
  exact ⟨_, X, Y, t1, e1, rfl, rfl, rfl, rfl, by rw [List.length_set, ← HN.out]; exact hn1, by rw [List.length_set, ← HN.out]; omega, HB2.out⟩
set_option maxHeartbeats 16000000 in
theorem armClone {w wo : World} {px py : Option Addr} {n cx cy k ob : Nat} {on nn : Int} {cs : CS} {X Y : List Nat} {Q0 : Exit → Act → World → Prop} {c0 c1 c2 c3 c4 c7 c14 c15 c16 c17 c18 c19 c20 c21 c22 c23 c24 c25 c26 c27 c28 c29 c30 c31 c32 c33 c34 c35 c36 c37 c38 c39 c40 c41 c42 c43 c44 c45 c46 c47 c48 c49 c50 c51 c52 c53 c54 c55 c56 c57 c58 c59 c61 c62 c63 c64 c65 c66 c67 c68 c69 c70 c71 c72 c73 c74 c75 c76 c77 c78 c79 c80 c81 c82 c83 c84 c85 c86 c87 c88 c89 c90 c91 c92 c93 c94 c95 c96 c97 c98 c99 c100 c101 c102 c103 c104 c105 c106 c107 c108 c109 c110 c111 c112 c113 c114 c115 c116 c117 c118 c119 c120 c121 c122 c123 c124 c125 c126 c127 c128 c129 c130 c131 c132 c133 c134 c135 c136 c137 c138 c139 c140 c141 c142 c143 c144 c145 c146 c147 c148 c149 c150 c151 c152 c153 c154 c155 c156 c157 c158 c159 c160 c161 c162 c163 c164 c165 c166 c167 c168 c169 c170 c171 c172 c173 c174 c175 c176 c177 c178 c179 c180 c181 c182 c183 c184 c185 c186 c187 c188 c189 c190 c191 c192 c193 c194 c195 c196 c197 c198 c199 c200 c201 c202 c203 c204 c205 c206 c207 c208 c209 c210 c211 c212 c213 c214 c215 c216 c217 c218 c219 c220 c221 c222 c223 c224 c225 c226 c227 c228 c229 c230 c231 c232 c233 c234 c235 c236 c237 c238 c239 c240 c241 c242 c243 c244 c245 c246 : Value}
    (hBO : Both w wo w.heap.size (.slice px n cx) (.slice py n cy) cs X Y) (hOB : wo.heap[ob]? = some (.cells #[.int .i64 on, .int .i64 4, .int .i64 nn] 53 (0, 0))) (hN : n = cs.length) (hk : k < n) (hn1 : 1 ≤ n) (hn3 : n ≤ 1048577) (r5 : -9223372036854775808 ≤ nn) (r6 : nn ≤ 9223372036854775807)
    (hexit : ∀ (u5 u6 u10 u11 u12 u13 u14 u15 u16 u17 u18 u19 u20 u21 u61 u62 u63 u64 u65 u66 u67 u68 u69 u70 u71 u72 u73 u74 u75 u76 u77 u78 u79 u80 u81 u82 u83 u84 u85 u86 u87 u88 u89 u90 u91 u92 u93 u94 u95 u96 u97 u98 u99 u100 u101 u102 u103 u104 u105 u106 u107 u108 u109 u110 u111 u112 u113 u114 u115 u116 u117 u118 u119 u120 u121 u122 u123 u124 u125 u126 u127 u128 u129 u130 u131 u132 u133 u134 u135 u136 u137 u138 u139 u140 u141 u142 u143 u144 u145 u146 u147 u148 u149 u150 u151 u152 u153 u154 u155 u156 u157 u158 u159 u160 u161 u162 u163 u164 u165 u166 u167 u168 u169 u170 u171 u172 u173 u174 u175 u176 u177 u178 u179 u180 u181 u182 u183 u184 u185 u186 u187 u188 u189 u190 u191 u192 u193 u194 u195 : Value) (wx : World), ArmRel w n u5 u6 u10 u11 u12 u13 wx → Q0 .normal ⟨#[c0, c1, c2, c3, c4, u5, u6, c7, .pointer (some ⟨ob, 0, none⟩), .int .i64 (k : Int), u10, u11, u12, u13, u14, u15, u16, u17, u18, u19, u20, u21, c22, c23, c24, c25, c26, c27, c28, c29, c30, c31, c32, c33, c34, c35, c36, c37, c38, c39, c40, c41, c42, c43, c44, c45, c46, c47, c48, c49, c50, c51, c52, c53, c54, c55, c56, c57, c58, c59, .int .i64 4, u61, u62, u63, u64, u65, u66, u67, u68, u69, u70, u71, u72, u73, u74, u75, u76, u77, u78, u79, u80, u81, u82, u83, u84, u85, u86, u87, u88, u89, u90, u91, u92, u93, u94, u95, u96, u97, u98, u99, u100, u101, u102, u103, u104, u105, u106, u107, u108, u109, u110, u111, u112, u113, u114, u115, u116, u117, u118, u119, u120, u121, u122, u123, u124, u125, u126, u127, u128, u129, u130, u131, u132, u133, u134, u135, u136, u137, u138, u139, u140, u141, u142, u143, u144, u145, u146, u147, u148, u149, u150, u151, u152, u153, u154, u155, u156, u157, u158, u159, u160, u161, u162, u163, u164, u165, u166, u167, u168, u169, u170, u171, u172, u173, u174, u175, u176, u177, u178, u179, u180, u181, u182, u183, u184, u185, u186, u187, u188, u189, u190, u191, u192, u193, u194, u195, c196, c197, c198, c199, c200, c201, c202, c203, c204, c205, c206, c207, c208, c209, c210, c211, c212, c213, c214, c215, c216, c217, c218, c219, c220, c221, c222, c223, c224, c225, c226, c227, c228, c229, c230, c231, c232, c233, c234, c235, c236, c237, c238, c239, c240, c241, c242, c243, c244, c245, c246], []⟩ wx) :
    Code.wp Tryd.prog blk2 Q0 ⟨#[c0, c1, c2, c3, c4, .slice px n cx, .slice py n cy, c7, .pointer (some ⟨ob, 0, none⟩), .int .i64 (k : Int), .string ⟨#[]⟩, .string ⟨#[]⟩, .int .i64 0, .int .i64 0, c14, c15, c16, c17, c18, c19, c20, c21, c22, c23, c24, c25, c26, c27, c28, c29, c30, c31, c32, c33, c34, c35, c36, c37, c38, c39, c40, c41, c42, c43, c44, c45, c46, c47, c48, c49, c50, c51, c52, c53, c54, c55, c56, c57, c58, c59, .int .i64 4, c61, c62, c63, c64, c65, c66, c67, c68, c69, c70, c71, c72, c73, c74, c75, c76, c77, c78, c79, c80, c81, c82, c83, c84, c85, c86, c87, c88, c89, c90, c91, c92, c93, c94, c95, c96, c97, c98, c99, c100, c101, c102, c103, c104, c105, c106, c107, c108, c109, c110, c111, c112, c113, c114, c115, c116, c117, c118, c119, c120, c121, c122, c123, c124, c125, c126, c127, c128, c129, c130, c131, c132, c133, c134, c135, c136, c137, c138, c139, c140, c141, c142, c143, c144, c145, c146, c147, c148, c149, c150, c151, c152, c153, c154, c155, c156, c157, c158, c159, c160, c161, c162, c163, c164, c165, c166, c167, c168, c169, c170, c171, c172, c173, c174, c175, c176, c177, c178, c179, c180, c181, c182, c183, c184, c185, c186, c187, c188, c189, c190, c191, c192, c193, c194, c195, c196, c197, c198, c199, c200, c201, c202, c203, c204, c205, c206, c207, c208, c209, c210, c211, c212, c213, c214, c215, c216, c217, c218, c219, c220, c221, c222, c223, c224, c225, c226, c227, c228, c229, c230, c231, c232, c233, c234, c235, c236, c237, c238, c239, c240, c241, c242, c243, c244, c245, c246], []⟩ wo := by
  have HBO := Lib.hid hBO
  have HOB := Lib.hid hOB
  have HN := Lib.hid hN
  dsimp only at hexit ⊢
  have HEX := Lib.hid hexit
  clear hBO hOB hN hexit
  obtain ⟨gx, capx, hvx, hcx⟩ := HBO.out.x.pos (j := k) (by rw [← HN.out]; exact hk)
  have e1 := (Value.slice.inj hvx).1
  clear hvx
  subst e1
  obtain ⟨gy, capy, hvy, hcy⟩ := HBO.out.y.pos (j := k) (by rw [← HN.out]; exact hk)
  have e2 := (Value.slice.inj hvy).1
  clear hvy
  subst e2
  obtain ⟨bx, hbx⟩ : ∃ b, b = X.getD k 0 := ⟨_, rfl⟩
  obtain ⟨byy, hby⟩ : ∃ b, b = Y.getD k 0 := ⟨_, rfl⟩
  rw [← hbx] at hcx
  rw [← hby] at hcy
  obtain ⟨⟨sk, kk⟩, hsk⟩ : ∃ p, cs.getD k cz = p := ⟨_, rfl⟩
  have hix := HBO.out.x.cur k (by rw [← HN.out]; exact hk)
  have hiy := HBO.out.y.cur k (by rw [← HN.out]; exact hk)
  rw [← hbx, hsk] at hix
  rw [← hby, hsk] at hiy
  have HIX : Hid (IsC wo bx 70 sk kk) := hix
  have HIY : Hid (IsC wo byy 50 sk kk) := hiy
  have HCX := Lib.hid hcx
  have HCY := Lib.hid hcy
  have HBX := Lib.hid hbx
  have HBY := Lib.hid hby
  have HSK := Lib.hid hsk
  have HON : Hid (wo.cell? ⟨ob, 2, none⟩ = some (.int .i64 nn)) := by unfold Hid; rw [cell_of_row wo ob 2 _ _ (0, 0) HOB.out]; rfl
  have kd1 : wo.cell? ⟨ob, 1, none⟩ = some (.int .i64 4) := by rw [cell_of_row wo ob 1 _ _ (0, 0) HOB.out]; rfl
  have HNX : Hid (some gx ≠ some bx ∧ some ob ≠ some bx) := by
    refine ⟨fun e => ?_, fun e => ?_⟩
    · injection e with e; subst e; exact HBO.out.x.own.ne hix.blk (by decide) rfl
    · injection e with e; subst e; have := hix.blk; rw [HOB.out] at this; simp at this
  have HNY0 : Hid (some gy ≠ some byy ∧ some ob ≠ some byy) := by
    refine ⟨fun e => ?_, fun e => ?_⟩
    · injection e with e; subst e; exact HBO.out.y.own.ne hiy.blk (by decide) rfl
    · injection e with e; subst e; have := hiy.blk; rw [HOB.out] at this; simp at this
  clear hcx hcy hbx hby hsk hix hiy
  conv => arg 2; whnf
  have hcx := HCX.out
  have HCL := Lib.hid (cloneCW wo HIX.out)
  go_wp2_with fail
  refine HCL.out.mono ?_
  rintro e w1 ⟨rfl, hc1, hb1⟩
  obtain ⟨c, hcw⟩ : ∃ c, c = wo.heap.size := ⟨_, rfl⟩
  rw [← hcw] at hc1 ⊢
  have HCW := Lib.hid hcw
  have HC1 := Lib.hid hc1
  have HB1 := Lib.hid (HBO.out.below hb1)
  have HIY1 := Lib.hid (HIY.out.below hb1 HIY.out.lt)
  have hcy1 : w1.cell? ⟨gy, k, none⟩ = some (ptr byy) := (hb1.cell (p := ⟨gy, k, none⟩) (block_lt_of_cell HCY.out)).trans HCY.out
  have i0 := HIY1.out.c0
  have i1 := HIY1.out.c1
  clear hcw hc1 hb1 hcx kd1
  have al1 : Hid (Below w1.heap.size w1 (w1.alloc (.cells #[.string sk, .int .i64 (kk : Int)] 50))) := (Below.refl _ _).alloc (Nat.le_refl _) _
  have HB2 := Lib.hid (HB1.out.below al1.out)
  have HC2 := Lib.hid (HC1.out.below al1.out HC1.out.lt)
  have HIN : Hid (IsC (w1.alloc (.cells #[.string sk, .int .i64 (kk : Int)] 50)) w1.heap.size 50 sk kk) := ⟨heap_alloc_new _ _, HIY.out.le, HIY.out.small⟩
  have HCX2 : Hid (c ∉ X) := fun hm => by obtain ⟨s', k', h⟩ := HBO.out.x.isC hm; have h1 := h.lt; have h2 := HCW.out; omega
  have HCB : Hid (w.heap.size ≤ c) := by unfold Hid; rw [HCW.out]; exact HBO.out.z
  have HYN : Hid (w1.heap.size ∉ Y) := fun hm => by obtain ⟨s', k', h⟩ := HB1.out.y.isC hm; exact absurd h.lt (Nat.lt_irrefl _)
  have HZ1 := Lib.hid HB1.out.z
  have HOX : Hid (OwnsP ((w1.alloc (.cells #[.string sk, .int .i64 (kk : Int)] 50)).alloc (.cells #[ptr c] 34)) w.heap.size 34 (.slice (some ⟨gx, 0, none⟩) n cx) X) := HB2.out.x.own.below ((Below.refl _ _).alloc (Nat.le_refl _) _)
  have HXL : Hid (X.length ≤ 1099511627776) := by unfold Hid; rw [HBO.out.x.len, ← HN.out]; omega
  have HYL : Hid (Y.length ≤ 1099511627776) := by unfold Hid; rw [HBO.out.y.len, ← HN.out]; omega
  go_wp2_with (at_builtin; refine wpList_append_p rfl (.tmp 189) (.tmp 191) _ rfl Tryd.underlying47 infoPC rfl HOX.out ⟨w1.heap.size + 1, 0, none⟩ 1 rfl c ?p14 HXL.out ?p24 ?_)
  try (case p14 => simp)
  try (case p24 => have := HZ1.out; simp; omega)
  intro v4 w4 ho4 hg4 hv4
  obtain ⟨sx4, sy4, be4, z4⟩ := Both.pushX HB2.out HC2.out HCX2.out HCB.out ho4 hg4
  obtain ⟨px4, cx4, hvx4⟩ := sx4.shape
  subst hvx4
  obtain ⟨n4, hn4⟩ : ∃ n, n = (cs ++ [(sk, kk)]).length := ⟨_, rfl⟩
  rw [← hn4] at sx4 ⊢
  have HN4 := Lib.hid hn4
  clear hn4
  have HSX4 := Lib.hid sx4
  have HSY4 := Lib.hid sy4
  have HBE4 := Lib.hid be4
  have HZ4 := Lib.hid z4
  have HG4 := Lib.hid hg4
  clear sx4 sy4 be4 z4 ho4 hg4 hv4
  have HIN4 : Hid (IsC w4 w1.heap.size 50 sk kk) := by
    have h3 := HIN.out.below ((Below.refl _ _).alloc (Nat.le_refl _) (.cells #[ptr c] 34)) HIN.out.lt
    exact h3.same (HG4.out.block _ h3.lt (fun e => HOX.out.ne h3.blk (by decide) e.symm))
  have HOY : Hid (OwnsP (w4.alloc (.cells #[ptr w1.heap.size] 48)) w.heap.size 48 (.slice (some ⟨gy, 0, none⟩) n cy) Y) := HSY4.out.own.below ((Below.refl _ _).alloc (Nat.le_refl _) _)
  go_wp2_with (at_builtin; refine wpList_append_p rfl (.tmp 193) (.tmp 194) _ rfl Tryd.underlying51 infoPR rfl HOY.out ⟨w4.heap.size, 0, none⟩ 1 rfl w1.heap.size ?q14 HYL.out ?q24 ?_)
  try (case q14 => simp)
  try (case q24 => have := HZ4.out; simp; omega)
  intro v7 w7 ho7 hg7 hv7
  have HB7 := Lib.hid (Both.pushY HSX4.out HSY4.out HBE4.out HZ4.out HIN4.out HYN.out HZ1.out ho7 hg7)
  obtain ⟨py7, cy7, hvy7⟩ := HB7.out.y.shape
  rw [← HN4.out] at hvy7
  subst hvy7
  clear ho7 hg7 hv7
  go_wp2_with fail
  refine HEX.out _ _ _ _ _ _ _ _ _ _ _ _ _ _ _ _ _ _ _ _ _ _ _ _ _ _ _ _ _ _ _ _ _ _ _ _ _ _ _ _ _ _ _ _ _ _ _ _ _ _ _ _ _ _ _ _ _ _ _ _ _ _ _ _ _ _ _ _ _ _ _ _ _ _ _ _ _ _ _ _ _ _ _ _ _ _ _ _ _ _ _ _ _ _ _ _ _ _ _ _ _ _ _ _ _ _ _ _ _ _ _ _ _ _ _ _ _ _ _ _ _ _ _ _ _ _ _ _ _ _ _ _ _ _ _ _ _ _ _ _ _ _ _ _ _ _ _ _ _ _ ?_
  exact ⟨_, _, _, ⟨#[]⟩, 0, rfl, rfl, rfl, rfl, by simp, by rw [HN.out]; simp, HB7.out⟩
set_option maxHeartbeats 16000000 in
theorem armByte {w wo : World} {px py : Option Addr} {n cx cy k ob : Nat} {on nn : Int} {cs : CS} {X Y : List Nat} {Q0 : Exit → Act → World → Prop} {c0 c1 c2 c3 c4 c7 c14 c15 c16 c17 c18 c19 c20 c21 c22 c23 c24 c25 c26 c27 c28 c29 c30 c31 c32 c33 c34 c35 c36 c37 c38 c39 c40 c41 c42 c43 c44 c45 c46 c47 c48 c49 c50 c51 c52 c53 c54 c55 c56 c57 c58 c59 c61 c62 c63 c64 c65 c66 c67 c68 c69 c70 c71 c72 c73 c74 c75 c76 c77 c78 c79 c80 c81 c82 c83 c84 c85 c86 c87 c88 c89 c90 c91 c92 c93 c94 c95 c96 c97 c98 c99 c100 c101 c102 c103 c104 c105 c106 c107 c108 c109 c110 c111 c112 c113 c114 c115 c116 c117 c118 c119 c120 c121 c122 c123 c124 c125 c126 c127 c128 c129 c130 c131 c132 c133 c134 c135 c136 c137 c138 c139 c140 c141 c142 c143 c144 c145 c146 c147 c148 c149 c150 c151 c152 c153 c154 c155 c156 c157 c158 c159 c160 c161 c162 c163 c164 c165 c166 c167 c168 c169 c170 c171 c172 c173 c174 c175 c176 c177 c178 c179 c180 c181 c182 c183 c184 c185 c186 c187 c188 c189 c190 c191 c192 c193 c194 c195 c196 c197 c198 c199 c200 c201 c202 c203 c204 c205 c206 c207 c208 c209 c210 c211 c212 c213 c214 c215 c216 c217 c218 c219 c220 c221 c222 c223 c224 c225 c226 c227 c228 c229 c230 c231 c232 c233 c234 c235 c236 c237 c238 c239 c240 c241 c242 c243 c244 c245 c246 : Value}
    (hBO : Both w wo w.heap.size (.slice px n cx) (.slice py n cy) cs X Y) (hOB : wo.heap[ob]? = some (.cells #[.int .i64 on, .int .i64 0, .int .i64 nn] 53 (0, 0))) (hN : n = cs.length) (hk : k < n) (hn1 : 1 ≤ n) (hn3 : n ≤ 1048577) (r5 : -9223372036854775808 ≤ nn) (r6 : nn ≤ 9223372036854775807)
    (hexit : ∀ (u5 u6 u10 u11 u12 u13 u14 u15 u16 u17 u18 u19 u20 u21 u61 u62 u63 u64 u65 u66 u67 u68 u69 u70 u71 u72 u73 u74 u75 u76 u77 u78 u79 u80 u81 u82 u83 u84 u85 u86 u87 u88 u89 u90 u91 u92 u93 u94 u95 u96 u97 u98 u99 u100 u101 u102 u103 u104 u105 u106 u107 u108 u109 u110 u111 u112 u113 u114 u115 u116 u117 u118 u119 u120 u121 u122 u123 u124 u125 u126 u127 u128 u129 u130 u131 u132 u133 u134 u135 u136 u137 u138 u139 u140 u141 u142 u143 u144 u145 u146 u147 u148 u149 u150 u151 u152 u153 u154 u155 u156 u157 u158 u159 u160 u161 u162 u163 u164 u165 u166 u167 u168 u169 u170 u171 u172 u173 u174 u175 u176 u177 u178 u179 u180 u181 u182 u183 u184 u185 u186 u187 u188 u189 u190 u191 u192 u193 u194 u195 : Value) (wx : World), ArmRel w n u5 u6 u10 u11 u12 u13 wx → Q0 .normal ⟨#[c0, c1, c2, c3, c4, u5, u6, c7, .pointer (some ⟨ob, 0, none⟩), .int .i64 (k : Int), u10, u11, u12, u13, u14, u15, u16, u17, u18, u19, u20, u21, c22, c23, c24, c25, c26, c27, c28, c29, c30, c31, c32, c33, c34, c35, c36, c37, c38, c39, c40, c41, c42, c43, c44, c45, c46, c47, c48, c49, c50, c51, c52, c53, c54, c55, c56, c57, c58, c59, .int .i64 0, u61, u62, u63, u64, u65, u66, u67, u68, u69, u70, u71, u72, u73, u74, u75, u76, u77, u78, u79, u80, u81, u82, u83, u84, u85, u86, u87, u88, u89, u90, u91, u92, u93, u94, u95, u96, u97, u98, u99, u100, u101, u102, u103, u104, u105, u106, u107, u108, u109, u110, u111, u112, u113, u114, u115, u116, u117, u118, u119, u120, u121, u122, u123, u124, u125, u126, u127, u128, u129, u130, u131, u132, u133, u134, u135, u136, u137, u138, u139, u140, u141, u142, u143, u144, u145, u146, u147, u148, u149, u150, u151, u152, u153, u154, u155, u156, u157, u158, u159, u160, u161, u162, u163, u164, u165, u166, u167, u168, u169, u170, u171, u172, u173, u174, u175, u176, u177, u178, u179, u180, u181, u182, u183, u184, u185, u186, u187, u188, u189, u190, u191, u192, u193, u194, u195, c196, c197, c198, c199, c200, c201, c202, c203, c204, c205, c206, c207, c208, c209, c210, c211, c212, c213, c214, c215, c216, c217, c218, c219, c220, c221, c222, c223, c224, c225, c226, c227, c228, c229, c230, c231, c232, c233, c234, c235, c236, c237, c238, c239, c240, c241, c242, c243, c244, c245, c246], []⟩ wx) :
    Code.wp Tryd.prog blk2 Q0 ⟨#[c0, c1, c2, c3, c4, .slice px n cx, .slice py n cy, c7, .pointer (some ⟨ob, 0, none⟩), .int .i64 (k : Int), .string ⟨#[]⟩, .string ⟨#[]⟩, .int .i64 0, .int .i64 0, c14, c15, c16, c17, c18, c19, c20, c21, c22, c23, c24, c25, c26, c27, c28, c29, c30, c31, c32, c33, c34, c35, c36, c37, c38, c39, c40, c41, c42, c43, c44, c45, c46, c47, c48, c49, c50, c51, c52, c53, c54, c55, c56, c57, c58, c59, .int .i64 0, c61, c62, c63, c64, c65, c66, c67, c68, c69, c70, c71, c72, c73, c74, c75, c76, c77, c78, c79, c80, c81, c82, c83, c84, c85, c86, c87, c88, c89, c90, c91, c92, c93, c94, c95, c96, c97, c98, c99, c100, c101, c102, c103, c104, c105, c106, c107, c108, c109, c110, c111, c112, c113, c114, c115, c116, c117, c118, c119, c120, c121, c122, c123, c124, c125, c126, c127, c128, c129, c130, c131, c132, c133, c134, c135, c136, c137, c138, c139, c140, c141, c142, c143, c144, c145, c146, c147, c148, c149, c150, c151, c152, c153, c154, c155, c156, c157, c158, c159, c160, c161, c162, c163, c164, c165, c166, c167, c168, c169, c170, c171, c172, c173, c174, c175, c176, c177, c178, c179, c180, c181, c182, c183, c184, c185, c186, c187, c188, c189, c190, c191, c192, c193, c194, c195, c196, c197, c198, c199, c200, c201, c202, c203, c204, c205, c206, c207, c208, c209, c210, c211, c212, c213, c214, c215, c216, c217, c218, c219, c220, c221, c222, c223, c224, c225, c226, c227, c228, c229, c230, c231, c232, c233, c234, c235, c236, c237, c238, c239, c240, c241, c242, c243, c244, c245, c246], []⟩ wo := by
  have HBO := Lib.hid hBO
  have HOB := Lib.hid hOB
  have HN := Lib.hid hN
  dsimp only at hexit ⊢
  have HEX := Lib.hid hexit
  clear hBO hOB hN hexit
  obtain ⟨gx, capx, hvx, hcx⟩ := HBO.out.x.pos (j := k) (by rw [← HN.out]; exact hk)
  have e1 := (Value.slice.inj hvx).1
  clear hvx
  subst e1
  obtain ⟨gy, capy, hvy, hcy⟩ := HBO.out.y.pos (j := k) (by rw [← HN.out]; exact hk)
  have e2 := (Value.slice.inj hvy).1
  clear hvy
  subst e2
  obtain ⟨bx, hbx⟩ : ∃ b, b = X.getD k 0 := ⟨_, rfl⟩
  obtain ⟨byy, hby⟩ : ∃ b, b = Y.getD k 0 := ⟨_, rfl⟩
  rw [← hbx] at hcx
  rw [← hby] at hcy
  obtain ⟨⟨sk, kk⟩, hsk⟩ : ∃ p, cs.getD k cz = p := ⟨_, rfl⟩
  have hix := HBO.out.x.cur k (by rw [← HN.out]; exact hk)
  have hiy := HBO.out.y.cur k (by rw [← HN.out]; exact hk)
  rw [← hbx, hsk] at hix
  rw [← hby, hsk] at hiy
  have HIX : Hid (IsC wo bx 70 sk kk) := hix
  have HIY : Hid (IsC wo byy 50 sk kk) := hiy
  have HCX := Lib.hid hcx
  have HCY := Lib.hid hcy
  have HBX := Lib.hid hbx
  have HBY := Lib.hid hby
  have HSK := Lib.hid hsk
  have HON : Hid (wo.cell? ⟨ob, 2, none⟩ = some (.int .i64 nn)) := by unfold Hid; rw [cell_of_row wo ob 2 _ _ (0, 0) HOB.out]; rfl
  have kd1 : wo.cell? ⟨ob, 1, none⟩ = some (.int .i64 0) := by rw [cell_of_row wo ob 1 _ _ (0, 0) HOB.out]; rfl
  have HNX : Hid (some gx ≠ some bx ∧ some ob ≠ some bx) := by
    refine ⟨fun e => ?_, fun e => ?_⟩
    · injection e with e; subst e; exact HBO.out.x.own.ne hix.blk (by decide) rfl
    · injection e with e; subst e; have := hix.blk; rw [HOB.out] at this; simp at this
  have HNY0 : Hid (some gy ≠ some byy ∧ some ob ≠ some byy) := by
    refine ⟨fun e => ?_, fun e => ?_⟩
    · injection e with e; subst e; exact HBO.out.y.own.ne hiy.blk (by decide) rfl
    · injection e with e; subst e; have := hiy.blk; rw [HOB.out] at this; simp at this
  clear hcx hcy hbx hby hsk hix hiy
  conv => arg 2; whnf
  have hcx := HCX.out
  have HCL := Lib.hid (byteCW wo HIX.out)
  have YT : Hid (∀ w1 : World, IsC w1 byy 50 sk kk → Calls Tryd.prog 27 #[ptr byy, .int .i64 1] w1 fun e w' => e = .returned (.tuple #[.string (took sk kk 1).1, .int .i64 (took sk kk 1).2.1]) ∧ IsC w' byy 50 sk (took sk kk 1).2.2 ∧ w1.grownBy w' (some byy)) := fun w1 hw => rtakeW w1 1 hw (by omega) (by omega)
  go_wp2_with fail
  refine HCL.out.mono ?_
  rintro e w1 (⟨hlt1, rfl, hc1, hg1⟩ | ⟨hge1, rfl, hc1, hg1⟩)
  · have HIX1 := Lib.hid hc1
    have HG1 := Lib.hid hg1
    have HTKE : Hid (took sk kk 1 = ((sk.extract kk (kk + 1)), 0, (kk + 1))) := by
      unfold Hid took
      rw [if_neg (by omega), if_neg (by omega)]
      rfl
    obtain ⟨x, hx⟩ : ∃ x, (bs sk).getD kk 0 = x := ⟨_, rfl⟩
    have HST : Hid (strOf [x] = sk.extract kk (kk + 1)) := by
      apply bs_inj
      rw [bs_extract, bs_strOf _ (by simp; rw [← hx]; exact getD_lt_bs sk kk), ← hx, show kk + 1 - kk = 1 by omega, U.take1 _ (by rw [List.length_drop, length_bs]; omega), U.getD_drop]
      rfl
    rw [hx]
    clear hx
    obtain ⟨sx1, sy1, be1, z1⟩ := HBO.out.stepX (by rw [← HN.out]; exact hk) (by rw [← HBX.out]; exact HG1.out) (by rw [← HBX.out, HSK.out]; exact HIX1.out)
    have HSX1 := Lib.hid sx1
    have HSY1 := Lib.hid sy1
    have HBE1 := Lib.hid be1
    have HZ1 := Lib.hid z1
    have HCY1 : Hid (w1.cell? ⟨gy, k, none⟩ = some (ptr byy)) := by
      obtain ⟨g, cap, hv, hc⟩ := sy1.pos (j := k) (by rw [← HN.out]; exact hk)
      injection hv with e1
      injection e1 with e1
      injection e1 with e1
      subst e1
      rw [← HBY.out] at hc
      exact hc
    have HON1 : Hid (w1.cell? ⟨ob, 2, none⟩ = some (.int .i64 nn)) := by
      have e2 := HG1.out.block ob (block_lt_of_cell HON.out) HNX.out.2
      unfold Hid
      rw [← HON.out]; unfold World.cell?; first | (rw [e2]; done) | (rw [e2]; rfl)
    have HIY1 : Hid (IsC w1 byy 50 sk kk) := by
      have := sy1.cur k (by rw [← HN.out]; exact hk)
      rw [← HBY.out, HSK.out] at this
      exact this
    clear sx1 sy1 be1 z1
    have hcy1 := HCY1.out
    have HTY := Lib.hid (YT.out w1 HIY1.out)
    rw [HTKE.out] at HTY
    clear hc1 hg1 hlt1 hcx
    go_wp2_with fail
    refine HTY.out.mono ?_
    rintro e w2 ⟨rfl, hc2, hg2⟩
    have HIY2 := Lib.hid hc2
    have HG2 := Lib.hid hg2
    clear hc2 hg2 hcy1
    have HB2 := Lib.hid (Both.stepY HSX1.out HSY1.out HBE1.out HZ1.out (by rw [← HN.out]; exact hk) (by rw [← HBY.out]; exact HG2.out) (by rw [← HBY.out, HSK.out]; exact HIY2.out))
    rw [HSK.out] at HB2
    have HO3 : Hid (Owns (w2.alloc (.cells #[.int .u8 (x : Int)] 5)) w2.heap.size 5 (.slice (some ⟨w2.heap.size, 0, none⟩) 1 1) [x]) := Owns.lit (l := [x]) w2 _ (Nat.le_refl _) (by simp [nums]) (by show 1 ≤ maxLen; decide)
    have HB3 := Lib.hid (HB2.out.below ((Below.refl _ _).alloc (Nat.le_refl _) (.cells #[.int .u8 (x : Int)] 5)))
    go_wp2_with (with_reducible refine wpList_owned_string rfl 36 9 (.tmp 83) rfl Tryd.underlying36 Tryd.underlying5 Tryd.underlying9 rfl HO3.out ?_)
    refine HEX.out _ _ _ _ _ _ _ _ _ _ _ _ _ _ _ _ _ _ _ _ _ _ _ _ _ _ _ _ _ _ _ _ _ _ _ _ _ _ _ _ _ _ _ _ _ _ _ _ _ _ _ _ _ _ _ _ _ _ _ _ _ _ _ _ _ _ _ _ _ _ _ _ _ _ _ _ _ _ _ _ _ _ _ _ _ _ _ _ _ _ _ _ _ _ _ _ _ _ _ _ _ _ _ _ _ _ _ _ _ _ _ _ _ _ _ _ _ _ _ _ _ _ _ _ _ _ _ _ _ _ _ _ _ _ _ _ _ _ _ _ _ _ _ _ _ _ _ _ _ _ ?_
    rw [HST.out]
    exact ⟨_, X, Y, _, 0, rfl, rfl, rfl, rfl, by rw [List.length_set, ← HN.out]; exact hn1, by rw [List.length_set, ← HN.out]; omega, HB3.out⟩
  · have HIX1 := Lib.hid hc1
    have HG1 := Lib.hid hg1
    have HTKE : Hid (took sk kk 1 = (⟨#[]⟩, 15, kk)) := by
      unfold Hid took
      rw [if_neg (by omega), if_pos (by omega)]
    obtain ⟨sx1, sy1, be1, z1⟩ := HBO.out.stepX (by rw [← HN.out]; exact hk) (by rw [← HBX.out]; exact HG1.out) (by rw [← HBX.out, HSK.out]; exact HIX1.out)
    have HSX1 := Lib.hid sx1
    have HSY1 := Lib.hid sy1
    have HBE1 := Lib.hid be1
    have HZ1 := Lib.hid z1
    have HCY1 : Hid (w1.cell? ⟨gy, k, none⟩ = some (ptr byy)) := by
      obtain ⟨g, cap, hv, hc⟩ := sy1.pos (j := k) (by rw [← HN.out]; exact hk)
      injection hv with e1
      injection e1 with e1
      injection e1 with e1
      subst e1
      rw [← HBY.out] at hc
      exact hc
    have HON1 : Hid (w1.cell? ⟨ob, 2, none⟩ = some (.int .i64 nn)) := by
      have e2 := HG1.out.block ob (block_lt_of_cell HON.out) HNX.out.2
      unfold Hid
      rw [← HON.out]; unfold World.cell?; first | (rw [e2]; done) | (rw [e2]; rfl)
    have HIY1 : Hid (IsC w1 byy 50 sk kk) := by
      have := sy1.cur k (by rw [← HN.out]; exact hk)
      rw [← HBY.out, HSK.out] at this
      exact this
    clear sx1 sy1 be1 z1
    have hcy1 := HCY1.out
    have HTY := Lib.hid (YT.out w1 HIY1.out)
    rw [HTKE.out] at HTY
    clear hc1 hg1 hge1 hcx
    go_wp2_with fail
    refine HTY.out.mono ?_
    rintro e w2 ⟨rfl, hc2, hg2⟩
    have HIY2 := Lib.hid hc2
    have HG2 := Lib.hid hg2
    clear hc2 hg2 hcy1
    have HB2 := Lib.hid (Both.stepY HSX1.out HSY1.out HBE1.out HZ1.out (by rw [← HN.out]; exact hk) (by rw [← HBY.out]; exact HG2.out) (by rw [← HBY.out, HSK.out]; exact HIY2.out))
    rw [HSK.out] at HB2
    go_wp2_with fail
    refine HEX.out _ _ _ _ _ _ _ _ _ _ _ _ _ _ _ _ _ _ _ _ _ _ _ _ _ _ _ _ _ _ _ _ _ _ _ _ _ _ _ _ _ _ _ _ _ _ _ _ _ _ _ _ _ _ _ _ _ _ _ _ _ _ _ _ _ _ _ _ _ _ _ _ _ _ _ _ _ _ _ _ _ _ _ _ _ _ _ _ _ _ _ _ _ _ _ _ _ _ _ _ _ _ _ _ _ _ _ _ _ _ _ _ _ _ _ _ _ _ _ _ _ _ _ _ _ _ _ _ _ _ _ _ _ _ _ _ _ _ _ _ _ _ _ _ _ _ _ _ _ _ ?_
    exact ⟨_, X, Y, ⟨#[]⟩, 15, rfl, rfl, rfl, rfl, by rw [List.length_set, ← HN.out]; exact hn1, by rw [List.length_set, ← HN.out]; omega, HB2.out⟩
set_option maxHeartbeats 16000000 in
theorem armOther (kd : Int) (hk1 : ¬ kd = 1) (hk2 : ¬ kd = 2) (hk3 : ¬ kd = 3) (hk4 : ¬ kd = 4) (hk0 : ¬ kd = 0) {w wo : World} {px py : Option Addr} {n cx cy k ob : Nat} {on nn : Int} {cs : CS} {X Y : List Nat} {Q0 : Exit → Act → World → Prop} {c0 c1 c2 c3 c4 c7 c14 c15 c16 c17 c18 c19 c20 c21 c22 c23 c24 c25 c26 c27 c28 c29 c30 c31 c32 c33 c34 c35 c36 c37 c38 c39 c40 c41 c42 c43 c44 c45 c46 c47 c48 c49 c50 c51 c52 c53 c54 c55 c56 c57 c58 c59 c61 c62 c63 c64 c65 c66 c67 c68 c69 c70 c71 c72 c73 c74 c75 c76 c77 c78 c79 c80 c81 c82 c83 c84 c85 c86 c87 c88 c89 c90 c91 c92 c93 c94 c95 c96 c97 c98 c99 c100 c101 c102 c103 c104 c105 c106 c107 c108 c109 c110 c111 c112 c113 c114 c115 c116 c117 c118 c119 c120 c121 c122 c123 c124 c125 c126 c127 c128 c129 c130 c131 c132 c133 c134 c135 c136 c137 c138 c139 c140 c141 c142 c143 c144 c145 c146 c147 c148 c149 c150 c151 c152 c153 c154 c155 c156 c157 c158 c159 c160 c161 c162 c163 c164 c165 c166 c167 c168 c169 c170 c171 c172 c173 c174 c175 c176 c177 c178 c179 c180 c181 c182 c183 c184 c185 c186 c187 c188 c189 c190 c191 c192 c193 c194 c195 c196 c197 c198 c199 c200 c201 c202 c203 c204 c205 c206 c207 c208 c209 c210 c211 c212 c213 c214 c215 c216 c217 c218 c219 c220 c221 c222 c223 c224 c225 c226 c227 c228 c229 c230 c231 c232 c233 c234 c235 c236 c237 c238 c239 c240 c241 c242 c243 c244 c245 c246 : Value}
    (hBO : Both w wo w.heap.size (.slice px n cx) (.slice py n cy) cs X Y) (hOB : wo.heap[ob]? = some (.cells #[.int .i64 on, .int .i64 kd, .int .i64 nn] 53 (0, 0))) (hN : n = cs.length) (hk : k < n) (hn1 : 1 ≤ n) (hn3 : n ≤ 1048577) (r5 : -9223372036854775808 ≤ nn) (r6 : nn ≤ 9223372036854775807)
    (hexit : ∀ (u5 u6 u10 u11 u12 u13 u14 u15 u16 u17 u18 u19 u20 u21 u61 u62 u63 u64 u65 u66 u67 u68 u69 u70 u71 u72 u73 u74 u75 u76 u77 u78 u79 u80 u81 u82 u83 u84 u85 u86 u87 u88 u89 u90 u91 u92 u93 u94 u95 u96 u97 u98 u99 u100 u101 u102 u103 u104 u105 u106 u107 u108 u109 u110 u111 u112 u113 u114 u115 u116 u117 u118 u119 u120 u121 u122 u123 u124 u125 u126 u127 u128 u129 u130 u131 u132 u133 u134 u135 u136 u137 u138 u139 u140 u141 u142 u143 u144 u145 u146 u147 u148 u149 u150 u151 u152 u153 u154 u155 u156 u157 u158 u159 u160 u161 u162 u163 u164 u165 u166 u167 u168 u169 u170 u171 u172 u173 u174 u175 u176 u177 u178 u179 u180 u181 u182 u183 u184 u185 u186 u187 u188 u189 u190 u191 u192 u193 u194 u195 : Value) (wx : World), ArmRel w n u5 u6 u10 u11 u12 u13 wx → Q0 .normal ⟨#[c0, c1, c2, c3, c4, u5, u6, c7, .pointer (some ⟨ob, 0, none⟩), .int .i64 (k : Int), u10, u11, u12, u13, u14, u15, u16, u17, u18, u19, u20, u21, c22, c23, c24, c25, c26, c27, c28, c29, c30, c31, c32, c33, c34, c35, c36, c37, c38, c39, c40, c41, c42, c43, c44, c45, c46, c47, c48, c49, c50, c51, c52, c53, c54, c55, c56, c57, c58, c59, .int .i64 kd, u61, u62, u63, u64, u65, u66, u67, u68, u69, u70, u71, u72, u73, u74, u75, u76, u77, u78, u79, u80, u81, u82, u83, u84, u85, u86, u87, u88, u89, u90, u91, u92, u93, u94, u95, u96, u97, u98, u99, u100, u101, u102, u103, u104, u105, u106, u107, u108, u109, u110, u111, u112, u113, u114, u115, u116, u117, u118, u119, u120, u121, u122, u123, u124, u125, u126, u127, u128, u129, u130, u131, u132, u133, u134, u135, u136, u137, u138, u139, u140, u141, u142, u143, u144, u145, u146, u147, u148, u149, u150, u151, u152, u153, u154, u155, u156, u157, u158, u159, u160, u161, u162, u163, u164, u165, u166, u167, u168, u169, u170, u171, u172, u173, u174, u175, u176, u177, u178, u179, u180, u181, u182, u183, u184, u185, u186, u187, u188, u189, u190, u191, u192, u193, u194, u195, c196, c197, c198, c199, c200, c201, c202, c203, c204, c205, c206, c207, c208, c209, c210, c211, c212, c213, c214, c215, c216, c217, c218, c219, c220, c221, c222, c223, c224, c225, c226, c227, c228, c229, c230, c231, c232, c233, c234, c235, c236, c237, c238, c239, c240, c241, c242, c243, c244, c245, c246], []⟩ wx) :
    Code.wp Tryd.prog blk2 Q0 ⟨#[c0, c1, c2, c3, c4, .slice px n cx, .slice py n cy, c7, .pointer (some ⟨ob, 0, none⟩), .int .i64 (k : Int), .string ⟨#[]⟩, .string ⟨#[]⟩, .int .i64 0, .int .i64 0, c14, c15, c16, c17, c18, c19, c20, c21, c22, c23, c24, c25, c26, c27, c28, c29, c30, c31, c32, c33, c34, c35, c36, c37, c38, c39, c40, c41, c42, c43, c44, c45, c46, c47, c48, c49, c50, c51, c52, c53, c54, c55, c56, c57, c58, c59, .int .i64 kd, c61, c62, c63, c64, c65, c66, c67, c68, c69, c70, c71, c72, c73, c74, c75, c76, c77, c78, c79, c80, c81, c82, c83, c84, c85, c86, c87, c88, c89, c90, c91, c92, c93, c94, c95, c96, c97, c98, c99, c100, c101, c102, c103, c104, c105, c106, c107, c108, c109, c110, c111, c112, c113, c114, c115, c116, c117, c118, c119, c120, c121, c122, c123, c124, c125, c126, c127, c128, c129, c130, c131, c132, c133, c134, c135, c136, c137, c138, c139, c140, c141, c142, c143, c144, c145, c146, c147, c148, c149, c150, c151, c152, c153, c154, c155, c156, c157, c158, c159, c160, c161, c162, c163, c164, c165, c166, c167, c168, c169, c170, c171, c172, c173, c174, c175, c176, c177, c178, c179, c180, c181, c182, c183, c184, c185, c186, c187, c188, c189, c190, c191, c192, c193, c194, c195, c196, c197, c198, c199, c200, c201, c202, c203, c204, c205, c206, c207, c208, c209, c210, c211, c212, c213, c214, c215, c216, c217, c218, c219, c220, c221, c222, c223, c224, c225, c226, c227, c228, c229, c230, c231, c232, c233, c234, c235, c236, c237, c238, c239, c240, c241, c242, c243, c244, c245, c246], []⟩ wo := by
  have HBO := Lib.hid hBO
  have HOB := Lib.hid hOB
  have HN := Lib.hid hN
  dsimp only at hexit ⊢
  have HEX := Lib.hid hexit
  clear hBO hOB hN hexit
  obtain ⟨gx, capx, hvx, hcx⟩ := HBO.out.x.pos (j := k) (by rw [← HN.out]; exact hk)
  have e1 := (Value.slice.inj hvx).1
  clear hvx
  subst e1
  obtain ⟨gy, capy, hvy, hcy⟩ := HBO.out.y.pos (j := k) (by rw [← HN.out]; exact hk)
  have e2 := (Value.slice.inj hvy).1
  clear hvy
  subst e2
  obtain ⟨bx, hbx⟩ : ∃ b, b = X.getD k 0 := ⟨_, rfl⟩
  obtain ⟨byy, hby⟩ : ∃ b, b = Y.getD k 0 := ⟨_, rfl⟩
  rw [← hbx] at hcx
  rw [← hby] at hcy
  obtain ⟨⟨sk, kk⟩, hsk⟩ : ∃ p, cs.getD k cz = p := ⟨_, rfl⟩
  have hix := HBO.out.x.cur k (by rw [← HN.out]; exact hk)
  have hiy := HBO.out.y.cur k (by rw [← HN.out]; exact hk)
  rw [← hbx, hsk] at hix
  rw [← hby, hsk] at hiy
  have HIX : Hid (IsC wo bx 70 sk kk) := hix
  have HIY : Hid (IsC wo byy 50 sk kk) := hiy
  have HCX := Lib.hid hcx
  have HCY := Lib.hid hcy
  have HBX := Lib.hid hbx
  have HBY := Lib.hid hby
  have HSK := Lib.hid hsk
  have HON : Hid (wo.cell? ⟨ob, 2, none⟩ = some (.int .i64 nn)) := by unfold Hid; rw [cell_of_row wo ob 2 _ _ (0, 0) HOB.out]; rfl
  have kd1 : wo.cell? ⟨ob, 1, none⟩ = some (.int .i64 kd) := by rw [cell_of_row wo ob 1 _ _ (0, 0) HOB.out]; rfl
  have HNX : Hid (some gx ≠ some bx ∧ some ob ≠ some bx) := by
    refine ⟨fun e => ?_, fun e => ?_⟩
    · injection e with e; subst e; exact HBO.out.x.own.ne hix.blk (by decide) rfl
    · injection e with e; subst e; have := hix.blk; rw [HOB.out] at this; simp at this
  have HNY0 : Hid (some gy ≠ some byy ∧ some ob ≠ some byy) := by
    refine ⟨fun e => ?_, fun e => ?_⟩
    · injection e with e; subst e; exact HBO.out.y.own.ne hiy.blk (by decide) rfl
    · injection e with e; subst e; have := hiy.blk; rw [HOB.out] at this; simp at this
  clear hcx hcy hbx hby hsk hix hiy
  conv => arg 2; whnf
  have q0 : ((kd : Int) == 0) = false := by rw [beq_eq_false_iff_ne]; exact hk0
  have q1 : ((kd : Int) == 1) = false := by rw [beq_eq_false_iff_ne]; exact hk1
  have q2 : ((kd : Int) == 2) = false := by rw [beq_eq_false_iff_ne]; exact hk2
  have q3 : ((kd : Int) == 3) = false := by rw [beq_eq_false_iff_ne]; exact hk3
  have q4 : ((kd : Int) == 4) = false := by rw [beq_eq_false_iff_ne]; exact hk4
  clear hk0 hk1 hk2 hk3 hk4
  go_wp2_with fail
  refine HEX.out _ _ _ _ _ _ _ _ _ _ _ _ _ _ _ _ _ _ _ _ _ _ _ _ _ _ _ _ _ _ _ _ _ _ _ _ _ _ _ _ _ _ _ _ _ _ _ _ _ _ _ _ _ _ _ _ _ _ _ _ _ _ _ _ _ _ _ _ _ _ _ _ _ _ _ _ _ _ _ _ _ _ _ _ _ _ _ _ _ _ _ _ _ _ _ _ _ _ _ _ _ _ _ _ _ _ _ _ _ _ _ _ _ _ _ _ _ _ _ _ _ _ _ _ _ _ _ _ _ _ _ _ _ _ _ _ _ _ _ _ _ _ _ _ _ _ _ _ _ _ ?_
  exact ⟨_, X, Y, ⟨#[]⟩, 0, rfl, rfl, rfl, rfl, by rw [← HN.out]; exact hn1, by rw [← HN.out]; omega, HBO.out⟩
end Go.Proofs.YthdoeaiehajofaaDoor
