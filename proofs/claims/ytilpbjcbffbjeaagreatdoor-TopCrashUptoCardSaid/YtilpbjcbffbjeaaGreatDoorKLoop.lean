/- The loop of the law TopCrash: commits, texts, syncs. -/
import Derived.Test.YtilpbjcbffbjeaaGreatDoorPkX
import Derived.StillTailTactics
import Derived.Deep.QuietTactic
import Derived.BigQuiet
import Derived.Deep.CutBlock
import Derived.Deep.DeepCutAuto
namespace Go.Proofs.YtilpbjcbffbjeaaGreatDoor
set_option linter.unusedVariables false
set_option linter.unusedSectionVars false
set_option maxRecDepth 100000
open Go.RowKit
/-- A step that came in. -/
structure Stp where
  kind : Int
  ten : Int
  text : ByteArray
def Stp.zero : Stp := ⟨0, 0, ⟨#[]⟩⟩
def Stps (w : World) (v : Value) (ls : List Stp) : Prop :=
  ∃ p cap, v = .slice p ls.length cap ∧ ∀ i, i < ls.length → ∃ b off, p = some ⟨b, off, none⟩ ∧ w.cell? ⟨b, off + i * 3, none⟩ = some (.int .i64 (ls.getD i Stp.zero).kind) ∧ w.cell? ⟨b, off + i * 3 + 1, none⟩ = some (.int .i64 (ls.getD i Stp.zero).ten) ∧ w.cell? ⟨b, off + i * 3 + 2, none⟩ = some (.string (ls.getD i Stp.zero).text)
/-- At work, or behind the power's going. -/
def KX (G : Avoid) (W : World) (b g cap sb z : Nat) (lb la : Nat → Nat) (va : Nat → Value) (al : Nat → List ByteArray) (sf : Nat → Nat) (cf fo : Nat → ByteArray) (D : Dk) (M : Nat) (n : Nat → Nat) (tx : Nat → ByteArray) (inn : Int) (w : World) : Prop :=
  (inn = -1 ∧ ∃ L, @KA G W.heap.size W b g cap sb z lb la va al al sf cf fo D M L n tx w) ∨ (D.dead = true ∧ @KO G W.heap.size W b g cap z la va al al sf cf fo D M n tx inn w)
theorem KX.mono {G : Avoid} {W : World} {b g cap sb z M M' : Nat} {lb la : Nat → Nat} {va : Nat → Value} {al : Nat → List ByteArray} {sf : Nat → Nat} {cf fo : Nat → ByteArray} {D : Dk} {n : Nat → Nat} {tx : Nat → ByteArray} {inn : Int} {w : World} (h : KX G W b g cap sb z lb la va al sf cf fo D M n tx inn w) (hM : M ≤ M') : KX G W b g cap sb z lb la va al sf cf fo D M' n tx inn w := by
  rcases h with ⟨e, L, h⟩ | ⟨e, h⟩
  · exact .inl ⟨e, L, KA.mono h hM⟩
  · exact .inr ⟨e, KO.mono h hM⟩
theorem KX.inA {G : Avoid} {W : World} {b g cap sb z M M' : Nat} {lb la : Nat → Nat} {va : Nat → Value} {al : Nat → List ByteArray} {sf : Nat → Nat} {cf fo : Nat → ByteArray} {D : Dk} {L : Nat → Lg} {n : Nat → Nat} {tx : Nat → ByteArray} {w : World} (h : @KA G W.heap.size W b g cap sb z lb la va al al sf cf fo D M L n tx w) (hM : M ≤ M') : KX G W b g cap sb z lb la va al sf cf fo D M' n tx (-1) w := .inl ⟨rfl, L, KA.mono h hM⟩
theorem KX.inO {G : Avoid} {W : World} {b g cap sb z M M' : Nat} {lb la : Nat → Nat} {va : Nat → Value} {al : Nat → List ByteArray} {sf : Nat → Nat} {cf fo : Nat → ByteArray} {D : Dk} {n : Nat → Nat} {tx : Nat → ByteArray} {inn : Int} {w : World} (h : @KO G W.heap.size W b g cap z la va al al sf cf fo D M n tx inn w) (hM : M ≤ M') (hd : D.dead = true) : KX G W b g cap sb z lb la va al sf cf fo D M' n tx inn w := .inr ⟨hd, KO.mono h hM⟩
theorem band1 (x : Int) : ∃ t : Nat, t < 2 ∧ bits .and .i64 x 1 = (t : Int) := by
  have h : (BitVec.ofInt 64 x &&& BitVec.ofInt 64 1).toNat < 2 := by
    rw [BitVec.toNat_and, show (BitVec.ofInt 64 1).toNat = 1 by decide]
    exact Nat.lt_of_le_of_lt Nat.and_le_right (by decide)
  refine ⟨_, h, ?_⟩
  show IntKind.i64.wrap ((BitVec.ofInt 64 x &&& BitVec.ofInt 64 1).toNat : Int) = _
  rw [IntKind.wrap_i64]
  omega
theorem upd_len {al : Nat → List ByteArray} {i t : Nat} (h : ∀ s, s < 2 → (al s).length ≤ i) (ht : t < 2) (xs : ByteArray) : ∀ s, s < 2 → (upd al t (al t ++ [xs]) s).length ≤ i + 1 := by
  intro s hs
  by_cases e : s = t
  · subst e
    rw [upd_same, List.length_append, List.length_singleton]
    have := h s hs
    omega
  · rw [upd_other _ _ e]
    have := h s hs
    omega
noncomputable def tcB2 : Code := ((Tryz.f3.body.bind (findBlockK 2)).getD .skip)
set_option maxRecDepth 1000000 in
set_option maxHeartbeats 16000000 in
theorem tcLoop (W W1 : World) (hgl : ErrT W) (b g cap sb z : Nat) (lb la : Nat → Nat) (sp : Option Addr) (m sc : Nat) (nn : Int) (cp : Option Addr) (mc cc : Nat) (ls : List Stp) (hm : m = ls.length)
    (hls : ∀ i, i < ls.length → ∃ b off, sp = some ⟨b, off, none⟩ ∧ W.cell? ⟨b, off + i * 3, none⟩ = some (.int .i64 (ls.getD i Stp.zero).kind) ∧ W.cell? ⟨b, off + i * 3 + 1, none⟩ = some (.int .i64 (ls.getD i Stp.zero).ten) ∧ W.cell? ⟨b, off + i * 3 + 2, none⟩ = some (.string (ls.getD i Stp.zero).text)) (hml : m ≤ 1048576)
    (G0 : Avoid) (va0 : Nat → Value) (al0 : Nat → List ByteArray) (sf0 : Nat → Nat) (cf0 fo0 : Nat → ByteArray) (D0 : Dk) (L0 : Nat → Lg) (n0 : Nat → Nat) (tx0 : Nat → ByteArray) (h0 : @KA G0 W.heap.size W b g cap sb z lb la va0 al0 al0 sf0 cf0 fo0 D0 2 L0 n0 tx0 W1) (hal0 : ∀ t, t < 2 → (al0 t).length ≤ 0)
    (Q : Exit → Act → World → Prop) (c3 c4 c5 c6 c8 c10 c16 c19 c20 c21 c22 c23 c24 c25 c26 c27 c28 c29 c30 c31 c32 c33 c34 c35 c36 c37 c38 c39 c40 c41 c42 c43 c44 c45 c46 c47 c48 c49 c50 c51 c52 c53 c54 c55 c56 c57 c58 c59 c60 c61 c62 c63 c64 c65 c66 c67 c68 c69 c70 c71 c72 c73 c74 c75 c76 c77 c78 c79 c80 c81 c82 c83 c84 c85 c86 c87 c88 c89 c90 c91 c92 c93 c94 c95 c96 c97 c98 c99 c100 c101 c102 c103 c104 c105 c106 c107 c108 c109 c110 c111 c112 c113 c114 c115 c116 c117 c118 c119 c120 c121 c122 c123 c124 c125 c126 c127 c128 c129 c130 c131 c132 c133 c134 c135 c136 c137 c138 c139 c140 c141 c142 c143 c144 c145 c146 c147 c148 c149 c150 c151 c152 c153 c154 c155 c156 c157 c158 c159 c160 c161 c162 c163 c164 c165 c166 c167 c168 c169 c170 c171 c172 c173 c174 c175 c176 c177 c178 c179 c180 c181 c182 c183 c184 c185 c186 c187 c188 c189 c190 c191 c192 c193 c194 c195 c196 c197 c198 c199 c200 c201 c202 c203 c204 c205 c206 c207 c208 c209 c210 c211 c212 c213 c214 c215 c216 c217 c218 c219 c220 c221 c222 c223 c224 c225 c226 c227 c228 c229 c230 c231 c232 c233 c234 c235 c236 c237 c238 c239 c240 c241 c242 c243 c244 c245 c246 c247 c248 c249 c250 c251 c252 c253 c254 c255 c256 c257 c258 c259 c260 c261 c262 c263 c264 c265 c266 c267 c268 c269 c270 c271 c272 c273 c274 c275 c276 c277 c278 c279 c280 c281 c282 c283 c284 c285 c286 c287 c288 c289 c290 c291 c292 : Value)
    (hpan : ∀ c a (i : Nat) v u, Q (.panic c) (a.put (some i) v) u → Q (.panic c) a u)
    (hexit : ∀ (u6 u18 u19 u20 u21 u85 u86 u87 u88 u89 u90 u91 u92 u93 u94 u95 u96 u97 u98 u99 u100 u101 u102 u103 u104 u105 u106 u107 u108 u109 u110 u111 u112 u113 u114 u115 u116 u117 u118 u119 u120 u121 u122 u123 u124 u125 u126 u127 u128 u129 u130 u131 u132 u133 u134 u135 u136 u137 u138 u139 u140 u141 u142 u143 u144 u145 u146 u147 u148 u149 u150 u151 u152 u153 u154 u155 u156 u157 u158 u159 u160 u161 u162 u163 u164 u165 u166 u167 u168 u169 u170 u171 u172 u173 u174 u175 u176 u177 u178 u179 u180 u181 u182 u183 u184 u185 u186 u187 u188 u189 u190 u191 u192 : Value) (w' : World) (G : Avoid) (va : Nat → Value) (al : Nat → List ByteArray) (sf : Nat → Nat) (cf fo : Nat → ByteArray) (D : Dk) (n : Nat → Nat) (tx : Nat → ByteArray) (inn : Int), (∀ t, t < 2 → (al t).length ≤ 60) → KX G W b g cap sb z lb la va al sf cf fo D 62 n tx inn w' → Q .normal ⟨#[(.slice sp m sc), (.int .i64 nn), (.slice cp mc cc), c3, c4, c5, u6, (.pointer (some ⟨b, 0, none⟩)), c8, (.pointer (some ⟨sb, 0, none⟩)), c10, (.slice (some ⟨z, 0, none⟩) 2 2), (.slice (some ⟨z + 3, 0, none⟩) 2 2), (.slice (some ⟨z + 4, 0, none⟩) 2 2), (.slice (some ⟨z + 5, 0, none⟩) 2 2), (.slice (some ⟨z + 6, 0, none⟩) 2 2), c16, (.int .i64 inn), u18, u19, u20, u21, c22, c23, c24, c25, c26, c27, c28, c29, c30, c31, c32, c33, c34, c35, c36, c37, c38, c39, c40, c41, c42, c43, c44, c45, c46, c47, c48, c49, c50, c51, c52, c53, c54, c55, c56, c57, c58, c59, c60, c61, c62, c63, c64, c65, c66, c67, c68, c69, c70, c71, c72, c73, c74, c75, c76, c77, c78, c79, c80, c81, c82, c83, c84, u85, u86, u87, u88, u89, u90, u91, u92, u93, u94, u95, u96, u97, u98, u99, u100, u101, u102, u103, u104, u105, u106, u107, u108, u109, u110, u111, u112, u113, u114, u115, u116, u117, u118, u119, u120, u121, u122, u123, u124, u125, u126, u127, u128, u129, u130, u131, u132, u133, u134, u135, u136, u137, u138, u139, u140, u141, u142, u143, u144, u145, u146, u147, u148, u149, u150, u151, u152, u153, u154, u155, u156, u157, u158, u159, u160, u161, u162, u163, u164, u165, u166, u167, u168, u169, u170, u171, u172, u173, u174, u175, u176, u177, u178, u179, u180, u181, u182, u183, u184, u185, u186, u187, u188, u189, u190, u191, u192, c193, c194, c195, c196, c197, c198, c199, c200, c201, c202, c203, c204, c205, c206, c207, c208, c209, c210, c211, c212, c213, c214, c215, c216, c217, c218, c219, c220, c221, c222, c223, c224, c225, c226, c227, c228, c229, c230, c231, c232, c233, c234, c235, c236, c237, c238, c239, c240, c241, c242, c243, c244, c245, c246, c247, c248, c249, c250, c251, c252, c253, c254, c255, c256, c257, c258, c259, c260, c261, c262, c263, c264, c265, c266, c267, c268, c269, c270, c271, c272, c273, c274, c275, c276, c277, c278, c279, c280, c281, c282, c283, c284, c285, c286, c287, c288, c289, c290, c291, c292], []⟩ w') :
    Code.wp Tryz.prog tcB2 Q ⟨#[(.slice sp m sc), (.int .i64 nn), (.slice cp mc cc), c3, c4, c5, c6, (.pointer (some ⟨b, 0, none⟩)), c8, (.pointer (some ⟨sb, 0, none⟩)), c10, (.slice (some ⟨z, 0, none⟩) 2 2), (.slice (some ⟨z + 3, 0, none⟩) 2 2), (.slice (some ⟨z + 4, 0, none⟩) 2 2), (.slice (some ⟨z + 5, 0, none⟩) 2 2), (.slice (some ⟨z + 6, 0, none⟩) 2 2), c16, (.int .i64 (-1)), (.int .i64 0), c19, c20, c21, c22, c23, c24, c25, c26, c27, c28, c29, c30, c31, c32, c33, c34, c35, c36, c37, c38, c39, c40, c41, c42, c43, c44, c45, c46, c47, c48, c49, c50, c51, c52, c53, c54, c55, c56, c57, c58, c59, c60, c61, c62, c63, c64, c65, c66, c67, c68, c69, c70, c71, c72, c73, c74, c75, c76, c77, c78, c79, c80, c81, c82, c83, c84, c85, c86, c87, c88, c89, c90, c91, c92, c93, c94, c95, c96, c97, c98, c99, c100, c101, c102, c103, c104, c105, c106, c107, c108, c109, c110, c111, c112, c113, c114, c115, c116, c117, c118, c119, c120, c121, c122, c123, c124, c125, c126, c127, c128, c129, c130, c131, c132, c133, c134, c135, c136, c137, c138, c139, c140, c141, c142, c143, c144, c145, c146, c147, c148, c149, c150, c151, c152, c153, c154, c155, c156, c157, c158, c159, c160, c161, c162, c163, c164, c165, c166, c167, c168, c169, c170, c171, c172, c173, c174, c175, c176, c177, c178, c179, c180, c181, c182, c183, c184, c185, c186, c187, c188, c189, c190, c191, c192, c193, c194, c195, c196, c197, c198, c199, c200, c201, c202, c203, c204, c205, c206, c207, c208, c209, c210, c211, c212, c213, c214, c215, c216, c217, c218, c219, c220, c221, c222, c223, c224, c225, c226, c227, c228, c229, c230, c231, c232, c233, c234, c235, c236, c237, c238, c239, c240, c241, c242, c243, c244, c245, c246, c247, c248, c249, c250, c251, c252, c253, c254, c255, c256, c257, c258, c259, c260, c261, c262, c263, c264, c265, c266, c267, c268, c269, c270, c271, c272, c273, c274, c275, c276, c277, c278, c279, c280, c281, c282, c283, c284, c285, c286, c287, c288, c289, c290, c291, c292], []⟩ W1 := by
  have HGL := Lib.hid hgl
  have HLS := Lib.hid hls
  have HMM := Lib.hid hm
  have H0 := Lib.hid h0
  have HL0 := Lib.hid hal0
  have HEX := Lib.hid hexit
  have HPAN := Lib.hid hpan
  clear hgl hls hm h0 hal0 hexit hpan
  conv => arg 2; whnf
  go_wp2_with fail
  go_loopw [17, 18] (fun v17 v18 wr => ∃ (i : Nat) (G : Avoid) (va : Nat → Value) (al : Nat → List ByteArray) (sf : Nat → Nat) (cf fo : Nat → ByteArray) (D : Dk) (n : Nat → Nat) (tx : Nat → ByteArray) (inn : Int), v18 = .int .i64 (i : Nat) ∧ v17 = .int .i64 inn ∧ i ≤ m ∧ i ≤ 60 ∧ (∀ t, t < 2 → (al t).length ≤ i) ∧ KX G W b g cap sb z lb la va al sf cf fo D (2 + i) n tx inn wr) (fun _ v _ => (m - intOf v).toNat)
  case atStart => exact ⟨0, G0, va0, al0, sf0, cf0, fo0, D0, n0, tx0, -1, rfl, rfl, Nat.zero_le _, Nat.zero_le _, HL0.out, .inl ⟨rfl, L0, H0.out⟩⟩
  case round =>
    clear H0 HL0 G0
    obtain ⟨i, G, va, al, sf, cf, fo, D, n, tx, inn, rfl, rfl, hi, hi60, hal, hk⟩ := hrel
    have HAL := Lib.hid hal
    have HK := Lib.hid hk
    clear hal hk
    have HXO : Hid (KX G W b g cap sb z lb la va al sf cf fo D 62 n tx inn wr) := HK.out.mono (by omega)
    by_cases hlt : i < m
    · have hii : (i : Int) < (m : Int) := by omega
      by_cases h60 : i < 60
      · have h6i : (i : Int) < 60 := by omega
        rcases HK.out with ⟨e1, L, hka⟩ | ⟨hdd, hko⟩
        · subst e1
          obtain ⟨qb, qo, hq, k0, k1, k2⟩ := HLS.out i (by rw [← HMM.out]; exact hlt)
          subst hq
          obtain ⟨x, hx⟩ : ∃ x, x = ls.getD i Stp.zero := ⟨_, rfl⟩
          rw [← hx] at k0 k1 k2
          obtain ⟨xk, xt, xs⟩ := x
          dsimp only at k0 k1 k2
          have HKA := Lib.hid hka
          have HE := Lib.hid (deadW hka.st.on.disk)
          rw [hka.st.al] at HE
          have hbw := hka.st.on.below
          have HK0 := Lib.hid k0
          have HK1 := Lib.hid k1
          have HK2 := Lib.hid k2
          have r0 := (hbw.cell (block_lt_of_cell k0)).trans k0
          have r1 := (hbw.cell (block_lt_of_cell k1)).trans k1
          clear k0 k1 k2 hx hka HK hbw
          go_upto_region 23 with (go_at_call 14; refine HE.out.mono ?_; rintro e w' ⟨rfl, rfl⟩)
          obtain ⟨t, ht2, hbt⟩ := band1 xt
          rw [hbt]
          have hti : (t : Int) < 2 := by omega
          have ht0 : (0 : Int) ≤ (t : Int) := by omega
          have hi0 : (0 : Int) ≤ (i : Int) := by omega
          clear hbt r1 HE HK1
          by_cases hk0 : xk = 0
          · subst hk0
            go_upto_region 25 with fail
            refine wp_region_U 11 (fun u => u.cell? ⟨qb, qo + i * 3 + 2, none⟩ = some (.string xs)) (by kernel_rfl) ?_
            change wpAnyU _ _ _ _ _ _ 12 (Array.replicate 12 false) _ _
            obtain ⟨wd, hwd⟩ : ∃ x, x = wr.drew := ⟨_, rfl⟩
            rw [← hwd]
            have hbd : Below wr.heap.size wr wd := by rw [hwd]; exact (Below.refl _ _).drew
            replace HKA := Lib.hid (HKA.out.grow hbd)
            have rx := (HKA.out.st.on.below.cell (block_lt_of_cell HK2.out)).trans HK2.out
            clear hwd hbd r0
            refine takeU 0 (v := ?_) rfl (by kernel_rfl) (by kernel_rfl) (fun _ _ _ h => HPAN.out _ _ _ _ _ h) rfl (fun u hu => ?_) rx ?_
            rotate_left
            · have hu1 : u.cell? ⟨qb, qo + i * 3 + 2, none⟩ = some (.string xs) := hu; go_simp <;> with_reducible rfl
            simp only [Act.put, List.setIfInBounds_toArray, List.set_cons_zero, List.set_cons_succ]
            refine takeU 1 (v := ?_) rfl (by kernel_rfl) (by kernel_rfl) (fun _ _ _ h => HPAN.out _ _ _ _ _ h) rfl (fun u hu => ?_) rx ?_
            rotate_left
            · have hu1 : u.cell? ⟨qb, qo + i * 3 + 2, none⟩ = some (.string xs) := hu; go_simp <;> with_reducible rfl
            simp only [Act.put, List.setIfInBounds_toArray, List.set_cons_zero, List.set_cons_succ]
            refine takeU 2 (v := ?_) rfl (by kernel_rfl) (by kernel_rfl) (fun _ _ _ h => HPAN.out _ _ _ _ _ h) rfl (fun u hu => ?_) rx ?_
            rotate_left
            · have hu1 : u.cell? ⟨qb, qo + i * 3 + 2, none⟩ = some (.string xs) := hu; go_simp <;> with_reducible rfl
            simp only [Act.put, List.setIfInBounds_toArray, List.set_cons_zero, List.set_cons_succ]
            refine takeU 3 (v := ?_) rfl (by kernel_rfl) (by kernel_rfl) (fun _ _ _ h => HPAN.out _ _ _ _ _ h) rfl (fun u hu => ?_) rx ?_
            rotate_left
            · have hu1 : u.cell? ⟨qb, qo + i * 3 + 2, none⟩ = some (.string xs) := hu; go_simp <;> with_reducible rfl
            simp only [Act.put, List.setIfInBounds_toArray, List.set_cons_zero, List.set_cons_succ]
            refine takeU 5 (v := ?_) rfl (by kernel_rfl) (by kernel_rfl) (fun _ _ _ h => HPAN.out _ _ _ _ _ h) rfl (fun u hu => ?_) rx ?_
            rotate_left
            · have hu1 : u.cell? ⟨qb, qo + i * 3 + 2, none⟩ = some (.string xs) := hu; go_simp <;> with_reducible rfl
            simp only [Act.put, List.setIfInBounds_toArray, List.set_cons_zero, List.set_cons_succ]
            refine takeU 6 (v := ?_) rfl (by kernel_rfl) (by kernel_rfl) (fun _ _ _ h => HPAN.out _ _ _ _ _ h) rfl (fun u hu => ?_) rx ?_
            rotate_left
            · have hu1 : u.cell? ⟨qb, qo + i * 3 + 2, none⟩ = some (.string xs) := hu; go_simp <;> with_reducible rfl
            simp only [Act.put, List.setIfInBounds_toArray, List.set_cons_zero, List.set_cons_succ]
            refine takeU 7 (v := ?_) rfl (by kernel_rfl) (by kernel_rfl) (fun _ _ _ h => HPAN.out _ _ _ _ _ h) rfl (fun u hu => ?_) rx ?_
            rotate_left
            · have hu1 : u.cell? ⟨qb, qo + i * 3 + 2, none⟩ = some (.string xs) := hu; go_simp <;> with_reducible rfl
            simp only [Act.put, List.setIfInBounds_toArray, List.set_cons_zero, List.set_cons_succ]
            refine takeU 8 (v := ?_) rfl (by kernel_rfl) (by kernel_rfl) (fun _ _ _ h => HPAN.out _ _ _ _ _ h) rfl (fun u hu => ?_) rx ?_
            rotate_left
            · have hu1 : u.cell? ⟨qb, qo + i * 3 + 2, none⟩ = some (.string xs) := hu; go_simp <;> with_reducible rfl
            simp only [Act.put, List.setIfInBounds_toArray, List.set_cons_zero, List.set_cons_succ]
            refine takeU 9 (v := ?_) rfl (by kernel_rfl) (by kernel_rfl) (fun _ _ _ h => HPAN.out _ _ _ _ _ h) rfl (fun u hu => ?_) rx ?_
            rotate_left
            · have hu1 : u.cell? ⟨qb, qo + i * 3 + 2, none⟩ = some (.string xs) := hu; go_simp <;> with_reducible rfl
            simp only [Act.put, List.setIfInBounds_toArray, List.set_cons_zero, List.set_cons_succ]
            obtain ⟨y, hy⟩ : ∃ y : Int, y = (n (t + 1) : Nat) := ⟨_, rfl⟩
            have HG := Lib.hid (sgenW HKA.out.st.st (by decide) t ht2)
            have HC := Lib.hid (HKA.out.st.commitX HGL.out HGL.out.pos (by omega) t ht2 xs (by have := HKA.out.bd (t + 1); omega))
            rw [← hy] at HG HC
            clear hy
            refine oneU 4 (by kernel_rfl) ?_
            refine callU 4 rfl (by kernel_rfl) rfl 16 _ _ rfl #[.pointer (some ⟨sb, 0, none⟩), .int .i64 (t : Nat)] (by simp [Act.eval]) (enters_of Tryz.func16 (by kernel_rfl) rfl) (fun v w' => v = .int .i64 y ∧ w' = wd) (HG.out.mono fun e w' ⟨h1, h2⟩ => ⟨_, h1, rfl, h2⟩) ?_
            rintro v w5 ⟨rfl, rfl⟩
            refine ⟨rx, ?_⟩
            simp only [Act.put, List.setIfInBounds_toArray, List.set_cons_zero, List.set_cons_succ]
            refine oneU 10 (by kernel_rfl) ?_
            refine callU 10 rfl (by kernel_rfl) rfl 15 _ _ rfl #[.pointer (some ⟨sb, 0, none⟩), .int .i64 (t : Nat), .int .i64 y, .string xs] (by simp [Act.eval]) (enters_of Tryz.func15 (by kernel_rfl) rfl) (fun v w' => ∃ r, v = .int .i64 r ∧ Hid (Chg (SA 2 lb b g sb) w5 w' ∧ ComR W.heap.size W b g cap sb 2 D (2 + i) lb n tx t xs w' r)) (HC.out.mono fun e w' ⟨r, h1, h2, h3⟩ => ⟨_, h1, r, rfl, h2, h3⟩) ?_
            rintro v w6 ⟨r, rfl, hC⟩
            have rx6 : w6.cell? ⟨qb, qo + i * 3 + 2, none⟩ = some (.string xs) := hC.out.1.cell (fun e => by have h1 := HKA.out.st.ge _ e; have h2 := block_lt_of_cell HK2.out; simp only at h1 h2; omega) rx
            refine ⟨rx6, ?_⟩
            simp only [Act.put, List.setIfInBounds_toArray, List.set_cons_zero, List.set_cons_succ]
            refine oneU 11 (by kernel_rfl) ?_
            refine endU (v := ?_) 11 rfl (by kernel_rfl) (by kernel_rfl) rfl ?_ ?_
            rotate_left
            · go_simp <;> with_reducible rfl
            simp only [Act.put, List.setIfInBounds_toArray, List.set_cons_zero, List.set_cons_succ]
            clear rx HG HC
            obtain ⟨hch, hr⟩ := hC.out
            clear hC
            cases hr with
            | long L6 hu hst6 =>
              have HKA6 := Lib.hid (HKA.out.long hst6 hch)
              clear hu hst6 hch HKA rx6
              go_wp2_with fail
              exact ⟨⟨i + 1, G, va, al, sf, cf, fo, D, n, tx, -1, rfl, rfl, by omega, by omega, (fun s hs => by have := HAL.out s hs; omega), .inl ⟨rfl, L6, HKA6.out.mono (by omega)⟩⟩, by simp only [intOf]; omega⟩
            | ok D6 L6 hu hst6 ha6 =>
              obtain ⟨hm6, hka6⟩ := HKA.out.done ht2 hst6 ha6 hch
              have HKA6 := Lib.hid hka6
              have p0 := hm6.ccf ht2
              have f0 := hm6.free 5 t (by omega)
              clear hu hst6 ha6 hch HKA hm6 hka6
              go_wp2_with fail
              exact ⟨⟨i + 1, G, va, al, sf, upd cf t xs, fo, D6, _, _, -1, rfl, rfl, by omega, by omega, (fun s hs => by have := HAL.out s hs; omega), .inl ⟨rfl, L6, HKA6.out⟩⟩, by simp only [intOf]; omega⟩
            | gone D6 n6 tx6 hu hat6 hst6 hg6 hfw6 hrs6 hcs6 =>
              obtain ⟨hm6, hko6⟩ := HKA.out.goneC ht2 hat6 hg6 hfw6 hrs6 hcs6 hch
              have HKO6 := Lib.hid (And.intro hg6.dd hko6)
              have p0 := hm6.cfo ht2
              have f0 := hm6.free 6 t (by omega)
              clear hu hat6 hst6 hg6 hfw6 hrs6 hcs6 hch HKA hm6 hko6
              go_wp2_with fail
              exact ⟨⟨i + 1, G, va, al, sf, cf, upd fo t xs, D6, n6, tx6, (t : Int), rfl, rfl, by omega, by omega, (fun s hs => by have := HAL.out s hs; omega), .inr ⟨HKO6.out.1, HKO6.out.2⟩⟩, by simp only [intOf]; omega⟩
          · by_cases hk1 : xk = 1
            · subst hk1
              go_upto_region 32 with fail
              refine wp_region_U 10 (fun u => u.cell? ⟨z, t, none⟩ = some (.pointer (some ⟨la t, 0, none⟩)) ∧ u.cell? ⟨qb, qo + i * 3 + 2, none⟩ = some (.string xs)) (by kernel_rfl) ?_
              change wpAnyU _ _ _ _ _ _ 11 (Array.replicate 11 false) _ _
              obtain ⟨wd, hwd⟩ : ∃ x, x = wr.drew := ⟨_, rfl⟩
              rw [← hwd]
              have hbd : Below wr.heap.size wr wd := by rw [hwd]; exact (Below.refl _ _).drew
              replace HKA := Lib.hid (HKA.out.grow hbd)
              have rx := (HKA.out.st.on.below.cell (block_lt_of_cell HK2.out)).trans HK2.out
              clear hwd hbd r0
              have hx := And.intro (HKA.out.clg ht2) rx
              refine takeU 0 (v := ?_) rfl (by kernel_rfl) (by kernel_rfl) (fun _ _ _ h => HPAN.out _ _ _ _ _ h) rfl (fun u hu => ?_) hx ?_
              rotate_left
              · obtain ⟨hu1, hu2⟩ := hu; go_simp <;> with_reducible rfl
              simp only [Act.put, List.setIfInBounds_toArray, List.set_cons_zero, List.set_cons_succ]
              refine takeU 1 (v := ?_) rfl (by kernel_rfl) (by kernel_rfl) (fun _ _ _ h => HPAN.out _ _ _ _ _ h) rfl (fun u hu => ?_) hx ?_
              rotate_left
              · obtain ⟨hu1, hu2⟩ := hu; go_simp <;> with_reducible rfl
              simp only [Act.put, List.setIfInBounds_toArray, List.set_cons_zero, List.set_cons_succ]
              refine takeU 2 (v := ?_) rfl (by kernel_rfl) (by kernel_rfl) (fun _ _ _ h => HPAN.out _ _ _ _ _ h) rfl (fun u hu => ?_) hx ?_
              rotate_left
              · obtain ⟨hu1, hu2⟩ := hu; go_simp <;> with_reducible rfl
              simp only [Act.put, List.setIfInBounds_toArray, List.set_cons_zero, List.set_cons_succ]
              refine takeU 3 (v := ?_) rfl (by kernel_rfl) (by kernel_rfl) (fun _ _ _ h => HPAN.out _ _ _ _ _ h) rfl (fun u hu => ?_) hx ?_
              rotate_left
              · obtain ⟨hu1, hu2⟩ := hu; go_simp <;> with_reducible rfl
              simp only [Act.put, List.setIfInBounds_toArray, List.set_cons_zero, List.set_cons_succ]
              refine takeU 4 (v := ?_) rfl (by kernel_rfl) (by kernel_rfl) (fun _ _ _ h => HPAN.out _ _ _ _ _ h) rfl (fun u hu => ?_) hx ?_
              rotate_left
              · obtain ⟨hu1, hu2⟩ := hu; go_simp <;> with_reducible rfl
              simp only [Act.put, List.setIfInBounds_toArray, List.set_cons_zero, List.set_cons_succ]
              refine takeU 5 (v := ?_) rfl (by kernel_rfl) (by kernel_rfl) (fun _ _ _ h => HPAN.out _ _ _ _ _ h) rfl (fun u hu => ?_) hx ?_
              rotate_left
              · obtain ⟨hu1, hu2⟩ := hu; go_simp <;> with_reducible rfl
              simp only [Act.put, List.setIfInBounds_toArray, List.set_cons_zero, List.set_cons_succ]
              refine takeU 6 (v := ?_) rfl (by kernel_rfl) (by kernel_rfl) (fun _ _ _ h => HPAN.out _ _ _ _ _ h) rfl (fun u hu => ?_) hx ?_
              rotate_left
              · obtain ⟨hu1, hu2⟩ := hu; go_simp <;> with_reducible rfl
              simp only [Act.put, List.setIfInBounds_toArray, List.set_cons_zero, List.set_cons_succ]
              refine takeU 7 (v := ?_) rfl (by kernel_rfl) (by kernel_rfl) (fun _ _ _ h => HPAN.out _ _ _ _ _ h) rfl (fun u hu => ?_) hx ?_
              rotate_left
              · obtain ⟨hu1, hu2⟩ := hu; go_simp <;> with_reducible rfl
              simp only [Act.put, List.setIfInBounds_toArray, List.set_cons_zero, List.set_cons_succ]
              refine takeU 8 (v := ?_) rfl (by kernel_rfl) (by kernel_rfl) (fun _ _ _ h => HPAN.out _ _ _ _ _ h) rfl (fun u hu => ?_) hx ?_
              rotate_left
              · obtain ⟨hu1, hu2⟩ := hu; go_simp <;> with_reducible rfl
              simp only [Act.put, List.setIfInBounds_toArray, List.set_cons_zero, List.set_cons_succ]
              have HC := Lib.hid (aappR (HKA.out.lg t ht2) HKA.out.st.on.disk HKA.out.st.ok HKA.out.st.al (fA_lt ht2 HKA.out.len) (HKA.out.ac t ht2) HKA.out.st.few.many (by decide) xs)
              refine oneU 9 (by kernel_rfl) ?_
              refine callU 9 rfl (by kernel_rfl) rfl 17 _ _ rfl #[.pointer (some ⟨la t, 0, none⟩), .string xs] (by simp [Act.eval]) (enters_of Tryz.func17 (by kernel_rfl) rfl) (fun v w' => ∃ r D' ss' dd, v = .int .i64 r ∧ Hid (IsAL w' (la t) b (fA t) 262144 ss' dd ∧ IsDisk w' b g cap D' ∧ Chg (fun k => k = la t ∨ k = b ∨ k = g) wd w' ∧ AAppR D (fA t) 262144 (al t) (sf t) xs r D' ss' dd)) (HC.out.mono fun e w' ⟨r, D', ss', dd, h1, h2, h3, h4, h5⟩ => ⟨_, h1, r, D', ss', dd, rfl, h2, h3, h4, h5⟩) ?_
              rintro v w6 ⟨r, D6, ss6, dd6, rfl, hC⟩
              have rx6 : w6.cell? ⟨qb, qo + i * 3 + 2, none⟩ = some (.string xs) := hC.out.2.2.1.cell (fun e => by have h1 := HKA.out.lB t ht2; have h2 := HKA.out.st.on.bB; have h3 := HKA.out.st.on.gB; have h4 := block_lt_of_cell HK2.out; simp only at e h4; omega) rx
              have hm6 := HKA.out.m.keepAL HKA.out.st.on (HKA.out.lg t ht2) hC.out.2.2.1
              have rl6 : w6.cell? ⟨z, t, none⟩ = some (.pointer (some ⟨la t, 0, none⟩)) := hm6.clg ht2
              refine ⟨And.intro rl6 rx6, ?_⟩
              simp only [Act.put, List.setIfInBounds_toArray, List.set_cons_zero, List.set_cons_succ]
              refine oneU 10 (by kernel_rfl) ?_
              refine endU (v := ?_) 10 rfl (by kernel_rfl) (by kernel_rfl) rfl ?_ ?_
              rotate_left
              · go_simp <;> with_reducible rfl
              simp only [Act.put, List.setIfInBounds_toArray, List.set_cons_zero, List.set_cons_succ]
              clear hx rx HC
              obtain ⟨hl6, hd6, hc6, hr6⟩ := hC.out
              clear hC hm6 rl6
              cases hr6 with
              | long hu =>
                have HKA6 := Lib.hid (HKA.out.same ht2 hl6 hd6 hc6)
                clear hu hl6 hd6 hc6 HKA rx6
                go_wp2_with fail
                exact ⟨⟨i + 1, G, va, al, sf, cf, fo, D, n, tx, -1, rfl, rfl, by omega, by omega, (fun s hs => by have := HAL.out s hs; omega), .inl ⟨rfl, L, HKA6.out.mono (by omega)⟩⟩, by simp only [intOf]; omega⟩
              | full hu hv =>
                have HKA6 := Lib.hid (HKA.out.same ht2 hl6 hd6 hc6)
                clear hu hv hl6 hd6 hc6 HKA rx6
                go_wp2_with fail
                exact ⟨⟨i + 1, G, va, al, sf, cf, fo, D, n, tx, -1, rfl, rfl, by omega, by omega, (fun s hs => by have := HAL.out s hs; omega), .inl ⟨rfl, L, HKA6.out.mono (by omega)⟩⟩, by simp only [intOf]; omega⟩
              | ok D6 hu hv ha6 hx6 =>
                have HKA6 := Lib.hid (HKA.out.laid ht2 hl6 hd6 hc6 ha6 hx6)
                clear hu hv hl6 hd6 hc6 ha6 hx6 HKA
                go_upto_region 34 with fail
                refine wp_region_U 14 (fun u => u.cell? ⟨z + 3, t, none⟩ = some (va t) ∧ u.cell? ⟨qb, qo + i * 3 + 2, none⟩ = some (.string xs)) (by kernel_rfl) ?_
                change wpAnyU _ _ _ _ _ _ 15 (Array.replicate 15 false) _ _
                obtain ⟨wd, hwd⟩ : ∃ x, x = w6.drew := ⟨_, rfl⟩
                rw [← hwd]
                have hbd : Below w6.heap.size w6 wd := by rw [hwd]; exact (Below.refl _ _).drew
                have HKd := Lib.hid (HKA6.out.grow hbd)
                have rx := (hbd.cell (block_lt_of_cell rx6)).trans rx6
                have hx := And.intro (HKd.out.m.ctx ht2) rx
                clear hwd hbd rx6 HKA6
                refine takeU 0 (v := ?_) rfl (by kernel_rfl) (by kernel_rfl) (fun _ _ _ h => HPAN.out _ _ _ _ _ h) rfl (fun u hu => ?_) hx ?_
                rotate_left
                · obtain ⟨hu1, hu2⟩ := hu; go_simp <;> with_reducible rfl
                simp only [Act.put, List.setIfInBounds_toArray, List.set_cons_zero, List.set_cons_succ]
                refine takeU 1 (v := ?_) rfl (by kernel_rfl) (by kernel_rfl) (fun _ _ _ h => HPAN.out _ _ _ _ _ h) rfl (fun u hu => ?_) hx ?_
                rotate_left
                · obtain ⟨hu1, hu2⟩ := hu; go_simp <;> with_reducible rfl
                simp only [Act.put, List.setIfInBounds_toArray, List.set_cons_zero, List.set_cons_succ]
                refine takeU 2 (v := ?_) rfl (by kernel_rfl) (by kernel_rfl) (fun _ _ _ h => HPAN.out _ _ _ _ _ h) rfl (fun u hu => ?_) hx ?_
                rotate_left
                · obtain ⟨hu1, hu2⟩ := hu; go_simp <;> with_reducible rfl
                simp only [Act.put, List.setIfInBounds_toArray, List.set_cons_zero, List.set_cons_succ]
                refine takeU 3 (v := ?_) rfl (by kernel_rfl) (by kernel_rfl) (fun _ _ _ h => HPAN.out _ _ _ _ _ h) rfl (fun u hu => ?_) hx ?_
                rotate_left
                · obtain ⟨hu1, hu2⟩ := hu; go_simp <;> with_reducible rfl
                simp only [Act.put, List.setIfInBounds_toArray, List.set_cons_zero, List.set_cons_succ]
                refine takeU 4 (v := ?_) rfl (by kernel_rfl) (by kernel_rfl) (fun _ _ _ h => HPAN.out _ _ _ _ _ h) rfl (fun u hu => ?_) hx ?_
                rotate_left
                · obtain ⟨hu1, hu2⟩ := hu; go_simp <;> with_reducible rfl
                simp only [Act.put, List.setIfInBounds_toArray, List.set_cons_zero, List.set_cons_succ]
                refine takeU 5 (v := ?_) rfl (by kernel_rfl) (by kernel_rfl) (fun _ _ _ h => HPAN.out _ _ _ _ _ h) rfl (fun u hu => ?_) hx ?_
                rotate_left
                · obtain ⟨hu1, hu2⟩ := hu; go_simp <;> with_reducible rfl
                simp only [Act.put, List.setIfInBounds_toArray, List.set_cons_zero, List.set_cons_succ]
                refine takeU 6 (v := ?_) rfl (by kernel_rfl) (by kernel_rfl) (fun _ _ _ h => HPAN.out _ _ _ _ _ h) rfl (fun u hu => ?_) hx ?_
                rotate_left
                · obtain ⟨hu1, hu2⟩ := hu; go_simp <;> with_reducible rfl
                simp only [Act.put, List.setIfInBounds_toArray, List.set_cons_zero, List.set_cons_succ]
                refine takeU 7 (v := ?_) rfl (by kernel_rfl) (by kernel_rfl) (fun _ _ _ h => HPAN.out _ _ _ _ _ h) rfl (fun u hu => ?_) hx ?_
                rotate_left
                · obtain ⟨hu1, hu2⟩ := hu; go_simp <;> with_reducible rfl
                simp only [Act.put, List.setIfInBounds_toArray, List.set_cons_zero, List.set_cons_succ]
                refine takeU 8 (v := ?_) rfl (by kernel_rfl) (by kernel_rfl) (fun _ _ _ h => HPAN.out _ _ _ _ _ h) rfl (fun u hu => ?_) hx ?_
                rotate_left
                · obtain ⟨hu1, hu2⟩ := hu; go_simp <;> with_reducible rfl
                simp only [Act.put, List.setIfInBounds_toArray, List.set_cons_zero, List.set_cons_succ]
                refine takeU 9 (v := ?_) rfl (by kernel_rfl) (by kernel_rfl) (fun _ _ _ h => HPAN.out _ _ _ _ _ h) rfl (fun u hu => ?_) hx ?_
                rotate_left
                · obtain ⟨hu1, hu2⟩ := hu; go_simp <;> with_reducible rfl
                simp only [Act.put, List.setIfInBounds_toArray, List.set_cons_zero, List.set_cons_succ]
                refine takeU 10 (v := ?_) rfl (by kernel_rfl) (by kernel_rfl) (fun _ _ _ h => HPAN.out _ _ _ _ _ h) rfl (fun u hu => ?_) hx ?_
                rotate_left
                · obtain ⟨hu1, hu2⟩ := hu; go_simp <;> with_reducible rfl
                simp only [Act.put, List.setIfInBounds_toArray, List.set_cons_zero, List.set_cons_succ]
                have hb1 : Below wd.heap.size wd (wd.alloc (.cells #[.string xs] 9)) := (Below.refl _ _).alloc (Nat.le_refl _) _
                have HK1 := Lib.hid (HKd.out.grow hb1)
                have hx1 := And.intro (HK1.out.m.ctx ht2) ((hb1.cell (block_lt_of_cell rx)).trans rx)
                refine oneU 11 (by kernel_rfl) ?_
                refine runUK 11 (v := .slice (some ⟨wd.heap.size, 0, none⟩) 1 1) (w' := wd.alloc (.cells #[.string xs] 9)) rfl (by kernel_rfl) (by kernel_rfl) ?_ ⟨hx1, ?_⟩
                · go_simp
                simp only [Act.put, List.setIfInBounds_toArray, List.set_cons_zero, List.set_cons_succ]
                have hlit : Strs (wd.alloc (.cells #[.string xs] 9)) (.slice (some ⟨wd.heap.size, 0, none⟩) 1 1) [xs] := @WS.strs avoidNone _ _ _ (OwnsS.ws (ownLit wd xs))
                have hgb : Avoid.B ≤ (wd.alloc (.cells #[.string xs] 9)).heap.size := HK1.out.st.on.disk.gb
                obtain ⟨v', w2, hrun, hown, hgr, hvb⟩ := run_appO (HK1.out.m.rows t ht2) 28 _ [xs] hlit (by have := HAL.out t ht2; simp only [List.length_singleton]; omega) (by have h1 := HK1.out.m.zB; have h2 := (HK1.out.m.of _ (HK1.out.m.zS 0 (by omega))).lt; omega)
                have hgb2 : G.B ≤ w2.heap.size := Nat.le_trans hgb hgr.size
                obtain ⟨c1, _, _, _, _⟩ := KM.appC HK1.out.m ht2 hgb2 hown hgr hvb
                have hx2 : w2.cell? ⟨z + 3, t, none⟩ = some (va t) ∧ w2.cell? ⟨qb, qo + i * 3 + 2, none⟩ = some (.string xs) := by
                  refine ⟨?_, ?_⟩
                  · refine (World.cell?_of_block (hgr.block (z + 3) (block_lt_of_cell hx1.1) (fun e => HK1.out.m.rowNe ht2 e.symm 3 (by omega) rfl))).trans hx1.1
                  · refine (World.cell?_of_block (hgr.block qb (block_lt_of_cell hx1.2) (fun e => ?_))).trans hx1.2
                    have h1 := ((HK1.out.m.rows t ht2).block e.symm).1
                    have h2 := block_lt_of_cell HK2.out
                    simp only at h2
                    omega
                obtain ⟨w1, hw1⟩ : ∃ x, x = wd.alloc (.cells #[.string xs] 9) := ⟨_, rfl⟩
                rw [← hw1] at HK1 hrun hgr hvb hx1 ⊢
                refine oneU 12 (by kernel_rfl) ?_
                refine runUK 12 (v := v') (w' := w2) rfl (by kernel_rfl) (by kernel_rfl) ?_ ⟨hx2, ?_⟩
                · simp [execOp, Act.eval, resolve, invoke, builtin, hrun, Result.andThen]
                simp only [Act.put, List.setIfInBounds_toArray, List.set_cons_zero, List.set_cons_succ]
                have HK3 := Lib.hid (KA.app HK1.out ht2 hgb2 hown hgr hvb)
                have p0 := hx2.1
                have f0 : w2.frozen? ⟨z + 3, t, none⟩ = false := by
                  have h1 := HK1.out.m.tx
                  have h2 : w2.heap[z + 3]? = _ := (hgr.block (z + 3) (HK1.out.m.of _ (HK1.out.m.zS 3 (by omega))).lt (fun e => HK1.out.m.rowNe ht2 e.symm 3 (by omega) rfl)).trans h1
                  exact frozen_of_row w2 (z + 3) t _ _ h2
                clear hx1 hb1 hlit hrun hw1 c1
                refine takeU 13 (v := ?_) rfl (by kernel_rfl) (by kernel_rfl) (fun _ _ _ h => HPAN.out _ _ _ _ _ h) rfl (fun u hu => ?_) hx2 ?_
                rotate_left
                · obtain ⟨hu1, hu2⟩ := hu; go_simp <;> with_reducible rfl
                simp only [Act.put, List.setIfInBounds_toArray, List.set_cons_zero, List.set_cons_succ]
                obtain ⟨p, pc, hvs⟩ : ∃ p c, v' = .slice p ((al t) ++ [xs]).length c := by
                  obtain ⟨p, c, h, _⟩ := @WS.form avoidNone _ _ _ (OwnsS.ws hown)
                  exact ⟨p, c, h⟩
                obtain ⟨ln, hln⟩ : ∃ k, k = ((al t) ++ [xs]).length := ⟨_, rfl⟩
                rw [← hln] at hvs
                subst hvs
                refine oneU 14 (by kernel_rfl) ?_
                refine endStoreUK 14 (w' := w2.setCell ⟨z + 3, t, none⟩ (.slice p ln pc)) rfl (by kernel_rfl) (by kernel_rfl) (by kernel_rfl) ?_ ?_
                · go_simp
                simp only [Act.put]
                clear hx hx2 p0 f0 hgr hvb HKd rx hln
                go_wp2_with fail
                exact ⟨⟨i + 1, _, upd va t (.slice p ln pc), upd al t (al t ++ [xs]), sf, cf, fo, D6, n, tx, -1, rfl, rfl, by omega, by omega, (upd_len HAL.out ht2 xs), KX.inA (M := 2 + i) (M' := 2 + (i + 1)) HK3.out (by omega)⟩, by simp only [intOf]; omega⟩
              | gone D6 hu hv hg6 hj6 hz6 =>
                obtain ⟨j, j1, j2, hr6⟩ := hj6
                have HKO6 := Lib.hid (HKA.out.goneT ht2 (ss := al t ++ [xs]) hd6 hc6 hg6 j1 (by rw [List.length_append, List.length_singleton]; exact j2) hr6)
                have HDD := Lib.hid hg6.dd
                clear hu hv hl6 hd6 hc6 hg6 hr6 hz6 HKA
                go_upto_region 34 with fail
                refine wp_region_U 14 (fun u => u.cell? ⟨z + 3, t, none⟩ = some (va t) ∧ u.cell? ⟨qb, qo + i * 3 + 2, none⟩ = some (.string xs)) (by kernel_rfl) ?_
                change wpAnyU _ _ _ _ _ _ 15 (Array.replicate 15 false) _ _
                obtain ⟨wd, hwd⟩ : ∃ x, x = w6.drew := ⟨_, rfl⟩
                rw [← hwd]
                have hbd : Below w6.heap.size w6 wd := by rw [hwd]; exact (Below.refl _ _).drew
                have HKd := Lib.hid (HKO6.out.grow hbd)
                have rx := (hbd.cell (block_lt_of_cell rx6)).trans rx6
                have hx := And.intro (HKd.out.m.ctx ht2) rx
                clear hwd hbd rx6 HKO6
                refine takeU 0 (v := ?_) rfl (by kernel_rfl) (by kernel_rfl) (fun _ _ _ h => HPAN.out _ _ _ _ _ h) rfl (fun u hu => ?_) hx ?_
                rotate_left
                · obtain ⟨hu1, hu2⟩ := hu; go_simp <;> with_reducible rfl
                simp only [Act.put, List.setIfInBounds_toArray, List.set_cons_zero, List.set_cons_succ]
                refine takeU 1 (v := ?_) rfl (by kernel_rfl) (by kernel_rfl) (fun _ _ _ h => HPAN.out _ _ _ _ _ h) rfl (fun u hu => ?_) hx ?_
                rotate_left
                · obtain ⟨hu1, hu2⟩ := hu; go_simp <;> with_reducible rfl
                simp only [Act.put, List.setIfInBounds_toArray, List.set_cons_zero, List.set_cons_succ]
                refine takeU 2 (v := ?_) rfl (by kernel_rfl) (by kernel_rfl) (fun _ _ _ h => HPAN.out _ _ _ _ _ h) rfl (fun u hu => ?_) hx ?_
                rotate_left
                · obtain ⟨hu1, hu2⟩ := hu; go_simp <;> with_reducible rfl
                simp only [Act.put, List.setIfInBounds_toArray, List.set_cons_zero, List.set_cons_succ]
                refine takeU 3 (v := ?_) rfl (by kernel_rfl) (by kernel_rfl) (fun _ _ _ h => HPAN.out _ _ _ _ _ h) rfl (fun u hu => ?_) hx ?_
                rotate_left
                · obtain ⟨hu1, hu2⟩ := hu; go_simp <;> with_reducible rfl
                simp only [Act.put, List.setIfInBounds_toArray, List.set_cons_zero, List.set_cons_succ]
                refine takeU 4 (v := ?_) rfl (by kernel_rfl) (by kernel_rfl) (fun _ _ _ h => HPAN.out _ _ _ _ _ h) rfl (fun u hu => ?_) hx ?_
                rotate_left
                · obtain ⟨hu1, hu2⟩ := hu; go_simp <;> with_reducible rfl
                simp only [Act.put, List.setIfInBounds_toArray, List.set_cons_zero, List.set_cons_succ]
                refine takeU 5 (v := ?_) rfl (by kernel_rfl) (by kernel_rfl) (fun _ _ _ h => HPAN.out _ _ _ _ _ h) rfl (fun u hu => ?_) hx ?_
                rotate_left
                · obtain ⟨hu1, hu2⟩ := hu; go_simp <;> with_reducible rfl
                simp only [Act.put, List.setIfInBounds_toArray, List.set_cons_zero, List.set_cons_succ]
                refine takeU 6 (v := ?_) rfl (by kernel_rfl) (by kernel_rfl) (fun _ _ _ h => HPAN.out _ _ _ _ _ h) rfl (fun u hu => ?_) hx ?_
                rotate_left
                · obtain ⟨hu1, hu2⟩ := hu; go_simp <;> with_reducible rfl
                simp only [Act.put, List.setIfInBounds_toArray, List.set_cons_zero, List.set_cons_succ]
                refine takeU 7 (v := ?_) rfl (by kernel_rfl) (by kernel_rfl) (fun _ _ _ h => HPAN.out _ _ _ _ _ h) rfl (fun u hu => ?_) hx ?_
                rotate_left
                · obtain ⟨hu1, hu2⟩ := hu; go_simp <;> with_reducible rfl
                simp only [Act.put, List.setIfInBounds_toArray, List.set_cons_zero, List.set_cons_succ]
                refine takeU 8 (v := ?_) rfl (by kernel_rfl) (by kernel_rfl) (fun _ _ _ h => HPAN.out _ _ _ _ _ h) rfl (fun u hu => ?_) hx ?_
                rotate_left
                · obtain ⟨hu1, hu2⟩ := hu; go_simp <;> with_reducible rfl
                simp only [Act.put, List.setIfInBounds_toArray, List.set_cons_zero, List.set_cons_succ]
                refine takeU 9 (v := ?_) rfl (by kernel_rfl) (by kernel_rfl) (fun _ _ _ h => HPAN.out _ _ _ _ _ h) rfl (fun u hu => ?_) hx ?_
                rotate_left
                · obtain ⟨hu1, hu2⟩ := hu; go_simp <;> with_reducible rfl
                simp only [Act.put, List.setIfInBounds_toArray, List.set_cons_zero, List.set_cons_succ]
                refine takeU 10 (v := ?_) rfl (by kernel_rfl) (by kernel_rfl) (fun _ _ _ h => HPAN.out _ _ _ _ _ h) rfl (fun u hu => ?_) hx ?_
                rotate_left
                · obtain ⟨hu1, hu2⟩ := hu; go_simp <;> with_reducible rfl
                simp only [Act.put, List.setIfInBounds_toArray, List.set_cons_zero, List.set_cons_succ]
                have hb1 : Below wd.heap.size wd (wd.alloc (.cells #[.string xs] 9)) := (Below.refl _ _).alloc (Nat.le_refl _) _
                have HK1 := Lib.hid (HKd.out.grow hb1)
                have hx1 := And.intro (HK1.out.m.ctx ht2) ((hb1.cell (block_lt_of_cell rx)).trans rx)
                refine oneU 11 (by kernel_rfl) ?_
                refine runUK 11 (v := .slice (some ⟨wd.heap.size, 0, none⟩) 1 1) (w' := wd.alloc (.cells #[.string xs] 9)) rfl (by kernel_rfl) (by kernel_rfl) ?_ ⟨hx1, ?_⟩
                · go_simp
                simp only [Act.put, List.setIfInBounds_toArray, List.set_cons_zero, List.set_cons_succ]
                have hlit : Strs (wd.alloc (.cells #[.string xs] 9)) (.slice (some ⟨wd.heap.size, 0, none⟩) 1 1) [xs] := @WS.strs avoidNone _ _ _ (OwnsS.ws (ownLit wd xs))
                have hgb : Avoid.B ≤ (wd.alloc (.cells #[.string xs] 9)).heap.size := HK1.out.on.disk.gb
                obtain ⟨v', w2, hrun, hown, hgr, hvb⟩ := run_appO (HK1.out.m.rows t ht2) 28 _ [xs] hlit (by have := HAL.out t ht2; simp only [List.length_singleton]; omega) (by have h1 := HK1.out.m.zB; have h2 := (HK1.out.m.of _ (HK1.out.m.zS 0 (by omega))).lt; omega)
                have hgb2 : G.B ≤ w2.heap.size := Nat.le_trans hgb hgr.size
                obtain ⟨c1, _, _, _, _⟩ := KM.appC HK1.out.m ht2 hgb2 hown hgr hvb
                have hx2 : w2.cell? ⟨z + 3, t, none⟩ = some (va t) ∧ w2.cell? ⟨qb, qo + i * 3 + 2, none⟩ = some (.string xs) := by
                  refine ⟨?_, ?_⟩
                  · refine (World.cell?_of_block (hgr.block (z + 3) (block_lt_of_cell hx1.1) (fun e => HK1.out.m.rowNe ht2 e.symm 3 (by omega) rfl))).trans hx1.1
                  · refine (World.cell?_of_block (hgr.block qb (block_lt_of_cell hx1.2) (fun e => ?_))).trans hx1.2
                    have h1 := ((HK1.out.m.rows t ht2).block e.symm).1
                    have h2 := block_lt_of_cell HK2.out
                    simp only at h2
                    omega
                obtain ⟨w1, hw1⟩ : ∃ x, x = wd.alloc (.cells #[.string xs] 9) := ⟨_, rfl⟩
                rw [← hw1] at HK1 hrun hgr hvb hx1 ⊢
                refine oneU 12 (by kernel_rfl) ?_
                refine runUK 12 (v := v') (w' := w2) rfl (by kernel_rfl) (by kernel_rfl) ?_ ⟨hx2, ?_⟩
                · simp [execOp, Act.eval, resolve, invoke, builtin, hrun, Result.andThen]
                simp only [Act.put, List.setIfInBounds_toArray, List.set_cons_zero, List.set_cons_succ]
                have HK3 := Lib.hid (KO.app HK1.out ht2 hgb2 hown hgr hvb)
                have p0 := hx2.1
                have f0 : w2.frozen? ⟨z + 3, t, none⟩ = false := by
                  have h1 := HK1.out.m.tx
                  have h2 : w2.heap[z + 3]? = _ := (hgr.block (z + 3) (HK1.out.m.of _ (HK1.out.m.zS 3 (by omega))).lt (fun e => HK1.out.m.rowNe ht2 e.symm 3 (by omega) rfl)).trans h1
                  exact frozen_of_row w2 (z + 3) t _ _ h2
                clear hx1 hb1 hlit hrun hw1 c1
                refine takeU 13 (v := ?_) rfl (by kernel_rfl) (by kernel_rfl) (fun _ _ _ h => HPAN.out _ _ _ _ _ h) rfl (fun u hu => ?_) hx2 ?_
                rotate_left
                · obtain ⟨hu1, hu2⟩ := hu; go_simp <;> with_reducible rfl
                simp only [Act.put, List.setIfInBounds_toArray, List.set_cons_zero, List.set_cons_succ]
                obtain ⟨p, pc, hvs⟩ : ∃ p c, v' = .slice p ((al t) ++ [xs]).length c := by
                  obtain ⟨p, c, h, _⟩ := @WS.form avoidNone _ _ _ (OwnsS.ws hown)
                  exact ⟨p, c, h⟩
                obtain ⟨ln, hln⟩ : ∃ k, k = ((al t) ++ [xs]).length := ⟨_, rfl⟩
                rw [← hln] at hvs
                subst hvs
                refine oneU 14 (by kernel_rfl) ?_
                refine endStoreUK 14 (w' := w2.setCell ⟨z + 3, t, none⟩ (.slice p ln pc)) rfl (by kernel_rfl) (by kernel_rfl) (by kernel_rfl) ?_ ?_
                · go_simp
                simp only [Act.put]
                clear hx hx2 p0 f0 hgr hvb HKd rx hln
                go_wp2_with fail
                exact ⟨⟨i + 1, _, upd va t (.slice p ln pc), upd al t (al t ++ [xs]), sf, cf, fo, D6, n, tx, -1, rfl, rfl, by omega, by omega, (upd_len HAL.out ht2 xs), KX.inO (M := 2 + i) (M' := 2 + (i + 1)) HK3.out (by omega) HDD.out⟩, by simp only [intOf]; omega⟩
            · by_cases hk2 : xk = 2
              · subst hk2
                have p0 := HKA.out.clg ht2
                have HC := Lib.hid (asynR (HKA.out.lg t ht2) HKA.out.st.on.disk HKA.out.st.ok HKA.out.st.al (fA_lt ht2 HKA.out.len) (HKA.out.ac t ht2))
                go_wp2_with fail
                refine HC.out.mono ?_
                rintro e w6 ⟨r, D6, dd6, rfl, hl6, hd6, hc6, hr6⟩
                clear HC p0
                cases hr6 with
                | ok D6 ha6 hx6 =>
                  obtain ⟨hm6, hka6⟩ := HKA.out.synced ht2 hl6 hd6 hc6 ha6 hx6
                  have HKA6 := Lib.hid hka6
                  obtain ⟨p, pc, hvs⟩ : ∃ p c, va t = .slice p (al t).length c := by
                    obtain ⟨p, c, h, _⟩ := @WS.form avoidNone _ _ _ (OwnsS.ws (hm6.rows t ht2))
                    exact ⟨p, c, h⟩
                  have q0 := hm6.ctx ht2
                  rw [hvs] at q0
                  have p0 := hm6.csf ht2
                  have f0 := hm6.free 4 t (by omega)
                  obtain ⟨ln, hln⟩ : ∃ k, k = (al t).length := ⟨_, rfl⟩
                  rw [← hln] at q0 HKA6
                  clear hl6 hd6 hc6 ha6 hx6 HKA hm6 hka6 hvs hln
                  go_wp2_with fail
                  exact ⟨⟨i + 1, G, va, al, _, cf, fo, D6, n, tx, -1, rfl, rfl, by omega, by omega, (fun s hs => by have := HAL.out s hs; omega), .inl ⟨rfl, L, HKA6.out.mono (by omega)⟩⟩, by simp only [intOf]; omega⟩
                | gone D6 hg6 hj6 hz6 =>
                  obtain ⟨j, j1, j2, hr6⟩ := hj6
                  have HKO6 := Lib.hid (And.intro hg6.dd (HKA.out.goneS ht2 hd6 hc6 hg6 j1 j2 hr6))
                  clear hl6 hd6 hc6 hg6 hr6 hz6 HKA
                  go_wp2_with fail
                  exact ⟨⟨i + 1, G, va, al, sf, cf, fo, D6, n, tx, -1, rfl, rfl, by omega, by omega, (fun s hs => by have := HAL.out s hs; omega), .inr ⟨HKO6.out.1, HKO6.out.2.mono (by omega)⟩⟩, by simp only [intOf]; omega⟩
              · go_wp2_with fail
                exact ⟨⟨i + 1, G, va, al, sf, cf, fo, D, n, tx, -1, rfl, rfl, by omega, by omega, (fun s hs => by have := HAL.out s hs; omega), .inl ⟨rfl, L, HKA.out.mono (by omega)⟩⟩, by simp only [intOf]; omega⟩
        · have HKO := Lib.hid hko
          have HE := Lib.hid (deadW hko.on.disk)
          rw [hdd] at HE
          clear hdd hko HK
          go_wp2_with fail
          refine HE.out.mono ?_
          rintro e w' ⟨rfl, rfl⟩
          go_wp2_with fail
          exact HEX.out _ _ _ _ _ _ _ _ _ _ _ _ _ _ _ _ _ _ _ _ _ _ _ _ _ _ _ _ _ _ _ _ _ _ _ _ _ _ _ _ _ _ _ _ _ _ _ _ _ _ _ _ _ _ _ _ _ _ _ _ _ _ _ _ _ _ _ _ _ _ _ _ _ _ _ _ _ _ _ _ _ _ _ _ _ _ _ _ _ _ _ _ _ _ _ _ _ _ _ _ _ _ _ _ _ _ _ _ _ _ _ _ _ _ G va al sf cf fo D n tx inn (fun t ht => by have := HAL.out t ht; omega) HXO.out
      · have h6i : ¬ (i : Int) < 60 := by omega
        clear HK
        go_wp2_with fail
        exact HEX.out _ _ _ _ _ _ _ _ _ _ _ _ _ _ _ _ _ _ _ _ _ _ _ _ _ _ _ _ _ _ _ _ _ _ _ _ _ _ _ _ _ _ _ _ _ _ _ _ _ _ _ _ _ _ _ _ _ _ _ _ _ _ _ _ _ _ _ _ _ _ _ _ _ _ _ _ _ _ _ _ _ _ _ _ _ _ _ _ _ _ _ _ _ _ _ _ _ _ _ _ _ _ _ _ _ _ _ _ _ _ _ _ _ _ G va al sf cf fo D n tx inn (fun t ht => by have := HAL.out t ht; omega) HXO.out
    · have hii : ¬ (i : Int) < (m : Int) := by omega
      clear HK
      go_wp2_with fail
      exact HEX.out _ _ _ _ _ _ _ _ _ _ _ _ _ _ _ _ _ _ _ _ _ _ _ _ _ _ _ _ _ _ _ _ _ _ _ _ _ _ _ _ _ _ _ _ _ _ _ _ _ _ _ _ _ _ _ _ _ _ _ _ _ _ _ _ _ _ _ _ _ _ _ _ _ _ _ _ _ _ _ _ _ _ _ _ _ _ _ _ _ _ _ _ _ _ _ _ _ _ _ _ _ _ _ _ _ _ _ _ _ _ _ _ _ _ G va al sf cf fo D n tx inn (fun t ht => by have := HAL.out t ht; omega) HXO.out
end Go.Proofs.YtilpbjcbffbjeaaGreatDoor
