/- The reference's Sum, cut into declarations: the loop of the blocks. (Written by gen_loops.py.) -/
import Derived.Test.YtjlhckgokdjajaaRWord
import Derived.Test.YtjlhckgokdjajaaRSched
import Derived.Test.YtjlhckgokdjajaaRRound
import Derived.Test.YtjlhckgokdjajaaRState
namespace Go.Proofs.Ytjlhckgokdjajaa
open Go.RowKit
theorem addr_add0 (g k : Nat) : (⟨g, 0, none⟩ : Addr).add k = ⟨g, k, none⟩ := by unfold Addr.add; split <;> simp_all
/-- What a kind's cells say. -/
structure KAll (κ : Sha.Kind) (cs : Array Value) (R wide : Nat) (gK cK : Nat) : Prop where
  wd : WD κ.w
  kc : KCells cs κ.w
  w8 : 8 * wide = κ.w
  w4 : wide = 4 ∨ wide = 8
  R0 : 16 ≤ R
  R1 : R ≤ 1000
  Rk : R = κ.keys.length
  bk : κ.block = 16 * wide
  i8 : κ.init.length = 8
  il : ∀ j, κ.init.getD j 0 < 2 ^ κ.w
  h1 : cs[1]? = some (.int .i64 (R : Nat))
  h3 : cs[3]? = some (.int .i64 (κ.a.1 : Nat))
  h4 : cs[4]? = some (.int .i64 (κ.a.2.1 : Nat))
  h5 : cs[5]? = some (.int .i64 (κ.a.2.2 : Nat))
  h6 : cs[6]? = some (.int .i64 (κ.b.1 : Nat))
  h7 : cs[7]? = some (.int .i64 (κ.b.2.1 : Nat))
  h8 : cs[8]? = some (.int .i64 (κ.b.2.2 : Nat))
  h9 : cs[9]? = some (.int .i64 (κ.c.1 : Nat))
  h10 : cs[10]? = some (.int .i64 (κ.c.2.1 : Nat))
  h11 : cs[11]? = some (.int .i64 (κ.c.2.2 : Nat))
  h12 : cs[12]? = some (.int .i64 (κ.d.1 : Nat))
  h13 : cs[13]? = some (.int .i64 (κ.d.2.1 : Nat))
  h14 : cs[14]? = some (.int .i64 (κ.d.2.2 : Nat))
  h15 : cs[15]? = some (.slice (some ⟨gK, 0, none⟩) R cK)
  j3 : κ.a.1 ≤ κ.w
  j4 : κ.a.2.1 ≤ κ.w
  j5 : κ.a.2.2 ≤ 64
  j6 : κ.b.1 ≤ κ.w
  j7 : κ.b.2.1 ≤ κ.w
  j8 : κ.b.2.2 ≤ 64
  j9 : κ.c.1 ≤ κ.w
  j10 : κ.c.2.1 ≤ κ.w
  j11 : κ.c.2.2 ≤ κ.w
  j12 : κ.d.1 ≤ κ.w
  j13 : κ.d.2.1 ≤ κ.w
  j14 : κ.d.2.2 ≤ κ.w
set_option maxRecDepth 1000000 in
set_option maxHeartbeats 8000000 in
theorem blockLoop (κ : Sha.Kind) (cs : Array Value) (R wide gK cK : Nat) (ka : KAll κ cs R wide gK cK) (base gM ML cM gS cS nb : Nat) (hML : ML ≤ 200000000000000) (hnb : ML = 16 * wide * nb) (M : List Nat) (hMl : M.length = ML) (hM8 : ∀ c ∈ M, c < 256) (w6 : World) (Q0 : Exit → Act → World → Prop) (c0 c1 c3 c4 c9 c10 c11 c12 c13 c14 c15 c16 c17 c18 c19 c20 c21 c22 c23 c24 c25 c26 c27 c28 c29 c30 c31 c32 c33 c34 c35 c36 c37 c38 c39 c40 c41 c42 c43 c44 c45 c46 c47 c48 c49 c50 c51 c52 c53 c54 c55 c56 c57 c58 c59 c60 c61 c62 c63 c64 c65 c66 c67 c68 c69 c70 c71 c72 c73 c74 c75 c76 c77 c78 c79 c80 c81 c82 c83 c84 c85 c86 c87 c88 c89 c90 c91 c92 c93 c94 c95 c96 c97 c98 c99 c100 c101 c102 c103 c104 c105 c106 c107 c108 c109 c110 c111 c112 c113 c114 c115 c116 c117 c118 c119 c120 c121 c122 c123 c124 c125 c126 c127 c128 c129 c130 c131 c132 c133 c134 c135 c136 c137 c138 c139 c140 c141 c142 c143 c144 c145 c146 c147 c148 c149 c150 c151 c152 c153 c154 c155 c156 c157 c158 c159 c160 c161 c162 c163 c164 c165 c166 c167 c168 c169 c170 c171 c172 c173 c174 c175 c176 c177 c178 c179 c180 c181 c182 c183 c184 c185 c186 c187 c188 c189 c190 c191 c192 c193 c194 c195 c196 c197 c198 c199 c200 c201 c202 c203 c204 c205 c206 c207 c208 c209 c210 c211 c212 c213 c214 c215 c216 c217 c218 c219 c220 c221 c222 c223 c224 c225 c226 c227 c228 c229 c230 c231 c232 c233 c234 c235 c236 c237 c238 c239 c240 c241 c242 c243 c244 c245 c246 c247 c248 c249 c250 c251 c252 c253 c254 c255 c256 c257 c258 c259 c260 c261 c262 c263 c264 c265 c266 c267 c268 c269 c270 c271 c272 c273 c274 c275 c276 c277 c278 c279 c280 c281 c282 c283 c284 c285 c286 c287 c288 c289 c290 c291 c292 c293 c294 c295 c296 c297 c298 c299 c300 c301 c302 c303 c304 c305 c306 c307 c308 c309 c310 c311 c312 c313 c314 c315 c316 c317 c318 c319 c320 c321 c322 c323 c324 c325 c326 c327 c328 c329 c330 c331 c332 c333 c334 c335 c336 c337 c338 c339 : Value)
    (hblk : w6.heap[base]? = some (.cells cs 51 (0, 0))) (hkey : Cells64 w6 gK R (fun j => κ.keys.getD j 0)) (hm : ∀ j, j < ML → w6.cell? ⟨gM, j, none⟩ = some (.int .u8 (M.getD j 0 : Nat))) (hs : Cells64 w6 gS 8 (fun j => κ.init.getD j 0)) (hfr : ∀ j, w6.frozen? ⟨gS, j, none⟩ = false)
    (hMlt : gM < w6.heap.size) (hn1 : base ≠ gS) (hn2 : gK ≠ gS) (hn3 : gM ≠ gS)
    (hexit : ∀ (u8 u9 u10 u11 u12 u13 u14 u15 u16 u17 u18 u19 u20 u21 u56 u57 u58 u59 u60 u61 u62 u63 u64 u65 u66 u67 u68 u69 u70 u71 u72 u73 u74 u75 u76 u77 u78 u79 u80 u81 u82 u83 u84 u85 u86 u87 u88 u89 u90 u91 u92 u93 u94 u95 u96 u97 u98 u99 u100 u101 u102 u103 u104 u105 u106 u107 u108 u109 u110 u111 u112 u113 u114 u115 u116 u117 u118 u119 u120 u121 u122 u123 u124 u125 u126 u127 u128 u129 u130 u131 u132 u133 u134 u135 u136 u137 u138 u139 u140 u141 u142 u143 u144 u145 u146 u147 u148 u149 u150 u151 u152 u153 u154 u155 u156 u157 u158 u159 u160 u161 u162 u163 u164 u165 u166 u167 u168 u169 u170 u171 u172 u173 u174 u175 u176 u177 u178 u179 u180 u181 u182 u183 u184 u185 u186 u187 u188 u189 u190 u191 u192 u193 u194 u195 u196 u197 u198 u199 u200 u201 u202 u203 u204 u205 u206 u207 u208 u209 u210 u211 u212 u213 u214 u215 u216 u217 u218 u219 u220 u221 u222 u223 u224 u225 u226 u227 u228 u229 u230 u231 u232 u233 u234 u235 u236 u237 u238 u239 u240 u241 u242 u243 u244 u245 u246 u247 u248 u249 u250 u251 u252 u253 u254 u255 u256 u257 u258 u259 u260 u261 u262 u263 u264 u265 u266 u267 u268 u269 u270 u271 u272 u273 u274 u275 u276 u277 u278 u279 u280 u281 u282 u283 u284 u285 u286 u287 u288 u289 u290 u291 u292 u293 u294 u295 u296 u297 u298 u299 u300 u301 u302 u303 u304 u305 u306 u307 u308 u309 u310 u311 u312 u313 u314 u315 u316 u317 u318 u319 u320 u321 : Value) (w' : World), Cells64 w' gS 8 (fun j => (Sha.stateN κ M nb).getD j 0) → w6.grownBy w' (some gS) → Q0 (.exit 2) ⟨#[c0, c1, (.pointer (some ⟨base, 0, none⟩)), c3, c4, (.int .i64 (wide : Nat)), (.slice (some ⟨gM, 0, none⟩) ML cM), (.slice (some ⟨gS, 0, none⟩) 8 cS), u8, u9, u10, u11, u12, u13, u14, u15, u16, u17, u18, u19, u20, u21, c22, c23, c24, c25, c26, c27, c28, c29, c30, c31, c32, c33, c34, c35, c36, c37, c38, c39, c40, c41, c42, c43, c44, c45, c46, c47, c48, c49, c50, c51, c52, c53, c54, c55, u56, u57, u58, u59, u60, u61, u62, u63, u64, u65, u66, u67, u68, u69, u70, u71, u72, u73, u74, u75, u76, u77, u78, u79, u80, u81, u82, u83, u84, u85, u86, u87, u88, u89, u90, u91, u92, u93, u94, u95, u96, u97, u98, u99, u100, u101, u102, u103, u104, u105, u106, u107, u108, u109, u110, u111, u112, u113, u114, u115, u116, u117, u118, u119, u120, u121, u122, u123, u124, u125, u126, u127, u128, u129, u130, u131, u132, u133, u134, u135, u136, u137, u138, u139, u140, u141, u142, u143, u144, u145, u146, u147, u148, u149, u150, u151, u152, u153, u154, u155, u156, u157, u158, u159, u160, u161, u162, u163, u164, u165, u166, u167, u168, u169, u170, u171, u172, u173, u174, u175, u176, u177, u178, u179, u180, u181, u182, u183, u184, u185, u186, u187, u188, u189, u190, u191, u192, u193, u194, u195, u196, u197, u198, u199, u200, u201, u202, u203, u204, u205, u206, u207, u208, u209, u210, u211, u212, u213, u214, u215, u216, u217, u218, u219, u220, u221, u222, u223, u224, u225, u226, u227, u228, u229, u230, u231, u232, u233, u234, u235, u236, u237, u238, u239, u240, u241, u242, u243, u244, u245, u246, u247, u248, u249, u250, u251, u252, u253, u254, u255, u256, u257, u258, u259, u260, u261, u262, u263, u264, u265, u266, u267, u268, u269, u270, u271, u272, u273, u274, u275, u276, u277, u278, u279, u280, u281, u282, u283, u284, u285, u286, u287, u288, u289, u290, u291, u292, u293, u294, u295, u296, u297, u298, u299, u300, u301, u302, u303, u304, u305, u306, u307, u308, u309, u310, u311, u312, u313, u314, u315, u316, u317, u318, u319, u320, u321, c322, c323, c324, c325, c326, c327, c328, c329, c330, c331, c332, c333, c334, c335, c336, c337, c338, c339], []⟩ w') :
    Code.wp Try.prog (sumLoop 1) Q0 ⟨#[c0, c1, (.pointer (some ⟨base, 0, none⟩)), c3, c4, (.int .i64 (wide : Nat)), (.slice (some ⟨gM, 0, none⟩) ML cM), (.slice (some ⟨gS, 0, none⟩) 8 cS), (.int .i64 0), c9, c10, c11, c12, c13, c14, c15, c16, c17, c18, c19, c20, c21, c22, c23, c24, c25, c26, c27, c28, c29, c30, c31, c32, c33, c34, c35, c36, c37, c38, c39, c40, c41, c42, c43, c44, c45, c46, c47, c48, c49, c50, c51, c52, c53, c54, c55, c56, c57, c58, c59, c60, c61, c62, c63, c64, c65, c66, c67, c68, c69, c70, c71, c72, c73, c74, c75, c76, c77, c78, c79, c80, c81, c82, c83, c84, c85, c86, c87, c88, c89, c90, c91, c92, c93, c94, c95, c96, c97, c98, c99, c100, c101, c102, c103, c104, c105, c106, c107, c108, c109, c110, c111, c112, c113, c114, c115, c116, c117, c118, c119, c120, c121, c122, c123, c124, c125, c126, c127, c128, c129, c130, c131, c132, c133, c134, c135, c136, c137, c138, c139, c140, c141, c142, c143, c144, c145, c146, c147, c148, c149, c150, c151, c152, c153, c154, c155, c156, c157, c158, c159, c160, c161, c162, c163, c164, c165, c166, c167, c168, c169, c170, c171, c172, c173, c174, c175, c176, c177, c178, c179, c180, c181, c182, c183, c184, c185, c186, c187, c188, c189, c190, c191, c192, c193, c194, c195, c196, c197, c198, c199, c200, c201, c202, c203, c204, c205, c206, c207, c208, c209, c210, c211, c212, c213, c214, c215, c216, c217, c218, c219, c220, c221, c222, c223, c224, c225, c226, c227, c228, c229, c230, c231, c232, c233, c234, c235, c236, c237, c238, c239, c240, c241, c242, c243, c244, c245, c246, c247, c248, c249, c250, c251, c252, c253, c254, c255, c256, c257, c258, c259, c260, c261, c262, c263, c264, c265, c266, c267, c268, c269, c270, c271, c272, c273, c274, c275, c276, c277, c278, c279, c280, c281, c282, c283, c284, c285, c286, c287, c288, c289, c290, c291, c292, c293, c294, c295, c296, c297, c298, c299, c300, c301, c302, c303, c304, c305, c306, c307, c308, c309, c310, c311, c312, c313, c314, c315, c316, c317, c318, c319, c320, c321, c322, c323, c324, c325, c326, c327, c328, c329, c330, c331, c332, c333, c334, c335, c336, c337, c338, c339], []⟩ w6 := by
  obtain ⟨i0, hi, hz0, hz1, hz2⟩ := info_parts info58
  have hR1 := ka.R1
  have hR0 := ka.R0
  have hw4 : 4 ≤ wide ∧ wide ≤ 8 := by rcases ka.w4 with h | h <;> omega
  have hmk : ∀ u : World, (Instr.makeSlice 49 (.int .i64 (R : Int)) (.int .i64 (R : Int))).run Try.prog u =
      .ok (.slice (some ⟨u.heap.size, 0, none⟩) R R) (u.alloc (.cells (rowOf .u64 R (fun _ => 0)).toArray 58)) := fun u => by
    have h := run_make (P := Try.prog) u 49 58 i0 (.int .u64 0) Try.underlying49 hi hz0 .i64 .i64 (R : Int) (R : Int) (by omega) (Int.le_refl _) (by rw [hz2]; omega) (by omega)
    rw [show ((R : Int)).toNat = R by omega] at h
    rw [← madeCells_row]
    simpa [hz1, Value.cells] using h
  have KA := Lib.hid ka
  have HNB := Lib.hid hnb
  have HBLK := Lib.hid hblk
  have HKEY := Lib.hid hkey
  have HM := Lib.hid hm
  have HS := Lib.hid hs
  have HFR := Lib.hid hfr
  have HML := Lib.hid hMl
  have HM8 := Lib.hid hM8
  have hbl : base < w6.heap.size := (Array.getElem?_eq_some_iff.1 hblk).1
  have hgS : gS < w6.heap.size := block_lt_of_cell (hs 0 (by decide))
  have hgK : gK < w6.heap.size := block_lt_of_cell (hkey 0 (by omega))
  clear ka hnb hblk hkey hm hs hfr hMl hM8 hi hz0 hz1 hz2
  dsimp only at hexit ⊢
  conv => arg 2; whnf
  go_loopw [8] (fun v wr => ∃ (q A : Nat), q ≤ nb ∧ A = 16 * wide * q ∧ v = .int .i64 (A : Nat) ∧ w6.grownBy wr (some gS) ∧ Cells64 wr gS 8 (fun j => (Sha.stateN κ M q).getD j 0) ∧ (∀ j, wr.frozen? ⟨gS, j, none⟩ = false)) (fun v _ => (ML - intOf v).toNat)
  case atStart => exact ⟨0, 0, by omega, by simp, rfl, ⟨rfl, rfl, rfl, Nat.le_refl _, fun _ _ _ => rfl⟩, HS.out, HFR.out⟩
  case round =>
    obtain ⟨q, A, hq, hA, rfl, hg, hst, hfs⟩ := hrel
    have hAM : A ≤ ML := by rw [hA, HNB.out]; exact Nat.mul_le_mul_left _ hq
    have HG := Lib.hid hg
    have HST := Lib.hid hst
    have HFS := Lib.hid hfs
    have hsz6 := hg.size
    by_cases hqt : q < nb
    · have hA2 : A + 16 * wide ≤ ML := by
        have : 16 * wide * (q + 1) ≤ 16 * wide * nb := Nat.mul_le_mul_left _ hqt
        rw [Nat.mul_add, Nat.mul_one, ← hA, ← HNB.out] at this
        exact this
      have HA := Lib.hid hA
      have hat : A < ML := by omega
      have q1 : wr.cell? ⟨base, 1, none⟩ = some (.int .i64 (R : Nat)) := (hg.cell_far ⟨base, 1, none⟩ hbl (fun e => hn1 (by injection e))).trans ((cell_of_row w6 base 1 cs 51 (0, 0) HBLK.out).trans KA.out.h1)
      clear hA hg hst hfs
      go_wp2_with fail
      have hrow0 := Row.new wr 58 .u64 R (fun _ => 0) _ rfl
      have hbel0 : Below wr.heap.size wr (wr.alloc (.cells (rowOf .u64 R (fun _ => 0)).toArray 58)) := (Below.refl _ _).alloc (Nat.le_refl _) _
      obtain ⟨W3, hW3⟩ : ∃ v, v = wr.alloc (.cells (rowOf .u64 R (fun _ => 0)).toArray 58) := ⟨_, rfl⟩
      rw [← hW3] at hrow0 hbel0 ⊢
      obtain ⟨bl, hbl⟩ : ∃ bl, bl = (M.drop A).take (16 * wide) := ⟨_, rfl⟩
      have hbll : bl.length = 16 * wide := by rw [hbl, List.length_take, List.length_drop, HML.out]; omega
      have hbl8 : ∀ c ∈ bl, c < 256 := fun c hc => by rw [hbl] at hc; exact HM8.out c (List.mem_of_mem_drop (List.mem_of_mem_take hc))
      have hmb : ∀ j, j < 16 * wide → W3.cell? ⟨gM, A + j, none⟩ = some (.int .u8 (bl.getD j 0 : Nat)) := fun j hj => by
        have h1 := HM.out (A + j) (by omega)
        have h2 : bl.getD j 0 = M.getD (A + j) 0 := by
          rw [hbl, List.getD_eq_getElem?_getD, List.getD_eq_getElem?_getD, List.getElem?_take, if_pos hj, List.getElem?_drop]
        rw [h2, ← h1, ← HG.out.cell_far ⟨gM, A + j, none⟩ hMlt (fun e => hn3 (by injection e))]
        exact hbel0.cell (p := ⟨gM, A + j, none⟩) (by show gM < _; omega)
      have hblk3 : ∀ b, b < w6.heap.size → b ≠ gS → W3.heap[b]? = w6.heap[b]? := fun b hb hne =>
        (hbel0.block b (by omega)).trans (HG.out.block b hb (by intro e; injection e with e; exact hne e))
      have HB0 := Lib.hid hbel0
      have HBL3 := Lib.hid hblk3
      have HBL := Lib.hid hbl
      have HBLL := Lib.hid hbll
      have HBL8 := Lib.hid hbl8
      have hW3s : W3.heap.size = wr.heap.size + 1 := by rw [hW3]; simp
      have HW3S := Lib.hid hW3s
      clear hW3 hbel0 hblk3 hbl q1 hW3s
      refine wordLoop κ wide KA.out.w8 KA.out.w4 R hR0 hR1 gM ML cM A wr.heap.size hML hA2 bl hbll hbl8 W3 _ _ _ _ _ _ _ _ _ _ _ _ _ _ _ _ _ _ _ _ _ _ _ _ _ _ _ _ _ _ _ _ _ _ _ _ _ _ _ _ _ _ _ _ _ _ _ _ _ _ _ _ _ _ _ _ _ _ _ _ _ _ _ _ _ _ _ _ _ _ _ _ _ _ _ _ _ _ _ _ _ _ _ _ _ _ _ _ _ _ _ _ _ _ _ _ _ _ _ _ _ _ _ _ _ _ _ _ _ _ _ _ _ _ _ _ _ _ _ _ _ _ _ _ _ _ _ _ _ _ _ _ _ _ _ _ _ _ _ _ _ _ _ _ _ _ _ _ _ _ _ _ _ _ _ _ _ _ _ _ _ _ _ _ _ _ _ _ _ _ _ _ _ _ _ _ _ _ _ _ _ _ _ _ _ _ _ _ _ _ _ _ _ _ _ _ _ _ _ _ _ _ _ _ _ _ _ _ _ _ _ _ _ _ _ _ _ _ _ _ _ _ _ _ _ _ _ _ _ _ _ _ _ _ _ _ _ _ _ _ _ _ _ _ _ _ _ _ _ _ _ _ _ _ _ _ _ _ _ _ _ _ _ _ _ _ _ _ _ _ _ _ _ _ _ _ _ _ _ _ _ _ _ _ _ _ _ _ _ _ _ _ _ _ _ _ _ _ _ _ _ _ _ _ _ _ _ _ _ _ _ _ _ _ _ _ _ _ _ _ _ _ _ _ _ _ _ _ _ _ _ _ _ _ _ _ hmb hrow0 (by omega) ?_
      clear hmb hrow0 hbll hbl8
      intro u10 u11 u67 u68 u69 u70 u71 u72 u73 u74 u75 u76 u77 u78 u79 u80 u81 u82 u83 u84 u85 u86 u87 u88 u89 u90 u91 u92 u93 u94 u95 w2 hrow2 hg2
      have HROW2 := Lib.hid hrow2
      have HG2 := Lib.hid hg2
      clear hrow2 hg2
      go_wp2_with fail
      have hblk2 : ∀ b, b < w6.heap.size → b ≠ gS → w2.heap[b]? = w6.heap[b]? := fun b hb hne =>
        (HG2.out.block b (by rw [HW3S.out]; omega) (by intro e; injection e with e; omega)).trans (HBL3.out b hb hne)
      have HBL2 := Lib.hid hblk2
      refine schedLoop κ KA.out.wd cs KA.out.kc R hR0 hR1 base wr.heap.size bl HBL8.out w2 _ _ _ _ _ _ _ _ _ _ _ _ _ _ _ _ _ _ _ _ _ _ _ _ _ _ _ _ _ _ _ _ _ _ _ _ _ _ _ _ _ _ _ _ _ _ _ _ _ _ _ _ _ _ _ _ _ _ _ _ _ _ _ _ _ _ _ _ _ _ _ _ _ _ _ _ _ _ _ _ _ _ _ _ _ _ _ _ _ _ _ _ _ _ _ _ _ _ _ _ _ _ _ _ _ _ _ _ _ _ _ _ _ _ _ _ _ _ _ _ _ _ _ _ _ _ _ _ _ _ _ _ _ _ _ _ _ _ _ _ _ _ _ _ _ _ _ _ _ _ _ _ _ _ _ _ _ _ _ _ _ _ _ _ _ _ _ _ _ _ _ _ _ _ _ _ _ _ _ _ _ _ _ _ _ _ _ _ _ _ _ _ _ _ _ _ _ _ _ _ _ _ _ _ _ _ _ _ _ _ _ _ _ _ _ _ _ _ _ _ _ _ _ _ _ _ _ _ _ _ _ _ _ _ _ _ _ _ _ _ _ _ _ _ _ _ _ _ _ _ _ _ _ _ _ _ _ _ _ _ _ _ _ _ _ _ _ _ _ _ _ _ _ _ _ _ _ _ _ _ _ _ _ _ _ _ _ _ _ _ _ _ _ _ _ _ _ _ _ _ _ _ _ _ _ _ _ _ _ _ _ _ _ _ _ _ _ _ _ _ _ _ _ _ _ _ _ _ _ _ _ _ _ _ _ _ _ _ ((hblk2 base hbl hn1).trans HBLK.out) KA.out.h1 KA.out.h3 KA.out.h4 KA.out.h5 KA.out.h6 KA.out.h7 KA.out.h8 KA.out.j3 KA.out.j4 KA.out.j5 KA.out.j8 KA.out.j6 KA.out.j7 HROW2.out (by omega) ?_
      clear hblk2
      intro u12 u13 u14 u96 u97 u98 u99 u100 u101 u102 u103 u104 u105 u106 u107 u108 u109 u110 u111 u112 u113 u114 u115 u116 u117 u118 u119 u120 u121 u122 u123 u124 u125 u126 u127 u128 u129 u130 u131 u132 u133 u134 u135 u136 u137 u138 u139 u140 u141 u142 u143 u144 u145 u146 u147 u148 u149 u150 u151 u152 u153 u154 u155 u156 u157 u158 u159 u160 u161 u162 u163 u164 u165 u166 u167 w4 hrow4 hg4
      have HROW4 := Lib.hid hrow4
      have HG4 := Lib.hid hg4
      clear hrow4 hg4
      obtain ⟨st, hste⟩ : ∃ l, l = Sha.stateN κ M q := ⟨_, rfl⟩
      have hstl : st.length = 8 := by rw [hste]; exact Sha.length_stateN κ KA.out.i8 M q
      have hstlt : ∀ j, st.getD j 0 < 2 ^ κ.w := by rw [hste]; exact Sha.stateN_lt κ KA.out.il M q
      have hs2 := HG2.out.size
      have hs4 := HG4.out.size
      rw [HW3S.out] at hs2
      have hblk4 : ∀ b, b < w6.heap.size → b ≠ gS → w4.heap[b]? = w6.heap[b]? := fun b hb hne =>
        (HG4.out.block b (by omega) (by intro e; injection e with e; omega)).trans (HBL2.out b hb hne)
      have hgs4 : ∀ b, b < wr.heap.size → w4.heap[b]? = wr.heap[b]? := fun b hb =>
        ((HG4.out.block b (by omega) (by intro e; injection e with e; omega)).trans (HG2.out.block b (by rw [HW3S.out]; omega) (by intro e; injection e with e; omega))).trans (HB0.out.block b hb)
      have hcst : Cells64 w4 gS 8 (fun j => st.getD j 0) := fun j hj => (World.cell?_of_block (hgs4 gS (by omega))).trans (by rw [hste]; exact HST.out j hj)
      have hfs4 : ∀ j, w4.frozen? ⟨gS, j, none⟩ = false := fun j => by
        have h1 := HFS.out j
        unfold World.frozen? at h1 ⊢
        rw [hgs4 gS (by omega)]
        exact h1
      have HSTE := Lib.hid hste
      have HSTL := Lib.hid hstl
      have HSTLT := Lib.hid hstlt
      have HCST := Lib.hid (hcst.below ((Below.refl w4.heap.size w4).alloc (Nat.le_refl _) (.cells #[] 58)))
      have HCST0 := Lib.hid hcst
      have HFS4 := Lib.hid hfs4
      have HBL4 := Lib.hid hblk4
      have HGS4 := Lib.hid hgs4
      clear hste hstl hstlt hblk4 hgs4 hcst hfs4 HBL2 HROW2
      go_wp2_with (at_builtin; refine wpList_append_u64 rfl _ _ 49 rfl Try.underlying49 info58 rfl (Owns64.lit (base := w4.heap.size) w4 [] #[] (Nat.le_refl _) rfl (by decide)) ⟨gS, 0, none⟩ 8 cS st rfl HSTL.out ?g1 ?g2 ?g3 ?_)
      case g1 => intro k hk; rw [addr_add0]; exact HCST.out k hk
      case g2 => decide
      case g3 => simp
      intro vv w7 ho7 hg7 _
      obtain ⟨gv, cv, rfl, hgv, _, hcv, _⟩ := ho7.form (by show 0 < st.length; rw [HSTL.out]; decide)
      have hb7 : Below w4.heap.size w4 w7 := ((Below.refl _ _).alloc (Nat.le_refl _) _).grown hg7 (by simp) (fun k hk => by simp [Value.ownBlock] at hk; omega)
      have hl8 : st.length = 8 := HSTL.out
      have hcv8 : Cells64 w7 gv 8 (fun j => st.getD j 0) := fun j hj => hcv j (by rw [hl8]; exact hj)
      rw [hl8]
      have hs7 := hb7.size
      have HB7 := Lib.hid hb7
      have HCV := Lib.hid hcv8
      clear ho7 hg7 hcv hl8 hcv8 hb7 HCST
      go_wp2_with fail
      have hgvS : gS ≠ gv := by omega
      have hw4r : wr.heap.size < w4.heap.size := by omega
      have hkeys : Cells64 w7 gK R (fun j => κ.keys.getD j 0) := fun j hj =>
        (World.cell?_of_block ((HB7.out.block gK (by omega)).trans (HBL4.out gK hgK hn2))).trans (HKEY.out j hj)
      have hws : Cells64 w7 wr.heap.size R (fun j => (Sha.grow κ (Sha.words κ bl) (R - 16)).getD j 0) := fun j hj =>
        (HB7.out.cell (p := ⟨wr.heap.size, j, none⟩) hw4r).trans (HROW4.out.cell hj)
      have hblk7 : w7.heap[base]? = some (.cells cs 51 (0, 0)) := (HB7.out.block base (by omega)).trans ((HBL4.out base hbl hn1).trans HBLK.out)
      refine roundLoop κ KA.out.wd cs KA.out.kc R hR1 base gS wr.heap.size gK cK gv cv (Sha.grow κ (Sha.words κ bl) (R - 16)) st w7 _ _ _ _ _ _ _ _ _ _ _ _ _ _ _ _ _ _ _ _ _ _ _ _ _ _ _ _ _ _ _ _ _ _ _ _ _ _ _ _ _ _ _ _ _ _ _ _ _ _ _ _ _ _ _ _ _ _ _ _ _ _ _ _ _ _ _ _ _ _ _ _ _ _ _ _ _ _ _ _ _ _ _ _ _ _ _ _ _ _ _ _ _ _ _ _ _ _ _ _ _ _ _ _ _ _ _ _ _ _ _ _ _ _ _ _ _ _ _ _ _ _ _ _ _ _ _ _ _ _ _ _ _ _ _ _ _ _ _ _ _ _ _ _ _ _ _ _ _ _ _ _ _ _ _ _ _ _ _ _ _ _ _ _ _ _ _ _ _ _ _ _ _ _ _ _ _ _ _ _ _ _ _ _ _ _ _ _ _ _ _ _ _ _ _ _ _ _ _ _ _ _ _ _ _ _ _ _ _ _ _ _ _ _ _ _ _ _ _ _ _ _ _ _ _ _ _ _ _ _ _ _ _ _ _ _ _ _ _ _ _ _ _ _ _ _ _ _ _ _ _ _ _ _ _ _ _ _ _ _ _ _ _ _ _ _ _ _ _ _ _ _ _ _ _ _ _ _ _ _ _ _ _ _ _ _ _ _ _ _ _ _ _ _ _ _ _ _ _ _ _ _ _ _ _ _ _ _ _ _ _ _ _ _ _ _ _ _ _ _ _ _ _ _ _ _ _ _ _ _ _ _ _ _ _ _ _ hblk7 KA.out.h1 KA.out.h9 KA.out.h10 KA.out.h11 KA.out.h12 KA.out.h13 KA.out.h14 KA.out.h15 KA.out.j9 KA.out.j10 KA.out.j11 KA.out.j12 KA.out.j13 KA.out.j14 hkeys hws HCV.out HSTLT.out hgvS (by omega) ?_
      clear hkeys hws hblk7
      intro u16 u17 u18 u19 u20 u171 u172 u173 u174 u175 u176 u177 u178 u179 u180 u181 u182 u183 u184 u185 u186 u187 u188 u189 u190 u191 u192 u193 u194 u195 u196 u197 u198 u199 u200 u201 u202 u203 u204 u205 u206 u207 u208 u209 u210 u211 u212 u213 u214 u215 u216 u217 u218 u219 u220 u221 u222 u223 u224 u225 u226 u227 u228 u229 u230 u231 u232 u233 u234 u235 u236 u237 u238 u239 u240 u241 u242 u243 u244 u245 u246 u247 u248 u249 u250 u251 u252 u253 u254 u255 u256 u257 u258 u259 u260 u261 u262 u263 u264 u265 u266 u267 u268 u269 u270 u271 u272 u273 u274 u275 u276 u277 u278 u279 u280 u281 u282 u283 u284 u285 u286 u287 u288 u289 u290 u291 u292 u293 u294 u295 u296 u297 u298 u299 u300 u301 u302 u303 gx cx w8 hcx hnx hb8
      have HCX := Lib.hid hcx
      have HB8 := Lib.hid hb8
      have hs8 := hb8.size
      clear hcx hb8
      go_wp2_with fail
      have hblk8 : w8.heap[base]? = some (.cells cs 51 (0, 0)) := (HB8.out.block base (by omega)).trans ((HB7.out.block base (by omega)).trans ((HBL4.out base hbl hn1).trans HBLK.out))
      have hst8 : ∀ j, (∀ v, w4.cell? ⟨gS, j, none⟩ = some v → w8.cell? ⟨gS, j, none⟩ = some v) := fun j v hv =>
        (HB8.out.cell (p := ⟨gS, j, none⟩) (by show gS < _; omega)).trans ((HB7.out.cell (p := ⟨gS, j, none⟩) (by show gS < _; omega)).trans hv)
      have hfs8 : ∀ j, w8.frozen? ⟨gS, j, none⟩ = false := fun j =>
        (HB8.out.frozen (p := ⟨gS, j, none⟩) (by show gS < _; omega)).trans ((HB7.out.frozen (p := ⟨gS, j, none⟩) (by show gS < _; omega)).trans (HFS4.out j))
      refine stateLoop κ.w KA.out.wd cs KA.out.kc base gS cS gx cx (fun j => st.getD j 0) (Sha.rF κ (Sha.grow κ (Sha.words κ bl) (R - 16)) st R) w8 _ _ _ _ _ _ _ _ _ _ _ _ _ _ _ _ _ _ _ _ _ _ _ _ _ _ _ _ _ _ _ _ _ _ _ _ _ _ _ _ _ _ _ _ _ _ _ _ _ _ _ _ _ _ _ _ _ _ _ _ _ _ _ _ _ _ _ _ _ _ _ _ _ _ _ _ _ _ _ _ _ _ _ _ _ _ _ _ _ _ _ _ _ _ _ _ _ _ _ _ _ _ _ _ _ _ _ _ _ _ _ _ _ _ _ _ _ _ _ _ _ _ _ _ _ _ _ _ _ _ _ _ _ _ _ _ _ _ _ _ _ _ _ _ _ _ _ _ _ _ _ _ _ _ _ _ _ _ _ _ _ _ _ _ _ _ _ _ _ _ _ _ _ _ _ _ _ _ _ _ _ _ _ _ _ _ _ _ _ _ _ _ _ _ _ _ _ _ _ _ _ _ _ _ _ _ _ _ _ _ _ _ _ _ _ _ _ _ _ _ _ _ _ _ _ _ _ _ _ _ _ _ _ _ _ _ _ _ _ _ _ _ _ _ _ _ _ _ _ _ _ _ _ _ _ _ _ _ _ _ _ _ _ _ _ _ _ _ _ _ _ _ _ _ _ _ _ _ _ _ _ _ _ _ _ _ _ _ _ _ _ _ _ _ _ _ _ _ _ _ _ _ _ _ _ _ _ _ _ _ _ _ _ _ _ _ _ _ _ _ _ _ _ _ _ _ _ _ _ _ _ _ _ _ _ _ _ hblk8 (fun j hj => hst8 j _ (HCST0.out j hj)) HCX.out (fun j _ => HSTLT.out j) (Sha.rF_lt κ _ st HSTLT.out R) hfs8 hnx hn1 ?_
      clear hblk8 hst8 hfs8
      intro u21 u304 u305 u306 u307 u308 u309 u310 u311 u312 u313 u314 u315 u316 u317 u318 u319 u320 u321 w9 hc9 hf9 hg9
      have HC9 := Lib.hid hc9
      have HF9 := Lib.hid hf9
      have HG9 := Lib.hid hg9
      clear hc9 hf9 hg9
      go_wp2_with fail
      refine ⟨⟨q + 1, A + 16 * wide, hqt, ?_, rfl, ?_, ?_, HF9.out⟩, by simp [intOf]; omega⟩
      · rw [Nat.mul_add, Nat.mul_one, ← HA.out]
      · refine grownBy_trans HG.out ⟨?_, ?_, ?_, ?_, ?_⟩
        · rw [HG9.out.os, HB8.out.os, HB7.out.os, HG4.out.os, HG2.out.os, HB0.out.os]
        · rw [HG9.out.tape, HB8.out.tape, HB7.out.tape, HG4.out.tape, HG2.out.tape, HB0.out.tape]
        · rw [HG9.out.output, HB8.out.output, HB7.out.output, HG4.out.output, HG2.out.output, HB0.out.output]
        · have := HG9.out.size; omega
        · intro b hb hne
          rw [HG9.out.block b (by omega) hne, HB8.out.block b (by omega), HB7.out.block b (by omega)]
          exact HGS4.out b hb
      · intro j hj
        rw [HC9.out j hj]
        have e1 : Sha.stateN κ M (q + 1) = Sha.next κ st bl := by
          show Sha.next κ (Sha.stateN κ M q) ((M.drop (q * κ.block)).take κ.block) = _
          rw [HSTE.out, HBL.out, KA.out.bk, Nat.mul_comm q, ← HA.out]
        dsimp only
        rw [e1, Sha.next_getD _ _ _ _ hj, ← KA.out.Rk]
    · have hqn : q = nb := by omega
      rw [hqn] at hst hA
      have hAL : A = ML := by rw [hA, HNB.out]
      have HST := Lib.hid hst
      clear hA hg hst hfs
      go_wp2_with fail
      exact hexit _ _ _ _ _ _ _ _ _ _ _ _ _ _ _ _ _ _ _ _ _ _ _ _ _ _ _ _ _ _ _ _ _ _ _ _ _ _ _ _ _ _ _ _ _ _ _ _ _ _ _ _ _ _ _ _ _ _ _ _ _ _ _ _ _ _ _ _ _ _ _ _ _ _ _ _ _ _ _ _ _ _ _ _ _ _ _ _ _ _ _ _ _ _ _ _ _ _ _ _ _ _ _ _ _ _ _ _ _ _ _ _ _ _ _ _ _ _ _ _ _ _ _ _ _ _ _ _ _ _ _ _ _ _ _ _ _ _ _ _ _ _ _ _ _ _ _ _ _ _ _ _ _ _ _ _ _ _ _ _ _ _ _ _ _ _ _ _ _ _ _ _ _ _ _ _ _ _ _ _ _ _ _ _ _ _ _ _ _ _ _ _ _ _ _ _ _ _ _ _ _ _ _ _ _ _ _ _ _ _ _ _ _ _ _ _ _ _ _ _ _ _ _ _ _ _ _ _ _ _ _ _ _ _ _ _ _ _ _ _ _ _ _ _ _ _ _ _ _ _ _ _ _ _ _ _ _ _ _ _ _ _ _ _ _ _ _ _ _ _ _ _ _ _ _ _ _ _ _ _ wr HST.out HG.out
end Go.Proofs.Ytjlhckgokdjajaa
