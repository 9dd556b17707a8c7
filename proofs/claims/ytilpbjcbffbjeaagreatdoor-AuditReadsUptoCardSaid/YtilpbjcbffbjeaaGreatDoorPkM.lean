/- Plain facts for the reference's Sum: its bytes, its padding, its sums of numbers.
   The loops of the reference's Sum, taken out of its text by a function.
   The reference's Sum, cut into declarations: the loop that adds to the state. (Written by gen_loops.py.)
   The reference's Sum, cut into declarations: the loop of the rounds. (Written by gen_loops.py.)
   The reference's Sum, cut into declarations: the loop of the schedule. (Written by gen_loops.py.)
   The reference's Sum, cut into declarations: the loop of the words. (Written by gen_loops.py.)
   The reference's Sum, cut into declarations: the loop of the blocks. (Written by gen_loops.py.) -/
import Derived.Test.YtilpbjcbffbjeaaGreatDoorPkL
import Derived.Test.YtilpbjcbffbjeaaGreatDoorPkA
import Derived.Test.YtilpbjcbffbjeaaGreatDoorHState
import Derived.Test.YtilpbjcbffbjeaaGreatDoorHSum32
namespace Go.Proofs.YtilpbjcbffbjeaaGreatDoor
set_option linter.unusedVariables false
open Go.RowKit
theorem rb_64 (x : Nat) : rb x 8 = Sha.bytesOf 64 x := by
  unfold rb Sha.bytesOf
  refine List.map_congr_left fun j hj => ?_
  have := List.mem_range.1 hj
  unfold rbAt
  rw [if_neg (by omega), show 64 - 8 - 8 * j = 8 * (8 - 1 - j) by omega]
theorem rb_32 (x : Nat) : rb x 4 = Sha.bytesOf 32 x := by
  unfold rb Sha.bytesOf
  refine List.map_congr_left fun j hj => ?_
  have := List.mem_range.1 hj
  unfold rbAt
  rw [if_neg (by omega), show 32 - 8 - 8 * j = 8 * (4 - 1 - j) by omega]
theorem rb_128 (x : Nat) : rb x 16 = List.replicate 8 0 ++ Sha.bytesOf 64 x := by
  unfold rb
  rw [show List.range 16 = List.range 8 ++ (List.range 8).map (8 + ·) by decide, List.map_append, List.map_map]
  refine congr (congrArg _ ?_) ?_
  · refine List.ext_getElem? fun j => ?_
    by_cases hj : j < 8
    · have e : rbAt x 16 j = 0 := by unfold rbAt; rw [if_pos (by omega)]
      rw [List.getElem?_replicate, if_pos hj, List.getElem?_map, List.getElem?_range hj, Option.map_some, e]
    · rw [List.getElem?_eq_none (by simp; omega), List.getElem?_eq_none (by simp; omega)]
  · unfold Sha.bytesOf
    refine List.map_congr_left fun j hj => ?_
    have := List.mem_range.1 hj
    show rbAt x 16 (8 + j) = _
    unfold rbAt
    rw [if_neg (by omega), show 64 - 8 - 8 * j = 8 * (16 - 1 - (8 + j)) by omega]
/-- The message, whole. -/
theorem msg32 (t : List Nat) (h : t.length ≤ 100000000000000) : (t ++ 128 :: List.replicate ((119 - t.length % 64) % 64) 0) ++ rb (8 * t.length) 8 = t ++ Sha.pad Sha.k32 t.length := by
  unfold Sha.pad
  rw [rb_64, Nat.mod_eq_of_lt (show 8 * t.length < 2 ^ 64 by omega), List.append_assoc]
  rfl
theorem msg64 (t : List Nat) (h : t.length ≤ 100000000000000) : (t ++ 128 :: List.replicate ((239 - t.length % 128) % 128) 0) ++ rb (8 * t.length) 16 = t ++ Sha.pad Sha.k64 t.length := by
  unfold Sha.pad
  rw [rb_128, Nat.mod_eq_of_lt (show 8 * t.length < 2 ^ 64 by omega), List.append_assoc]
  rfl
theorem length_pad32 (n : Nat) : (Sha.pad Sha.k32 n).length = 1 + (119 - n % 64) % 64 + 8 := by
  unfold Sha.pad
  simp only [List.length_cons, List.length_append, List.length_replicate]
  show (119 - n % 64) % 64 + (0 + 8) + 1 = _
  omega
theorem length_pad64 (n : Nat) : (Sha.pad Sha.k64 n).length = 1 + (239 - n % 128) % 128 + 16 := by
  unfold Sha.pad
  simp only [List.length_cons, List.length_append, List.length_replicate]
  show (239 - n % 128) % 128 + (8 + 8) + 1 = _
  omega
theorem wpart_lt_pow (w : Nat) : ∀ (l : List Nat), (∀ c ∈ l, c < 256) → Sha.wpart w l < 2 ^ (8 * l.length) := by
  have h : ∀ (l : List Nat) (n a : Nat), a < 2 ^ (8 * n) → (∀ c ∈ l, c < 256) → l.foldl (fun acc c => (acc * 256 % 2 ^ w) ||| c) a < 2 ^ (8 * (n + l.length)) := by
    intro l
    induction l with
    | nil => intro n a ha _; exact ha
    | cons c l ih =>
      intro n a ha hc
      have e : 2 ^ (8 * (n + 1)) = 2 ^ (8 * n) * 256 := by rw [Nat.mul_add, Nat.pow_add]
      have h1 : a * 256 % 2 ^ w < 2 ^ (8 * (n + 1)) := by
        refine Nat.lt_of_le_of_lt (Nat.mod_le _ _) ?_
        rw [e]
        exact Nat.mul_lt_mul_of_pos_right ha (by decide)
      have h2 : c < 2 ^ (8 * (n + 1)) := by
        have := hc c (by simp)
        have := Nat.two_pow_pos (8 * n)
        rw [e]
        omega
      have := ih (n + 1) _ (Nat.or_lt_two_pow h1 h2) (fun c' hc' => hc c' (by simp [hc']))
      rw [List.foldl_cons, List.length_cons, show n + (l.length + 1) = n + 1 + l.length by omega]
      exact this
  intro l hl
  have := h l 0 0 (by decide) hl
  rwa [Nat.zero_add] at this
theorem wF_lt_pow (κ : Sha.Kind) (bl : List Nat) (i m : Nat) (hm : κ.w / 8 * i + m ≤ bl.length) (hb : ∀ c ∈ bl, c < 256) : Sha.wF κ bl i m i < 2 ^ (8 * m) := by
  unfold Sha.wF
  rw [if_neg (Nat.lt_irrefl i), if_pos rfl]
  have h := wpart_lt_pow κ.w ((bl.drop (κ.w / 8 * i)).take m) (fun c hc => hb c (List.mem_of_mem_drop (List.mem_of_mem_take hc)))
  have hl : ((bl.drop (κ.w / 8 * i)).take m).length = m := by rw [List.length_take, List.length_drop]; omega
  rwa [hl] at h
/-- A byte more of a word, in memory. -/
theorem rwRow_step (κ : Sha.Kind) {wr : World} {Bw R : Nat} {bl : List Nat} {i m x c y : Nat} (hlen : κ.w / 8 * i + m < bl.length) (hR : i < R) (hw : 8 * (m + 1) ≤ κ.w) (hb : ∀ c ∈ bl, c < 256)
    (hx : Sha.wF κ bl i m i = x) (hc : bl.getD (κ.w / 8 * i + m) 0 = c) (hy : y = (x * 256 ||| c)) (h : Row wr Bw 199 .u64 R (Sha.wF κ bl i m)) :
    Row (wr.setCell ⟨Bw, i, none⟩ (.int .u64 (y : Nat))) Bw 199 .u64 R (Sha.wF κ bl i (m + 1)) := by
  refine (h.set hR y).congr fun j _ => ?_
  rw [Sha.wF_step κ bl i m hlen, hx, hc, hy]
  have hx2 : x < 2 ^ (8 * m) := by rw [← hx]; exact wF_lt_pow κ bl i m (by omega) hb
  have e : x * 256 % 2 ^ κ.w = x * 256 := by
    refine Nat.mod_eq_of_lt (Nat.lt_of_lt_of_le (Nat.mul_lt_mul_of_pos_right hx2 (by decide)) ?_)
    rw [show (256 : Nat) = 2 ^ 8 from rfl, ← Nat.pow_add]
    exact Nat.pow_le_pow_right (by decide) (by omega)
  rw [e]
/-- The sum of four numbers, cut. -/
theorem cut_add4 (wd a b c d : Nat) (hw : wd ≤ 64) : (((a + b) % 2 ^ 64 + c) % 2 ^ 64 + d) % 2 ^ 64 % 2 ^ wd = Sha.add wd (Sha.add wd (Sha.add wd a b) c) d := by
  have hd : 2 ^ wd ∣ 2 ^ 64 := Nat.pow_dvd_pow 2 hw
  unfold Sha.add
  rw [Nat.mod_mod_of_dvd _ hd]
  rw [Nat.add_mod (((a + b) % 2 ^ 64 + c) % 2 ^ 64), Nat.mod_mod_of_dvd _ hd, Nat.add_mod ((a + b) % 2 ^ 64), Nat.mod_mod_of_dvd _ hd]
  simp [Nat.add_mod]
theorem cut_add2 (wd a b : Nat) (hw : wd ≤ 64) : (a + b) % 2 ^ 64 % 2 ^ wd = Sha.add wd a b := by
  unfold Sha.add
  exact Nat.mod_mod_of_dvd _ (Nat.pow_dvd_pow 2 hw)
/-- A number more of the schedule, in memory. -/
theorem rgRow_step (κ : Sha.Kind) {wr : World} {Bw R : Nat} {bl : List Nat} {i z : Nat} {f : Nat → Nat} (h0 : 16 ≤ i) (hi : i < R) (hf : f = Sha.gF κ bl (i - 16))
    (hz : z = Sha.add κ.w (Sha.add κ.w (Sha.add κ.w (f (i - 16)) (Sha.mix κ.w (f (i - 15)) κ.a.1 κ.a.2.1 κ.a.2.2 true)) (f (i - 7))) (Sha.mix κ.w (f (i - 2)) κ.b.1 κ.b.2.1 κ.b.2.2 true))
    (h : Row wr Bw 199 .u64 R f) : Row (wr.setCell ⟨Bw, i, none⟩ (.int .u64 (z : Nat))) Bw 199 .u64 R (Sha.gF κ bl (i + 1 - 16)) := by
  refine (h.set hi z).congr fun j _ => ?_
  rw [show i + 1 - 16 = (i - 16) + 1 by omega, Sha.gF_step, ← hf, show 16 + (i - 16) = i by omega, hz]
theorem grownBy_trans {a b c : World} {r : Option Nat} (h1 : a.grownBy b r) (h2 : b.grownBy c r) : a.grownBy c r :=
  ⟨h2.os.trans h1.os, h2.tape.trans h1.tape, h2.output.trans h1.output, Nat.le_trans h1.size h2.size, fun k hk hne => (h2.block k (Nat.lt_of_lt_of_le hk h1.size) hne).trans (h1.block k hk hne)⟩
theorem below_grownBy {a b : World} (h : Below a.heap.size a b) (r : Option Nat) : a.grownBy b r := ⟨h.os, h.tape, h.output, h.size, fun k hk _ => h.block k hk⟩
theorem xor_u64v (a b c : Nat) (ha : a < 2 ^ 64) (hb : b < 2 ^ 64) (hc : c = a ^^^ b) : bits .xor .u64 (a : Int) (b : Int) = (c : Int) := by rw [hc]; exact xor_u64 a b ha hb
theorem and_u64v (a b c : Nat) (ha : a < 2 ^ 64) (hb : b < 2 ^ 64) (hc : c = a &&& b) : bits .and .u64 (a : Int) (b : Int) = (c : Int) := by rw [hc]; exact and_u64 a b ha hb
theorem wrap_u64v (a b c : Nat) (hc : c = (a + b) % 2 ^ 64) : IntKind.u64.wrap ((a : Int) + (b : Int)) = (c : Int) := by rw [hc, IntKind.wrap_u64]; omega
theorem max_u64' : IntKind.u64.max = ((18446744073709551615 : Nat) : Int) := by decide
theorem not_u64v (x c : Nat) (hx : x < 2 ^ 64) (hc : c = 2 ^ 64 - 1 - x) : bits .xor .u64 IntKind.u64.max (x : Int) = (c : Int) := by
  rw [max_u64', xor_u64 _ _ (by decide) hx, hc]
  congr 1
  refine Nat.eq_of_testBit_eq fun i => ?_
  rw [Nat.testBit_xor, show 18446744073709551615 = 2 ^ 64 - 1 by rfl, Nat.testBit_two_pow_sub_one, show 2 ^ 64 - 1 - x = 2 ^ 64 - (x + 1) by omega, Nat.testBit_two_pow_sub_succ hx]
  by_cases h : i < 64
  · simp [h]
  · simp [h, Nat.testBit_lt_two_pow (Nat.lt_of_lt_of_le hx (Nat.pow_le_pow_right (by decide) (Nat.le_of_not_lt h)))]
theorem not_cut (wd x : Nat) (hw : wd ≤ 64) (hx : x < 2 ^ wd) : (2 ^ 64 - 1 - x) % 2 ^ wd = 2 ^ wd - 1 - x := by
  have h1 : 2 ^ 64 = 2 ^ wd * 2 ^ (64 - wd) := by rw [← Nat.pow_add]; congr 1; omega
  obtain ⟨m, hm⟩ : ∃ m, m = 2 ^ (64 - wd) := ⟨_, rfl⟩
  have hm0 : 0 < m := by rw [hm]; exact Nat.two_pow_pos _
  have h2 : 2 ^ 64 - 1 - x = (2 ^ wd - 1 - x) + 2 ^ wd * (m - 1) := by
    rw [h1, ← hm, Nat.mul_sub, Nat.mul_one]
    have : 2 ^ wd ≤ 2 ^ wd * m := Nat.le_mul_of_pos_right _ hm0
    omega
  rw [h2, Nat.add_mul_mod_self_left, Nat.mod_eq_of_lt (by omega)]
/-- A round's first sum, uncut. -/
def t64 (κ : Sha.Kind) (f : Nat → Nat) (ki wi : Nat) : Nat :=
  (((f 7 + Sha.mix κ.w (f 4) κ.c.1 κ.c.2.1 κ.c.2.2 false) % 2 ^ 64 + ((f 4 &&& f 5) ^^^ ((2 ^ κ.w - 1 - f 4) &&& f 6))) % 2 ^ 64 + ki) % 2 ^ 64 + wi
theorem mod_mod64 (wd a b : Nat) (hw : wd ≤ 64) : (a % 2 ^ 64 + b) % 2 ^ wd = (a % 2 ^ wd + b) % 2 ^ wd := by
  rw [Nat.add_mod, Nat.mod_mod_of_dvd _ (Nat.pow_dvd_pow 2 hw), ← Nat.add_mod, Nat.add_mod (a % 2 ^ wd), Nat.mod_mod, ← Nat.add_mod]
theorem t64_cut (κ : Sha.Kind) (hw : κ.w ≤ 64) (f : Nat → Nat) (ki wi : Nat) : t64 κ f ki wi % 2 ^ 64 % 2 ^ κ.w = Sha.tF κ f ki wi := by
  unfold t64 Sha.tF Sha.add
  rw [Nat.mod_mod_of_dvd _ (Nat.pow_dvd_pow 2 hw), mod_mod64 κ.w _ _ hw, mod_mod64 κ.w _ _ hw, mod_mod64 κ.w _ _ hw]
def u64s (κ : Sha.Kind) (f : Nat → Nat) : Nat := Sha.mix κ.w (f 0) κ.d.1 κ.d.2.1 κ.d.2.2 false + (((f 0 &&& f 1) ^^^ (f 0 &&& f 2)) ^^^ (f 1 &&& f 2))
theorem u64_cut (κ : Sha.Kind) (hw : κ.w ≤ 64) (f : Nat → Nat) : u64s κ f % 2 ^ 64 % 2 ^ κ.w = Sha.uF κ f := by
  unfold u64s Sha.uF Sha.add
  exact Nat.mod_mod_of_dvd _ (Nat.pow_dvd_pow 2 hw)
theorem add_cut (wd a b a' b' : Nat) (hw : wd ≤ 64) (ha : a % 2 ^ wd = a') (hb : b % 2 ^ wd = b') : (a + b) % 2 ^ 64 % 2 ^ wd = Sha.add wd a' b' := by
  unfold Sha.add
  rw [Nat.mod_mod_of_dvd _ (Nat.pow_dvd_pow 2 hw), ← ha, ← hb, ← Nat.add_mod]
theorem getD_flatMap_bytes (w : Nat) (st : List Nat) (i : Nat) (h : i < st.length) : (st.take (i + 1)).flatMap (Sha.bytesOf w) = (st.take i).flatMap (Sha.bytesOf w) ++ Sha.bytesOf w (st.getD i 0) := by
  rw [take_succ_getD st i 0 h, List.flatMap_append]
  simp
end Go.Proofs.YtilpbjcbffbjeaaGreatDoor
namespace Go.Proofs.YtilpbjcbffbjeaaGreatDoor
set_option linter.unusedVariables false
open Go.RowKit
/-- The loops of a text, the outer ones first. -/
def loopsOf : Code → List Code
  | .loop c => .loop c :: loopsOf c
  | .seq a b => loopsOf a ++ loopsOf b
  | .block _ c => loopsOf c
  | .scope c => loopsOf c
  | .cond _ a b => loopsOf a ++ loopsOf b
  | _ => []
noncomputable def sumLoop (n : Nat) : Code := (((Tryz.f143.body.map loopsOf).getD [])[n]?).getD .skip
end Go.Proofs.YtilpbjcbffbjeaaGreatDoor
namespace Go.Proofs.YtilpbjcbffbjeaaGreatDoor
set_option linter.unusedVariables false
open Go.RowKit
set_option maxRecDepth 1000000 in
set_option maxHeartbeats 4000000 in
theorem stateLoop (wd : Nat) (hwd : WD wd) (cs : Array Value) (hk : KCells cs wd) (base gS cS gx cx : Nat) (s v : Nat → Nat) (w4 : World) (Q0 : Exit → Act → World → Prop) (c0 c1 c3 c4 c5 c6 c8 c9 c10 c11 c12 c13 c14 c16 c17 c18 c19 c20 c22 c23 c24 c25 c26 c27 c28 c29 c30 c31 c32 c33 c34 c35 c36 c37 c38 c39 c40 c41 c42 c43 c44 c45 c46 c47 c48 c49 c50 c51 c52 c53 c54 c55 c56 c57 c58 c59 c60 c61 c62 c63 c64 c65 c66 c67 c68 c69 c70 c71 c72 c73 c74 c75 c76 c77 c78 c79 c80 c81 c82 c83 c84 c85 c86 c87 c88 c89 c90 c91 c92 c93 c94 c95 c96 c97 c98 c99 c100 c101 c102 c103 c104 c105 c106 c107 c108 c109 c110 c111 c112 c113 c114 c115 c116 c117 c118 c119 c120 c121 c122 c123 c124 c125 c126 c127 c128 c129 c130 c131 c132 c133 c134 c135 c136 c137 c138 c139 c140 c141 c142 c143 c144 c145 c146 c147 c148 c149 c150 c151 c152 c153 c154 c155 c156 c157 c158 c159 c160 c161 c162 c163 c164 c165 c166 c167 c168 c169 c170 c171 c172 c173 c174 c175 c176 c177 c178 c179 c180 c181 c182 c183 c184 c185 c186 c187 c188 c189 c190 c191 c192 c193 c194 c195 c196 c197 c198 c199 c200 c201 c202 c203 c204 c205 c206 c207 c208 c209 c210 c211 c212 c213 c214 c215 c216 c217 c218 c219 c220 c221 c222 c223 c224 c225 c226 c227 c228 c229 c230 c231 c232 c233 c234 c235 c236 c237 c238 c239 c240 c241 c242 c243 c244 c245 c246 c247 c248 c249 c250 c251 c252 c253 c254 c255 c256 c257 c258 c259 c260 c261 c262 c263 c264 c265 c266 c267 c268 c269 c270 c271 c272 c273 c274 c275 c276 c277 c278 c279 c280 c281 c282 c283 c284 c285 c286 c287 c288 c289 c290 c291 c292 c293 c294 c295 c296 c297 c298 c299 c300 c301 c302 c303 c304 c305 c306 c307 c308 c309 c310 c311 c312 c313 c314 c315 c316 c317 c318 c319 c320 c321 c322 c323 c324 c325 c326 c327 c328 c329 c330 c331 c332 c333 c334 c335 c336 c337 c338 c339 : Value)
    (hblk : w4.heap[base]? = some (.cells cs 230 (0, 0))) (hs : Cells64 w4 gS 8 s) (hv : Cells64 w4 gx 8 v) (hsl : ∀ j, j < 8 → s j < 2 ^ wd) (hvl : ∀ j, j < 8 → v j < 2 ^ wd) (hfr : ∀ j, w4.frozen? ⟨gS, j, none⟩ = false) (hne : gS ≠ gx) (hneb : base ≠ gS)
    (hexit : ∀ (u21 u304 u305 u306 u307 u308 u309 u310 u311 u312 u313 u314 u315 u316 u317 u318 u319 u320 u321 : Value) (w' : World), Cells64 w' gS 8 (fun j => Sha.add wd (v j) (s j)) → (∀ j, w'.frozen? ⟨gS, j, none⟩ = false) → w4.grownBy w' (some gS) → Q0 (.exit 12) ⟨#[c0, c1, (.pointer (some ⟨base, 0, none⟩)), c3, c4, c5, c6, (.slice (some ⟨gS, 0, none⟩) 8 cS), c8, c9, c10, c11, c12, c13, c14, (.slice (some ⟨gx, 0, none⟩) 8 cx), c16, c17, c18, c19, c20, u21, c22, c23, c24, c25, c26, c27, c28, c29, c30, c31, c32, c33, c34, c35, c36, c37, c38, c39, c40, c41, c42, c43, c44, c45, c46, c47, c48, c49, c50, c51, c52, c53, c54, c55, c56, c57, c58, c59, c60, c61, c62, c63, c64, c65, c66, c67, c68, c69, c70, c71, c72, c73, c74, c75, c76, c77, c78, c79, c80, c81, c82, c83, c84, c85, c86, c87, c88, c89, c90, c91, c92, c93, c94, c95, c96, c97, c98, c99, c100, c101, c102, c103, c104, c105, c106, c107, c108, c109, c110, c111, c112, c113, c114, c115, c116, c117, c118, c119, c120, c121, c122, c123, c124, c125, c126, c127, c128, c129, c130, c131, c132, c133, c134, c135, c136, c137, c138, c139, c140, c141, c142, c143, c144, c145, c146, c147, c148, c149, c150, c151, c152, c153, c154, c155, c156, c157, c158, c159, c160, c161, c162, c163, c164, c165, c166, c167, c168, c169, c170, c171, c172, c173, c174, c175, c176, c177, c178, c179, c180, c181, c182, c183, c184, c185, c186, c187, c188, c189, c190, c191, c192, c193, c194, c195, c196, c197, c198, c199, c200, c201, c202, c203, c204, c205, c206, c207, c208, c209, c210, c211, c212, c213, c214, c215, c216, c217, c218, c219, c220, c221, c222, c223, c224, c225, c226, c227, c228, c229, c230, c231, c232, c233, c234, c235, c236, c237, c238, c239, c240, c241, c242, c243, c244, c245, c246, c247, c248, c249, c250, c251, c252, c253, c254, c255, c256, c257, c258, c259, c260, c261, c262, c263, c264, c265, c266, c267, c268, c269, c270, c271, c272, c273, c274, c275, c276, c277, c278, c279, c280, c281, c282, c283, c284, c285, c286, c287, c288, c289, c290, c291, c292, c293, c294, c295, c296, c297, c298, c299, c300, c301, c302, c303, u304, u305, u306, u307, u308, u309, u310, u311, u312, u313, u314, u315, u316, u317, u318, u319, u320, u321, c322, c323, c324, c325, c326, c327, c328, c329, c330, c331, c332, c333, c334, c335, c336, c337, c338, c339], []⟩ w') :
    Code.wp Tryz.prog (sumLoop 6) Q0 ⟨#[c0, c1, (.pointer (some ⟨base, 0, none⟩)), c3, c4, c5, c6, (.slice (some ⟨gS, 0, none⟩) 8 cS), c8, c9, c10, c11, c12, c13, c14, (.slice (some ⟨gx, 0, none⟩) 8 cx), c16, c17, c18, c19, c20, (.int .i64 0), c22, c23, c24, c25, c26, c27, c28, c29, c30, c31, c32, c33, c34, c35, c36, c37, c38, c39, c40, c41, c42, c43, c44, c45, c46, c47, c48, c49, c50, c51, c52, c53, c54, c55, c56, c57, c58, c59, c60, c61, c62, c63, c64, c65, c66, c67, c68, c69, c70, c71, c72, c73, c74, c75, c76, c77, c78, c79, c80, c81, c82, c83, c84, c85, c86, c87, c88, c89, c90, c91, c92, c93, c94, c95, c96, c97, c98, c99, c100, c101, c102, c103, c104, c105, c106, c107, c108, c109, c110, c111, c112, c113, c114, c115, c116, c117, c118, c119, c120, c121, c122, c123, c124, c125, c126, c127, c128, c129, c130, c131, c132, c133, c134, c135, c136, c137, c138, c139, c140, c141, c142, c143, c144, c145, c146, c147, c148, c149, c150, c151, c152, c153, c154, c155, c156, c157, c158, c159, c160, c161, c162, c163, c164, c165, c166, c167, c168, c169, c170, c171, c172, c173, c174, c175, c176, c177, c178, c179, c180, c181, c182, c183, c184, c185, c186, c187, c188, c189, c190, c191, c192, c193, c194, c195, c196, c197, c198, c199, c200, c201, c202, c203, c204, c205, c206, c207, c208, c209, c210, c211, c212, c213, c214, c215, c216, c217, c218, c219, c220, c221, c222, c223, c224, c225, c226, c227, c228, c229, c230, c231, c232, c233, c234, c235, c236, c237, c238, c239, c240, c241, c242, c243, c244, c245, c246, c247, c248, c249, c250, c251, c252, c253, c254, c255, c256, c257, c258, c259, c260, c261, c262, c263, c264, c265, c266, c267, c268, c269, c270, c271, c272, c273, c274, c275, c276, c277, c278, c279, c280, c281, c282, c283, c284, c285, c286, c287, c288, c289, c290, c291, c292, c293, c294, c295, c296, c297, c298, c299, c300, c301, c302, c303, c304, c305, c306, c307, c308, c309, c310, c311, c312, c313, c314, c315, c316, c317, c318, c319, c320, c321, c322, c323, c324, c325, c326, c327, c328, c329, c330, c331, c332, c333, c334, c335, c336, c337, c338, c339], []⟩ w4 := by
  have HK := Lib.hid hk
  have HWD := Lib.hid hwd
  have HBLK := Lib.hid hblk
  have HS := Lib.hid hs
  have HV := Lib.hid hv
  have HSL := Lib.hid hsl
  have HVL := Lib.hid hvl
  have HFR := Lib.hid hfr
  have hgS : gS < w4.heap.size := block_lt_of_cell (hs 0 (by decide))
  have hbl : base < w4.heap.size := (Array.getElem?_eq_some_iff.1 hblk).1
  have hwd64 : 2 ^ wd ≤ 18446744073709551616 := by rcases hwd with rfl | rfl <;> decide
  have hwd6 : wd ≤ 64 := by rcases hwd with rfl | rfl <;> decide
  clear hk hwd hblk hs hv hsl hvl hfr
  dsimp only at hexit ⊢
  conv => arg 2; whnf
  go_loopw [21] (fun v21 wr => ∃ i : Nat, i ≤ 8 ∧ v21 = .int .i64 (i : Nat) ∧ Cells64 wr gS 8 (fun j => if j < i then Sha.add wd (v j) (s j) else s j) ∧ (∀ j, wr.frozen? ⟨gS, j, none⟩ = false) ∧ w4.grownBy wr (some gS)) (fun v21 _ => (8 - intOf v21).toNat)
  case atStart => exact ⟨0, by omega, rfl, fun j hj => by dsimp only; rw [if_neg (by omega)]; exact HS.out j hj, HFR.out, ⟨rfl, rfl, rfl, Nat.le_refl _, fun _ _ _ => rfl⟩⟩
  case round =>
    obtain ⟨p, hp, rfl, hcp, hfp, hgp⟩ := hrel
    have HCP := Lib.hid hcp
    have HFP := Lib.hid hfp
    have HGP := Lib.hid hgp
    have hszp := hgp.size
    clear hcp hfp hgp
    by_cases hpt : p < 8
    · obtain ⟨x, hx⟩ : ∃ x, x = s p := ⟨_, rfl⟩
      obtain ⟨y, hy⟩ : ∃ y, y = v p := ⟨_, rfl⟩
      have p1 : ∀ t : Grow wr, t.val.cell? ⟨gS, p, none⟩ = some (.int .u64 (x : Nat)) := fun t => by
        have := HCP.out p hpt
        dsimp only at this
        rw [if_neg (by omega), ← hx] at this
        exact t.cell this
      have p2 : ∀ t : Grow wr, t.val.cell? ⟨gx, p, none⟩ = some (.int .u64 (y : Nat)) := fun t => by
        have h1 := HV.out p hpt
        rw [hy]
        exact t.cell ((HGP.out.cell_far ⟨gx, p, none⟩ (block_lt_of_cell h1) (fun e => hne (by injection e with e; exact e.symm))).trans h1)
      have kl : ∀ t : Grow wr, (kindLoad (.pointer (some ⟨base, 0, none⟩))).run Tryz.prog t.val = .ok (.value (.agg cs)) t.val := fun t => by
        refine run_kindLoad _ _ _ HK.out.n ?_
        rw [t.below.block _ (by omega), HGP.out.block _ (by omega) (by intro e; injection e with e; omega)]
        exact HBLK.out
      obtain ⟨u, hu⟩ : ∃ u, u = (x + y) % 2 ^ 64 := ⟨_, rfl⟩
      obtain ⟨z, hz⟩ : ∃ z, z = u % 2 ^ wd := ⟨_, rfl⟩
      have E1 := wrap_u64v x y u hu
      have C1 : Hid (∀ t : Grow wr, Calls Tryz.prog 165 #[.agg cs, .int .u64 (u : Nat)] t.val fun e w' => e = .returned (.int .u64 (z : Nat)) ∧ Below t.val.heap.size t.val w') := fun t => by rw [hz]; exact rcutW cs wd HWD.out HK.out u (by rw [hu]; exact Nat.mod_lt _ (by decide)) t.val
      have HZ : Hid (z = Sha.add wd (v p) (s p)) := by
        rw [hz, hu, cut_add2 wd x y hwd6, hx, hy]
        unfold Hid Sha.add
        rw [Nat.add_comm]
      clear hx hy hu hz
      go_wp2_with fail
      refine wp_region_fam_tail 14 (by kernel_rfl) (by kernel_rfl) Grow.val (Grow.start wr) ?_
      simp only [List.take_succ_cons, List.take_zero, List.drop_succ_cons, List.drop_zero]
      repeat go_big_quiet_step ((with_reducible refine Calls.fam_of (C1.out _) (Grow.more _)))
      refine wpQuiet_nil ?_
      intro t
      have q4 := p1 t
      have q5 : t.val.frozen? ⟨gS, p, none⟩ = false := (t.below.frozen (p := ⟨gS, p, none⟩) (by show gS < wr.heap.size; omega)).trans (HFP.out p)
      clear p1 p2 kl E1 C1
      go_wp2_with fail
      refine ⟨⟨p + 1, by omega, rfl, fun j hj => ?_, fun j => ?_, grownBy_trans (grownBy_trans HGP.out (below_grownBy t.below _)) (grownBy_setCell _ _ _ _)⟩, by simp [intOf]; omega⟩
      · by_cases hjp : j = p
        · dsimp only
          rw [hjp, if_pos (by omega), ← HZ.out]
          exact World.cell?_setCell_same _ _ _ q4
        · rw [World.cell?_setCell_other _ _ _ _ (by intro e; injection e with _ e; exact hjp e.symm)]
          have h1 := t.cell (HCP.out j hj)
          rw [h1]
          dsimp only
          by_cases hlt : j < p
          · rw [if_pos hlt, if_pos (by omega)]
          · rw [if_neg hlt, if_neg (by omega)]
      · rw [World.frozen?_setCell]
        exact (t.below.frozen (p := ⟨gS, j, none⟩) (by show gS < wr.heap.size; omega)).trans (HFP.out j)
    · have hcf : Cells64 wr gS 8 (fun j => Sha.add wd (v j) (s j)) := fun j hj => by
        have h1 := HCP.out j hj
        dsimp only at h1
        rw [if_pos (by omega)] at h1
        exact h1
      have HCF := Lib.hid hcf
      clear hcf
      go_wp2_with fail
      exact hexit _ _ _ _ _ _ _ _ _ _ _ _ _ _ _ _ _ _ _ wr HCF.out HFP.out HGP.out
end Go.Proofs.YtilpbjcbffbjeaaGreatDoor
namespace Go.Proofs.YtilpbjcbffbjeaaGreatDoor
set_option linter.unusedVariables false
open Go.RowKit
set_option maxRecDepth 1000000 in
set_option maxHeartbeats 8000000 in
theorem roundLoop (κ : Sha.Kind) (hwd : WD κ.w) (cs : Array Value) (hk : KCells cs κ.w) (R : Nat) (hR : R ≤ 1000) (base gS Bw gK cK gv cv : Nat) (ws st : List Nat) (w7 : World) (Q0 : Exit → Act → World → Prop) (c0 c1 c3 c4 c5 c6 c7 c8 c10 c11 c12 c13 c14 c17 c18 c19 c20 c21 c22 c23 c24 c25 c26 c27 c28 c29 c30 c31 c32 c33 c34 c35 c36 c37 c38 c39 c40 c41 c42 c43 c44 c45 c46 c47 c48 c49 c50 c51 c52 c53 c54 c55 c56 c57 c58 c59 c60 c61 c62 c63 c64 c65 c66 c67 c68 c69 c70 c71 c72 c73 c74 c75 c76 c77 c78 c79 c80 c81 c82 c83 c84 c85 c86 c87 c88 c89 c90 c91 c92 c93 c94 c95 c96 c97 c98 c99 c100 c101 c102 c103 c104 c105 c106 c107 c108 c109 c110 c111 c112 c113 c114 c115 c116 c117 c118 c119 c120 c121 c122 c123 c124 c125 c126 c127 c128 c129 c130 c131 c132 c133 c134 c135 c136 c137 c138 c139 c140 c141 c142 c143 c144 c145 c146 c147 c148 c149 c150 c151 c152 c153 c154 c155 c156 c157 c158 c159 c160 c161 c162 c163 c164 c165 c166 c167 c168 c169 c170 c171 c172 c173 c174 c175 c176 c177 c178 c179 c180 c181 c182 c183 c184 c185 c186 c187 c188 c189 c190 c191 c192 c193 c194 c195 c196 c197 c198 c199 c200 c201 c202 c203 c204 c205 c206 c207 c208 c209 c210 c211 c212 c213 c214 c215 c216 c217 c218 c219 c220 c221 c222 c223 c224 c225 c226 c227 c228 c229 c230 c231 c232 c233 c234 c235 c236 c237 c238 c239 c240 c241 c242 c243 c244 c245 c246 c247 c248 c249 c250 c251 c252 c253 c254 c255 c256 c257 c258 c259 c260 c261 c262 c263 c264 c265 c266 c267 c268 c269 c270 c271 c272 c273 c274 c275 c276 c277 c278 c279 c280 c281 c282 c283 c284 c285 c286 c287 c288 c289 c290 c291 c292 c293 c294 c295 c296 c297 c298 c299 c300 c301 c302 c303 c304 c305 c306 c307 c308 c309 c310 c311 c312 c313 c314 c315 c316 c317 c318 c319 c320 c321 c322 c323 c324 c325 c326 c327 c328 c329 c330 c331 c332 c333 c334 c335 c336 c337 c338 c339 : Value)
    (hblk : w7.heap[base]? = some (.cells cs 230 (0, 0))) (h1 : cs[1]? = some (.int .i64 (R : Nat)))
    (h9 : cs[9]? = some (.int .i64 (κ.c.1 : Nat))) (h10 : cs[10]? = some (.int .i64 (κ.c.2.1 : Nat))) (h11 : cs[11]? = some (.int .i64 (κ.c.2.2 : Nat))) (h12 : cs[12]? = some (.int .i64 (κ.d.1 : Nat))) (h13 : cs[13]? = some (.int .i64 (κ.d.2.1 : Nat))) (h14 : cs[14]? = some (.int .i64 (κ.d.2.2 : Nat)))
    (h15 : cs[15]? = some (.slice (some ⟨gK, 0, none⟩) R cK)) (i9 : κ.c.1 ≤ κ.w) (i10 : κ.c.2.1 ≤ κ.w) (i11 : κ.c.2.2 ≤ κ.w) (i12 : κ.d.1 ≤ κ.w) (i13 : κ.d.2.1 ≤ κ.w) (i14 : κ.d.2.2 ≤ κ.w)
    (hK : Cells64 w7 gK R (fun j => κ.keys.getD j 0)) (hW : Cells64 w7 Bw R (fun j => ws.getD j 0)) (hv : Cells64 w7 gv 8 (fun j => st.getD j 0)) (hst : ∀ j, st.getD j 0 < 2 ^ κ.w) (hne : gS ≠ gv) (hgS : gS < w7.heap.size)
    (hexit : ∀ (u16 u17 u18 u19 u20 u171 u172 u173 u174 u175 u176 u177 u178 u179 u180 u181 u182 u183 u184 u185 u186 u187 u188 u189 u190 u191 u192 u193 u194 u195 u196 u197 u198 u199 u200 u201 u202 u203 u204 u205 u206 u207 u208 u209 u210 u211 u212 u213 u214 u215 u216 u217 u218 u219 u220 u221 u222 u223 u224 u225 u226 u227 u228 u229 u230 u231 u232 u233 u234 u235 u236 u237 u238 u239 u240 u241 u242 u243 u244 u245 u246 u247 u248 u249 u250 u251 u252 u253 u254 u255 u256 u257 u258 u259 u260 u261 u262 u263 u264 u265 u266 u267 u268 u269 u270 u271 u272 u273 u274 u275 u276 u277 u278 u279 u280 u281 u282 u283 u284 u285 u286 u287 u288 u289 u290 u291 u292 u293 u294 u295 u296 u297 u298 u299 u300 u301 u302 u303 : Value) (gx cx : Nat) (w' : World), Cells64 w' gx 8 (Sha.rF κ ws st R) → gS ≠ gx → Below w7.heap.size w7 w' → Q0 (.exit 10) ⟨#[c0, c1, (.pointer (some ⟨base, 0, none⟩)), c3, c4, c5, c6, c7, c8, (.slice (some ⟨Bw, 0, none⟩) R R), c10, c11, c12, c13, c14, (.slice (some ⟨gx, 0, none⟩) 8 cx), u16, u17, u18, u19, u20, c21, c22, c23, c24, c25, c26, c27, c28, c29, c30, c31, c32, c33, c34, c35, c36, c37, c38, c39, c40, c41, c42, c43, c44, c45, c46, c47, c48, c49, c50, c51, c52, c53, c54, c55, c56, c57, c58, c59, c60, c61, c62, c63, c64, c65, c66, c67, c68, c69, c70, c71, c72, c73, c74, c75, c76, c77, c78, c79, c80, c81, c82, c83, c84, c85, c86, c87, c88, c89, c90, c91, c92, c93, c94, c95, c96, c97, c98, c99, c100, c101, c102, c103, c104, c105, c106, c107, c108, c109, c110, c111, c112, c113, c114, c115, c116, c117, c118, c119, c120, c121, c122, c123, c124, c125, c126, c127, c128, c129, c130, c131, c132, c133, c134, c135, c136, c137, c138, c139, c140, c141, c142, c143, c144, c145, c146, c147, c148, c149, c150, c151, c152, c153, c154, c155, c156, c157, c158, c159, c160, c161, c162, c163, c164, c165, c166, c167, c168, c169, c170, u171, u172, u173, u174, u175, u176, u177, u178, u179, u180, u181, u182, u183, u184, u185, u186, u187, u188, u189, u190, u191, u192, u193, u194, u195, u196, u197, u198, u199, u200, u201, u202, u203, u204, u205, u206, u207, u208, u209, u210, u211, u212, u213, u214, u215, u216, u217, u218, u219, u220, u221, u222, u223, u224, u225, u226, u227, u228, u229, u230, u231, u232, u233, u234, u235, u236, u237, u238, u239, u240, u241, u242, u243, u244, u245, u246, u247, u248, u249, u250, u251, u252, u253, u254, u255, u256, u257, u258, u259, u260, u261, u262, u263, u264, u265, u266, u267, u268, u269, u270, u271, u272, u273, u274, u275, u276, u277, u278, u279, u280, u281, u282, u283, u284, u285, u286, u287, u288, u289, u290, u291, u292, u293, u294, u295, u296, u297, u298, u299, u300, u301, u302, u303, c304, c305, c306, c307, c308, c309, c310, c311, c312, c313, c314, c315, c316, c317, c318, c319, c320, c321, c322, c323, c324, c325, c326, c327, c328, c329, c330, c331, c332, c333, c334, c335, c336, c337, c338, c339], []⟩ w') :
    Code.wp Tryz.prog (sumLoop 5) Q0 ⟨#[c0, c1, (.pointer (some ⟨base, 0, none⟩)), c3, c4, c5, c6, c7, c8, (.slice (some ⟨Bw, 0, none⟩) R R), c10, c11, c12, c13, c14, (.slice (some ⟨gv, 0, none⟩) 8 cv), (.int .i64 0), c17, c18, c19, c20, c21, c22, c23, c24, c25, c26, c27, c28, c29, c30, c31, c32, c33, c34, c35, c36, c37, c38, c39, c40, c41, c42, c43, c44, c45, c46, c47, c48, c49, c50, c51, c52, c53, c54, c55, c56, c57, c58, c59, c60, c61, c62, c63, c64, c65, c66, c67, c68, c69, c70, c71, c72, c73, c74, c75, c76, c77, c78, c79, c80, c81, c82, c83, c84, c85, c86, c87, c88, c89, c90, c91, c92, c93, c94, c95, c96, c97, c98, c99, c100, c101, c102, c103, c104, c105, c106, c107, c108, c109, c110, c111, c112, c113, c114, c115, c116, c117, c118, c119, c120, c121, c122, c123, c124, c125, c126, c127, c128, c129, c130, c131, c132, c133, c134, c135, c136, c137, c138, c139, c140, c141, c142, c143, c144, c145, c146, c147, c148, c149, c150, c151, c152, c153, c154, c155, c156, c157, c158, c159, c160, c161, c162, c163, c164, c165, c166, c167, c168, c169, c170, c171, c172, c173, c174, c175, c176, c177, c178, c179, c180, c181, c182, c183, c184, c185, c186, c187, c188, c189, c190, c191, c192, c193, c194, c195, c196, c197, c198, c199, c200, c201, c202, c203, c204, c205, c206, c207, c208, c209, c210, c211, c212, c213, c214, c215, c216, c217, c218, c219, c220, c221, c222, c223, c224, c225, c226, c227, c228, c229, c230, c231, c232, c233, c234, c235, c236, c237, c238, c239, c240, c241, c242, c243, c244, c245, c246, c247, c248, c249, c250, c251, c252, c253, c254, c255, c256, c257, c258, c259, c260, c261, c262, c263, c264, c265, c266, c267, c268, c269, c270, c271, c272, c273, c274, c275, c276, c277, c278, c279, c280, c281, c282, c283, c284, c285, c286, c287, c288, c289, c290, c291, c292, c293, c294, c295, c296, c297, c298, c299, c300, c301, c302, c303, c304, c305, c306, c307, c308, c309, c310, c311, c312, c313, c314, c315, c316, c317, c318, c319, c320, c321, c322, c323, c324, c325, c326, c327, c328, c329, c330, c331, c332, c333, c334, c335, c336, c337, c338, c339], []⟩ w7 := by
  have hwd64 : 2 ^ κ.w ≤ 2 ^ 64 := by rcases hwd with h | h <;> rw [h] <;> decide
  have hwd6 : κ.w ≤ 64 := by rcases hwd with h | h <;> omega
  have LT : Hid (∀ x, x < 2 ^ κ.w → x < 2 ^ 64) := fun x h => Nat.lt_of_lt_of_le h hwd64
  have HK := Lib.hid hk
  have HWD := Lib.hid hwd
  have HBLK := Lib.hid hblk
  have HKEY := Lib.hid hK
  have HWS := Lib.hid hW
  have HST := Lib.hid hst
  have hbl : base < w7.heap.size := (Array.getElem?_eq_some_iff.1 hblk).1
  have HCELL : Hid (∀ (wt : World) (j : Nat) (v : Value), Below w7.heap.size w7 wt → cs[j]? = some v → wt.cell? ⟨base, j, none⟩ = some v) := fun wt j v hb hv =>
    (hb.cell (p := ⟨base, j, none⟩) hbl).trans ((cell_of_row w7 base j cs 230 (0, 0) hblk).trans hv)
  have H1 := Lib.hid h1
  have HH := Lib.hid (And.intro h9 (And.intro h10 (And.intro h11 (And.intro h12 (And.intro h13 (And.intro h14 h15))))))
  have HV := Lib.hid hv
  clear hwd hk hblk h1 h9 h10 h11 h12 h13 h14 h15 hK hW hv hst
  dsimp only at hexit ⊢
  conv => arg 2; whnf
  go_loopw [15, 16] (fun vv vn wr => ∃ (n gv cv : Nat), n ≤ R ∧ vn = .int .i64 (n : Nat) ∧ vv = .slice (some ⟨gv, 0, none⟩) 8 cv ∧ Cells64 wr gv 8 (Sha.rF κ ws st n) ∧ gS ≠ gv ∧ Below w7.heap.size w7 wr) (fun _ vn _ => (R - intOf vn).toNat)
  case atStart => exact ⟨0, gv, cv, by omega, rfl, rfl, HV.out, hne, Below.refl _ _⟩
  case round =>
    obtain ⟨n, gx, cx, hn, rfl, rfl, hcx, hnx, hbel⟩ := hrel
    have HCX := Lib.hid hcx
    have HB := Lib.hid hbel
    clear hcx hbel
    have q1 := HCELL.out wr 1 _ HB.out H1.out
    by_cases hnt : n < R
    · obtain ⟨f, hf⟩ : ∃ f, f = Sha.rF κ ws st n := ⟨_, rfl⟩
      have hcx := HCX.out
      rw [← hf] at hcx
      have hfl : ∀ j, j < 8 → f j < 2 ^ κ.w := by rw [hf]; exact Sha.rF_lt κ _ st HST.out n
      have HF2 := Lib.hid hf
      have HCF2 := Lib.hid hcx
      have l0 := hfl 0 (by decide)
      have l1 := hfl 1 (by decide)
      have l2 := hfl 2 (by decide)
      have l3 := hfl 3 (by decide)
      have l4 := hfl 4 (by decide)
      have l5 := hfl 5 (by decide)
      have l6 := hfl 6 (by decide)
      have l7 := hfl 7 (by decide)
      obtain ⟨f0, hf0⟩ : ∃ a, a = f 0 := ⟨_, rfl⟩
      obtain ⟨f1, hf1⟩ : ∃ a, a = f 1 := ⟨_, rfl⟩
      obtain ⟨f2, hf2⟩ : ∃ a, a = f 2 := ⟨_, rfl⟩
      obtain ⟨f3, hf3⟩ : ∃ a, a = f 3 := ⟨_, rfl⟩
      obtain ⟨f4, hf4⟩ : ∃ a, a = f 4 := ⟨_, rfl⟩
      obtain ⟨f5, hf5⟩ : ∃ a, a = f 5 := ⟨_, rfl⟩
      obtain ⟨f6, hf6⟩ : ∃ a, a = f 6 := ⟨_, rfl⟩
      obtain ⟨f7, hf7⟩ : ∃ a, a = f 7 := ⟨_, rfl⟩
      rw [← hf0] at l0
      rw [← hf1] at l1
      rw [← hf2] at l2
      rw [← hf3] at l3
      rw [← hf4] at l4
      rw [← hf5] at l5
      rw [← hf6] at l6
      rw [← hf7] at l7
      have v0 : ∀ t : Grow wr, t.val.cell? ⟨gx, 0, none⟩ = some (.int .u64 (f0 : Nat)) := fun t => by rw [hf0]; exact t.cell (HCF2.out 0 (by decide))
      have v1 : ∀ t : Grow wr, t.val.cell? ⟨gx, 1, none⟩ = some (.int .u64 (f1 : Nat)) := fun t => by rw [hf1]; exact t.cell (HCF2.out 1 (by decide))
      have v2 : ∀ t : Grow wr, t.val.cell? ⟨gx, 2, none⟩ = some (.int .u64 (f2 : Nat)) := fun t => by rw [hf2]; exact t.cell (HCF2.out 2 (by decide))
      have v3 : ∀ t : Grow wr, t.val.cell? ⟨gx, 3, none⟩ = some (.int .u64 (f3 : Nat)) := fun t => by rw [hf3]; exact t.cell (HCF2.out 3 (by decide))
      have v4 : ∀ t : Grow wr, t.val.cell? ⟨gx, 4, none⟩ = some (.int .u64 (f4 : Nat)) := fun t => by rw [hf4]; exact t.cell (HCF2.out 4 (by decide))
      have v5 : ∀ t : Grow wr, t.val.cell? ⟨gx, 5, none⟩ = some (.int .u64 (f5 : Nat)) := fun t => by rw [hf5]; exact t.cell (HCF2.out 5 (by decide))
      have v6 : ∀ t : Grow wr, t.val.cell? ⟨gx, 6, none⟩ = some (.int .u64 (f6 : Nat)) := fun t => by rw [hf6]; exact t.cell (HCF2.out 6 (by decide))
      have v7 : ∀ t : Grow wr, t.val.cell? ⟨gx, 7, none⟩ = some (.int .u64 (f7 : Nat)) := fun t => by rw [hf7]; exact t.cell (HCF2.out 7 (by decide))
      obtain ⟨ki, hki⟩ : ∃ a, a = κ.keys.getD n 0 := ⟨_, rfl⟩
      obtain ⟨wi, hwi⟩ : ∃ a, a = ws.getD n 0 := ⟨_, rfl⟩
      have x1 : ∀ t : Grow wr, t.val.cell? ⟨gK, n, none⟩ = some (.int .u64 (ki : Nat)) := fun t => by rw [hki]; exact t.cell ((HB.out.cell (p := ⟨gK, n, none⟩) (block_lt_of_cell (HKEY.out n hnt))).trans (HKEY.out n hnt))
      have x2 : ∀ t : Grow wr, t.val.cell? ⟨Bw, n, none⟩ = some (.int .u64 (wi : Nat)) := fun t => by rw [hwi]; exact t.cell ((HB.out.cell (p := ⟨Bw, n, none⟩) (block_lt_of_cell (HWS.out n hnt))).trans (HWS.out n hnt))
      have kl : ∀ t : Grow wr, (kindLoad (.pointer (some ⟨base, 0, none⟩))).run Tryz.prog t.val = .ok (.value (.agg cs)) t.val := fun t => by
        refine run_kindLoad _ _ _ HK.out.n ?_
        rw [t.below.block _ (Nat.lt_of_lt_of_le hbl HB.out.size), HB.out.block _ hbl]
        exact HBLK.out
      have kcl : ∀ (j : Nat) (v : Value), cs[j]? = some v → ∀ t : Grow wr, t.val.cell? ⟨base, j, none⟩ = some v := fun j v hv t => t.cell (HCELL.out wr j v HB.out hv)
      obtain ⟨e1, he1⟩ : ∃ a, a = κ.c.1 := ⟨_, rfl⟩
      obtain ⟨e2, he2⟩ : ∃ a, a = κ.c.2.1 := ⟨_, rfl⟩
      obtain ⟨e3, he3⟩ : ∃ a, a = κ.c.2.2 := ⟨_, rfl⟩
      obtain ⟨e4, he4⟩ : ∃ a, a = κ.d.1 := ⟨_, rfl⟩
      obtain ⟨e5, he5⟩ : ∃ a, a = κ.d.2.1 := ⟨_, rfl⟩
      obtain ⟨e6, he6⟩ : ∃ a, a = κ.d.2.2 := ⟨_, rfl⟩
      have k9 : ∀ t : Grow wr, t.val.cell? ⟨base, 9, none⟩ = some (.int .i64 (e1 : Nat)) := kcl 9 _ (by rw [he1]; exact HH.out.1)
      have k10 : ∀ t : Grow wr, t.val.cell? ⟨base, 10, none⟩ = some (.int .i64 (e2 : Nat)) := kcl 10 _ (by rw [he2]; exact HH.out.2.1)
      have k11 : ∀ t : Grow wr, t.val.cell? ⟨base, 11, none⟩ = some (.int .i64 (e3 : Nat)) := kcl 11 _ (by rw [he3]; exact HH.out.2.2.1)
      have k12 : ∀ t : Grow wr, t.val.cell? ⟨base, 12, none⟩ = some (.int .i64 (e4 : Nat)) := kcl 12 _ (by rw [he4]; exact HH.out.2.2.2.1)
      have k13 : ∀ t : Grow wr, t.val.cell? ⟨base, 13, none⟩ = some (.int .i64 (e5 : Nat)) := kcl 13 _ (by rw [he5]; exact HH.out.2.2.2.2.1)
      have k14 : ∀ t : Grow wr, t.val.cell? ⟨base, 14, none⟩ = some (.int .i64 (e6 : Nat)) := kcl 14 _ (by rw [he6]; exact HH.out.2.2.2.2.2.1)
      have k15 := kcl 15 _ HH.out.2.2.2.2.2.2
      have j1 : e1 ≤ κ.w := by rw [he1]; exact i9
      have j2 : e2 ≤ κ.w := by rw [he2]; exact i10
      have j3 : e3 ≤ κ.w := by rw [he3]; exact i11
      have j4 : e4 ≤ κ.w := by rw [he4]; exact i12
      have j5 : e5 ≤ κ.w := by rw [he5]; exact i13
      have j6 : e6 ≤ κ.w := by rw [he6]; exact i14
      clear kcl
      obtain ⟨a1, ha1⟩ : ∃ a, a = Sha.ror κ.w f4 e1 := ⟨_, rfl⟩
      obtain ⟨a2, ha2⟩ : ∃ a, a = Sha.ror κ.w f4 e2 := ⟨_, rfl⟩
      obtain ⟨a3, ha3⟩ : ∃ a, a = Sha.ror κ.w f4 e3 := ⟨_, rfl⟩
      obtain ⟨b1, hb1⟩ : ∃ a, a = Sha.ror κ.w f0 e4 := ⟨_, rfl⟩
      obtain ⟨b2, hb2⟩ : ∃ a, a = Sha.ror κ.w f0 e5 := ⟨_, rfl⟩
      obtain ⟨b3, hb3⟩ : ∃ a, a = Sha.ror κ.w f0 e6 := ⟨_, rfl⟩
      have C1 : Hid (∀ t : Grow wr, Calls Tryz.prog 166 #[.agg cs, .int .u64 (f4 : Nat), .int .i64 (e1 : Nat)] t.val fun e w' => e = .returned (.int .u64 (a1 : Nat)) ∧ Below t.val.heap.size t.val w') := fun t => by rw [ha1]; exact rorW cs κ.w HWD.out HK.out f4 e1 l4 j1 t.val
      have C2 : Hid (∀ t : Grow wr, Calls Tryz.prog 166 #[.agg cs, .int .u64 (f4 : Nat), .int .i64 (e2 : Nat)] t.val fun e w' => e = .returned (.int .u64 (a2 : Nat)) ∧ Below t.val.heap.size t.val w') := fun t => by rw [ha2]; exact rorW cs κ.w HWD.out HK.out f4 e2 l4 j2 t.val
      have C3 : Hid (∀ t : Grow wr, Calls Tryz.prog 166 #[.agg cs, .int .u64 (f4 : Nat), .int .i64 (e3 : Nat)] t.val fun e w' => e = .returned (.int .u64 (a3 : Nat)) ∧ Below t.val.heap.size t.val w') := fun t => by rw [ha3]; exact rorW cs κ.w HWD.out HK.out f4 e3 l4 j3 t.val
      have C4 : Hid (∀ t : Grow wr, Calls Tryz.prog 166 #[.agg cs, .int .u64 (f0 : Nat), .int .i64 (e4 : Nat)] t.val fun e w' => e = .returned (.int .u64 (b1 : Nat)) ∧ Below t.val.heap.size t.val w') := fun t => by rw [hb1]; exact rorW cs κ.w HWD.out HK.out f0 e4 l0 j4 t.val
      have C5 : Hid (∀ t : Grow wr, Calls Tryz.prog 166 #[.agg cs, .int .u64 (f0 : Nat), .int .i64 (e5 : Nat)] t.val fun e w' => e = .returned (.int .u64 (b2 : Nat)) ∧ Below t.val.heap.size t.val w') := fun t => by rw [hb2]; exact rorW cs κ.w HWD.out HK.out f0 e5 l0 j5 t.val
      have C6 : Hid (∀ t : Grow wr, Calls Tryz.prog 166 #[.agg cs, .int .u64 (f0 : Nat), .int .i64 (e6 : Nat)] t.val fun e w' => e = .returned (.int .u64 (b3 : Nat)) ∧ Below t.val.heap.size t.val w') := fun t => by rw [hb3]; exact rorW cs κ.w HWD.out HK.out f0 e6 l0 j6 t.val
      have a1l : a1 < 2 ^ κ.w := by rw [ha1]; exact ror_lt κ.w f4 e1 l4
      have a2l : a2 < 2 ^ κ.w := by rw [ha2]; exact ror_lt κ.w f4 e2 l4
      have a3l : a3 < 2 ^ κ.w := by rw [ha3]; exact ror_lt κ.w f4 e3 l4
      have b1l : b1 < 2 ^ κ.w := by rw [hb1]; exact ror_lt κ.w f0 e4 l0
      have b2l : b2 < 2 ^ κ.w := by rw [hb2]; exact ror_lt κ.w f0 e5 l0
      have b3l : b3 < 2 ^ κ.w := by rw [hb3]; exact ror_lt κ.w f0 e6 l0
      obtain ⟨ax, hax⟩ : ∃ a, a = a1 ^^^ a2 := ⟨_, rfl⟩
      obtain ⟨am, ham⟩ : ∃ a, a = ax ^^^ a3 := ⟨_, rfl⟩
      obtain ⟨bx, hbx⟩ : ∃ a, a = b1 ^^^ b2 := ⟨_, rfl⟩
      obtain ⟨bm, hbm⟩ : ∃ a, a = bx ^^^ b3 := ⟨_, rfl⟩
      obtain ⟨c1, hc1⟩ : ∃ a, a = f4 &&& f5 := ⟨_, rfl⟩
      obtain ⟨ne, hne1⟩ : ∃ a, a = 2 ^ 64 - 1 - f4 := ⟨_, rfl⟩
      obtain ⟨nc, hnc⟩ : ∃ a, a = ne % 2 ^ κ.w := ⟨_, rfl⟩
      obtain ⟨c2, hc2⟩ : ∃ a, a = nc &&& f6 := ⟨_, rfl⟩
      obtain ⟨ch, hch⟩ : ∃ a, a = c1 ^^^ c2 := ⟨_, rfl⟩
      obtain ⟨u1, hu1⟩ : ∃ a, a = (f7 + am) % 2 ^ 64 := ⟨_, rfl⟩
      obtain ⟨u2, hu2⟩ : ∃ a, a = (u1 + ch) % 2 ^ 64 := ⟨_, rfl⟩
      obtain ⟨u3, hu3⟩ : ∃ a, a = (u2 + ki) % 2 ^ 64 := ⟨_, rfl⟩
      obtain ⟨tt, htt⟩ : ∃ a, a = (u3 + wi) % 2 ^ 64 := ⟨_, rfl⟩
      obtain ⟨d1, hd1⟩ : ∃ a, a = f0 &&& f1 := ⟨_, rfl⟩
      obtain ⟨d2, hd2⟩ : ∃ a, a = f0 &&& f2 := ⟨_, rfl⟩
      obtain ⟨d3, hd3⟩ : ∃ a, a = f1 &&& f2 := ⟨_, rfl⟩
      obtain ⟨dx, hdx⟩ : ∃ a, a = d1 ^^^ d2 := ⟨_, rfl⟩
      obtain ⟨mj, hmj⟩ : ∃ a, a = dx ^^^ d3 := ⟨_, rfl⟩
      obtain ⟨uu, huu⟩ : ∃ a, a = (bm + mj) % 2 ^ 64 := ⟨_, rfl⟩
      obtain ⟨tu, htu⟩ : ∃ a, a = (tt + uu) % 2 ^ 64 := ⟨_, rfl⟩
      obtain ⟨ft, hft⟩ : ∃ a, a = (f3 + tt) % 2 ^ 64 := ⟨_, rfl⟩
      obtain ⟨z0, hz0⟩ : ∃ a, a = tu % 2 ^ κ.w := ⟨_, rfl⟩
      obtain ⟨z4, hz4⟩ : ∃ a, a = ft % 2 ^ κ.w := ⟨_, rfl⟩
      have axl : ax < 2 ^ κ.w := by rw [hax]; exact Nat.xor_lt_two_pow a1l a2l
      have bxl : bx < 2 ^ κ.w := by rw [hbx]; exact Nat.xor_lt_two_pow b1l b2l
      have c1l : c1 < 2 ^ κ.w := by rw [hc1]; exact Nat.and_lt_two_pow _ l5
      have nel : ne < 2 ^ 64 := by omega
      have ncl : nc < 2 ^ κ.w := by rw [hnc]; exact Nat.mod_lt _ (Nat.two_pow_pos _)
      have c2l : c2 < 2 ^ κ.w := by rw [hc2]; exact Nat.and_lt_two_pow _ l6
      have d1l : d1 < 2 ^ κ.w := by rw [hd1]; exact Nat.and_lt_two_pow _ l1
      have d2l : d2 < 2 ^ κ.w := by rw [hd2]; exact Nat.and_lt_two_pow _ l2
      have d3l : d3 < 2 ^ κ.w := by rw [hd3]; exact Nat.and_lt_two_pow _ l2
      have dxl : dx < 2 ^ κ.w := by rw [hdx]; exact Nat.xor_lt_two_pow d1l d2l
      have C7 : Hid (∀ t : Grow wr, Calls Tryz.prog 165 #[.agg cs, .int .u64 (ne : Nat)] t.val fun e w' => e = .returned (.int .u64 (nc : Nat)) ∧ Below t.val.heap.size t.val w') := fun t => by rw [hnc]; exact rcutW cs κ.w HWD.out HK.out ne nel t.val
      have hT : tt % 2 ^ κ.w = Sha.tF κ f ki wi := by
        have g1 : am = Sha.mix κ.w (f 4) κ.c.1 κ.c.2.1 κ.c.2.2 false := by rw [ham, hax, ha1, ha2, ha3, hf4, he1, he2, he3]; rfl
        have g2 : nc = 2 ^ κ.w - 1 - f 4 := by rw [hnc, hne1, not_cut κ.w f4 hwd6 l4, hf4]
        have g3 : tt = t64 κ f ki wi % 2 ^ 64 := by rw [htt, hu3, hu2, hu1, hch, hc1, hc2, g1, g2, hf4, hf5, hf6, hf7]; rfl
        rw [g3]; exact t64_cut κ hwd6 f ki wi
      have hU : uu % 2 ^ κ.w = Sha.uF κ f := by
        have g1 : bm = Sha.mix κ.w (f 0) κ.d.1 κ.d.2.1 κ.d.2.2 false := by rw [hbm, hbx, hb1, hb2, hb3, hf0, he4, he5, he6]; rfl
        have g3 : uu = u64s κ f % 2 ^ 64 := by rw [huu, hmj, hdx, hd1, hd2, hd3, g1, hf0, hf1, hf2]; rfl
        rw [g3]; exact u64_cut κ hwd6 f
      have HZ0 : Hid (z0 = Sha.add κ.w (Sha.tF κ f ki wi) (Sha.uF κ f)) := by rw [hz0, htu]; exact add_cut κ.w _ _ _ _ hwd6 hT hU
      have HZ4 : Hid (z4 = Sha.add κ.w (f 3) (Sha.tF κ f ki wi)) := by rw [hz4, hft]; exact add_cut κ.w _ _ _ _ hwd6 (by rw [← hf3]; exact Nat.mod_eq_of_lt l3) hT
      have E1 := xor_u64v a1 a2 ax (LT.out _ a1l) (LT.out _ a2l) hax
      have E2 := xor_u64v ax a3 am (LT.out _ axl) (LT.out _ a3l) ham
      have E3 := xor_u64v b1 b2 bx (LT.out _ b1l) (LT.out _ b2l) hbx
      have E4 := xor_u64v bx b3 bm (LT.out _ bxl) (LT.out _ b3l) hbm
      have E5 := and_u64v f4 f5 c1 (LT.out _ l4) (LT.out _ l5) hc1
      have E6 : bits .xor .u64 (if IntKind.u64.signed = true then -1 else IntKind.u64.max) (f4 : Int) = (ne : Int) := by rw [if_neg (by decide)]; exact not_u64v f4 ne (LT.out _ l4) hne1
      have E7 := and_u64v nc f6 c2 (LT.out _ ncl) (LT.out _ l6) hc2
      have E8 := xor_u64v c1 c2 ch (LT.out _ c1l) (LT.out _ c2l) hch
      have E9 := wrap_u64v f7 am u1 hu1
      have E10 := wrap_u64v u1 ch u2 hu2
      have E11 := wrap_u64v u2 ki u3 hu3
      have E12 := wrap_u64v u3 wi tt htt
      have E13 := and_u64v f0 f1 d1 (LT.out _ l0) (LT.out _ l1) hd1
      have E14 := and_u64v f0 f2 d2 (LT.out _ l0) (LT.out _ l2) hd2
      have E15 := and_u64v f1 f2 d3 (LT.out _ l1) (LT.out _ l2) hd3
      have E16 := xor_u64v d1 d2 dx (LT.out _ d1l) (LT.out _ d2l) hdx
      have E17 := xor_u64v dx d3 mj (LT.out _ dxl) (LT.out _ d3l) hmj
      have E18 := wrap_u64v bm mj uu huu
      have E19 := wrap_u64v tt uu tu htu
      have E20 := wrap_u64v f3 tt ft hft
      have C8 : Hid (∀ t : Grow wr, Calls Tryz.prog 165 #[.agg cs, .int .u64 (tu : Nat)] t.val fun e w' => e = .returned (.int .u64 (z0 : Nat)) ∧ Below t.val.heap.size t.val w') := fun t => by rw [hz0]; exact rcutW cs κ.w HWD.out HK.out tu (by rw [htu]; exact Nat.mod_lt _ (by decide)) t.val
      have C9 : Hid (∀ t : Grow wr, Calls Tryz.prog 165 #[.agg cs, .int .u64 (ft : Nat)] t.val fun e w' => e = .returned (.int .u64 (z4 : Nat)) ∧ Below t.val.heap.size t.val w') := fun t => by rw [hz4]; exact rcutW cs κ.w HWD.out HK.out ft (by rw [hft]; exact Nat.mod_lt _ (by decide)) t.val
      have HFJ := Lib.hid (And.intro hf0 (And.intro hf1 (And.intro hf2 (And.intro hf4 (And.intro hf5 hf6)))))
      have HKI := Lib.hid hki
      have HWI := Lib.hid hwi
      clear hf hcx hfl hax ham hbx hbm hc1 hne1 hnc hc2 hch hu1 hu2 hu3 htt hd1 hd2 hd3 hdx hmj huu htu hft hz0 hz4 ha1 a1l ha2 a2l ha3 a3l hb1 b1l hb2 b2l hb3 b3l axl bxl c1l nel ncl c2l d1l d2l d3l dxl hT hU hf0 l0 hf1 l1 hf2 l2 hf3 l3 hf4 l4 hf5 l5 hf6 l6 hf7 l7 hki hwi he1 j1 he2 j2 he3 j3 he4 j4 he5 j5 he6 j6
      go_wp2_with fail
      refine wp_region_fam (by kernel_rfl) (by kernel_rfl) Grow.val (Grow.start wr) ?_
      repeat go_big_quiet_step (fail)
      refine wpQuiet_nil ?_
      intro t
      go_wp2_with fail
      refine wp_region_fam (by kernel_rfl) (by kernel_rfl) Grow.val t.again ?_
      repeat go_big_quiet_step ((first | (with_reducible refine Calls.fam_of (C1.out _) (Grow.more _)) | (with_reducible refine Calls.fam_of (C2.out _) (Grow.more _)) | (with_reducible refine Calls.fam_of (C3.out _) (Grow.more _)) | (with_reducible refine Calls.fam_of (C7.out _) (Grow.more _))))
      refine wpQuiet_nil ?_
      clear t
      intro t
      clear E1 E2 E5 E6 E7 E8 E9 E10 E11 E12 C1 C2 C3 C7 x1 x2 k9 k10 k11 k15
      go_wp2_with fail
      refine wp_region_fam (by kernel_rfl) (by kernel_rfl) Grow.val t.again ?_
      repeat go_big_quiet_step ((first | (with_reducible refine Calls.fam_of (C4.out _) (Grow.more _)) | (with_reducible refine Calls.fam_of (C5.out _) (Grow.more _)) | (with_reducible refine Calls.fam_of (C6.out _) (Grow.more _))))
      refine wpQuiet_nil ?_
      clear t
      intro t
      clear E3 E4 E13 E14 E15 E16 E17 E18 C4 C5 C6 k12 k13 k14
      go_wp2_with fail
      refine wp_region_fam_tail 30 (by kernel_rfl) (by kernel_rfl) Grow.val t.again ?_
      simp only [List.take_succ_cons, List.take_zero, List.drop_succ_cons, List.drop_zero]
      repeat go_big_quiet_step ((first | (with_reducible refine Calls.fam_of (C8.out _) (Grow.more _)) | (with_reducible refine Calls.fam_of (C9.out _) (Grow.more _))))
      refine wpQuiet_nil ?_
      clear t
      intro t
      clear E19 E20 C8 C9 kl v0 v1 v2 v3 v4 v5 v6 v7 q1
      go_wp2_with fail
      have hfin : Cells64 (t.val.alloc (.cells #[.int .u64 z0, .int .u64 f0, .int .u64 f1, .int .u64 f2, .int .u64 z4, .int .u64 f4, .int .u64 f5, .int .u64 f6] 199)) t.val.heap.size 8 (Sha.rF κ ws st (n + 1)) := by
        have h1 := Row.new t.val 199 .u64 8 (Sha.nF κ f (Sha.tF κ f ki wi) (Sha.uF κ f)) #[.int .u64 z0, .int .u64 f0, .int .u64 f1, .int .u64 f2, .int .u64 z4, .int .u64 f4, .int .u64 f5, .int .u64 f6] (by
          rw [HZ0.out, HZ4.out, HFJ.out.1, HFJ.out.2.1, HFJ.out.2.2.1, HFJ.out.2.2.2.1, HFJ.out.2.2.2.2.1, HFJ.out.2.2.2.2.2]; rfl)
        intro j hj
        rw [h1.cell hj, Sha.rF_step _ _ _ _ _ hj, ← HF2.out, ← HWI.out, ← HKI.out]
      refine ⟨⟨n + 1, _, _, by omega, rfl, rfl, hfin, ?_, ?_⟩, by simp [intOf]; omega⟩
      · have h1 := t.below.size
        have h2 := HB.out.size
        omega
      · exact (HB.out.trans (t.below.mono HB.out.size)).alloc (Nat.le_trans HB.out.size t.below.size) _
    · have hnR : n = R := by omega
      have hcx := HCX.out
      rw [hnR] at hcx
      have HCX2 := Lib.hid hcx
      clear hcx hnR
      go_wp2_with fail
      exact hexit _ _ _ _ _ _ _ _ _ _ _ _ _ _ _ _ _ _ _ _ _ _ _ _ _ _ _ _ _ _ _ _ _ _ _ _ _ _ _ _ _ _ _ _ _ _ _ _ _ _ _ _ _ _ _ _ _ _ _ _ _ _ _ _ _ _ _ _ _ _ _ _ _ _ _ _ _ _ _ _ _ _ _ _ _ _ _ _ _ _ _ _ _ _ _ _ _ _ _ _ _ _ _ _ _ _ _ _ _ _ _ _ _ _ _ _ _ _ _ _ _ _ _ _ _ _ _ _ _ _ _ _ _ _ _ _ _ _ gx cx wr HCX2.out hnx HB.out
end Go.Proofs.YtilpbjcbffbjeaaGreatDoor
namespace Go.Proofs.YtilpbjcbffbjeaaGreatDoor
set_option linter.unusedVariables false
open Go.RowKit
set_option maxRecDepth 1000000 in
set_option maxHeartbeats 8000000 in
theorem schedLoop (κ : Sha.Kind) (hwd : WD κ.w) (cs : Array Value) (hk : KCells cs κ.w) (R : Nat) (hR0 : 16 ≤ R) (hR : R ≤ 1000) (base Bw : Nat) (bl : List Nat) (hbl8 : ∀ c ∈ bl, c < 256) (w3 : World) (Q0 : Exit → Act → World → Prop) (c0 c1 c3 c4 c5 c6 c7 c8 c10 c11 c13 c14 c15 c16 c17 c18 c19 c20 c21 c22 c23 c24 c25 c26 c27 c28 c29 c30 c31 c32 c33 c34 c35 c36 c37 c38 c39 c40 c41 c42 c43 c44 c45 c46 c47 c48 c49 c50 c51 c52 c53 c54 c55 c56 c57 c58 c59 c60 c61 c62 c63 c64 c65 c66 c67 c68 c69 c70 c71 c72 c73 c74 c75 c76 c77 c78 c79 c80 c81 c82 c83 c84 c85 c86 c87 c88 c89 c90 c91 c92 c93 c94 c95 c96 c97 c98 c99 c100 c101 c102 c103 c104 c105 c106 c107 c108 c109 c110 c111 c112 c113 c114 c115 c116 c117 c118 c119 c120 c121 c122 c123 c124 c125 c126 c127 c128 c129 c130 c131 c132 c133 c134 c135 c136 c137 c138 c139 c140 c141 c142 c143 c144 c145 c146 c147 c148 c149 c150 c151 c152 c153 c154 c155 c156 c157 c158 c159 c160 c161 c162 c163 c164 c165 c166 c167 c168 c169 c170 c171 c172 c173 c174 c175 c176 c177 c178 c179 c180 c181 c182 c183 c184 c185 c186 c187 c188 c189 c190 c191 c192 c193 c194 c195 c196 c197 c198 c199 c200 c201 c202 c203 c204 c205 c206 c207 c208 c209 c210 c211 c212 c213 c214 c215 c216 c217 c218 c219 c220 c221 c222 c223 c224 c225 c226 c227 c228 c229 c230 c231 c232 c233 c234 c235 c236 c237 c238 c239 c240 c241 c242 c243 c244 c245 c246 c247 c248 c249 c250 c251 c252 c253 c254 c255 c256 c257 c258 c259 c260 c261 c262 c263 c264 c265 c266 c267 c268 c269 c270 c271 c272 c273 c274 c275 c276 c277 c278 c279 c280 c281 c282 c283 c284 c285 c286 c287 c288 c289 c290 c291 c292 c293 c294 c295 c296 c297 c298 c299 c300 c301 c302 c303 c304 c305 c306 c307 c308 c309 c310 c311 c312 c313 c314 c315 c316 c317 c318 c319 c320 c321 c322 c323 c324 c325 c326 c327 c328 c329 c330 c331 c332 c333 c334 c335 c336 c337 c338 c339 : Value)
    (hblk : w3.heap[base]? = some (.cells cs 230 (0, 0))) (h1 : cs[1]? = some (.int .i64 (R : Nat)))
    (h3 : cs[3]? = some (.int .i64 (κ.a.1 : Nat))) (h4 : cs[4]? = some (.int .i64 (κ.a.2.1 : Nat))) (h5 : cs[5]? = some (.int .i64 (κ.a.2.2 : Nat))) (h6 : cs[6]? = some (.int .i64 (κ.b.1 : Nat))) (h7 : cs[7]? = some (.int .i64 (κ.b.2.1 : Nat))) (h8 : cs[8]? = some (.int .i64 (κ.b.2.2 : Nat)))
    (i3 : κ.a.1 ≤ κ.w) (i4 : κ.a.2.1 ≤ κ.w) (i5 : κ.a.2.2 ≤ 64) (i8 : κ.b.2.2 ≤ 64) (i6 : κ.b.1 ≤ κ.w) (i7 : κ.b.2.1 ≤ κ.w) (hrow : Row w3 Bw 199 .u64 R (Sha.gF κ bl 0)) (hne : base ≠ Bw)
    (hexit : ∀ (u12 u13 u14 u96 u97 u98 u99 u100 u101 u102 u103 u104 u105 u106 u107 u108 u109 u110 u111 u112 u113 u114 u115 u116 u117 u118 u119 u120 u121 u122 u123 u124 u125 u126 u127 u128 u129 u130 u131 u132 u133 u134 u135 u136 u137 u138 u139 u140 u141 u142 u143 u144 u145 u146 u147 u148 u149 u150 u151 u152 u153 u154 u155 u156 u157 u158 u159 u160 u161 u162 u163 u164 u165 u166 u167 : Value) (w' : World), Row w' Bw 199 .u64 R (Sha.gF κ bl (R - 16)) → w3.grownBy w' (some Bw) → Q0 (.exit 8) ⟨#[c0, c1, (.pointer (some ⟨base, 0, none⟩)), c3, c4, c5, c6, c7, c8, (.slice (some ⟨Bw, 0, none⟩) R R), c10, c11, u12, u13, u14, c15, c16, c17, c18, c19, c20, c21, c22, c23, c24, c25, c26, c27, c28, c29, c30, c31, c32, c33, c34, c35, c36, c37, c38, c39, c40, c41, c42, c43, c44, c45, c46, c47, c48, c49, c50, c51, c52, c53, c54, c55, c56, c57, c58, c59, c60, c61, c62, c63, c64, c65, c66, c67, c68, c69, c70, c71, c72, c73, c74, c75, c76, c77, c78, c79, c80, c81, c82, c83, c84, c85, c86, c87, c88, c89, c90, c91, c92, c93, c94, c95, u96, u97, u98, u99, u100, u101, u102, u103, u104, u105, u106, u107, u108, u109, u110, u111, u112, u113, u114, u115, u116, u117, u118, u119, u120, u121, u122, u123, u124, u125, u126, u127, u128, u129, u130, u131, u132, u133, u134, u135, u136, u137, u138, u139, u140, u141, u142, u143, u144, u145, u146, u147, u148, u149, u150, u151, u152, u153, u154, u155, u156, u157, u158, u159, u160, u161, u162, u163, u164, u165, u166, u167, c168, c169, c170, c171, c172, c173, c174, c175, c176, c177, c178, c179, c180, c181, c182, c183, c184, c185, c186, c187, c188, c189, c190, c191, c192, c193, c194, c195, c196, c197, c198, c199, c200, c201, c202, c203, c204, c205, c206, c207, c208, c209, c210, c211, c212, c213, c214, c215, c216, c217, c218, c219, c220, c221, c222, c223, c224, c225, c226, c227, c228, c229, c230, c231, c232, c233, c234, c235, c236, c237, c238, c239, c240, c241, c242, c243, c244, c245, c246, c247, c248, c249, c250, c251, c252, c253, c254, c255, c256, c257, c258, c259, c260, c261, c262, c263, c264, c265, c266, c267, c268, c269, c270, c271, c272, c273, c274, c275, c276, c277, c278, c279, c280, c281, c282, c283, c284, c285, c286, c287, c288, c289, c290, c291, c292, c293, c294, c295, c296, c297, c298, c299, c300, c301, c302, c303, c304, c305, c306, c307, c308, c309, c310, c311, c312, c313, c314, c315, c316, c317, c318, c319, c320, c321, c322, c323, c324, c325, c326, c327, c328, c329, c330, c331, c332, c333, c334, c335, c336, c337, c338, c339], []⟩ w') :
    Code.wp Tryz.prog (sumLoop 4) Q0 ⟨#[c0, c1, (.pointer (some ⟨base, 0, none⟩)), c3, c4, c5, c6, c7, c8, (.slice (some ⟨Bw, 0, none⟩) R R), c10, c11, (.int .i64 16), c13, c14, c15, c16, c17, c18, c19, c20, c21, c22, c23, c24, c25, c26, c27, c28, c29, c30, c31, c32, c33, c34, c35, c36, c37, c38, c39, c40, c41, c42, c43, c44, c45, c46, c47, c48, c49, c50, c51, c52, c53, c54, c55, c56, c57, c58, c59, c60, c61, c62, c63, c64, c65, c66, c67, c68, c69, c70, c71, c72, c73, c74, c75, c76, c77, c78, c79, c80, c81, c82, c83, c84, c85, c86, c87, c88, c89, c90, c91, c92, c93, c94, c95, c96, c97, c98, c99, c100, c101, c102, c103, c104, c105, c106, c107, c108, c109, c110, c111, c112, c113, c114, c115, c116, c117, c118, c119, c120, c121, c122, c123, c124, c125, c126, c127, c128, c129, c130, c131, c132, c133, c134, c135, c136, c137, c138, c139, c140, c141, c142, c143, c144, c145, c146, c147, c148, c149, c150, c151, c152, c153, c154, c155, c156, c157, c158, c159, c160, c161, c162, c163, c164, c165, c166, c167, c168, c169, c170, c171, c172, c173, c174, c175, c176, c177, c178, c179, c180, c181, c182, c183, c184, c185, c186, c187, c188, c189, c190, c191, c192, c193, c194, c195, c196, c197, c198, c199, c200, c201, c202, c203, c204, c205, c206, c207, c208, c209, c210, c211, c212, c213, c214, c215, c216, c217, c218, c219, c220, c221, c222, c223, c224, c225, c226, c227, c228, c229, c230, c231, c232, c233, c234, c235, c236, c237, c238, c239, c240, c241, c242, c243, c244, c245, c246, c247, c248, c249, c250, c251, c252, c253, c254, c255, c256, c257, c258, c259, c260, c261, c262, c263, c264, c265, c266, c267, c268, c269, c270, c271, c272, c273, c274, c275, c276, c277, c278, c279, c280, c281, c282, c283, c284, c285, c286, c287, c288, c289, c290, c291, c292, c293, c294, c295, c296, c297, c298, c299, c300, c301, c302, c303, c304, c305, c306, c307, c308, c309, c310, c311, c312, c313, c314, c315, c316, c317, c318, c319, c320, c321, c322, c323, c324, c325, c326, c327, c328, c329, c330, c331, c332, c333, c334, c335, c336, c337, c338, c339], []⟩ w3 := by
  have hwd64 : 2 ^ κ.w ≤ 2 ^ 64 := by rcases hwd with h | h <;> rw [h] <;> decide
  have hwd6 : κ.w ≤ 64 := by rcases hwd with h | h <;> omega
  have hwd8 : 256 ≤ 2 ^ κ.w := by rcases hwd with h | h <;> rw [h] <;> decide
  have LT : Hid (∀ x, x < 2 ^ κ.w → x < 2 ^ 64) := fun x h => Nat.lt_of_lt_of_le h hwd64
  have HK := Lib.hid hk
  have HWD := Lib.hid hwd
  have HBLK := Lib.hid hblk
  have hb0 : base < w3.heap.size := (Array.getElem?_eq_some_iff.1 hblk).1
  have HCELL : Hid (∀ (wt : World) (j : Nat) (v : Value), w3.grownBy wt (some Bw) → cs[j]? = some v → wt.cell? ⟨base, j, none⟩ = some v) := fun wt j v hb hv =>
    (hb.cell_far ⟨base, j, none⟩ hb0 (fun e => hne (by injection e))).trans ((cell_of_row w3 base j cs 230 (0, 0) hblk).trans hv)
  have HGL : Hid (∀ n j, Sha.gF κ bl n j < 2 ^ κ.w) := fun n j => Sha.gF_lt κ bl (fun c hc => Nat.lt_of_lt_of_le (hbl8 c hc) hwd8) n j
  have H1 := Lib.hid h1
  have HH := Lib.hid (And.intro h3 (And.intro h4 (And.intro h5 (And.intro h6 (And.intro h7 h8)))))
  have HROW := Lib.hid hrow
  clear hwd hk hblk h1 h3 h4 h5 h6 h7 h8 hrow hbl8
  dsimp only at hexit ⊢
  conv => arg 2; whnf
  go_loopw [12] (fun v wr => ∃ k : Nat, 16 ≤ k ∧ k ≤ R ∧ v = .int .i64 (k : Nat) ∧ Row wr Bw 199 .u64 R (Sha.gF κ bl (k - 16)) ∧ w3.grownBy wr (some Bw)) (fun v _ => (R - intOf v).toNat)
  case atStart => exact ⟨16, by omega, by omega, rfl, HROW.out, ⟨rfl, rfl, rfl, Nat.le_refl _, fun _ _ _ => rfl⟩⟩
  case round =>
    obtain ⟨k, hk0, hk, rfl, hrow, hbel⟩ := hrel
    have HR := Lib.hid hrow
    have HB := Lib.hid hbel
    clear hrow hbel
    have q1 := HCELL.out wr 1 _ HB.out H1.out
    by_cases hkt : k < R
    · obtain ⟨f, hf⟩ : ∃ f, f = Sha.gF κ bl (k - 16) := ⟨_, rfl⟩
      have hrow := HR.out
      rw [← hf] at hrow
      have hfl : ∀ j, f j < 2 ^ κ.w := by subst hf; exact HGL.out _
      have HF2 := Lib.hid hf
      have HRT := Lib.hid hrow
      obtain ⟨x, hx⟩ : ∃ x, x = f (k - 15) := ⟨_, rfl⟩
      obtain ⟨y, hy⟩ : ∃ y, y = f (k - 2) := ⟨_, rfl⟩
      obtain ⟨wa, hwa⟩ : ∃ y, y = f (k - 16) := ⟨_, rfl⟩
      obtain ⟨wb, hwb⟩ : ∃ y, y = f (k - 7) := ⟨_, rfl⟩
      have hxl : x < 2 ^ κ.w := by rw [hx]; exact hfl _
      have hyl : y < 2 ^ κ.w := by rw [hy]; exact hfl _
      have r0 : ∀ t : Grow wr, t.val.cell? ⟨Bw, k - 15, none⟩ = some (.int .u64 (x : Nat)) := fun t => by rw [hx]; exact t.cell (HRT.out.cell (by omega))
      have r3 : ∀ t : Grow wr, t.val.cell? ⟨Bw, k - 2, none⟩ = some (.int .u64 (y : Nat)) := fun t => by rw [hy]; exact t.cell (HRT.out.cell (by omega))
      have r1 : ∀ t : Grow wr, t.val.cell? ⟨Bw, k - 16, none⟩ = some (.int .u64 (wa : Nat)) := fun t => by rw [hwa]; exact t.cell (HRT.out.cell (by omega))
      have r2 : ∀ t : Grow wr, t.val.cell? ⟨Bw, k - 7, none⟩ = some (.int .u64 (wb : Nat)) := fun t => by rw [hwb]; exact t.cell (HRT.out.cell (by omega))
      have kl : ∀ t : Grow wr, (kindLoad (.pointer (some ⟨base, 0, none⟩))).run Tryz.prog t.val = .ok (.value (.agg cs)) t.val := fun t => by
        refine run_kindLoad _ _ _ HK.out.n ?_
        rw [t.below.block _ (Nat.lt_of_lt_of_le hb0 HB.out.size), HB.out.block _ hb0 (by intro e; injection e with e; exact hne e)]
        exact HBLK.out
      have kcl : ∀ (j : Nat) (v : Value), cs[j]? = some v → ∀ t : Grow wr, t.val.cell? ⟨base, j, none⟩ = some v := fun j v hv t => t.cell (HCELL.out wr j v HB.out hv)
      obtain ⟨e1, he1⟩ : ∃ a, a = κ.a.1 := ⟨_, rfl⟩
      obtain ⟨e2, he2⟩ : ∃ a, a = κ.a.2.1 := ⟨_, rfl⟩
      obtain ⟨e3, he3⟩ : ∃ a, a = κ.a.2.2 := ⟨_, rfl⟩
      obtain ⟨e4, he4⟩ : ∃ a, a = κ.b.1 := ⟨_, rfl⟩
      obtain ⟨e5, he5⟩ : ∃ a, a = κ.b.2.1 := ⟨_, rfl⟩
      obtain ⟨e6, he6⟩ : ∃ a, a = κ.b.2.2 := ⟨_, rfl⟩
      have k3 : ∀ t : Grow wr, t.val.cell? ⟨base, 3, none⟩ = some (.int .i64 (e1 : Nat)) := kcl 3 _ (by rw [he1]; exact HH.out.1)
      have k4 : ∀ t : Grow wr, t.val.cell? ⟨base, 4, none⟩ = some (.int .i64 (e2 : Nat)) := kcl 4 _ (by rw [he2]; exact HH.out.2.1)
      have k5 : ∀ t : Grow wr, t.val.cell? ⟨base, 5, none⟩ = some (.int .i64 (e3 : Nat)) := kcl 5 _ (by rw [he3]; exact HH.out.2.2.1)
      have k6 : ∀ t : Grow wr, t.val.cell? ⟨base, 6, none⟩ = some (.int .i64 (e4 : Nat)) := kcl 6 _ (by rw [he4]; exact HH.out.2.2.2.1)
      have k7 : ∀ t : Grow wr, t.val.cell? ⟨base, 7, none⟩ = some (.int .i64 (e5 : Nat)) := kcl 7 _ (by rw [he5]; exact HH.out.2.2.2.2.1)
      have k8 : ∀ t : Grow wr, t.val.cell? ⟨base, 8, none⟩ = some (.int .i64 (e6 : Nat)) := kcl 8 _ (by rw [he6]; exact HH.out.2.2.2.2.2)
      clear kcl
      obtain ⟨a1, ha1⟩ : ∃ a, a = Sha.ror κ.w x e1 := ⟨_, rfl⟩
      obtain ⟨a2, ha2⟩ : ∃ a, a = Sha.ror κ.w x e2 := ⟨_, rfl⟩
      obtain ⟨b1, hb1⟩ : ∃ a, a = Sha.ror κ.w y e4 := ⟨_, rfl⟩
      obtain ⟨b2, hb2⟩ : ∃ a, a = Sha.ror κ.w y e5 := ⟨_, rfl⟩
      have C1 : Hid (∀ t : Grow wr, Calls Tryz.prog 166 #[.agg cs, .int .u64 (x : Nat), .int .i64 (e1 : Nat)] t.val fun e w' => e = .returned (.int .u64 (a1 : Nat)) ∧ Below t.val.heap.size t.val w') := fun t => by rw [ha1]; exact rorW cs κ.w HWD.out HK.out x e1 hxl (by rw [he1]; exact i3) t.val
      have C2 : Hid (∀ t : Grow wr, Calls Tryz.prog 166 #[.agg cs, .int .u64 (x : Nat), .int .i64 (e2 : Nat)] t.val fun e w' => e = .returned (.int .u64 (a2 : Nat)) ∧ Below t.val.heap.size t.val w') := fun t => by rw [ha2]; exact rorW cs κ.w HWD.out HK.out x e2 hxl (by rw [he2]; exact i4) t.val
      have C3 : Hid (∀ t : Grow wr, Calls Tryz.prog 166 #[.agg cs, .int .u64 (y : Nat), .int .i64 (e4 : Nat)] t.val fun e w' => e = .returned (.int .u64 (b1 : Nat)) ∧ Below t.val.heap.size t.val w') := fun t => by rw [hb1]; exact rorW cs κ.w HWD.out HK.out y e4 hyl (by rw [he4]; exact i6) t.val
      have C4 : Hid (∀ t : Grow wr, Calls Tryz.prog 166 #[.agg cs, .int .u64 (y : Nat), .int .i64 (e5 : Nat)] t.val fun e w' => e = .returned (.int .u64 (b2 : Nat)) ∧ Below t.val.heap.size t.val w') := fun t => by rw [hb2]; exact rorW cs κ.w HWD.out HK.out y e5 hyl (by rw [he5]; exact i7) t.val
      have a1l : a1 < 2 ^ κ.w := by rw [ha1]; exact ror_lt κ.w x e1 hxl
      have a2l : a2 < 2 ^ κ.w := by rw [ha2]; exact ror_lt κ.w x e2 hxl
      have b1l : b1 < 2 ^ κ.w := by rw [hb1]; exact ror_lt κ.w y e4 hyl
      have b2l : b2 < 2 ^ κ.w := by rw [hb2]; exact ror_lt κ.w y e5 hyl
      obtain ⟨s1, hs1⟩ : ∃ a, a = x / 2 ^ e3 := ⟨_, rfl⟩
      obtain ⟨s2, hs2⟩ : ∃ a, a = y / 2 ^ e6 := ⟨_, rfl⟩
      have s1l : s1 < 2 ^ κ.w := by rw [hs1]; exact Nat.lt_of_le_of_lt (Nat.div_le_self _ _) hxl
      have s2l : s2 < 2 ^ κ.w := by rw [hs2]; exact Nat.lt_of_le_of_lt (Nat.div_le_self _ _) hyl
      obtain ⟨ax, hax⟩ : ∃ a, a = a1 ^^^ a2 := ⟨_, rfl⟩
      obtain ⟨m1, hm1⟩ : ∃ a, a = ax ^^^ s1 := ⟨_, rfl⟩
      obtain ⟨bx, hbx⟩ : ∃ a, a = b1 ^^^ b2 := ⟨_, rfl⟩
      obtain ⟨m2, hm2⟩ : ∃ a, a = bx ^^^ s2 := ⟨_, rfl⟩
      obtain ⟨u1, hu1⟩ : ∃ a, a = (wa + m1) % 2 ^ 64 := ⟨_, rfl⟩
      obtain ⟨u2, hu2⟩ : ∃ a, a = (u1 + wb) % 2 ^ 64 := ⟨_, rfl⟩
      obtain ⟨u3, hu3⟩ : ∃ a, a = (u2 + m2) % 2 ^ 64 := ⟨_, rfl⟩
      obtain ⟨z, hz⟩ : ∃ a, a = u3 % 2 ^ κ.w := ⟨_, rfl⟩
      have axl : ax < 2 ^ κ.w := by rw [hax]; exact Nat.xor_lt_two_pow a1l a2l
      have bxl : bx < 2 ^ κ.w := by rw [hbx]; exact Nat.xor_lt_two_pow b1l b2l
      have C5 : Hid (∀ t : Grow wr, Calls Tryz.prog 165 #[.agg cs, .int .u64 (u3 : Nat)] t.val fun e w' => e = .returned (.int .u64 (z : Nat)) ∧ Below t.val.heap.size t.val w') := fun t => by rw [hz]; exact rcutW cs κ.w HWD.out HK.out u3 (by rw [hu3]; exact Nat.mod_lt _ (by decide)) t.val
      have E1 : (x : Int) / 2 ^ min e3 64 = (s1 : Int) := by rw [hs1, Nat.min_eq_left (by rw [he3]; exact i5), shr_nat]
      have E2 : (y : Int) / 2 ^ min e6 64 = (s2 : Int) := by rw [hs2, Nat.min_eq_left (by rw [he6]; exact i8), shr_nat]
      have E3 := xor_u64v a1 a2 ax (LT.out _ a1l) (LT.out _ a2l) hax
      have E4 := xor_u64v ax s1 m1 (LT.out _ axl) (LT.out _ s1l) hm1
      have E5 := xor_u64v b1 b2 bx (LT.out _ b1l) (LT.out _ b2l) hbx
      have E6 := xor_u64v bx s2 m2 (LT.out _ bxl) (LT.out _ s2l) hm2
      have E7 := wrap_u64v wa m1 u1 hu1
      have E8 := wrap_u64v u1 wb u2 hu2
      have E9 := wrap_u64v u2 m2 u3 hu3
      have HZ : Hid (z = Sha.add κ.w (Sha.add κ.w (Sha.add κ.w (f (k - 16)) (Sha.mix κ.w (f (k - 15)) κ.a.1 κ.a.2.1 κ.a.2.2 true)) (f (k - 7))) (Sha.mix κ.w (f (k - 2)) κ.b.1 κ.b.2.1 κ.b.2.2 true)) := by
        have g1 : m1 = Sha.mix κ.w x κ.a.1 κ.a.2.1 κ.a.2.2 true := by rw [hm1, hax, ha1, ha2, hs1, he1, he2, he3]; rfl
        have g2 : m2 = Sha.mix κ.w y κ.b.1 κ.b.2.1 κ.b.2.2 true := by rw [hm2, hbx, hb1, hb2, hs2, he4, he5, he6]; rfl
        rw [hz, hu3, hu2, hu1, cut_add4 κ.w _ _ _ _ hwd6, g1, g2, ← hwa, ← hwb, ← hx, ← hy]
        rfl
      clear hf hfl hrow hx hy hwa hwb ha1 ha2 hb1 hb2 a1l a2l b1l b2l hs1 hs2 s1l s2l hax hm1 hbx hm2 hu1 hu2 hu3 hz axl bxl hxl hyl he1 he2 he3 he4 he5 he6
      go_wp2_with fail
      refine wp_region_fam (by kernel_rfl) (by kernel_rfl) Grow.val (Grow.start wr) ?_
      repeat go_big_quiet_step (fail)
      refine wpQuiet_nil ?_
      intro t
      go_wp2_with fail
      refine wp_region_fam_tail 56 (by kernel_rfl) (by kernel_rfl) Grow.val t.again ?_
      simp only [List.take_succ_cons, List.take_zero, List.drop_succ_cons, List.drop_zero]
      repeat go_big_quiet_step ((first | (with_reducible refine Calls.fam_of (C1.out _) (Grow.more _)) | (with_reducible refine Calls.fam_of (C2.out _) (Grow.more _)) | (with_reducible refine Calls.fam_of (C3.out _) (Grow.more _)) | (with_reducible refine Calls.fam_of (C4.out _) (Grow.more _)) | (with_reducible refine Calls.fam_of (C5.out _) (Grow.more _))))
      refine wpQuiet_nil ?_
      clear t
      intro t
      have hrow := t.row HRT.out
      have q4 := hrow.cell (j := k) (by omega)
      have q5 := hrow.free k
      have HROW2 := Lib.hid hrow
      clear hrow r0 r1 r2 r3 kl k3 k4 k5 k6 k7 k8 E1 E2 E3 E4 E5 E6 E7 E8 E9 C1 C2 C3 C4 C5 q1
      go_wp2_with fail
      exact ⟨⟨k + 1, by omega, by omega, rfl, rgRow_step κ hk0 (by omega) HF2.out HZ.out HROW2.out, grownBy_trans (grownBy_trans HB.out (below_grownBy t.below _)) (grownBy_setCell _ _ _ _)⟩, by simp [intOf]; omega⟩
    · have hr := HR.out
      rw [show k = R by omega] at hr
      have HR2 := Lib.hid hr
      clear hr
      go_wp2_with fail
      exact hexit _ _ _ _ _ _ _ _ _ _ _ _ _ _ _ _ _ _ _ _ _ _ _ _ _ _ _ _ _ _ _ _ _ _ _ _ _ _ _ _ _ _ _ _ _ _ _ _ _ _ _ _ _ _ _ _ _ _ _ _ _ _ _ _ _ _ _ _ _ _ _ _ _ _ _ wr HR2.out HB.out
end Go.Proofs.YtilpbjcbffbjeaaGreatDoor
namespace Go.Proofs.YtilpbjcbffbjeaaGreatDoor
set_option linter.unusedVariables false
open Go.RowKit
set_option maxRecDepth 1000000 in
set_option maxHeartbeats 8000000 in
theorem wordLoop (κ : Sha.Kind) (wide : Nat) (hw8 : 8 * wide = κ.w) (hw4 : wide = 4 ∨ wide = 8) (R : Nat) (hR0 : 16 ≤ R) (hR : R ≤ 1000) (gM ML cM A Bw : Nat) (hML : ML ≤ 200000000000000) (hA : A + 16 * wide ≤ ML) (bl : List Nat) (hbll : bl.length = 16 * wide) (hbl8 : ∀ c ∈ bl, c < 256) (w3 : World) (Q0 : Exit → Act → World → Prop) (c0 c1 c2 c3 c4 c7 c11 c12 c13 c14 c15 c16 c17 c18 c19 c20 c21 c22 c23 c24 c25 c26 c27 c28 c29 c30 c31 c32 c33 c34 c35 c36 c37 c38 c39 c40 c41 c42 c43 c44 c45 c46 c47 c48 c49 c50 c51 c52 c53 c54 c55 c56 c57 c58 c59 c60 c61 c62 c63 c64 c65 c66 c67 c68 c69 c70 c71 c72 c73 c74 c75 c76 c77 c78 c79 c80 c81 c82 c83 c84 c85 c86 c87 c88 c89 c90 c91 c92 c93 c94 c95 c96 c97 c98 c99 c100 c101 c102 c103 c104 c105 c106 c107 c108 c109 c110 c111 c112 c113 c114 c115 c116 c117 c118 c119 c120 c121 c122 c123 c124 c125 c126 c127 c128 c129 c130 c131 c132 c133 c134 c135 c136 c137 c138 c139 c140 c141 c142 c143 c144 c145 c146 c147 c148 c149 c150 c151 c152 c153 c154 c155 c156 c157 c158 c159 c160 c161 c162 c163 c164 c165 c166 c167 c168 c169 c170 c171 c172 c173 c174 c175 c176 c177 c178 c179 c180 c181 c182 c183 c184 c185 c186 c187 c188 c189 c190 c191 c192 c193 c194 c195 c196 c197 c198 c199 c200 c201 c202 c203 c204 c205 c206 c207 c208 c209 c210 c211 c212 c213 c214 c215 c216 c217 c218 c219 c220 c221 c222 c223 c224 c225 c226 c227 c228 c229 c230 c231 c232 c233 c234 c235 c236 c237 c238 c239 c240 c241 c242 c243 c244 c245 c246 c247 c248 c249 c250 c251 c252 c253 c254 c255 c256 c257 c258 c259 c260 c261 c262 c263 c264 c265 c266 c267 c268 c269 c270 c271 c272 c273 c274 c275 c276 c277 c278 c279 c280 c281 c282 c283 c284 c285 c286 c287 c288 c289 c290 c291 c292 c293 c294 c295 c296 c297 c298 c299 c300 c301 c302 c303 c304 c305 c306 c307 c308 c309 c310 c311 c312 c313 c314 c315 c316 c317 c318 c319 c320 c321 c322 c323 c324 c325 c326 c327 c328 c329 c330 c331 c332 c333 c334 c335 c336 c337 c338 c339 : Value)
    (hm : ∀ j, j < 16 * wide → w3.cell? ⟨gM, A + j, none⟩ = some (.int .u8 (bl.getD j 0 : Nat))) (hrow : Row w3 Bw 199 .u64 R (fun _ => 0)) (hne : gM ≠ Bw)
    (hexit : ∀ (u10 u11 u67 u68 u69 u70 u71 u72 u73 u74 u75 u76 u77 u78 u79 u80 u81 u82 u83 u84 u85 u86 u87 u88 u89 u90 u91 u92 u93 u94 u95 : Value) (w' : World), Row w' Bw 199 .u64 R (Sha.gF κ bl 0) → w3.grownBy w' (some Bw) → Q0 (.exit 4) ⟨#[c0, c1, c2, c3, c4, (.int .i64 (wide : Nat)), (.slice (some ⟨gM, 0, none⟩) ML cM), c7, (.int .i64 (A : Nat)), (.slice (some ⟨Bw, 0, none⟩) R R), u10, u11, c12, c13, c14, c15, c16, c17, c18, c19, c20, c21, c22, c23, c24, c25, c26, c27, c28, c29, c30, c31, c32, c33, c34, c35, c36, c37, c38, c39, c40, c41, c42, c43, c44, c45, c46, c47, c48, c49, c50, c51, c52, c53, c54, c55, c56, c57, c58, c59, c60, c61, c62, c63, c64, c65, c66, u67, u68, u69, u70, u71, u72, u73, u74, u75, u76, u77, u78, u79, u80, u81, u82, u83, u84, u85, u86, u87, u88, u89, u90, u91, u92, u93, u94, u95, c96, c97, c98, c99, c100, c101, c102, c103, c104, c105, c106, c107, c108, c109, c110, c111, c112, c113, c114, c115, c116, c117, c118, c119, c120, c121, c122, c123, c124, c125, c126, c127, c128, c129, c130, c131, c132, c133, c134, c135, c136, c137, c138, c139, c140, c141, c142, c143, c144, c145, c146, c147, c148, c149, c150, c151, c152, c153, c154, c155, c156, c157, c158, c159, c160, c161, c162, c163, c164, c165, c166, c167, c168, c169, c170, c171, c172, c173, c174, c175, c176, c177, c178, c179, c180, c181, c182, c183, c184, c185, c186, c187, c188, c189, c190, c191, c192, c193, c194, c195, c196, c197, c198, c199, c200, c201, c202, c203, c204, c205, c206, c207, c208, c209, c210, c211, c212, c213, c214, c215, c216, c217, c218, c219, c220, c221, c222, c223, c224, c225, c226, c227, c228, c229, c230, c231, c232, c233, c234, c235, c236, c237, c238, c239, c240, c241, c242, c243, c244, c245, c246, c247, c248, c249, c250, c251, c252, c253, c254, c255, c256, c257, c258, c259, c260, c261, c262, c263, c264, c265, c266, c267, c268, c269, c270, c271, c272, c273, c274, c275, c276, c277, c278, c279, c280, c281, c282, c283, c284, c285, c286, c287, c288, c289, c290, c291, c292, c293, c294, c295, c296, c297, c298, c299, c300, c301, c302, c303, c304, c305, c306, c307, c308, c309, c310, c311, c312, c313, c314, c315, c316, c317, c318, c319, c320, c321, c322, c323, c324, c325, c326, c327, c328, c329, c330, c331, c332, c333, c334, c335, c336, c337, c338, c339], []⟩ w') :
    Code.wp Tryz.prog (sumLoop 2) Q0 ⟨#[c0, c1, c2, c3, c4, (.int .i64 (wide : Nat)), (.slice (some ⟨gM, 0, none⟩) ML cM), c7, (.int .i64 (A : Nat)), (.slice (some ⟨Bw, 0, none⟩) R R), (.int .i64 0), c11, c12, c13, c14, c15, c16, c17, c18, c19, c20, c21, c22, c23, c24, c25, c26, c27, c28, c29, c30, c31, c32, c33, c34, c35, c36, c37, c38, c39, c40, c41, c42, c43, c44, c45, c46, c47, c48, c49, c50, c51, c52, c53, c54, c55, c56, c57, c58, c59, c60, c61, c62, c63, c64, c65, c66, c67, c68, c69, c70, c71, c72, c73, c74, c75, c76, c77, c78, c79, c80, c81, c82, c83, c84, c85, c86, c87, c88, c89, c90, c91, c92, c93, c94, c95, c96, c97, c98, c99, c100, c101, c102, c103, c104, c105, c106, c107, c108, c109, c110, c111, c112, c113, c114, c115, c116, c117, c118, c119, c120, c121, c122, c123, c124, c125, c126, c127, c128, c129, c130, c131, c132, c133, c134, c135, c136, c137, c138, c139, c140, c141, c142, c143, c144, c145, c146, c147, c148, c149, c150, c151, c152, c153, c154, c155, c156, c157, c158, c159, c160, c161, c162, c163, c164, c165, c166, c167, c168, c169, c170, c171, c172, c173, c174, c175, c176, c177, c178, c179, c180, c181, c182, c183, c184, c185, c186, c187, c188, c189, c190, c191, c192, c193, c194, c195, c196, c197, c198, c199, c200, c201, c202, c203, c204, c205, c206, c207, c208, c209, c210, c211, c212, c213, c214, c215, c216, c217, c218, c219, c220, c221, c222, c223, c224, c225, c226, c227, c228, c229, c230, c231, c232, c233, c234, c235, c236, c237, c238, c239, c240, c241, c242, c243, c244, c245, c246, c247, c248, c249, c250, c251, c252, c253, c254, c255, c256, c257, c258, c259, c260, c261, c262, c263, c264, c265, c266, c267, c268, c269, c270, c271, c272, c273, c274, c275, c276, c277, c278, c279, c280, c281, c282, c283, c284, c285, c286, c287, c288, c289, c290, c291, c292, c293, c294, c295, c296, c297, c298, c299, c300, c301, c302, c303, c304, c305, c306, c307, c308, c309, c310, c311, c312, c313, c314, c315, c316, c317, c318, c319, c320, c321, c322, c323, c324, c325, c326, c327, c328, c329, c330, c331, c332, c333, c334, c335, c336, c337, c338, c339], []⟩ w3 := by
  have hwd : κ.w / 8 = wide := by omega
  have hwl : wide ≤ 8 := by omega
  have hwg : 4 ≤ wide := by omega
  have HM := Lib.hid hm
  have HROW := Lib.hid hrow
  have HW8 := Lib.hid (And.intro hw8 hwd)
  have HBLL := Lib.hid hbll
  have HBL8 := Lib.hid hbl8
  clear hm hrow hw8 hwd hw4 hbll hbl8
  dsimp only at hexit ⊢
  conv => arg 2; whnf
  go_loopw [10] (fun v wr => ∃ i : Nat, i ≤ 16 ∧ v = .int .i64 (i : Nat) ∧ Row wr Bw 199 .u64 R (Sha.wF κ bl i 0) ∧ w3.grownBy wr (some Bw)) (fun v _ => (16 - intOf v).toNat)
  case atStart => exact ⟨0, by omega, rfl, HROW.out.congr (fun j _ => (Sha.wF_start _ _ _).symm), ⟨rfl, rfl, rfl, Nat.le_refl _, fun _ _ _ => rfl⟩⟩
  case round =>
    obtain ⟨i, hi, rfl, hrow, hbel⟩ := hrel
    have HR := Lib.hid hrow
    have HB := Lib.hid hbel
    clear hrow hbel
    by_cases hit : i < 16
    · obtain ⟨P, hP⟩ : ∃ P, P = wide * i := ⟨_, rfl⟩
      have hPQ : P + wide ≤ 16 * wide := by
        have : wide * (i + 1) ≤ wide * 16 := Nat.mul_le_mul_left _ (by omega)
        rw [Nat.mul_add, Nat.mul_one, ← hP, Nat.mul_comm wide 16] at this
        exact this
      have hPi : (wide : Int) * (i : Int) = (P : Int) := by rw [hP]; simp
      have HP := Lib.hid hP
      clear hP
      go_wp2_with fail
      obtain ⟨wo, rfl⟩ : ∃ wo : World, wo = wr := ⟨_, rfl⟩
      go_loopw [11] (fun v wr => ∃ m : Nat, m ≤ wide ∧ v = .int .i64 (m : Nat) ∧ Row wr Bw 199 .u64 R (Sha.wF κ bl i m) ∧ w3.grownBy wr (some Bw)) (fun v _ => (wide - intOf v).toNat)
      case atStart => exact ⟨0, by omega, rfl, HR.out, HB.out⟩
      case round =>
        obtain ⟨m, hm, rfl, hrow, hbel⟩ := hrel
        have HR2 := Lib.hid hrow
        have HB2 := Lib.hid hbel
        clear hrow hbel
        by_cases hmt : m < wide
        · have hxlt := wF_lt_pow κ bl i m (by rw [HW8.out.2, HBLL.out, ← HP.out]; omega) HBL8.out
          have hxlt2 : Sha.wF κ bl i m i < 72057594037927936 := Nat.lt_of_lt_of_le hxlt (show 2 ^ (8 * m) ≤ 2 ^ 56 from Nat.pow_le_pow_right (by decide) (by omega))
          have p1 : ∀ t : Grow wr, t.val.cell? ⟨Bw, i, none⟩ = some (.int .u64 (Sha.wF κ bl i m i : Nat)) := fun t => t.cell (HR2.out.cell (by omega))
          have p2 : ∀ t : Grow wr, t.val.cell? ⟨gM, A + P + m, none⟩ = some (.int .u8 (bl.getD (P + m) 0 : Nat)) := fun t => by
            have h1 := HM.out (P + m) (by omega)
            rw [← Nat.add_assoc] at h1
            exact t.cell ((HB2.out.cell_far ⟨gM, A + P + m, none⟩ (block_lt_of_cell h1) (fun e => hne (by injection e))).trans h1)
          have hmc : bl.getD (P + m) 0 < 256 := by
            rw [List.getD_eq_getElem?_getD, List.getElem?_eq_getElem (by rw [HBLL.out]; omega)]
            exact HBL8.out _ (List.getElem_mem _)
          obtain ⟨x, hx⟩ : ∃ x, x = Sha.wF κ bl i m i := ⟨_, rfl⟩
          obtain ⟨c, hc⟩ : ∃ c, c = bl.getD (P + m) 0 := ⟨_, rfl⟩
          rw [← hx] at hxlt2 p1
          rw [← hc] at p2 hmc
          obtain ⟨y, hy⟩ : ∃ y, y = (x * 256 ||| c) := ⟨_, rfl⟩
          have hw1 : IntKind.u64.wrap ((x : Int) * 256) = ((x * 256 : Nat) : Int) := by rw [show (x : Int) * 256 = ((x * 256 : Nat) : Int) by omega, wrap_u64_nat]; omega
          have hw2 : IntKind.u64.wrap (c : Int) = (c : Int) := by rw [wrap_u64_nat]; omega
          have hor : bits_or ((x : Int) * 256) (c : Int) = (y : Int) := by rw [hy, show (x : Int) * 256 = ((x * 256 : Nat) : Int) by omega]; exact or_u64 (x * 256) c (by omega) (by omega)
          unfold bits_or at hor
          have e1 : IntKind.i64.wrap (P : Int) = (P : Int) := IntWalk.i64_in _ (by omega)
          have e2 : IntKind.i64.wrap ((A : Int) + (P : Int)) = (A : Int) + (P : Int) := IntWalk.i64_in _ (by omega)
          have e3 : IntKind.i64.wrap ((A : Int) + (P : Int) + (m : Int)) = (A : Int) + (P : Int) + (m : Int) := IntWalk.i64_in _ (by omega)
          have e4 : (0 : Int) ≤ (A : Int) + (P : Int) + (m : Int) := by omega
          have e5 : ((A : Int) + (P : Int) + (m : Int)).toNat = A + P + m := by omega
          have e6 : (A : Int) + (P : Int) + (m : Int) < (ML : Int) := by omega
          have HX := Lib.hid hx
          have HC := Lib.hid hc
          have HY := Lib.hid hy
          clear hxlt hx hc hy
          go_wp2_with fail
          refine wp_region_fam_tail 20 (by kernel_rfl) (by kernel_rfl) Grow.val (Grow.start wr) ?_
          simp only [List.take_succ_cons, List.take_zero, List.drop_succ_cons, List.drop_zero]
          repeat go_big_quiet_step (fail)
          refine wpQuiet_nil ?_
          intro t
          have hrow := t.row HR2.out
          have q4 := hrow.cell (j := i) (by omega)
          have q5 := hrow.free i
          have HROW2 := Lib.hid hrow
          clear hrow p1 p2 e1 e2 e3 e4 e5 e6
          go_wp2_with fail
          refine ⟨⟨m + 1, by omega, rfl, ?_, grownBy_trans (grownBy_trans HB2.out (below_grownBy t.below _)) (grownBy_setCell _ _ _ _)⟩, by simp [intOf]; omega⟩
          exact rwRow_step κ (by rw [HW8.out.2, HBLL.out, ← HP.out]; omega) (by omega) (by have := HW8.out.1; omega) HBL8.out HX.out.symm (by rw [HW8.out.2, ← HP.out]; exact HC.out.symm) HY.out HROW2.out
        · have hr := HR2.out.congr (g := Sha.wF κ bl (i + 1) 0) (fun j _ => by have := Sha.wF_whole κ bl i j; rw [HW8.out.2] at this; rw [show m = wide by omega]; exact this)
          have HR3 := Lib.hid hr
          clear hr
          go_wp2_with fail
          exact ⟨⟨i + 1, by omega, rfl, HR3.out, HB2.out⟩, by simp [intOf]; omega⟩
    · have hr := HR.out.congr (g := Sha.gF κ bl 0) (fun j _ => by rw [show i = 16 by omega]; exact Sha.wF_gF κ bl j)
      have HR3 := Lib.hid hr
      clear hr
      go_wp2_with fail
      exact hexit _ _ _ _ _ _ _ _ _ _ _ _ _ _ _ _ _ _ _ _ _ _ _ _ _ _ _ _ _ _ _ wr HR3.out HB.out
end Go.Proofs.YtilpbjcbffbjeaaGreatDoor
namespace Go.Proofs.YtilpbjcbffbjeaaGreatDoor
set_option linter.unusedVariables false
open Go.RowKit
theorem addr_add0 (g k : Nat) : (⟨g, 0, none⟩ : Addr).add k = ⟨g, k, none⟩ := by unfold Addr.add; split <;> simp_all
/-- What a kind's cells say. -/
structure KAll (κ : Sha.Kind) (cs : Array Value) (R wide : Nat) (gK cK : Nat) : Prop where
  wd : WD κ.w
  kc : KCells cs κ.w
  w8 : 8 * wide = κ.w
  w4 : wide = 4 ∨ wide = 8
  R0 : 16 ≤ R
  R1 : R ≤ 1000
  Rk : R = κ.keys.length
  bk : κ.block = 16 * wide
  i8 : κ.init.length = 8
  il : ∀ j, κ.init.getD j 0 < 2 ^ κ.w
  h1 : cs[1]? = some (.int .i64 (R : Nat))
  h3 : cs[3]? = some (.int .i64 (κ.a.1 : Nat))
  h4 : cs[4]? = some (.int .i64 (κ.a.2.1 : Nat))
  h5 : cs[5]? = some (.int .i64 (κ.a.2.2 : Nat))
  h6 : cs[6]? = some (.int .i64 (κ.b.1 : Nat))
  h7 : cs[7]? = some (.int .i64 (κ.b.2.1 : Nat))
  h8 : cs[8]? = some (.int .i64 (κ.b.2.2 : Nat))
  h9 : cs[9]? = some (.int .i64 (κ.c.1 : Nat))
  h10 : cs[10]? = some (.int .i64 (κ.c.2.1 : Nat))
  h11 : cs[11]? = some (.int .i64 (κ.c.2.2 : Nat))
  h12 : cs[12]? = some (.int .i64 (κ.d.1 : Nat))
  h13 : cs[13]? = some (.int .i64 (κ.d.2.1 : Nat))
  h14 : cs[14]? = some (.int .i64 (κ.d.2.2 : Nat))
  h15 : cs[15]? = some (.slice (some ⟨gK, 0, none⟩) R cK)
  j3 : κ.a.1 ≤ κ.w
  j4 : κ.a.2.1 ≤ κ.w
  j5 : κ.a.2.2 ≤ 64
  j6 : κ.b.1 ≤ κ.w
  j7 : κ.b.2.1 ≤ κ.w
  j8 : κ.b.2.2 ≤ 64
  j9 : κ.c.1 ≤ κ.w
  j10 : κ.c.2.1 ≤ κ.w
  j11 : κ.c.2.2 ≤ κ.w
  j12 : κ.d.1 ≤ κ.w
  j13 : κ.d.2.1 ≤ κ.w
  j14 : κ.d.2.2 ≤ κ.w
set_option maxRecDepth 1000000 in
set_option maxHeartbeats 8000000 in
theorem blockLoop (κ : Sha.Kind) (cs : Array Value) (R wide gK cK : Nat) (ka : KAll κ cs R wide gK cK) (base gM ML cM gS cS nb : Nat) (hML : ML ≤ 200000000000000) (hnb : ML = 16 * wide * nb) (M : List Nat) (hMl : M.length = ML) (hM8 : ∀ c ∈ M, c < 256) (w6 : World) (Q0 : Exit → Act → World → Prop) (c0 c1 c3 c4 c9 c10 c11 c12 c13 c14 c15 c16 c17 c18 c19 c20 c21 c22 c23 c24 c25 c26 c27 c28 c29 c30 c31 c32 c33 c34 c35 c36 c37 c38 c39 c40 c41 c42 c43 c44 c45 c46 c47 c48 c49 c50 c51 c52 c53 c54 c55 c56 c57 c58 c59 c60 c61 c62 c63 c64 c65 c66 c67 c68 c69 c70 c71 c72 c73 c74 c75 c76 c77 c78 c79 c80 c81 c82 c83 c84 c85 c86 c87 c88 c89 c90 c91 c92 c93 c94 c95 c96 c97 c98 c99 c100 c101 c102 c103 c104 c105 c106 c107 c108 c109 c110 c111 c112 c113 c114 c115 c116 c117 c118 c119 c120 c121 c122 c123 c124 c125 c126 c127 c128 c129 c130 c131 c132 c133 c134 c135 c136 c137 c138 c139 c140 c141 c142 c143 c144 c145 c146 c147 c148 c149 c150 c151 c152 c153 c154 c155 c156 c157 c158 c159 c160 c161 c162 c163 c164 c165 c166 c167 c168 c169 c170 c171 c172 c173 c174 c175 c176 c177 c178 c179 c180 c181 c182 c183 c184 c185 c186 c187 c188 c189 c190 c191 c192 c193 c194 c195 c196 c197 c198 c199 c200 c201 c202 c203 c204 c205 c206 c207 c208 c209 c210 c211 c212 c213 c214 c215 c216 c217 c218 c219 c220 c221 c222 c223 c224 c225 c226 c227 c228 c229 c230 c231 c232 c233 c234 c235 c236 c237 c238 c239 c240 c241 c242 c243 c244 c245 c246 c247 c248 c249 c250 c251 c252 c253 c254 c255 c256 c257 c258 c259 c260 c261 c262 c263 c264 c265 c266 c267 c268 c269 c270 c271 c272 c273 c274 c275 c276 c277 c278 c279 c280 c281 c282 c283 c284 c285 c286 c287 c288 c289 c290 c291 c292 c293 c294 c295 c296 c297 c298 c299 c300 c301 c302 c303 c304 c305 c306 c307 c308 c309 c310 c311 c312 c313 c314 c315 c316 c317 c318 c319 c320 c321 c322 c323 c324 c325 c326 c327 c328 c329 c330 c331 c332 c333 c334 c335 c336 c337 c338 c339 : Value)
    (hblk : w6.heap[base]? = some (.cells cs 230 (0, 0))) (hkey : Cells64 w6 gK R (fun j => κ.keys.getD j 0)) (hm : ∀ j, j < ML → w6.cell? ⟨gM, j, none⟩ = some (.int .u8 (M.getD j 0 : Nat))) (hs : Cells64 w6 gS 8 (fun j => κ.init.getD j 0)) (hfr : ∀ j, w6.frozen? ⟨gS, j, none⟩ = false)
    (hMlt : gM < w6.heap.size) (hn1 : base ≠ gS) (hn2 : gK ≠ gS) (hn3 : gM ≠ gS)
    (hexit : ∀ (u8 u9 u10 u11 u12 u13 u14 u15 u16 u17 u18 u19 u20 u21 u56 u57 u58 u59 u60 u61 u62 u63 u64 u65 u66 u67 u68 u69 u70 u71 u72 u73 u74 u75 u76 u77 u78 u79 u80 u81 u82 u83 u84 u85 u86 u87 u88 u89 u90 u91 u92 u93 u94 u95 u96 u97 u98 u99 u100 u101 u102 u103 u104 u105 u106 u107 u108 u109 u110 u111 u112 u113 u114 u115 u116 u117 u118 u119 u120 u121 u122 u123 u124 u125 u126 u127 u128 u129 u130 u131 u132 u133 u134 u135 u136 u137 u138 u139 u140 u141 u142 u143 u144 u145 u146 u147 u148 u149 u150 u151 u152 u153 u154 u155 u156 u157 u158 u159 u160 u161 u162 u163 u164 u165 u166 u167 u168 u169 u170 u171 u172 u173 u174 u175 u176 u177 u178 u179 u180 u181 u182 u183 u184 u185 u186 u187 u188 u189 u190 u191 u192 u193 u194 u195 u196 u197 u198 u199 u200 u201 u202 u203 u204 u205 u206 u207 u208 u209 u210 u211 u212 u213 u214 u215 u216 u217 u218 u219 u220 u221 u222 u223 u224 u225 u226 u227 u228 u229 u230 u231 u232 u233 u234 u235 u236 u237 u238 u239 u240 u241 u242 u243 u244 u245 u246 u247 u248 u249 u250 u251 u252 u253 u254 u255 u256 u257 u258 u259 u260 u261 u262 u263 u264 u265 u266 u267 u268 u269 u270 u271 u272 u273 u274 u275 u276 u277 u278 u279 u280 u281 u282 u283 u284 u285 u286 u287 u288 u289 u290 u291 u292 u293 u294 u295 u296 u297 u298 u299 u300 u301 u302 u303 u304 u305 u306 u307 u308 u309 u310 u311 u312 u313 u314 u315 u316 u317 u318 u319 u320 u321 : Value) (w' : World), Cells64 w' gS 8 (fun j => (Sha.stateN κ M nb).getD j 0) → w6.grownBy w' (some gS) → Q0 (.exit 2) ⟨#[c0, c1, (.pointer (some ⟨base, 0, none⟩)), c3, c4, (.int .i64 (wide : Nat)), (.slice (some ⟨gM, 0, none⟩) ML cM), (.slice (some ⟨gS, 0, none⟩) 8 cS), u8, u9, u10, u11, u12, u13, u14, u15, u16, u17, u18, u19, u20, u21, c22, c23, c24, c25, c26, c27, c28, c29, c30, c31, c32, c33, c34, c35, c36, c37, c38, c39, c40, c41, c42, c43, c44, c45, c46, c47, c48, c49, c50, c51, c52, c53, c54, c55, u56, u57, u58, u59, u60, u61, u62, u63, u64, u65, u66, u67, u68, u69, u70, u71, u72, u73, u74, u75, u76, u77, u78, u79, u80, u81, u82, u83, u84, u85, u86, u87, u88, u89, u90, u91, u92, u93, u94, u95, u96, u97, u98, u99, u100, u101, u102, u103, u104, u105, u106, u107, u108, u109, u110, u111, u112, u113, u114, u115, u116, u117, u118, u119, u120, u121, u122, u123, u124, u125, u126, u127, u128, u129, u130, u131, u132, u133, u134, u135, u136, u137, u138, u139, u140, u141, u142, u143, u144, u145, u146, u147, u148, u149, u150, u151, u152, u153, u154, u155, u156, u157, u158, u159, u160, u161, u162, u163, u164, u165, u166, u167, u168, u169, u170, u171, u172, u173, u174, u175, u176, u177, u178, u179, u180, u181, u182, u183, u184, u185, u186, u187, u188, u189, u190, u191, u192, u193, u194, u195, u196, u197, u198, u199, u200, u201, u202, u203, u204, u205, u206, u207, u208, u209, u210, u211, u212, u213, u214, u215, u216, u217, u218, u219, u220, u221, u222, u223, u224, u225, u226, u227, u228, u229, u230, u231, u232, u233, u234, u235, u236, u237, u238, u239, u240, u241, u242, u243, u244, u245, u246, u247, u248, u249, u250, u251, u252, u253, u254, u255, u256, u257, u258, u259, u260, u261, u262, u263, u264, u265, u266, u267, u268, u269, u270, u271, u272, u273, u274, u275, u276, u277, u278, u279, u280, u281, u282, u283, u284, u285, u286, u287, u288, u289, u290, u291, u292, u293, u294, u295, u296, u297, u298, u299, u300, u301, u302, u303, u304, u305, u306, u307, u308, u309, u310, u311, u312, u313, u314, u315, u316, u317, u318, u319, u320, u321, c322, c323, c324, c325, c326, c327, c328, c329, c330, c331, c332, c333, c334, c335, c336, c337, c338, c339], []⟩ w') :
    Code.wp Tryz.prog (sumLoop 1) Q0 ⟨#[c0, c1, (.pointer (some ⟨base, 0, none⟩)), c3, c4, (.int .i64 (wide : Nat)), (.slice (some ⟨gM, 0, none⟩) ML cM), (.slice (some ⟨gS, 0, none⟩) 8 cS), (.int .i64 0), c9, c10, c11, c12, c13, c14, c15, c16, c17, c18, c19, c20, c21, c22, c23, c24, c25, c26, c27, c28, c29, c30, c31, c32, c33, c34, c35, c36, c37, c38, c39, c40, c41, c42, c43, c44, c45, c46, c47, c48, c49, c50, c51, c52, c53, c54, c55, c56, c57, c58, c59, c60, c61, c62, c63, c64, c65, c66, c67, c68, c69, c70, c71, c72, c73, c74, c75, c76, c77, c78, c79, c80, c81, c82, c83, c84, c85, c86, c87, c88, c89, c90, c91, c92, c93, c94, c95, c96, c97, c98, c99, c100, c101, c102, c103, c104, c105, c106, c107, c108, c109, c110, c111, c112, c113, c114, c115, c116, c117, c118, c119, c120, c121, c122, c123, c124, c125, c126, c127, c128, c129, c130, c131, c132, c133, c134, c135, c136, c137, c138, c139, c140, c141, c142, c143, c144, c145, c146, c147, c148, c149, c150, c151, c152, c153, c154, c155, c156, c157, c158, c159, c160, c161, c162, c163, c164, c165, c166, c167, c168, c169, c170, c171, c172, c173, c174, c175, c176, c177, c178, c179, c180, c181, c182, c183, c184, c185, c186, c187, c188, c189, c190, c191, c192, c193, c194, c195, c196, c197, c198, c199, c200, c201, c202, c203, c204, c205, c206, c207, c208, c209, c210, c211, c212, c213, c214, c215, c216, c217, c218, c219, c220, c221, c222, c223, c224, c225, c226, c227, c228, c229, c230, c231, c232, c233, c234, c235, c236, c237, c238, c239, c240, c241, c242, c243, c244, c245, c246, c247, c248, c249, c250, c251, c252, c253, c254, c255, c256, c257, c258, c259, c260, c261, c262, c263, c264, c265, c266, c267, c268, c269, c270, c271, c272, c273, c274, c275, c276, c277, c278, c279, c280, c281, c282, c283, c284, c285, c286, c287, c288, c289, c290, c291, c292, c293, c294, c295, c296, c297, c298, c299, c300, c301, c302, c303, c304, c305, c306, c307, c308, c309, c310, c311, c312, c313, c314, c315, c316, c317, c318, c319, c320, c321, c322, c323, c324, c325, c326, c327, c328, c329, c330, c331, c332, c333, c334, c335, c336, c337, c338, c339], []⟩ w6 := by
  obtain ⟨i0, hi, hz0, hz1, hz2⟩ := info_parts info58
  have hR1 := ka.R1
  have hR0 := ka.R0
  have hw4 : 4 ≤ wide ∧ wide ≤ 8 := by rcases ka.w4 with h | h <;> omega
  have hmk : ∀ u : World, (Instr.makeSlice 228 (.int .i64 (R : Int)) (.int .i64 (R : Int))).run Tryz.prog u =
      .ok (.slice (some ⟨u.heap.size, 0, none⟩) R R) (u.alloc (.cells (rowOf .u64 R (fun _ => 0)).toArray 199)) := fun u => by
    have h := run_make (P := Tryz.prog) u 228 199 i0 (.int .u64 0) Tryz.underlying228 hi hz0 .i64 .i64 (R : Int) (R : Int) (by omega) (Int.le_refl _) (by rw [hz2]; omega) (by omega)
    rw [show ((R : Int)).toNat = R by omega] at h
    rw [← madeCells_row]
    simpa [hz1, Value.cells] using h
  have KA := Lib.hid ka
  have HNB := Lib.hid hnb
  have HBLK := Lib.hid hblk
  have HKEY := Lib.hid hkey
  have HM := Lib.hid hm
  have HS := Lib.hid hs
  have HFR := Lib.hid hfr
  have HML := Lib.hid hMl
  have HM8 := Lib.hid hM8
  have hbl : base < w6.heap.size := (Array.getElem?_eq_some_iff.1 hblk).1
  have hgS : gS < w6.heap.size := block_lt_of_cell (hs 0 (by decide))
  have hgK : gK < w6.heap.size := block_lt_of_cell (hkey 0 (by omega))
  clear ka hnb hblk hkey hm hs hfr hMl hM8 hi hz0 hz1 hz2
  dsimp only at hexit ⊢
  conv => arg 2; whnf
  go_loopw [8] (fun v wr => ∃ (q A : Nat), q ≤ nb ∧ A = 16 * wide * q ∧ v = .int .i64 (A : Nat) ∧ w6.grownBy wr (some gS) ∧ Cells64 wr gS 8 (fun j => (Sha.stateN κ M q).getD j 0) ∧ (∀ j, wr.frozen? ⟨gS, j, none⟩ = false)) (fun v _ => (ML - intOf v).toNat)
  case atStart => exact ⟨0, 0, by omega, by simp, rfl, ⟨rfl, rfl, rfl, Nat.le_refl _, fun _ _ _ => rfl⟩, HS.out, HFR.out⟩
  case round =>
    obtain ⟨q, A, hq, hA, rfl, hg, hst, hfs⟩ := hrel
    have hAM : A ≤ ML := by rw [hA, HNB.out]; exact Nat.mul_le_mul_left _ hq
    have HG := Lib.hid hg
    have HST := Lib.hid hst
    have HFS := Lib.hid hfs
    have hsz6 := hg.size
    by_cases hqt : q < nb
    · have hA2 : A + 16 * wide ≤ ML := by
        have : 16 * wide * (q + 1) ≤ 16 * wide * nb := Nat.mul_le_mul_left _ hqt
        rw [Nat.mul_add, Nat.mul_one, ← hA, ← HNB.out] at this
        exact this
      have HA := Lib.hid hA
      have hat : A < ML := by omega
      have q1 : wr.cell? ⟨base, 1, none⟩ = some (.int .i64 (R : Nat)) := (hg.cell_far ⟨base, 1, none⟩ hbl (fun e => hn1 (by injection e))).trans ((cell_of_row w6 base 1 cs 230 (0, 0) HBLK.out).trans KA.out.h1)
      clear hA hg hst hfs
      go_wp2_with fail
      have hrow0 := Row.new wr 199 .u64 R (fun _ => 0) _ rfl
      have hbel0 : Below wr.heap.size wr (wr.alloc (.cells (rowOf .u64 R (fun _ => 0)).toArray 199)) := (Below.refl _ _).alloc (Nat.le_refl _) _
      obtain ⟨W3, hW3⟩ : ∃ v, v = wr.alloc (.cells (rowOf .u64 R (fun _ => 0)).toArray 199) := ⟨_, rfl⟩
      rw [← hW3] at hrow0 hbel0 ⊢
      obtain ⟨bl, hbl⟩ : ∃ bl, bl = (M.drop A).take (16 * wide) := ⟨_, rfl⟩
      have hbll : bl.length = 16 * wide := by rw [hbl, List.length_take, List.length_drop, HML.out]; omega
      have hbl8 : ∀ c ∈ bl, c < 256 := fun c hc => by rw [hbl] at hc; exact HM8.out c (List.mem_of_mem_drop (List.mem_of_mem_take hc))
      have hmb : ∀ j, j < 16 * wide → W3.cell? ⟨gM, A + j, none⟩ = some (.int .u8 (bl.getD j 0 : Nat)) := fun j hj => by
        have h1 := HM.out (A + j) (by omega)
        have h2 : bl.getD j 0 = M.getD (A + j) 0 := by
          rw [hbl, List.getD_eq_getElem?_getD, List.getD_eq_getElem?_getD, List.getElem?_take, if_pos hj, List.getElem?_drop]
        rw [h2, ← h1, ← HG.out.cell_far ⟨gM, A + j, none⟩ hMlt (fun e => hn3 (by injection e))]
        exact hbel0.cell (p := ⟨gM, A + j, none⟩) (by show gM < _; omega)
      have hblk3 : ∀ b, b < w6.heap.size → b ≠ gS → W3.heap[b]? = w6.heap[b]? := fun b hb hne =>
        (hbel0.block b (by omega)).trans (HG.out.block b hb (by intro e; injection e with e; exact hne e))
      have HB0 := Lib.hid hbel0
      have HBL3 := Lib.hid hblk3
      have HBL := Lib.hid hbl
      have HBLL := Lib.hid hbll
      have HBL8 := Lib.hid hbl8
      have hW3s : W3.heap.size = wr.heap.size + 1 := by rw [hW3]; simp
      have HW3S := Lib.hid hW3s
      clear hW3 hbel0 hblk3 hbl q1 hW3s
      refine wordLoop κ wide KA.out.w8 KA.out.w4 R hR0 hR1 gM ML cM A wr.heap.size hML hA2 bl hbll hbl8 W3 _ _ _ _ _ _ _ _ _ _ _ _ _ _ _ _ _ _ _ _ _ _ _ _ _ _ _ _ _ _ _ _ _ _ _ _ _ _ _ _ _ _ _ _ _ _ _ _ _ _ _ _ _ _ _ _ _ _ _ _ _ _ _ _ _ _ _ _ _ _ _ _ _ _ _ _ _ _ _ _ _ _ _ _ _ _ _ _ _ _ _ _ _ _ _ _ _ _ _ _ _ _ _ _ _ _ _ _ _ _ _ _ _ _ _ _ _ _ _ _ _ _ _ _ _ _ _ _ _ _ _ _ _ _ _ _ _ _ _ _ _ _ _ _ _ _ _ _ _ _ _ _ _ _ _ _ _ _ _ _ _ _ _ _ _ _ _ _ _ _ _ _ _ _ _ _ _ _ _ _ _ _ _ _ _ _ _ _ _ _ _ _ _ _ _ _ _ _ _ _ _ _ _ _ _ _ _ _ _ _ _ _ _ _ _ _ _ _ _ _ _ _ _ _ _ _ _ _ _ _ _ _ _ _ _ _ _ _ _ _ _ _ _ _ _ _ _ _ _ _ _ _ _ _ _ _ _ _ _ _ _ _ _ _ _ _ _ _ _ _ _ _ _ _ _ _ _ _ _ _ _ _ _ _ _ _ _ _ _ _ _ _ _ _ _ _ _ _ _ _ _ _ _ _ _ _ _ _ _ _ _ _ _ _ _ _ _ _ _ _ _ _ _ _ _ _ _ _ _ _ _ _ _ _ _ _ hmb hrow0 (by omega) ?_
      clear hmb hrow0 hbll hbl8
      intro u10 u11 u67 u68 u69 u70 u71 u72 u73 u74 u75 u76 u77 u78 u79 u80 u81 u82 u83 u84 u85 u86 u87 u88 u89 u90 u91 u92 u93 u94 u95 w2 hrow2 hg2
      have HROW2 := Lib.hid hrow2
      have HG2 := Lib.hid hg2
      clear hrow2 hg2
      go_wp2_with fail
      have hblk2 : ∀ b, b < w6.heap.size → b ≠ gS → w2.heap[b]? = w6.heap[b]? := fun b hb hne =>
        (HG2.out.block b (by rw [HW3S.out]; omega) (by intro e; injection e with e; omega)).trans (HBL3.out b hb hne)
      have HBL2 := Lib.hid hblk2
      refine schedLoop κ KA.out.wd cs KA.out.kc R hR0 hR1 base wr.heap.size bl HBL8.out w2 _ _ _ _ _ _ _ _ _ _ _ _ _ _ _ _ _ _ _ _ _ _ _ _ _ _ _ _ _ _ _ _ _ _ _ _ _ _ _ _ _ _ _ _ _ _ _ _ _ _ _ _ _ _ _ _ _ _ _ _ _ _ _ _ _ _ _ _ _ _ _ _ _ _ _ _ _ _ _ _ _ _ _ _ _ _ _ _ _ _ _ _ _ _ _ _ _ _ _ _ _ _ _ _ _ _ _ _ _ _ _ _ _ _ _ _ _ _ _ _ _ _ _ _ _ _ _ _ _ _ _ _ _ _ _ _ _ _ _ _ _ _ _ _ _ _ _ _ _ _ _ _ _ _ _ _ _ _ _ _ _ _ _ _ _ _ _ _ _ _ _ _ _ _ _ _ _ _ _ _ _ _ _ _ _ _ _ _ _ _ _ _ _ _ _ _ _ _ _ _ _ _ _ _ _ _ _ _ _ _ _ _ _ _ _ _ _ _ _ _ _ _ _ _ _ _ _ _ _ _ _ _ _ _ _ _ _ _ _ _ _ _ _ _ _ _ _ _ _ _ _ _ _ _ _ _ _ _ _ _ _ _ _ _ _ _ _ _ _ _ _ _ _ _ _ _ _ _ _ _ _ _ _ _ _ _ _ _ _ _ _ _ _ _ _ _ _ _ _ _ _ _ _ _ _ _ _ _ _ _ _ _ _ _ _ _ _ _ _ _ _ _ _ _ _ _ _ _ _ _ _ _ _ _ _ _ _ _ ((hblk2 base hbl hn1).trans HBLK.out) KA.out.h1 KA.out.h3 KA.out.h4 KA.out.h5 KA.out.h6 KA.out.h7 KA.out.h8 KA.out.j3 KA.out.j4 KA.out.j5 KA.out.j8 KA.out.j6 KA.out.j7 HROW2.out (by omega) ?_
      clear hblk2
      intro u12 u13 u14 u96 u97 u98 u99 u100 u101 u102 u103 u104 u105 u106 u107 u108 u109 u110 u111 u112 u113 u114 u115 u116 u117 u118 u119 u120 u121 u122 u123 u124 u125 u126 u127 u128 u129 u130 u131 u132 u133 u134 u135 u136 u137 u138 u139 u140 u141 u142 u143 u144 u145 u146 u147 u148 u149 u150 u151 u152 u153 u154 u155 u156 u157 u158 u159 u160 u161 u162 u163 u164 u165 u166 u167 w4 hrow4 hg4
      have HROW4 := Lib.hid hrow4
      have HG4 := Lib.hid hg4
      clear hrow4 hg4
      obtain ⟨st, hste⟩ : ∃ l, l = Sha.stateN κ M q := ⟨_, rfl⟩
      have hstl : st.length = 8 := by rw [hste]; exact Sha.length_stateN κ KA.out.i8 M q
      have hstlt : ∀ j, st.getD j 0 < 2 ^ κ.w := by rw [hste]; exact Sha.stateN_lt κ KA.out.il M q
      have hs2 := HG2.out.size
      have hs4 := HG4.out.size
      rw [HW3S.out] at hs2
      have hblk4 : ∀ b, b < w6.heap.size → b ≠ gS → w4.heap[b]? = w6.heap[b]? := fun b hb hne =>
        (HG4.out.block b (by omega) (by intro e; injection e with e; omega)).trans (HBL2.out b hb hne)
      have hgs4 : ∀ b, b < wr.heap.size → w4.heap[b]? = wr.heap[b]? := fun b hb =>
        ((HG4.out.block b (by omega) (by intro e; injection e with e; omega)).trans (HG2.out.block b (by rw [HW3S.out]; omega) (by intro e; injection e with e; omega))).trans (HB0.out.block b hb)
      have hcst : Cells64 w4 gS 8 (fun j => st.getD j 0) := fun j hj => (World.cell?_of_block (hgs4 gS (by omega))).trans (by rw [hste]; exact HST.out j hj)
      have hfs4 : ∀ j, w4.frozen? ⟨gS, j, none⟩ = false := fun j => by
        have h1 := HFS.out j
        unfold World.frozen? at h1 ⊢
        rw [hgs4 gS (by omega)]
        exact h1
      have HSTE := Lib.hid hste
      have HSTL := Lib.hid hstl
      have HSTLT := Lib.hid hstlt
      have HCST := Lib.hid (hcst.below ((Below.refl w4.heap.size w4).alloc (Nat.le_refl _) (.cells #[] 199)))
      have HCST0 := Lib.hid hcst
      have HFS4 := Lib.hid hfs4
      have HBL4 := Lib.hid hblk4
      have HGS4 := Lib.hid hgs4
      clear hste hstl hstlt hblk4 hgs4 hcst hfs4 HBL2 HROW2
      go_wp2_with (at_builtin; refine wpList_append_u64 rfl _ _ 228 rfl Tryz.underlying228 info58 rfl (Owns64.lit (base := w4.heap.size) w4 [] #[] (Nat.le_refl _) rfl (by decide)) ⟨gS, 0, none⟩ 8 cS st rfl HSTL.out ?g1 ?g2 ?g3 ?_)
      case g1 => intro k hk; rw [addr_add0]; exact HCST.out k hk
      case g2 => decide
      case g3 => simp
      intro vv w7 ho7 hg7 _
      obtain ⟨gv, cv, rfl, hgv, _, hcv, _⟩ := ho7.form (by show 0 < st.length; rw [HSTL.out]; decide)
      have hb7 : Below w4.heap.size w4 w7 := ((Below.refl _ _).alloc (Nat.le_refl _) _).grown hg7 (by simp) (fun k hk => by simp [Value.ownBlock] at hk; omega)
      have hl8 : st.length = 8 := HSTL.out
      have hcv8 : Cells64 w7 gv 8 (fun j => st.getD j 0) := fun j hj => hcv j (by rw [hl8]; exact hj)
      rw [hl8]
      have hs7 := hb7.size
      have HB7 := Lib.hid hb7
      have HCV := Lib.hid hcv8
      clear ho7 hg7 hcv hl8 hcv8 hb7 HCST
      go_wp2_with fail
      have hgvS : gS ≠ gv := by omega
      have hw4r : wr.heap.size < w4.heap.size := by omega
      have hkeys : Cells64 w7 gK R (fun j => κ.keys.getD j 0) := fun j hj =>
        (World.cell?_of_block ((HB7.out.block gK (by omega)).trans (HBL4.out gK hgK hn2))).trans (HKEY.out j hj)
      have hws : Cells64 w7 wr.heap.size R (fun j => (Sha.grow κ (Sha.words κ bl) (R - 16)).getD j 0) := fun j hj =>
        (HB7.out.cell (p := ⟨wr.heap.size, j, none⟩) hw4r).trans (HROW4.out.cell hj)
      have hblk7 : w7.heap[base]? = some (.cells cs 230 (0, 0)) := (HB7.out.block base (by omega)).trans ((HBL4.out base hbl hn1).trans HBLK.out)
      refine roundLoop κ KA.out.wd cs KA.out.kc R hR1 base gS wr.heap.size gK cK gv cv (Sha.grow κ (Sha.words κ bl) (R - 16)) st w7 _ _ _ _ _ _ _ _ _ _ _ _ _ _ _ _ _ _ _ _ _ _ _ _ _ _ _ _ _ _ _ _ _ _ _ _ _ _ _ _ _ _ _ _ _ _ _ _ _ _ _ _ _ _ _ _ _ _ _ _ _ _ _ _ _ _ _ _ _ _ _ _ _ _ _ _ _ _ _ _ _ _ _ _ _ _ _ _ _ _ _ _ _ _ _ _ _ _ _ _ _ _ _ _ _ _ _ _ _ _ _ _ _ _ _ _ _ _ _ _ _ _ _ _ _ _ _ _ _ _ _ _ _ _ _ _ _ _ _ _ _ _ _ _ _ _ _ _ _ _ _ _ _ _ _ _ _ _ _ _ _ _ _ _ _ _ _ _ _ _ _ _ _ _ _ _ _ _ _ _ _ _ _ _ _ _ _ _ _ _ _ _ _ _ _ _ _ _ _ _ _ _ _ _ _ _ _ _ _ _ _ _ _ _ _ _ _ _ _ _ _ _ _ _ _ _ _ _ _ _ _ _ _ _ _ _ _ _ _ _ _ _ _ _ _ _ _ _ _ _ _ _ _ _ _ _ _ _ _ _ _ _ _ _ _ _ _ _ _ _ _ _ _ _ _ _ _ _ _ _ _ _ _ _ _ _ _ _ _ _ _ _ _ _ _ _ _ _ _ _ _ _ _ _ _ _ _ _ _ _ _ _ _ _ _ _ _ _ _ _ _ _ _ _ _ _ _ _ _ _ _ _ _ _ _ _ _ hblk7 KA.out.h1 KA.out.h9 KA.out.h10 KA.out.h11 KA.out.h12 KA.out.h13 KA.out.h14 KA.out.h15 KA.out.j9 KA.out.j10 KA.out.j11 KA.out.j12 KA.out.j13 KA.out.j14 hkeys hws HCV.out HSTLT.out hgvS (by omega) ?_
      clear hkeys hws hblk7
      intro u16 u17 u18 u19 u20 u171 u172 u173 u174 u175 u176 u177 u178 u179 u180 u181 u182 u183 u184 u185 u186 u187 u188 u189 u190 u191 u192 u193 u194 u195 u196 u197 u198 u199 u200 u201 u202 u203 u204 u205 u206 u207 u208 u209 u210 u211 u212 u213 u214 u215 u216 u217 u218 u219 u220 u221 u222 u223 u224 u225 u226 u227 u228 u229 u230 u231 u232 u233 u234 u235 u236 u237 u238 u239 u240 u241 u242 u243 u244 u245 u246 u247 u248 u249 u250 u251 u252 u253 u254 u255 u256 u257 u258 u259 u260 u261 u262 u263 u264 u265 u266 u267 u268 u269 u270 u271 u272 u273 u274 u275 u276 u277 u278 u279 u280 u281 u282 u283 u284 u285 u286 u287 u288 u289 u290 u291 u292 u293 u294 u295 u296 u297 u298 u299 u300 u301 u302 u303 gx cx w8 hcx hnx hb8
      have HCX := Lib.hid hcx
      have HB8 := Lib.hid hb8
      have hs8 := hb8.size
      clear hcx hb8
      go_wp2_with fail
      have hblk8 : w8.heap[base]? = some (.cells cs 230 (0, 0)) := (HB8.out.block base (by omega)).trans ((HB7.out.block base (by omega)).trans ((HBL4.out base hbl hn1).trans HBLK.out))
      have hst8 : ∀ j, (∀ v, w4.cell? ⟨gS, j, none⟩ = some v → w8.cell? ⟨gS, j, none⟩ = some v) := fun j v hv =>
        (HB8.out.cell (p := ⟨gS, j, none⟩) (by show gS < _; omega)).trans ((HB7.out.cell (p := ⟨gS, j, none⟩) (by show gS < _; omega)).trans hv)
      have hfs8 : ∀ j, w8.frozen? ⟨gS, j, none⟩ = false := fun j =>
        (HB8.out.frozen (p := ⟨gS, j, none⟩) (by show gS < _; omega)).trans ((HB7.out.frozen (p := ⟨gS, j, none⟩) (by show gS < _; omega)).trans (HFS4.out j))
      refine stateLoop κ.w KA.out.wd cs KA.out.kc base gS cS gx cx (fun j => st.getD j 0) (Sha.rF κ (Sha.grow κ (Sha.words κ bl) (R - 16)) st R) w8 _ _ _ _ _ _ _ _ _ _ _ _ _ _ _ _ _ _ _ _ _ _ _ _ _ _ _ _ _ _ _ _ _ _ _ _ _ _ _ _ _ _ _ _ _ _ _ _ _ _ _ _ _ _ _ _ _ _ _ _ _ _ _ _ _ _ _ _ _ _ _ _ _ _ _ _ _ _ _ _ _ _ _ _ _ _ _ _ _ _ _ _ _ _ _ _ _ _ _ _ _ _ _ _ _ _ _ _ _ _ _ _ _ _ _ _ _ _ _ _ _ _ _ _ _ _ _ _ _ _ _ _ _ _ _ _ _ _ _ _ _ _ _ _ _ _ _ _ _ _ _ _ _ _ _ _ _ _ _ _ _ _ _ _ _ _ _ _ _ _ _ _ _ _ _ _ _ _ _ _ _ _ _ _ _ _ _ _ _ _ _ _ _ _ _ _ _ _ _ _ _ _ _ _ _ _ _ _ _ _ _ _ _ _ _ _ _ _ _ _ _ _ _ _ _ _ _ _ _ _ _ _ _ _ _ _ _ _ _ _ _ _ _ _ _ _ _ _ _ _ _ _ _ _ _ _ _ _ _ _ _ _ _ _ _ _ _ _ _ _ _ _ _ _ _ _ _ _ _ _ _ _ _ _ _ _ _ _ _ _ _ _ _ _ _ _ _ _ _ _ _ _ _ _ _ _ _ _ _ _ _ _ _ _ _ _ _ _ _ _ _ _ _ _ _ _ _ _ _ _ _ _ _ _ _ _ _ hblk8 (fun j hj => hst8 j _ (HCST0.out j hj)) HCX.out (fun j _ => HSTLT.out j) (Sha.rF_lt κ _ st HSTLT.out R) hfs8 hnx hn1 ?_
      clear hblk8 hst8 hfs8
      intro u21 u304 u305 u306 u307 u308 u309 u310 u311 u312 u313 u314 u315 u316 u317 u318 u319 u320 u321 w9 hc9 hf9 hg9
      have HC9 := Lib.hid hc9
      have HF9 := Lib.hid hf9
      have HG9 := Lib.hid hg9
      clear hc9 hf9 hg9
      go_wp2_with fail
      refine ⟨⟨q + 1, A + 16 * wide, hqt, ?_, rfl, ?_, ?_, HF9.out⟩, by simp [intOf]; omega⟩
      · rw [Nat.mul_add, Nat.mul_one, ← HA.out]
      · refine grownBy_trans HG.out ⟨?_, ?_, ?_, ?_, ?_⟩
        · rw [HG9.out.os, HB8.out.os, HB7.out.os, HG4.out.os, HG2.out.os, HB0.out.os]
        · rw [HG9.out.tape, HB8.out.tape, HB7.out.tape, HG4.out.tape, HG2.out.tape, HB0.out.tape]
        · rw [HG9.out.output, HB8.out.output, HB7.out.output, HG4.out.output, HG2.out.output, HB0.out.output]
        · have := HG9.out.size; omega
        · intro b hb hne
          rw [HG9.out.block b (by omega) hne, HB8.out.block b (by omega), HB7.out.block b (by omega)]
          exact HGS4.out b hb
      · intro j hj
        rw [HC9.out j hj]
        have e1 : Sha.stateN κ M (q + 1) = Sha.next κ st bl := by
          show Sha.next κ (Sha.stateN κ M q) ((M.drop (q * κ.block)).take κ.block) = _
          rw [HSTE.out, HBL.out, KA.out.bk, Nat.mul_comm q, ← HA.out]
        dsimp only
        rw [e1, Sha.next_getD _ _ _ _ hj, ← KA.out.Rk]
    · have hqn : q = nb := by omega
      rw [hqn] at hst hA
      have hAL : A = ML := by rw [hA, HNB.out]
      have HST := Lib.hid hst
      clear hA hg hst hfs
      go_wp2_with fail
      exact hexit _ _ _ _ _ _ _ _ _ _ _ _ _ _ _ _ _ _ _ _ _ _ _ _ _ _ _ _ _ _ _ _ _ _ _ _ _ _ _ _ _ _ _ _ _ _ _ _ _ _ _ _ _ _ _ _ _ _ _ _ _ _ _ _ _ _ _ _ _ _ _ _ _ _ _ _ _ _ _ _ _ _ _ _ _ _ _ _ _ _ _ _ _ _ _ _ _ _ _ _ _ _ _ _ _ _ _ _ _ _ _ _ _ _ _ _ _ _ _ _ _ _ _ _ _ _ _ _ _ _ _ _ _ _ _ _ _ _ _ _ _ _ _ _ _ _ _ _ _ _ _ _ _ _ _ _ _ _ _ _ _ _ _ _ _ _ _ _ _ _ _ _ _ _ _ _ _ _ _ _ _ _ _ _ _ _ _ _ _ _ _ _ _ _ _ _ _ _ _ _ _ _ _ _ _ _ _ _ _ _ _ _ _ _ _ _ _ _ _ _ _ _ _ _ _ _ _ _ _ _ _ _ _ _ _ _ _ _ _ _ _ _ _ _ _ _ _ _ _ _ _ _ _ _ _ _ _ _ _ _ _ _ _ _ _ _ _ _ _ _ _ _ _ _ _ _ _ _ _ _ wr HST.out HG.out
end Go.Proofs.YtilpbjcbffbjeaaGreatDoor
