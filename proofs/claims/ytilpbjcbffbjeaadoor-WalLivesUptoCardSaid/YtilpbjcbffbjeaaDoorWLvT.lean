/- The law WalLives: what follows the appends of a life: the power goes, the log is opened. -/
import Derived.Test.YtilpbjcbffbjeaaDoorWLvIn
namespace Go.Proofs.YtilpbjcbffbjeaaDoor
set_option linter.unusedVariables false
set_option maxRecDepth 100000
open Go.RowKit
structure Lf where
  texts : List ByteArray
  thens : List Int
  sn : ByteArray
  n : Int
  ag : Int
  css : List (List Int)
def Lf.zero : Lf := ⟨[], [], ⟨#[]⟩, 0, 0, []⟩
structure LfOk (x : Lf) : Prop where
  t : x.texts.length ≤ 1048576
  h : x.thens.length ≤ 1048576
  c : x.css.length ≤ 1048576
  cs : ∀ i, (x.css.getD i []).length ≤ 1048576
  n : x.n ≤ 9223372036854775807
  ag : x.ag ≤ 9223372036854775807
/-- Lives that came in. -/
def Lifes (w : World) (v : Value) (ls : List Lf) : Prop :=
  ∃ p cap, v = .slice p ls.length cap ∧ ∀ i, i < ls.length → ∃ b off tv hv cv, p = some ⟨b, off, none⟩ ∧ w.cell? ⟨b, off + i * 6, none⟩ = some tv ∧ w.cell? ⟨b, off + i * 6 + 1, none⟩ = some hv ∧ w.cell? ⟨b, off + i * 6 + 2, none⟩ = some (.string (ls.getD i Lf.zero).sn) ∧
    w.cell? ⟨b, off + i * 6 + 3, none⟩ = some (.int .i64 (ls.getD i Lf.zero).n) ∧ w.cell? ⟨b, off + i * 6 + 4, none⟩ = some (.int .i64 (ls.getD i Lf.zero).ag) ∧ w.cell? ⟨b, off + i * 6 + 5, none⟩ = some cv ∧
    Strs w tv (ls.getD i Lf.zero).texts ∧ Ints w hv (ls.getD i Lf.zero).thens ∧ Rss w cv (ls.getD i Lf.zero).css
/-- How many texts there are. -/
def tot : List Lf → Nat
  | [] => 0
  | x :: l => x.texts.length + tot l
theorem tot_take (l : List Lf) : ∀ i, i < l.length → tot (l.take (i + 1)) = tot (l.take i) + (l.getD i Lf.zero).texts.length := by
  induction l with
  | nil => intro i h; simp at h
  | cons x l ih =>
    intro i h
    cases i with
    | zero => simp [tot]
    | succ i =>
      have := ih i (by simpa using h)
      rw [List.take_succ_cons, List.take_succ_cons, tot, tot, this]
      simp; omega
theorem tot_le (l : List Lf) : ∀ i, tot (l.take i) ≤ tot l := by
  induction l with
  | nil => intro i; simp [tot]
  | cons x l ih =>
    intro i
    cases i with
    | zero => simp [tot]
    | succ i => rw [List.take_succ_cons, tot, tot]; have := ih i; omega
/-- Between two lives: the files are at rest. -/
structure LvF (D : Dk) (may : List (ByteArray × List ByteArray)) (M m : Nat) (s : ByteArray) (q : List ByteArray) : Prop where
  ok : DOk D
  two : D.l.length = 2
  ml : may.length ≤ 1 + 2 * m
  mp : ∀ x ∈ may, x.2.length ≤ 1048576
  rest : Rest D.l M 0 s q
  mem : (s, q) ∈ may
structure LvD (W : World) (b g cap nb B1 : Nat) (D : Dk) (vm : Value) (may : List (ByteArray × List ByteArray)) (w : World) : Prop where
  at_ : At W.heap.size W b g cap D w
  may : MayV w B1 vm may
  nb : ∃ x y, w.heap[nb]? = some (.cells #[x, y] 50 (0, 0))
section
variable {W w w' : World} {b g cap nb B1 M m : Nat} {D D' : Dk} {vm : Value} {may : List (ByteArray × List ByteArray)} {s : ByteArray} {q : List ByteArray}
theorem LvD.call (h : LvD W b g cap nb B1 D vm may w) (hB : b < B1 ∧ g < B1) (hn : nb ≠ b ∧ nb ≠ g) (ha : At W.heap.size W b g cap D' w') (hc : Chg (fun k => k = b ∨ k = g) w w') : LvD W b g cap nb B1 D' vm may w' := by
  obtain ⟨x, y, hxy⟩ := h.nb
  exact ⟨ha, h.may.keep hc h.at_.disk.muts (fun k hk hs => by omega), x, y, (hc.block nb (Array.getElem?_eq_some_iff.1 hxy).1 (by omega)).trans hxy⟩
theorem LvD.below (h : LvD W b g cap nb B1 D vm may w) (hb : Below w.heap.size w w') : LvD W b g cap nb B1 D vm may w' := by
  obtain ⟨x, y, hxy⟩ := h.nb
  exact ⟨h.at_.grow hb, h.may.below hb, x, y, (hb.block nb (Array.getElem?_eq_some_iff.1 hxy).1).trans hxy⟩
theorem LvF.died (h : LvF D may M m s q) (css : List (List Int)) : LvF (D.died css) may M m s q :=
  ⟨h.ok.died css, (died_l D css).1.trans h.two, h.ml, h.mp, h.rest.died (died_l D css), h.mem⟩
theorem LvF.revive (h : LvF D may M m s q) : LvF ⟨D.l, 0, D.ch, false⟩ may M m s q := ⟨⟨h.ok.n, h.ok.pos, h.ok.size, h.ok.many, Nat.zero_le _, h.ok.chl⟩, h.two, h.ml, h.mp, h.rest, h.mem⟩
theorem LvF.arm (h : LvF D may M m s q) (x : Nat) (css : List (List Int)) (hn : x ≤ 9223372036854775807) (hc : ∀ i, (css.getD i []).length ≤ 140737488355328) : LvF ⟨D.l, x, css, D.dead⟩ may M m s q := ⟨⟨h.ok.n, h.ok.pos, h.ok.size, h.ok.many, hn, hc⟩, h.two, h.ml, h.mp, h.rest, h.mem⟩
theorem crashX_live {D : Dk} (h : D.dead = false) (css : List (List Int)) : D.crashX css = (D.died css, 0) := by unfold Dk.crashX; rw [if_neg (by rw [h]; exact Bool.false_ne_true)]
/-- Stored into the block of the state at hand. -/
theorem LAt.now {lb : Nat} {L : Lg} (h : LAt W.heap.size W b g cap lb D L w) (hn : ∃ x y, w.heap[nb]? = some (.cells #[x, y] 50 (0, 0))) (v : Value) (hv : WS w v q) (hne : nb ≠ lb ∧ nb ≠ b ∧ nb ≠ g) (hW : W.heap.size ≤ nb) :
    LAt W.heap.size W b g cap lb D L ((w.setCell ⟨nb, 0, none⟩ (.string s)).setCell ⟨nb, 1, none⟩ v) ∧ NowAt ((w.setCell ⟨nb, 0, none⟩ (.string s)).setCell ⟨nb, 1, none⟩ v) nb s q := by
  obtain ⟨x, y, hn⟩ := hn
  have h1 := setCell_blk w nb 0 (.string s) hn
  have h2 := setCell_blk _ nb 1 v h1
  have hm : Muts (fun k => k = nb) w := by
    intro k _ hk cur T fr hh
    subst hk
    rw [hn] at hh
    injection hh with hh
    injection hh with _ hT _
    subst hT
    unfold Fix
    decide
  have hm2 : Muts (fun k => k = nb) (w.setCell ⟨nb, 0, none⟩ (.string s)) := by
    intro k _ hk cur T fr hh
    subst hk
    rw [h1] at hh
    injection hh with hh
    injection hh with _ hT _
    subst hT
    unfold Fix
    decide
  have c1 : Chg (fun k => k = nb) w (w.setCell ⟨nb, 0, none⟩ (.string s)) := Chg.setCell (fun k => k = nb) w (j := 0) rfl _
  have c2 : Chg (fun k => k = nb) (w.setCell ⟨nb, 0, none⟩ (.string s)) ((w.setCell ⟨nb, 0, none⟩ (.string s)).setCell ⟨nb, 1, none⟩ v) := Chg.setCell (fun k => k = nb) _ (j := 1) rfl _
  have hz := h.on.below.size
  exact ⟨h.apart hm (c1.trans c2) (fun e => hne.1 e.symm) (fun e => hne.2.1 e.symm) (fun e => hne.2.2 e.symm) (h.on.below.trans ((c1.trans c2).below hz (fun k hk hs => by omega))), ⟨v, h2, (hv.keep c1 hm).keep c2 hm2⟩⟩
end
/-- At a life's beginning. -/
structure LvB (D : Dk) (L : Lg) (M : Nat) (snap : ByteArray) (ps : List ByteArray) : Prop where
  ok : DOk D
  al : D.dead = false
  two : D.l.length = 2
  ar : D.armed = 0
  lc : LC D.l M 0 L snap ps ps.length
/-- What stands behind a block. -/
def isBlock (n : Nat) : Code → Bool
  | .block m _ => m == n
  | .seq _ b => isBlock n b
  | _ => false
def findAfter (n : Nat) : Code → Option Code
  | .seq a b => if isBlock n a = true then some b else match findAfter n a with
    | some d => some d
    | none => findAfter n b
  | .block _ c => findAfter n c
  | .loop c => findAfter n c
  | .scope c => findAfter n c
  | .cond _ a b => match findAfter n a with
    | some c => some c
    | none => findAfter n b
  | _ => none
noncomputable def lvAft : Code := ((Tryd.f5.body.bind (findAfter 2)).getD .skip)
set_option maxRecDepth 1000000 in
set_option maxHeartbeats 16000000 in
theorem lvTail (w W1 : World) (b g cap lb nb xb B1 : Nat) (K : LvK w W1 b g lb nb xb B1) (tp hp cp : Option Addr) (mt tc mh hc' mc cc : Nat) (sn : ByteArray) (Nn Ag : Int) (css : List (List Int)) (M : Nat) (hM : M + mt < 1099511627776) (hmt : mt ≤ 1048576)
    (hcs : Rss w (.slice cp mc cc) css) (o3 : css.length ≤ 1048576) (ho4 : ∀ i, (css.getD i []).length ≤ 1048576) (o6 : Ag ≤ 9223372036854775807) (vm : Value) (may : List (ByteArray × List ByteArray)) (D2 : Dk) (wc : World)
    (hd2 : LvD w b g cap nb B1 D2 vm may wc) (ho2 : LvO D2 may M mt) (hxc : XAt wc xb (.slice tp mt tc) (.slice hp mh hc') sn Nn Ag (.slice cp mc cc)) (Q : Exit → Act → World → Prop) (c0 c1 c2 c3 c4 c6 c7 c9 c12 c13 c14 c15 c16 c17 c18 c19 c20 c21 c22 c23 c24 c25 c26 c27 c28 c29 c30 c31 c32 c33 c34 c35 c36 c37 c38 c39 c40 c41 c42 c43 c44 c45 c46 c47 c48 c49 c50 c51 c52 c53 c54 c55 c56 c57 c58 c59 c60 c61 c62 c63 c64 c65 c66 c67 c68 c69 c70 c71 c72 c73 c74 c75 c76 c77 c78 c79 c80 c81 c82 c83 c84 c85 c86 c87 c88 c89 c90 c91 c92 c93 c94 c95 c96 c97 c98 c99 c100 c101 c102 c103 c104 c105 c106 c107 c108 c109 c110 c111 c112 c113 c114 c115 c116 c117 c118 c119 c120 c121 c122 c123 c124 c125 c126 c127 c128 c129 c130 c131 c132 c133 c134 c135 c136 c137 c138 c139 c140 c141 c142 c143 c144 c145 c146 c147 c148 c149 c150 c151 c152 c153 c154 c155 c156 c157 c158 c159 c160 c161 c162 c163 c164 c165 c166 c167 c168 c169 c170 c171 c172 c173 c174 c175 c176 c177 c178 c179 c180 c181 c182 c183 c184 c185 c186 c187 c188 c189 c190 c191 c192 c193 c194 c195 c196 c197 c198 c199 c200 c201 c202 c203 c204 c205 c206 c207 c208 c209 c210 c211 c212 c213 c214 c215 c216 c217 c218 c219 c220 c221 c222 c223 c224 c225 c226 c227 c228 c229 c230 c231 c232 c233 c234 c235 c236 c237 c238 c239 c240 c241 c242 c243 c244 c245 c246 c247 c248 c249 c250 c251 c252 c253 c254 c255 c256 c257 c258 c259 c260 c261 c262 c263 c264 c265 c266 c267 c268 c269 c270 c271 c272 c273 c274 c275 c276 c277 c278 c279 c280 c281 c282 c283 c284 c285 c286 c287 c288 c289 c290 c291 c292 c293 c294 c295 c296 c297 c298 c299 c300 c301 c302 c303 c304 c305 c306 c307 c308 c309 c310 c311 c312 c313 c314 c315 : Value)
    (hexit : ∀ (u4 u17 u18 u19 u20 u21 u22 u23 u24 u25 u26 u27 u209 u210 u211 u212 u213 u214 u215 u216 u217 u218 u219 u220 u221 u222 u223 u224 u225 u226 u227 u228 u229 u230 u231 u232 u233 u234 u235 u236 u237 u238 u239 u240 u241 u242 u243 u244 u245 u246 u247 u248 u249 u250 u251 u252 u253 u254 u255 u256 u257 u258 u259 u260 u261 u262 u263 u264 u265 u266 u267 u268 u269 u270 u271 u272 u273 u274 u275 u276 u277 u278 u279 u280 u281 u282 u283 u284 u285 u286 u287 u288 u289 u290 u291 u292 u293 u294 u295 u296 u297 u298 u299 u300 u301 u302 u303 u304 u305 u306 u307 u308 u309 u310 u311 u312 u313 u314 : Value) (lb8 : Nat) (w' : World) (D8 : Dk) (L8 : Lg) (s3 : ByteArray) (q3 : List ByteArray), LAt w.heap.size w b g cap lb8 D8 L8 w' → nb ≠ lb8 → NowAt w' nb s3 q3 → LvB D8 L8 (M + mt) s3 q3 → Q .normal ⟨#[c0, c1, c2, c3, u4, (.pointer (some ⟨b, 0, none⟩)), c6, (.pointer (some ⟨lb8, 0, none⟩)), (.pointer (some ⟨nb, 0, none⟩)), c9, (.pointer (some ⟨xb, 0, none⟩)), vm, c12, c13, c14, c15, c16, u17, u18, u19, u20, u21, u22, u23, u24, u25, u26, u27, c28, c29, c30, c31, c32, c33, c34, c35, c36, c37, c38, c39, c40, c41, c42, c43, c44, c45, c46, c47, c48, c49, c50, c51, c52, c53, c54, c55, c56, c57, c58, c59, c60, c61, c62, c63, c64, c65, c66, c67, c68, c69, c70, c71, c72, c73, c74, c75, c76, c77, c78, c79, c80, c81, c82, c83, c84, c85, c86, c87, c88, c89, c90, c91, c92, c93, c94, c95, c96, c97, c98, c99, c100, c101, c102, c103, c104, c105, c106, c107, c108, c109, c110, c111, c112, c113, c114, c115, c116, c117, c118, c119, c120, c121, c122, c123, c124, c125, c126, c127, c128, c129, c130, c131, c132, c133, c134, c135, c136, c137, c138, c139, c140, c141, c142, c143, c144, c145, c146, c147, c148, c149, c150, c151, c152, c153, c154, c155, c156, c157, c158, c159, c160, c161, c162, c163, c164, c165, c166, c167, c168, c169, c170, c171, c172, c173, c174, c175, c176, c177, c178, c179, c180, c181, c182, c183, c184, c185, c186, c187, c188, c189, c190, c191, c192, c193, c194, c195, c196, c197, c198, c199, c200, c201, c202, c203, c204, c205, c206, c207, c208, u209, u210, u211, u212, u213, u214, u215, u216, u217, u218, u219, u220, u221, u222, u223, u224, u225, u226, u227, u228, u229, u230, u231, u232, u233, u234, u235, u236, u237, u238, u239, u240, u241, u242, u243, u244, u245, u246, u247, u248, u249, u250, u251, u252, u253, u254, u255, u256, u257, u258, u259, u260, u261, u262, u263, u264, u265, u266, u267, u268, u269, u270, u271, u272, u273, u274, u275, u276, u277, u278, u279, u280, u281, u282, u283, u284, u285, u286, u287, u288, u289, u290, u291, u292, u293, u294, u295, u296, u297, u298, u299, u300, u301, u302, u303, u304, u305, u306, u307, u308, u309, u310, u311, u312, u313, u314, c315], []⟩ w') :
    Code.wp Tryd.prog lvAft Q ⟨#[c0, c1, c2, c3, c4, (.pointer (some ⟨b, 0, none⟩)), c6, c7, (.pointer (some ⟨nb, 0, none⟩)), c9, (.pointer (some ⟨xb, 0, none⟩)), vm, c12, c13, c14, c15, c16, c17, c18, c19, c20, c21, c22, c23, c24, c25, c26, c27, c28, c29, c30, c31, c32, c33, c34, c35, c36, c37, c38, c39, c40, c41, c42, c43, c44, c45, c46, c47, c48, c49, c50, c51, c52, c53, c54, c55, c56, c57, c58, c59, c60, c61, c62, c63, c64, c65, c66, c67, c68, c69, c70, c71, c72, c73, c74, c75, c76, c77, c78, c79, c80, c81, c82, c83, c84, c85, c86, c87, c88, c89, c90, c91, c92, c93, c94, c95, c96, c97, c98, c99, c100, c101, c102, c103, c104, c105, c106, c107, c108, c109, c110, c111, c112, c113, c114, c115, c116, c117, c118, c119, c120, c121, c122, c123, c124, c125, c126, c127, c128, c129, c130, c131, c132, c133, c134, c135, c136, c137, c138, c139, c140, c141, c142, c143, c144, c145, c146, c147, c148, c149, c150, c151, c152, c153, c154, c155, c156, c157, c158, c159, c160, c161, c162, c163, c164, c165, c166, c167, c168, c169, c170, c171, c172, c173, c174, c175, c176, c177, c178, c179, c180, c181, c182, c183, c184, c185, c186, c187, c188, c189, c190, c191, c192, c193, c194, c195, c196, c197, c198, c199, c200, c201, c202, c203, c204, c205, c206, c207, c208, c209, c210, c211, c212, c213, c214, c215, c216, c217, c218, c219, c220, c221, c222, c223, c224, c225, c226, c227, c228, c229, c230, c231, c232, c233, c234, c235, c236, c237, c238, c239, c240, c241, c242, c243, c244, c245, c246, c247, c248, c249, c250, c251, c252, c253, c254, c255, c256, c257, c258, c259, c260, c261, c262, c263, c264, c265, c266, c267, c268, c269, c270, c271, c272, c273, c274, c275, c276, c277, c278, c279, c280, c281, c282, c283, c284, c285, c286, c287, c288, c289, c290, c291, c292, c293, c294, c295, c296, c297, c298, c299, c300, c301, c302, c303, c304, c305, c306, c307, c308, c309, c310, c311, c312, c313, c314, c315], []⟩ wc := by
  have HK := Lib.hid K
  have HC := Lib.hid hcs
  have HO4 := Lib.hid ho4
  have HD2 := Lib.hid hd2
  have HO2 := Lib.hid ho2
  have HXc := Lib.hid hxc
  have HEX := Lib.hid hexit
  have HND : Hid (b < B1 ∧ g < B1) := ⟨HK.out.b1, HK.out.g1⟩
  have HNN2 : Hid (nb ≠ b ∧ nb ≠ g) := ⟨HK.out.nbb, HK.out.nbg⟩
  have x5 := hxc.c5
  clear K hcs ho4 hd2 ho2 hxc hexit
  dsimp only
  conv => arg 2; whnf
  go_upto_region 45 with fail
  go_cut [218] from 209 to 314 (fun v218 wx => v218 = .bool false ∧ ∃ (D3 : Dk) (s3 : ByteArray) (q3 : List ByteArray), LvD w b g cap nb B1 D3 vm may wx ∧ LvF D3 may (M + mt) mt s3 q3 ∧ XAt wx xb (.slice tp mt tc) (.slice hp mh hc') sn Nn Ag (.slice cp mc cc))
  case first =>
    rcases HO2.out.res with ⟨hal, L3, s3, p3, k3, hlc, hcov⟩ | ⟨hdd, s3, q3, hmem, hrest⟩
    · have HE := Lib.hid (deadW HD2.out.at_.disk)
      rw [hal] at HE
      have HCR := Lib.hid (crashA HD2.out.at_.disk HO2.out.ok (.slice cp mc cc) css (HC.out.below HD2.out.at_.below) (fun i => by have := HO4.out i; omega))
      rw [crashX_live hal] at HCR
      have HLC := Lib.hid hlc
      have HCOV := Lib.hid hcov
      clear hal hlc hcov
      go_wp2_with fail
      refine HE.out.mono ?_
      rintro e w' ⟨rfl, rfl⟩
      go_wp2_with fail
      refine HCR.out.mono ?_
      rintro e w3 ⟨rfl, hd3, hc3⟩
      have HD3 := Lib.hid (HD2.out.call HND.out HNN2.out (HD2.out.at_.chg hd3 hc3) hc3)
      have HX3 := Lib.hid (HXc.out.keep hc3 (by have := HK.out.xb'; have := HK.out.xg; omega))
      clear hd3 hc3 x5
      obtain ⟨j, j1, j2, j3⟩ := HLC.out.died (by have := HLC.out.few HO2.out.ok.size; omega) (died_l D2 css)
      have HJ := Lib.hid (And.intro (HCOV.out j j1 j2) j3)
      clear j1 j2 j3
      go_wp2_with fail
      go_meet
      exact ⟨rfl, D2.died css, s3, p3.take j, HD3.out, ⟨HO2.out.ok.died css, (died_l D2 css).1.trans HO2.out.two, HO2.out.ml, HO2.out.mp, HJ.out.2, HJ.out.1⟩, HX3.out⟩
    · have HE := Lib.hid (deadW HD2.out.at_.disk)
      rw [hdd] at HE
      have HR3 := Lib.hid (And.intro hmem hrest)
      clear hdd hmem hrest
      go_wp2_with fail
      refine HE.out.mono ?_
      rintro e w' ⟨rfl, rfl⟩
      clear x5
      go_wp2_with fail
      go_meet
      exact ⟨rfl, D2, s3, q3, HD2.out, ⟨HO2.out.ok, HO2.out.two, HO2.out.ml, HO2.out.mp, HR3.out.2, HR3.out.1⟩, HXc.out⟩
  case rest =>
    obtain ⟨rfl, D3, s3, q3, hd3, hf3, hx3⟩ := hcut
    have HD3 := Lib.hid hd3
    have HF3 := Lib.hid hf3
    have HX3 := Lib.hid hx3
    clear hd3 hf3 hx3 HO2 HD2 HXc x5
    have HRV := Lib.hid (reviveW HD3.out.at_.disk)
    go_wp2_with fail
    refine HRV.out.mono ?_
    rintro e w4 ⟨rfl, hd4, hc4⟩
    have hc4' : Chg (fun k => k = b ∨ k = g) _ w4 := hc4.mono fun k _ h => .inl h
    have HD4 := Lib.hid (HD3.out.call HND.out HNN2.out (HD3.out.at_.chg hd4 hc4') hc4')
    have HF4 := Lib.hid HF3.out.revive
    have HX4 := Lib.hid (HX3.out.keep hc4' (by have := HK.out.xb'; have := HK.out.xg; omega))
    clear hd4 hc4 hc4' HRV HD3 HF3 HX3
    have x4 := HX4.out.c4
    have x5 := HX4.out.c5
    go_upto_if 223 with fail
    go_cut [5] from 209 to 314 (fun v5 wx => v5 = .pointer (some ⟨b, 0, none⟩) ∧ ∃ (D5 : Dk), LvD w b g cap nb B1 D5 vm may wx ∧ LvF D5 may (M + mt) mt s3 q3 ∧ D5.dead = false ∧ D5.armed = 0)
    case first =>
      by_cases hAg : 0 < Ag
      · have HAR := Lib.hid (armW HD4.out.at_.disk rfl Ag.toNat (by omega) (.slice cp mc cc) css (HC.out.below HD4.out.at_.below) o3 HO4.out)
        have e0 : ((Ag.toNat : Nat) : Int) = Ag := by omega
        rw [e0] at HAR
        clear e0
        go_wp2_with fail
        refine HAR.out.mono ?_
        rintro e w5 ⟨rfl, hd5, hc5⟩
        have hc5' : Chg (fun k => k = b ∨ k = g) _ w5 := hc5.mono fun k _ h => .inl h
        have HD5 := Lib.hid (HD4.out.call HND.out HNN2.out (HD4.out.at_.chg hd5 hc5') hc5')
        have HF5 := Lib.hid (HF4.out.arm Ag.toNat css (by omega) (fun i => by have := HO4.out i; omega))
        have HX5 := Lib.hid (HX4.out.keep hc5' (by have := HK.out.xb'; have := HK.out.xg; omega))
        clear hd5 hc5 hc5' HAR x4 x5
        have HOP := Lib.hid (HD5.out.at_.openRest HF5.out.ok rfl HF5.out.rest (by omega))
        go_wp2_with fail
        refine HOP.out.mono ?_
        rintro e w6 ⟨D6, hc6, hres⟩
        have HC6 := Lib.hid hc6
        have HX6 := Lib.hid (HX5.out.keep hc6 (by have := HK.out.xb'; have := HK.out.xg; omega))
        clear hc6 HOP
        rcases hres with ⟨rfl, hat6, hg6, hr6⟩ | ⟨lb6, v6, L6, rfl, _, hat6, hown6, hal6, hlc6⟩
        · have HD6 := Lib.hid (HD5.out.call HND.out HNN2.out hat6 HC6.out)
          have HF6 : Hid (LvF D6 may (M + mt) mt s3 q3) := ⟨hg6.ok, hg6.len.trans HF5.out.two, HF5.out.ml, HF5.out.mp, hr6, HF5.out.mem⟩
          clear hat6 hg6 hr6
          have HRV := Lib.hid (reviveW HD6.out.at_.disk)
          go_wp2_with fail
          refine HRV.out.mono ?_
          rintro e w7 ⟨rfl, hd7, hc7⟩
          have hc7' : Chg (fun k => k = b ∨ k = g) _ w7 := hc7.mono fun k _ h => .inl h
          have HD7 := Lib.hid (HD6.out.call HND.out HNN2.out (HD6.out.at_.chg hd7 hc7') hc7')
          have HF7 := Lib.hid HF6.out.revive
          have HX7 := Lib.hid (HX6.out.keep hc7' (by have := HK.out.xb'; have := HK.out.xg; omega))
          have x5 := HX7.out.c5
          clear hd7 hc7 hc7' HRV
          have HCR := Lib.hid (crashA HD7.out.at_.disk HF7.out.ok (.slice cp mc cc) css (HC.out.below HD7.out.at_.below) (fun i => by have := HO4.out i; omega))
          rw [crashX_live rfl] at HCR
          go_wp2_with fail
          refine HCR.out.mono ?_
          rintro e w8 ⟨rfl, hd8, hc8⟩
          have HD8 := Lib.hid (HD7.out.call HND.out HNN2.out (HD7.out.at_.chg hd8 hc8) hc8)
          have HF8 := Lib.hid (HF7.out.died css)
          clear hd8 hc8 HCR x5
          have HRV := Lib.hid (reviveW HD8.out.at_.disk)
          go_wp2_with fail
          refine HRV.out.mono ?_
          rintro e w9 ⟨rfl, hd9, hc9⟩
          have hc9' : Chg (fun k => k = b ∨ k = g) _ w9 := hc9.mono fun k _ h => .inl h
          have HD9 := Lib.hid (HD8.out.call HND.out HNN2.out (HD8.out.at_.chg hd9 hc9') hc9')
          have HF9 := Lib.hid HF8.out.revive
          clear hd9 hc9 hc9' HRV
          go_wp2_with fail
          go_meet
          exact ⟨rfl, _, HD9.out, HF9.out, rfl, rfl⟩
        · have HD6 := Lib.hid (HD5.out.call HND.out HNN2.out hat6.on HC6.out)
          have HF6 : Hid (LvF D6 may (M + mt) mt s3 q3) := ⟨hal6.ok, hal6.len.trans HF5.out.two, HF5.out.ml, HF5.out.mp, hlc6.rest, HF5.out.mem⟩
          obtain ⟨p6, c6, hv6⟩ := hown6.shape
          subst hv6
          clear hat6 hown6 hal6 hlc6
          have HRV := Lib.hid (reviveW HD6.out.at_.disk)
          go_wp2_with fail
          refine HRV.out.mono ?_
          rintro e w7 ⟨rfl, hd7, hc7⟩
          have hc7' : Chg (fun k => k = b ∨ k = g) _ w7 := hc7.mono fun k _ h => .inl h
          have HD7 := Lib.hid (HD6.out.call HND.out HNN2.out (HD6.out.at_.chg hd7 hc7') hc7')
          have HF7 := Lib.hid HF6.out.revive
          have HX7 := Lib.hid (HX6.out.keep hc7' (by have := HK.out.xb'; have := HK.out.xg; omega))
          have x5 := HX7.out.c5
          clear hd7 hc7 hc7' HRV
          have HCR := Lib.hid (crashA HD7.out.at_.disk HF7.out.ok (.slice cp mc cc) css (HC.out.below HD7.out.at_.below) (fun i => by have := HO4.out i; omega))
          rw [crashX_live rfl] at HCR
          go_wp2_with fail
          refine HCR.out.mono ?_
          rintro e w8 ⟨rfl, hd8, hc8⟩
          have HD8 := Lib.hid (HD7.out.call HND.out HNN2.out (HD7.out.at_.chg hd8 hc8) hc8)
          have HF8 := Lib.hid (HF7.out.died css)
          clear hd8 hc8 HCR x5
          have HRV := Lib.hid (reviveW HD8.out.at_.disk)
          go_wp2_with fail
          refine HRV.out.mono ?_
          rintro e w9 ⟨rfl, hd9, hc9⟩
          have hc9' : Chg (fun k => k = b ∨ k = g) _ w9 := hc9.mono fun k _ h => .inl h
          have HD9 := Lib.hid (HD8.out.call HND.out HNN2.out (HD8.out.at_.chg hd9 hc9') hc9')
          have HF9 := Lib.hid HF8.out.revive
          clear hd9 hc9 hc9' HRV
          go_wp2_with fail
          go_meet
          exact ⟨rfl, _, HD9.out, HF9.out, rfl, rfl⟩
      · clear x5
        go_wp2_with fail
        go_meet
        exact ⟨rfl, _, HD4.out, HF4.out, rfl, rfl⟩
    case rest =>
      obtain ⟨rfl, D5, hd5, hf5, hal5, har5⟩ := hcut
      have HD5 := Lib.hid hd5
      have HF5 := Lib.hid hf5
      have HAR5 := Lib.hid har5
      have HOP := Lib.hid (hd5.at_.openRest hf5.ok hal5 hf5.rest (by omega))
      clear hd5 hf5 hal5 har5 HD4 HF4 HX4 x4 x5
      go_wp2_with fail
      refine HOP.out.mono ?_
      rintro e w6 ⟨D6, hc6, hres⟩
      have HC6 := Lib.hid hc6
      clear hc6 HOP
      rcases hres with ⟨_, _, hg6, _⟩ | ⟨lb6, v6, L6, rfl, hlb6, hat6, hown6, hal6, hlc6⟩
      · exact absurd HAR5.out hg6.ar
      have HD6 := Lib.hid (HD5.out.call HND.out HNN2.out hat6.on HC6.out)
      have HOW6 := Lib.hid hown6
      have HAR6 := Lib.hid (hal6.ar HAR5.out)
      have HAL6 := Lib.hid hal6
      have HLC6 := Lib.hid hlc6
      obtain ⟨p6, c6, hv6⟩ := hown6.shape
      obtain ⟨n6, hn6⟩ : ∃ n, n = q3.length := ⟨_, rfl⟩
      rw [← hn6] at hv6
      subst hv6
      have HN6 := Lib.hid hn6
      have hql : q3.length ≤ 1048576 := by have := hlc6.few hal6.ok.size; omega
      obtain ⟨vp6, vc6, hvm6⟩ := HD6.out.may.form
      obtain ⟨vn6, hvn6⟩ : ∃ n, n = may.length := ⟨_, rfl⟩
      rw [← hvn6] at hvm6
      subst hvm6
      have HAM := Lib.hid (amongW s3 (.slice p6 n6 c6) _ q3 B1 may w6 hown6.ws.strs HD6.out.may hql (fun i hi => by
        have h := HF5.out.mp (may.getD i (⟨#[]⟩, [])) (by rw [List.getD_eq_getElem?_getD, List.getElem?_eq_getElem hi]; exact List.getElem_mem _)
        exact h) (by have := HF5.out.ml; omega) HF5.out.mem)
      have HQL := Lib.hid hql
      clear hlb6 hat6 hown6 hal6 hlc6 hn6 hvn6 hql HD5
      go_wp2_with fail
      refine HAM.out.mono ?_
      rintro e w7 ⟨rfl, hb7⟩
      have HD7 := Lib.hid (HD6.out.below hb7)
      have HOW7 := Lib.hid (HOW6.out.kept hb7)
      have HOP := Lib.hid (HD7.out.at_.openRest HAL6.out.ok HAL6.out.al HLC6.out.rest (by omega))
      clear hb7 HAM HD6 HOW6 HC6
      go_wp2_with fail
      refine HOP.out.mono ?_
      rintro e w8 ⟨D8, hc8, hres⟩
      have HC8 := Lib.hid hc8
      clear hc8 HOP
      rcases hres with ⟨_, _, hg8, _⟩ | ⟨lb8, v8, L8, rfl, hlb8, hat8, hown8, hal8, hlc8⟩
      · exact absurd HAR6.out hg8.ar
      have HD8 := Lib.hid (HD7.out.call HND.out HNN2.out hat8.on HC8.out)
      have HAT8 := Lib.hid hat8
      have HOW8 := Lib.hid hown8
      have HAR8 := Lib.hid (hal8.ar HAR6.out)
      have HAL8 := Lib.hid hal8
      have HLC8 := Lib.hid hlc8
      have HWS8 := Lib.hid (HOW7.out.ws.keep HC8.out HD7.out.at_.disk.muts)
      have HLB8 : Hid (nb ≠ lb8) := by
        unfold Hid
        obtain ⟨x, y, hxy⟩ := HD7.out.nb
        have := (Array.getElem?_eq_some_iff.1 hxy).1
        omega
      obtain ⟨p8, c8, hv8⟩ := hown8.shape
      rw [← HN6.out] at hv8
      subst hv8
      have HS8 := Lib.hid (lwsameW s3 s3 (.slice p6 n6 c6) (.slice p8 n6 c8) q3 q3 w8 HWS8.out.strs hown8.ws.strs HQL.out HQL.out)
      rw [decide_eq_true rfl] at HS8
      clear hlb8 hat8 hown8 hal8 hlc8 HD7 HOW7
      go_wp2_with fail
      refine HS8.out.mono ?_
      rintro e w9 ⟨rfl, hb9⟩
      have HD9 := Lib.hid (HD8.out.below hb9)
      have HAT9 := Lib.hid (HAT8.out.grow hb9)
      have HOW9 := Lib.hid (HOW8.out.kept hb9)
      have HR9 := Lib.hid (recordsW HAT9.out.log)
      rw [HLC8.out.n, ← HN6.out] at HR9
      clear hb9 HS8 HD8 HAT8 HOW8
      go_wp2_with fail
      refine HR9.out.mono ?_
      rintro e w' ⟨rfl, rfl⟩
      obtain ⟨yx, yy, hn9⟩ := HD9.out.nb
      have q0 := cell_of_row _ nb 0 _ _ _ hn9
      have q1 := cell_of_row _ nb 1 _ _ _ hn9
      have g0 := frozen_of_row _ nb 0 _ _ hn9
      have g1 := frozen_of_row _ nb 1 _ _ hn9
      have HFIN := Lib.hid (HAT9.out.now (s := s3) HD9.out.nb (.slice p8 n6 c8) HOW9.out.ws ⟨HLB8.out, HNN2.out.1, HNN2.out.2⟩ HK.out.nB)
      clear hn9 HR9
      go_wp2_with fail
      exact HEX.out _ _ _ _ _ _ _ _ _ _ _ _ _ _ _ _ _ _ _ _ _ _ _ _ _ _ _ _ _ _ _ _ _ _ _ _ _ _ _ _ _ _ _ _ _ _ _ _ _ _ _ _ _ _ _ _ _ _ _ _ _ _ _ _ _ _ _ _ _ _ _ _ _ _ _ _ _ _ _ _ _ _ _ _ _ _ _ _ _ _ _ _ _ _ _ _ _ _ _ _ _ _ _ _ _ _ _ _ _ _ _ _ _ _ _ _ _ _ lb8 _ D8 L8 s3 q3 HFIN.out.1 HLB8.out HFIN.out.2 ⟨HAL8.out.ok, HAL8.out.al, HAL8.out.len.trans (HAL6.out.len.trans HF5.out.two), HAR8.out, HLC8.out⟩
end Go.Proofs.YtilpbjcbffbjeaaDoor
