/- The inner loop of the law AuditLives: the texts of a life.
   What follows the texts in a life of the law AuditLives: the power goes, the opening, once more. -/
import Derived.Test.YtilpbjcbffbjeaaGreatDoorPkO
import Derived.Deep.CutBlock
import Derived.Deep.DeepCutAuto
namespace Go.Proofs.YtilpbjcbffbjeaaGreatDoor
set_option linter.unusedVariables false
set_option maxRecDepth 100000
open Go.RowKit
noncomputable def alB2 : Code := ((Tryz.f5.body.bind (findBlockA 2)).getD .skip)
set_option maxRecDepth 1000000 in
set_option maxHeartbeats 16000000 in
theorem alInner (W W1 : World) (b g cap lb xb B1 : Nat) (quota : Int) (hq : 0 ≤ quota ∧ quota ≤ 262144) (K : ALvK W W1 b g lb xb B1) (tp sp : Option Addr) (tc hn hc : Nat) (cv : Value) (texts : List ByteArray) (syncs : List Bool) (css : List (List Int)) (Nn Ag : Int) (m : Nat)
    (hx : XA W1 xb (.slice tp m tc) (.slice sp hn hc) Nn Ag cv) (hmt : m = texts.length) (ht : Strs W (.slice tp m tc) texts) (hnt : hn = syncs.length) (hth : Bls W (.slice sp hn hc) syncs) (hcs : Rss W cv css) (hml : m ≤ 1048576) (hnl : hn ≤ 1048576)
    (hcl : css.length ≤ 1048576) (hcm : ∀ i, (css.getD i []).length ≤ 1048576) (hNn : Nn ≤ 9223372036854775807)
    (D0 : Dk) (tx0 : List ByteArray) (k0 : Nat) (va0 vs0 : Value) (sf0 : List ByteArray) (hm0 : ALvM W W1 b g cap lb B1 quota D0 tx0 false va0 tx0 vs0 sf0 W1) (hp0 : ALvQ D0 tx0 sf0 k0 quota False)
    (Q : Exit → Act → World → Prop) (c0 c1 c2 c3 c4 c6 c8 c10 c14 c15 c16 c17 c18 c19 c20 c21 c22 c23 c24 c25 c26 c27 c28 c29 c30 c31 c32 c33 c34 c35 c36 c37 c38 c39 c40 c41 c42 c43 c44 c45 c46 c47 c48 c49 c50 c51 c52 c53 c54 c55 c56 c57 c58 c59 c60 c61 c62 c63 c64 c65 c66 c67 c68 c69 c70 c71 c72 c73 c74 c75 c76 c77 c78 c79 c80 c81 c82 c83 c84 c85 c86 c87 c88 c89 c90 c91 c92 c93 c94 c95 c96 c97 c98 c99 c100 c101 c102 c103 c104 c105 c106 c107 c108 c109 c110 c111 c112 c113 c114 c115 c116 c117 c118 c119 c120 c121 c122 c123 c124 c125 c126 c127 c128 c129 c130 c131 c132 c133 c134 c135 c136 c137 c138 c139 c140 c141 c142 c143 c144 c145 c146 c147 c148 c149 c150 c151 c152 c153 c154 c155 c156 c157 c158 c159 c160 c161 c162 c163 c164 c165 c166 c167 c168 c169 c170 c171 c172 c173 c174 c175 c176 c177 c178 c179 c180 c181 c182 c183 c184 c185 c186 c187 c188 c189 c190 c191 c192 c193 c194 c195 c196 c197 c198 c199 c200 c201 c202 c203 c204 c205 c206 c207 c208 c209 c210 c211 c212 c213 c214 c215 c216 c217 c218 c219 c220 c221 c222 c223 c224 c225 c226 c227 c228 c229 c230 c231 c232 c233 c234 c235 c236 c237 c238 c239 c240 c241 c242 c243 c244 c245 c246 c247 c248 c249 c250 c251 c252 c253 c254 c255 c256 c257 c258 c259 c260 c261 c262 c263 c264 c265 c266 c267 c268 c269 c270 c271 c272 c273 c274 c275 c276 c277 c278 c279 c280 c281 : Value)
    (hexit : ∀ (u4 u13 u14 u15 u67 u68 u69 u70 u71 u72 u73 u74 u75 u76 u77 u78 u79 u80 u81 u82 u83 u84 u85 u86 u87 u88 u89 u90 u91 u92 u93 u94 u95 u96 u97 u98 u99 u100 u101 u102 u103 u104 u105 u106 u107 u108 u109 u110 u111 u112 u113 u114 u115 u116 u117 u118 u119 u120 u121 u122 u123 u124 u125 u126 u127 u128 u129 u130 u131 u132 u133 u134 u135 u136 u137 u138 u139 u140 u141 u142 u143 u144 u145 u146 u147 u148 u149 u150 u151 u152 u153 u154 u155 u156 u157 u158 u159 u160 u161 u162 u163 u164 u165 u166 u167 u168 u169 va vs : Value) (w' : World) (D' : Dk) (tx : List ByteArray) (dd : Bool) (al sf : List ByteArray), ALvM W W1 b g cap lb B1 quota D' tx dd va al vs sf w' → ALvO D' al sf quota → Q .normal ⟨#[c0, c1, c2, c3, u4, (.pointer (some ⟨b, 0, none⟩)), c6, (.pointer (some ⟨lb, 0, none⟩)), c8, vs, c10, (.pointer (some ⟨xb, 0, none⟩)), va, u13, u14, u15, c16, c17, c18, c19, c20, c21, c22, c23, c24, c25, c26, c27, c28, c29, c30, c31, c32, c33, c34, c35, c36, c37, c38, c39, c40, c41, c42, c43, c44, c45, c46, c47, c48, c49, c50, c51, c52, c53, c54, c55, c56, c57, c58, c59, c60, c61, c62, c63, c64, c65, c66, u67, u68, u69, u70, u71, u72, u73, u74, u75, u76, u77, u78, u79, u80, u81, u82, u83, u84, u85, u86, u87, u88, u89, u90, u91, u92, u93, u94, u95, u96, u97, u98, u99, u100, u101, u102, u103, u104, u105, u106, u107, u108, u109, u110, u111, u112, u113, u114, u115, u116, u117, u118, u119, u120, u121, u122, u123, u124, u125, u126, u127, u128, u129, u130, u131, u132, u133, u134, u135, u136, u137, u138, u139, u140, u141, u142, u143, u144, u145, u146, u147, u148, u149, u150, u151, u152, u153, u154, u155, u156, u157, u158, u159, u160, u161, u162, u163, u164, u165, u166, u167, u168, u169, c170, c171, c172, c173, c174, c175, c176, c177, c178, c179, c180, c181, c182, c183, c184, c185, c186, c187, c188, c189, c190, c191, c192, c193, c194, c195, c196, c197, c198, c199, c200, c201, c202, c203, c204, c205, c206, c207, c208, c209, c210, c211, c212, c213, c214, c215, c216, c217, c218, c219, c220, c221, c222, c223, c224, c225, c226, c227, c228, c229, c230, c231, c232, c233, c234, c235, c236, c237, c238, c239, c240, c241, c242, c243, c244, c245, c246, c247, c248, c249, c250, c251, c252, c253, c254, c255, c256, c257, c258, c259, c260, c261, c262, c263, c264, c265, c266, c267, c268, c269, c270, c271, c272, c273, c274, c275, c276, c277, c278, c279, c280, c281], []⟩ w') :
    Code.wp Tryz.prog alB2 Q ⟨#[c0, c1, c2, c3, c4, (.pointer (some ⟨b, 0, none⟩)), c6, (.pointer (some ⟨lb, 0, none⟩)), c8, vs0, c10, (.pointer (some ⟨xb, 0, none⟩)), va0, (.int .i64 0), c14, c15, c16, c17, c18, c19, c20, c21, c22, c23, c24, c25, c26, c27, c28, c29, c30, c31, c32, c33, c34, c35, c36, c37, c38, c39, c40, c41, c42, c43, c44, c45, c46, c47, c48, c49, c50, c51, c52, c53, c54, c55, c56, c57, c58, c59, c60, c61, c62, c63, c64, c65, c66, c67, c68, c69, c70, c71, c72, c73, c74, c75, c76, c77, c78, c79, c80, c81, c82, c83, c84, c85, c86, c87, c88, c89, c90, c91, c92, c93, c94, c95, c96, c97, c98, c99, c100, c101, c102, c103, c104, c105, c106, c107, c108, c109, c110, c111, c112, c113, c114, c115, c116, c117, c118, c119, c120, c121, c122, c123, c124, c125, c126, c127, c128, c129, c130, c131, c132, c133, c134, c135, c136, c137, c138, c139, c140, c141, c142, c143, c144, c145, c146, c147, c148, c149, c150, c151, c152, c153, c154, c155, c156, c157, c158, c159, c160, c161, c162, c163, c164, c165, c166, c167, c168, c169, c170, c171, c172, c173, c174, c175, c176, c177, c178, c179, c180, c181, c182, c183, c184, c185, c186, c187, c188, c189, c190, c191, c192, c193, c194, c195, c196, c197, c198, c199, c200, c201, c202, c203, c204, c205, c206, c207, c208, c209, c210, c211, c212, c213, c214, c215, c216, c217, c218, c219, c220, c221, c222, c223, c224, c225, c226, c227, c228, c229, c230, c231, c232, c233, c234, c235, c236, c237, c238, c239, c240, c241, c242, c243, c244, c245, c246, c247, c248, c249, c250, c251, c252, c253, c254, c255, c256, c257, c258, c259, c260, c261, c262, c263, c264, c265, c266, c267, c268, c269, c270, c271, c272, c273, c274, c275, c276, c277, c278, c279, c280, c281], []⟩ W1 := by
  have HK := Lib.hid K
  have HX := Lib.hid hx
  have HM0 := Lib.hid hm0
  have HP0 := Lib.hid hp0
  have HEX := Lib.hid hexit
  have HCS := Lib.hid hcs
  have HCM := Lib.hid hcm
  have HMM := Lib.hid hmt
  have HNT := Lib.hid hnt
  have HQQ := Lib.hid hq
  have HTX : Hid (∀ i, i < texts.length → ∃ b off, tp = some ⟨b, off, none⟩ ∧ W.cell? ⟨b, off + i, none⟩ = some (.string (texts.getD i ⟨#[]⟩))) := by
    obtain ⟨p, c, e, h⟩ := ht.form
    have e1 := (Value.slice.inj e).1
    subst e1
    exact h
  have HTH : Hid (∀ i, i < syncs.length → ∃ b off, sp = some ⟨b, off, none⟩ ∧ W.cell? ⟨b, off + i, none⟩ = some (.bool (syncs.getD i false))) := by
    obtain ⟨p, c, e, h⟩ := hth
    have e1 := (Value.slice.inj e).1
    subst e1
    exact fun i hi => h i hi
  clear K hx hm0 hp0 hexit hcs hcm hmt hnt ht hth hq
  conv => arg 2; whnf
  go_wp2_with fail
  go_loopw [9, 12, 13] (fun v9 v12 v13 wr => ∃ (kk : Nat) (D : Dk) (tx sf : List ByteArray) (k : Nat), kk ≤ m ∧ v13 = .int .i64 (kk : Nat) ∧ ALvM W W1 b g cap lb B1 quota D tx false v12 tx v9 sf wr ∧ ALvQ D tx sf k quota (m ≤ kk)) (fun _ _ v _ => (m - intOf v).toNat)
  case atStart => exact ⟨0, D0, tx0, sf0, k0, by omega, rfl, HM0.out, HP0.out.mono (fun h => h.elim)⟩
  case round =>
    clear HM0 HP0
    obtain ⟨k, D, tx, sf, kk, hk, rfl, hm, hp⟩ := hrel
    have HM := Lib.hid hm
    have HP := Lib.hid hp
    have x0 := (hm.x HK.out HX.out).c0
    clear hm hp
    by_cases hlt : k < m
    · obtain ⟨tb, tf, htp, hel⟩ := HTX.out k (by rw [← HMM.out]; exact hlt)
      subst htp
      obtain ⟨s, hs⟩ : ∃ s, s = texts.getD k ⟨#[]⟩ := ⟨_, rfl⟩
      rw [← hs] at hel
      have HEL := Lib.hid hel
      have hki : (k : Int) < (m : Int) := by omega
      have hk0 : (k : Int) ≤ 1048576 := by omega
      have hmi : (m : Int) ≤ 1048576 := by omega
      obtain ⟨lastB, hlb⟩ : ∃ q, ((k : Int) == (m : Int) - 1) = q := ⟨_, rfl⟩
      have HLB : Hid (lastB = true ↔ k + 1 = m) := by
        unfold Hid
        rw [← hlb, beq_iff_eq]
        omega
      clear hs hel
      have x2 := (HM.out.x HK.out HX.out).c2
      have x4 := (HM.out.x HK.out HX.out).c4
      go_upto_region 17 with fail
      go_cut [94] from 67 to 169 (fun v94 wx => v94 = .bool false ∧ ∃ D1, ALvM W W1 b g cap lb B1 quota D1 tx false u12 tx u9 sf wx ∧ ALvQ D1 tx sf kk quota (k + 1 = m ∧ 0 < Nn))
      case first =>
        cases lastB with
        | false =>
          go_wp2_with fail
          go_meet
          exact ⟨rfl, D, HM.out, HP.out.mono (fun h => by omega)⟩
        | true =>
          by_cases hN : 0 < Nn
          · have HA := Lib.hid (armW HM.out.at_.disk HP.out.al Nn.toNat (by omega) cv css (HCS.out.below HM.out.at_.below) hcl HCM.out)
            have e0 : ((Nn.toNat : Nat) : Int) = Nn := by omega
            rw [e0] at HA
            clear e0
            go_wp2_with fail
            refine HA.out.mono ?_
            rintro e w1 ⟨rfl, hd1, hc1⟩
            have HM1 := Lib.hid (HM.out.disk HK.out hd1 (hc1.mono fun k _ h => .inl h))
            clear hd1 hc1 x0 x2 x4
            go_wp2_with fail
            go_meet
            exact ⟨rfl, _, HM1.out, HP.out.armed Nn.toNat css ⟨HLB.out.1 (by first | rfl | trivial), hN⟩ (by omega) (fun i => by have := HCM.out i; omega)⟩
          · go_wp2_with fail
            go_meet
            exact ⟨rfl, D, HM.out, HP.out.mono (fun h => by omega)⟩
      case rest =>
        obtain ⟨rfl, D1, hm1, hp1⟩ := hcut
        have HM1 := Lib.hid hm1
        have HP1 := Lib.hid hp1
        clear hm1 hp1 x0 x2 x4 HM HP hlb
        have x0 := (HM1.out.x HK.out HX.out).c0
        have hel1 := (HM1.out.at_.below.cell (block_lt_of_cell HEL.out)).trans HEL.out
        have HA := Lib.hid (aappF HM1.out.log (fun k hk => (HM1.out.all.lt hk).2) HM1.out.at_.disk HP1.out.ok HP1.out.al (by rw [HP1.out.one]; decide) HP1.out.ac HP1.out.many HQQ.out s)
        go_wp2_with fail
        refine HA.out.mono ?_
        rintro e w2 ⟨r, D2, tx2, dd2, rfl, hl2, hd2, hc2, hr2⟩
        have HM2 := Lib.hid (HM1.out.call HK.out hl2 hd2 hc2)
        clear hl2 hd2 hc2 x0 hel1 HA
        cases hr2 with
        | long h1 =>
          clear h1
          go_wp2_with fail
          exact ⟨⟨k + 1, D1, tx, sf, kk, by omega, rfl, HM2.out, HP1.out.mono (fun h => by omega)⟩, by simp [intOf]; omega⟩
        | full h1 h2 =>
          clear h1 h2
          go_wp2_with fail
          exact ⟨⟨k + 1, D1, tx, sf, kk, by omega, rfl, HM2.out, HP1.out.mono (fun h => by omega)⟩, by simp [intOf]; omega⟩
        | ok D2 h1 h2 hal2 hac2 =>
          have HP2 := Lib.hid (HP1.out.app h2 hal2 hac2)
          have HFW := Lib.hid HP2.out.full
          clear h1 h2 hal2 hac2
          have x0 := (HM2.out.x HK.out HX.out).c0
          have hel2 := (HM2.out.at_.below.cell (block_lt_of_cell HEL.out)).trans HEL.out
          have hbn : Below w2.heap.size w2 (w2.alloc (.cells #[.string s] 9)) := (Below.refl _ _).alloc (Nat.le_refl _) _
          have HM3 := Lib.hid (HM2.out.below hbn)
          have hssl : tx.length ≤ 262144 := by have := HP1.out.n; omega
          have HSL := Lib.hid hssl
          clear hbn hssl HM1 HM2
          go_wp2_with (at_builtin; refine wpList_append_z (news := [s]) rfl _ _ rfl rfl HM3.out.all ⟨w2.heap.size, 0, none⟩ 1 1 rfl rfl ?e1 ?e2 ?e3 ?_)
          case e1 =>
            intro j hj
            obtain rfl : j = 0 := by omega
            simp [Addr.add]
          case e2 => have := HSL.out; omega
          case e3 => exact HM3.out.size HK.out
          intro va4 w4 ho4 hg4 hv4 hk4
          have HM4 := Lib.hid (HM3.out.more HK.out ho4 hg4 (by simpa using hv4) hk4 HFW.out)
          clear ho4 hg4 hv4 hk4 HM3 x0 hel2
          have x1 := (HM4.out.x HK.out HX.out).c1
          go_upto_region 22 with fail
          go_cut [131] from 67 to 169 (fun v131 wx => wx = w4 ∧ ∃ q, v131 = .bool q)
          case first =>
            by_cases hkt : k < hn
            · obtain ⟨hb, hf, hhp, hhe⟩ := HTH.out k (by rw [← HNT.out]; exact hkt)
              subst hhp
              have hhe1 := (HM4.out.at_.below.cell (block_lt_of_cell hhe)).trans hhe
              have hkti : (k : Int) < (hn : Int) := by omega
              clear hhe
              go_wp2_with fail
              go_meet
              exact ⟨rfl, _, rfl⟩
            · have hkti : ¬ (k : Int) < (hn : Int) := by omega
              go_wp2_with fail
              go_meet
              exact ⟨rfl, _, rfl⟩
          case rest =>
            obtain ⟨rfl, q, rfl⟩ := hcut
            clear x1
            cases q with
            | false =>
              have hnb : (tx ++ [s]).length ≤ 1048576 := by have := HP2.out.n; omega
              have HT := Lib.hid (HM4.out.log.texts hnb)
              obtain ⟨nn, hnn⟩ : ∃ n, n = (tx ++ [s]).length := ⟨_, rfl⟩
              rw [← hnn] at HT
              have HNB := Lib.hid hnb
              have HNN := Lib.hid hnn
              clear hnb hnn
              by_cases hz16 : (k : Int) % 16 = 0
              · skip
                go_wp2_with fail
                refine HT.out.mono ?_
                rintro e w8 ⟨p8, rfl, hs8, _, hb8⟩
                have HM8 := Lib.hid (HM4.out.below hb8)
                have HSM := Lib.hid (sameW _ _ (tx ++ [s]) (tx ++ [s]) w8 hs8 HM8.out.all.ws.strs HNB.out HNB.out)
                rw [decide_eq_true rfl] at HSM
                clear hs8 hb8 HT
                go_wp2_with fail
                refine HSM.out.mono ?_
                rintro e w9 ⟨rfl, hb9⟩
                have HM9 := Lib.hid (HM8.out.below hb9)
                clear hb9 HSM
                go_wp2_with fail
                exact ⟨⟨k + 1, D2, tx ++ [s], sf, kk, by omega, rfl, HM9.out, HP2.out.mono (fun h => by omega)⟩, by simp [intOf]; omega⟩
              · cases lastB with
                | true =>
                  go_wp2_with fail
                  refine HT.out.mono ?_
                  rintro e w8 ⟨p8, rfl, hs8, _, hb8⟩
                  have HM8 := Lib.hid (HM4.out.below hb8)
                  have HSM := Lib.hid (sameW _ _ (tx ++ [s]) (tx ++ [s]) w8 hs8 HM8.out.all.ws.strs HNB.out HNB.out)
                  rw [decide_eq_true rfl] at HSM
                  clear hs8 hb8 HT
                  go_wp2_with fail
                  refine HSM.out.mono ?_
                  rintro e w9 ⟨rfl, hb9⟩
                  have HM9 := Lib.hid (HM8.out.below hb9)
                  clear hb9 HSM
                  go_wp2_with fail
                  exact ⟨⟨k + 1, D2, tx ++ [s], sf, kk, by omega, rfl, HM9.out, HP2.out.mono (fun h => by omega)⟩, by simp [intOf]; omega⟩
                | false =>
                  go_wp2_with fail
                  exact ⟨⟨k + 1, D2, tx ++ [s], sf, kk, by omega, rfl, HM4.out, HP2.out.mono (fun h => by omega)⟩, by simp [intOf]; omega⟩
            | true =>
              have HS := Lib.hid (asynF HM4.out.log HM4.out.at_.disk HP2.out.ok HP2.out.al (by rw [HP2.out.one]; decide) HP2.out.ac)
              go_wp2_with fail
              refine HS.out.mono ?_
              rintro e w6 ⟨r, D6, dd6, rfl, hl6, hd6, hc6, hr6⟩
              have HM6 := Lib.hid (HM4.out.call HK.out hl6 hd6 hc6)
              clear hl6 hd6 hc6 HS
              cases hr6 with
              | ok D6 hal6 hac6 =>
                have HP6 := Lib.hid (HP2.out.syn hal6 hac6)
                have hssl : (tx ++ [s]).length ≤ 2097152 := by have := HP6.out.n; omega
                have HSL6 := Lib.hid hssl
                clear hal6 hac6 hssl
                go_wp2_with (at_builtin; refine wpList_copy_z (ns := tx ++ [s]) rfl _ _ rfl rfl rfl HM6.out.all.ws.strs ?e1 ?_)
                case e1 => exact HSL6.out
                intro v7 w7 ho7 hb7
                have HM7 := Lib.hid (HM6.out.saved HK.out ho7.ws.strs ho7.fresh hb7)
                clear ho7 hb7
                have hnb : (tx ++ [s]).length ≤ 1048576 := by have := HP6.out.n; omega
                have HT := Lib.hid (HM7.out.log.texts hnb)
                obtain ⟨nn, hnn⟩ : ∃ n, n = (tx ++ [s]).length := ⟨_, rfl⟩
                rw [← hnn] at HT
                have HNB := Lib.hid hnb
                have HNN := Lib.hid hnn
                clear hnb hnn
                by_cases hz16 : (k : Int) % 16 = 0
                · skip
                  go_wp2_with fail
                  refine HT.out.mono ?_
                  rintro e w8 ⟨p8, rfl, hs8, _, hb8⟩
                  have HM8 := Lib.hid (HM7.out.below hb8)
                  have HSM := Lib.hid (sameW _ _ (tx ++ [s]) (tx ++ [s]) w8 hs8 HM8.out.all.ws.strs HNB.out HNB.out)
                  rw [decide_eq_true rfl] at HSM
                  clear hs8 hb8 HT
                  go_wp2_with fail
                  refine HSM.out.mono ?_
                  rintro e w9 ⟨rfl, hb9⟩
                  have HM9 := Lib.hid (HM8.out.below hb9)
                  clear hb9 HSM
                  go_wp2_with fail
                  exact ⟨⟨k + 1, D6, tx ++ [s], (tx ++ [s]), _, by omega, rfl, HM9.out, HP6.out.mono (fun h => by omega)⟩, by simp [intOf]; omega⟩
                · cases lastB with
                  | true =>
                    go_wp2_with fail
                    refine HT.out.mono ?_
                    rintro e w8 ⟨p8, rfl, hs8, _, hb8⟩
                    have HM8 := Lib.hid (HM7.out.below hb8)
                    have HSM := Lib.hid (sameW _ _ (tx ++ [s]) (tx ++ [s]) w8 hs8 HM8.out.all.ws.strs HNB.out HNB.out)
                    rw [decide_eq_true rfl] at HSM
                    clear hs8 hb8 HT
                    go_wp2_with fail
                    refine HSM.out.mono ?_
                    rintro e w9 ⟨rfl, hb9⟩
                    have HM9 := Lib.hid (HM8.out.below hb9)
                    clear hb9 HSM
                    go_wp2_with fail
                    exact ⟨⟨k + 1, D6, tx ++ [s], (tx ++ [s]), _, by omega, rfl, HM9.out, HP6.out.mono (fun h => by omega)⟩, by simp [intOf]; omega⟩
                  | false =>
                    go_wp2_with fail
                    exact ⟨⟨k + 1, D6, tx ++ [s], (tx ++ [s]), _, by omega, rfl, HM7.out, HP6.out.mono (fun h => by omega)⟩, by simp [intOf]; omega⟩
              | gone D6 hg6 hx6 hz6 =>
                have HG := Lib.hid (HP2.out.synGone hg6 hx6 hz6)
                clear hg6 hx6 hz6
                obtain rfl : lastB = true := HLB.out.2 HG.out.2.1
                have hNp : ¬ Nn < 1 := by have := HG.out.2.2; omega
                have x2 := (HM6.out.x HK.out HX.out).c2
                have HE1 := Lib.hid HM6.out.log.deadW
                go_wp2_with fail
                refine HE1.out.mono ?_
                rintro e w9 ⟨rfl, rfl⟩
                clear x2 HE1
                go_wp2_with fail
                exact HEX.out _ _ _ _ _ _ _ _ _ _ _ _ _ _ _ _ _ _ _ _ _ _ _ _ _ _ _ _ _ _ _ _ _ _ _ _ _ _ _ _ _ _ _ _ _ _ _ _ _ _ _ _ _ _ _ _ _ _ _ _ _ _ _ _ _ _ _ _ _ _ _ _ _ _ _ _ _ _ _ _ _ _ _ _ _ _ _ _ _ _ _ _ _ _ _ _ _ _ _ _ _ _ _ _ _ _ _ _ _ _ D6 _ _ (tx ++ [s]) sf HM6.out HG.out.1
        | gone D2 h1 h2 hg2 hx2 hz2 =>
          have HG := Lib.hid (HP1.out.appGone h2 hg2 hx2 hz2)
          have HDD := Lib.hid hg2.dd
          have HFW := Lib.hid HG.out.2.1
          have HGG := Lib.hid (And.intro HG.out.1 HG.out.2.2)
          clear h1 h2 hg2 hx2 hz2
          have x0 := (HM2.out.x HK.out HX.out).c0
          have hel2 := (HM2.out.at_.below.cell (block_lt_of_cell HEL.out)).trans HEL.out
          have hbn : Below w2.heap.size w2 (w2.alloc (.cells #[.string s] 9)) := (Below.refl _ _).alloc (Nat.le_refl _) _
          have HM3 := Lib.hid (HM2.out.below hbn)
          have hssl : tx.length ≤ 262144 := by have := HP1.out.n; omega
          have HSL := Lib.hid hssl
          clear hbn hssl HM1 HM2
          go_wp2_with (at_builtin; refine wpList_append_z (news := [s]) rfl _ _ rfl rfl HM3.out.all ⟨w2.heap.size, 0, none⟩ 1 1 rfl rfl ?e1 ?e2 ?e3 ?_)
          case e1 =>
            intro j hj
            obtain rfl : j = 0 := by omega
            simp [Addr.add]
          case e2 => have := HSL.out; omega
          case e3 => exact HM3.out.size HK.out
          intro va4 w4 ho4 hg4 hv4 hk4
          have HM4 := Lib.hid (HM3.out.more HK.out ho4 hg4 (by simpa using hv4) hk4 HFW.out)
          clear ho4 hg4 hv4 hk4 HM3 x0 hel2
          obtain rfl : lastB = true := HLB.out.2 HGG.out.2.1
          have hNp : ¬ Nn < 1 := by have := HGG.out.2.2; omega
          have x2 := (HM4.out.x HK.out HX.out).c2
          have HE1 := Lib.hid HM4.out.log.deadW
          go_wp2_with fail
          refine HE1.out.mono ?_
          rintro e w9 ⟨rfl, rfl⟩
          clear x2 HE1
          go_wp2_with fail
          exact HEX.out _ _ _ _ _ _ _ _ _ _ _ _ _ _ _ _ _ _ _ _ _ _ _ _ _ _ _ _ _ _ _ _ _ _ _ _ _ _ _ _ _ _ _ _ _ _ _ _ _ _ _ _ _ _ _ _ _ _ _ _ _ _ _ _ _ _ _ _ _ _ _ _ _ _ _ _ _ _ _ _ _ _ _ _ _ _ _ _ _ _ _ _ _ _ _ _ _ _ _ _ _ _ _ _ _ _ _ _ _ _ D2 _ _ (tx ++ [s]) sf HM4.out HGG.out.1
    · have hki : ¬ (k : Int) < (m : Int) := by omega
      go_wp2_with fail
      exact HEX.out _ _ _ _ _ _ _ _ _ _ _ _ _ _ _ _ _ _ _ _ _ _ _ _ _ _ _ _ _ _ _ _ _ _ _ _ _ _ _ _ _ _ _ _ _ _ _ _ _ _ _ _ _ _ _ _ _ _ _ _ _ _ _ _ _ _ _ _ _ _ _ _ _ _ _ _ _ _ _ _ _ _ _ _ _ _ _ _ _ _ _ _ _ _ _ _ _ _ _ _ _ _ _ _ _ _ _ _ _ _ D tx false tx sf HM.out HP.out.out
end Go.Proofs.YtilpbjcbffbjeaaGreatDoor
namespace Go.Proofs.YtilpbjcbffbjeaaGreatDoor
set_option linter.unusedVariables false
set_option maxRecDepth 100000
open Go.RowKit
/-- A file at rest with the texts q: some of those that were laid down, with all that were safe. -/
structure ALvF (D : Dk) (al sf q : List ByteArray) (quota : Int) : Prop where
  ok : DOk D
  one : D.l.length = 1
  z : ((rd (D.l.getD 0 Fl.zero)).size : Int) ≤ quota
  rest : ARest (D.l.getD 0 Fl.zero) q
  q1 : q.length ≤ al.length
  q2 : q = al.take q.length
  s1 : sf.length ≤ q.length
  s2 : sf = q.take sf.length
theorem ALvF.of {D : Dk} {al sf : List ByteArray} {quota : Int} {k j : Nat} (ok : DOk D) (one : D.l.length = 1) (z : ((rd (D.l.getD 0 Fl.zero)).size : Int) ≤ quota) (hs : sf = al.take k) (hj1 : k ≤ j) (hj2 : j ≤ al.length) (hr : ARest (D.l.getD 0 Fl.zero) (al.take j)) : ALvF D al sf (al.take j) quota := by
  have e1 : (al.take j).length = j := by rw [List.length_take]; omega
  have e2 : sf.length = k := by rw [hs, List.length_take]; omega
  refine ⟨ok, one, z, hr, by omega, by rw [e1], by omega, ?_⟩
  rw [e2, List.take_take, Nat.min_eq_left hj1]
  exact hs
section
variable {D D' : Dk} {al sf q : List ByteArray} {quota : Int}
theorem ALvF.few (h : ALvF D al sf q quota) : 19 * q.length ≤ 262144 := by
  have h1 := h.rest.size
  have h2 := lens_pays_ge q
  have h3 := h.ok.size 0 (by rw [h.one]; decide)
  omega
theorem ALvF.died (h : ALvF D al sf q quota) (css : List (List Int)) : ALvF (D.died css) al sf q quota := by
  obtain ⟨cs, ec⟩ := (died_l D css).2 0 (by rw [h.one]; decide)
  have e : (D.died css).l.getD 0 Fl.zero = D.l.getD 0 Fl.zero := by rw [ec]; exact h.rest.died cs
  exact ⟨h.ok.died css, (died_l D css).1.trans h.one, by rw [e]; exact h.z, by rw [e]; exact h.rest, h.q1, h.q2, h.s1, h.s2⟩
theorem ALvF.revive (h : ALvF D al sf q quota) : ALvF ⟨D.l, 0, D.ch, false⟩ al sf q quota := ⟨⟨h.ok.n, h.ok.pos, h.ok.size, h.ok.many, Nat.zero_le _, h.ok.chl⟩, h.one, h.z, h.rest, h.q1, h.q2, h.s1, h.s2⟩
theorem ALvF.arm (h : ALvF D al sf q quota) (x : Nat) (css : List (List Int)) (hn : x ≤ 9223372036854775807) (hc : ∀ i, (css.getD i []).length ≤ 140737488355328) : ALvF ⟨D.l, x, css, D.dead⟩ al sf q quota := ⟨⟨h.ok.n, h.ok.pos, h.ok.size, h.ok.many, hn, hc⟩, h.one, h.z, h.rest, h.q1, h.q2, h.s1, h.s2⟩
theorem ALvF.gone (h : ALvF D al sf q quota) (hg : GoneA D D' 0) (hr : ARest (D'.l.getD 0 Fl.zero) q ∨ ∃ cs, D'.l.getD 0 Fl.zero = ⟨left (D.l.getD 0 Fl.zero) cs, []⟩) (hz : (rd (D'.l.getD 0 Fl.zero)).size ≤ (rd (D.l.getD 0 Fl.zero)).size) : ALvF D' al sf q quota := by
  have h1 := h.z
  refine ⟨hg.ok, hg.len.trans h.one, by omega, ?_, h.q1, h.q2, h.s1, h.s2⟩
  rcases hr with hr | ⟨cs, hr⟩
  · exact hr
  · rw [hr, h.rest.died cs]; exact h.rest
theorem ALvF.opened (h : ALvF D al sf q quota) (ha : AliveA D D' 0) (hx : AC (D'.l.getD 0 Fl.zero) q q.length) (hz : (rd (D'.l.getD 0 Fl.zero)).size ≤ (rd (D.l.getD 0 Fl.zero)).size) : ALvF D' al sf q quota := by
  have h1 := h.z
  exact ⟨ha.ok, ha.len.trans h.one, by omega, hx.rest, h.q1, h.q2, h.s1, h.s2⟩
theorem ALvO.died (h : ALvO D al sf quota) (hal : D.dead = false) (css : List (List Int)) : ∃ q, ALvF (D.died css) al sf q quota := by
  obtain ⟨k, h1, h2, ⟨_, hac⟩ | ⟨hdd, _⟩⟩ := h.res
  · have hf := hac.few (h.ok.size 0 (by rw [h.one]; decide))
    obtain ⟨cs, ec⟩ := (died_l D css).2 0 (by rw [h.one]; decide)
    obtain ⟨j, j1, j2, j3⟩ := hac.crash (by omega) cs
    have hz := h.z
    have hle := size_left1 (D.l.getD 0 Fl.zero) cs
    refine ⟨al.take j, ALvF.of (h.ok.died css) ((died_l D css).1.trans h.one) (by rw [ec]; omega) h1 j1 j2 (by rw [ec]; exact j3)⟩
  · rw [hal] at hdd; cases hdd
theorem ALvO.dead (h : ALvO D al sf quota) (hdd : D.dead = true) : ∃ q, ALvF D al sf q quota := by
  obtain ⟨k, h1, h2, ⟨hal, _⟩ | ⟨_, j, j1, j2, j3⟩⟩ := h.res
  · rw [hal] at hdd; cases hdd
  · exact ⟨al.take j, ALvF.of h.ok h.one h.z h1 j1 j2 j3⟩
end
/-- A log that was opened, all safe. -/
structure ALvB (D : Dk) (q : List ByteArray) (quota : Int) : Prop where
  ok : DOk D
  al : D.dead = false
  one : D.l.length = 1
  ar : D.armed = 0
  ac : AC (D.l.getD 0 Fl.zero) q q.length
  z : ((rd (D.l.getD 0 Fl.zero)).size : Int) ≤ quota
theorem crashX_liveA {D : Dk} (h : D.dead = false) (css : List (List Int)) : D.crashX css = (D.died css, 0) := by unfold Dk.crashX; rw [if_neg (by rw [h]; exact Bool.false_ne_true)]
theorem ALvB.rdF {D : Dk} {q : List ByteArray} {quota : Int} (h : ALvB D q quota) : rd (D.l.getD 0 Fl.zero) = fileS q := by unfold rd fileS; rw [h.ac.rdL]
theorem ALvB.read {D : Dk} {q : List ByteArray} {quota : Int} {b g cap : Nat} {w : World} (h : ALvB D q quota) (hd : IsDisk w b g cap D) : Calls Tryz.prog 33 #[.pointer (some ⟨b, 0, none⟩), .int .i64 0] w fun e w' => e = .returned (.tuple #[.string (fileS q), .int .i64 0]) ∧ Below w.heap.size w w' := by
  have h1 := readA hd h.ok 0
  rw [show D.readX 0 = (rd (D.l.getD 0 Fl.zero), 0) by unfold Dk.readX; rw [if_neg (by rw [h.al]; exact Bool.false_ne_true), if_neg (by unfold Dk.out; rw [h.one]; decide)]; rfl, h.rdF] at h1
  exact h1
theorem ALvB.verify {D : Dk} {q : List ByteArray} {quota : Int} (h : ALvB D q quota) (w : World) : Calls Tryz.prog 27 #[.string (fileS q)] w fun e w' => ∃ p, e = .returned (.tuple #[.slice p q.length q.length, .string (strOf (linkL (q.map bs))), .int .i64 0]) ∧ Strs w' (.slice p q.length q.length) q ∧ Below w.heap.size w w' :=
  averAll q w h.ac.fit (by have h1 := h.ac.size; have h2 := h.ok.size 0 (by rw [h.one]; decide); show lens (pays (q.map bs)) ≤ _; omega)
noncomputable def alAft : Code := ((Tryz.f5.body.bind (findAfterA 2)).getD .skip)
set_option maxRecDepth 1000000 in
set_option maxHeartbeats 16000000 in
theorem alTail (W W1 : World) (b g cap lb xb B1 : Nat) (quota : Int) (hq : 0 ≤ quota ∧ quota ≤ 262144) (K : ALvK W W1 b g lb xb B1) (tv sv : Value) (cp : Option Addr) (mc cc : Nat) (Nn Ag : Int) (css : List (List Int))
    (hx : XA W1 xb tv sv Nn Ag (.slice cp mc cc)) (hcs : Rss W (.slice cp mc cc) css) (o3 : css.length ≤ 1048576) (ho4 : ∀ i, (css.getD i []).length ≤ 1048576) (o6 : Ag ≤ 9223372036854775807)
    (D2 : Dk) (tx : List ByteArray) (dd : Bool) (va0 vs0 : Value) (al sf : List ByteArray) (wc : World) (hm : ALvM W W1 b g cap lb B1 quota D2 tx dd va0 al vs0 sf wc) (ho : ALvO D2 al sf quota)
    (Q : Exit → Act → World → Prop) (c1 c2 c3 c4 c6 c7 c8 c10 c13 c14 c15 c16 c17 c18 c19 c20 c21 c22 c23 c24 c25 c26 c27 c28 c29 c30 c31 c32 c33 c34 c35 c36 c37 c38 c39 c40 c41 c42 c43 c44 c45 c46 c47 c48 c49 c50 c51 c52 c53 c54 c55 c56 c57 c58 c59 c60 c61 c62 c63 c64 c65 c66 c67 c68 c69 c70 c71 c72 c73 c74 c75 c76 c77 c78 c79 c80 c81 c82 c83 c84 c85 c86 c87 c88 c89 c90 c91 c92 c93 c94 c95 c96 c97 c98 c99 c100 c101 c102 c103 c104 c105 c106 c107 c108 c109 c110 c111 c112 c113 c114 c115 c116 c117 c118 c119 c120 c121 c122 c123 c124 c125 c126 c127 c128 c129 c130 c131 c132 c133 c134 c135 c136 c137 c138 c139 c140 c141 c142 c143 c144 c145 c146 c147 c148 c149 c150 c151 c152 c153 c154 c155 c156 c157 c158 c159 c160 c161 c162 c163 c164 c165 c166 c167 c168 c169 c170 c171 c172 c173 c174 c175 c176 c177 c178 c179 c180 c181 c182 c183 c184 c185 c186 c187 c188 c189 c190 c191 c192 c193 c194 c195 c196 c197 c198 c199 c200 c201 c202 c203 c204 c205 c206 c207 c208 c209 c210 c211 c212 c213 c214 c215 c216 c217 c218 c219 c220 c221 c222 c223 c224 c225 c226 c227 c228 c229 c230 c231 c232 c233 c234 c235 c236 c237 c238 c239 c240 c241 c242 c243 c244 c245 c246 c247 c248 c249 c250 c251 c252 c253 c254 c255 c256 c257 c258 c259 c260 c261 c262 c263 c264 c265 c266 c267 c268 c269 c270 c271 c272 c273 c274 c275 c276 c277 c278 c279 c280 c281 : Value)
    (hexit : ∀ (u4 u16 u17 u18 u19 u20 u21 u22 u23 u24 u170 u171 u172 u173 u174 u175 u176 u177 u178 u179 u180 u181 u182 u183 u184 u185 u186 u187 u188 u189 u190 u191 u192 u193 u194 u195 u196 u197 u198 u199 u200 u201 u202 u203 u204 u205 u206 u207 u208 u209 u210 u211 u212 u213 u214 u215 u216 u217 u218 u219 u220 u221 u222 u223 u224 u225 u226 u227 u228 u229 u230 u231 u232 u233 u234 u235 u236 u237 u238 u239 u240 u241 u242 u243 u244 u245 u246 u247 u248 u249 u250 u251 u252 u253 u254 u255 u256 u257 u258 u259 u260 u261 u262 u263 u264 u265 u266 u267 u268 u269 u270 u271 u272 u273 u274 u275 u276 u277 u278 u279 u280 vs : Value) (lb8 : Nat) (w' : World) (D8 : Dk) (q : List ByteArray), At W.heap.size W b g cap D8 w' → IsAL w' lb8 b 0 quota q false → W.heap.size ≤ lb8 → Strs w' vs q → ApartS (fun k => k = lb8 ∨ k = b ∨ k = g) vs q → ALvB D8 q quota → Q .normal ⟨#[(.int .i64 quota), c1, c2, c3, u4, (.pointer (some ⟨b, 0, none⟩)), c6, (.pointer (some ⟨lb8, 0, none⟩)), c8, vs, c10, (.pointer (some ⟨xb, 0, none⟩)), va0, c13, c14, c15, u16, u17, u18, u19, u20, u21, u22, u23, u24, c25, c26, c27, c28, c29, c30, c31, c32, c33, c34, c35, c36, c37, c38, c39, c40, c41, c42, c43, c44, c45, c46, c47, c48, c49, c50, c51, c52, c53, c54, c55, c56, c57, c58, c59, c60, c61, c62, c63, c64, c65, c66, c67, c68, c69, c70, c71, c72, c73, c74, c75, c76, c77, c78, c79, c80, c81, c82, c83, c84, c85, c86, c87, c88, c89, c90, c91, c92, c93, c94, c95, c96, c97, c98, c99, c100, c101, c102, c103, c104, c105, c106, c107, c108, c109, c110, c111, c112, c113, c114, c115, c116, c117, c118, c119, c120, c121, c122, c123, c124, c125, c126, c127, c128, c129, c130, c131, c132, c133, c134, c135, c136, c137, c138, c139, c140, c141, c142, c143, c144, c145, c146, c147, c148, c149, c150, c151, c152, c153, c154, c155, c156, c157, c158, c159, c160, c161, c162, c163, c164, c165, c166, c167, c168, c169, u170, u171, u172, u173, u174, u175, u176, u177, u178, u179, u180, u181, u182, u183, u184, u185, u186, u187, u188, u189, u190, u191, u192, u193, u194, u195, u196, u197, u198, u199, u200, u201, u202, u203, u204, u205, u206, u207, u208, u209, u210, u211, u212, u213, u214, u215, u216, u217, u218, u219, u220, u221, u222, u223, u224, u225, u226, u227, u228, u229, u230, u231, u232, u233, u234, u235, u236, u237, u238, u239, u240, u241, u242, u243, u244, u245, u246, u247, u248, u249, u250, u251, u252, u253, u254, u255, u256, u257, u258, u259, u260, u261, u262, u263, u264, u265, u266, u267, u268, u269, u270, u271, u272, u273, u274, u275, u276, u277, u278, u279, u280, c281], []⟩ w') :
    Code.wp Tryz.prog alAft Q ⟨#[(.int .i64 quota), c1, c2, c3, c4, (.pointer (some ⟨b, 0, none⟩)), c6, c7, c8, vs0, c10, (.pointer (some ⟨xb, 0, none⟩)), va0, c13, c14, c15, c16, c17, c18, c19, c20, c21, c22, c23, c24, c25, c26, c27, c28, c29, c30, c31, c32, c33, c34, c35, c36, c37, c38, c39, c40, c41, c42, c43, c44, c45, c46, c47, c48, c49, c50, c51, c52, c53, c54, c55, c56, c57, c58, c59, c60, c61, c62, c63, c64, c65, c66, c67, c68, c69, c70, c71, c72, c73, c74, c75, c76, c77, c78, c79, c80, c81, c82, c83, c84, c85, c86, c87, c88, c89, c90, c91, c92, c93, c94, c95, c96, c97, c98, c99, c100, c101, c102, c103, c104, c105, c106, c107, c108, c109, c110, c111, c112, c113, c114, c115, c116, c117, c118, c119, c120, c121, c122, c123, c124, c125, c126, c127, c128, c129, c130, c131, c132, c133, c134, c135, c136, c137, c138, c139, c140, c141, c142, c143, c144, c145, c146, c147, c148, c149, c150, c151, c152, c153, c154, c155, c156, c157, c158, c159, c160, c161, c162, c163, c164, c165, c166, c167, c168, c169, c170, c171, c172, c173, c174, c175, c176, c177, c178, c179, c180, c181, c182, c183, c184, c185, c186, c187, c188, c189, c190, c191, c192, c193, c194, c195, c196, c197, c198, c199, c200, c201, c202, c203, c204, c205, c206, c207, c208, c209, c210, c211, c212, c213, c214, c215, c216, c217, c218, c219, c220, c221, c222, c223, c224, c225, c226, c227, c228, c229, c230, c231, c232, c233, c234, c235, c236, c237, c238, c239, c240, c241, c242, c243, c244, c245, c246, c247, c248, c249, c250, c251, c252, c253, c254, c255, c256, c257, c258, c259, c260, c261, c262, c263, c264, c265, c266, c267, c268, c269, c270, c271, c272, c273, c274, c275, c276, c277, c278, c279, c280, c281], []⟩ wc := by
  have HK := Lib.hid K
  have HC := Lib.hid hcs
  have HO4 := Lib.hid ho4
  have HM := Lib.hid hm
  have HO := Lib.hid ho
  have HX := Lib.hid hx
  have HQQ := Lib.hid hq
  have HAL := Lib.hid ho.n
  have HEX := Lib.hid hexit
  have x4 := (hm.x K hx).c4
  clear K hcs ho4 hm ho hx hq hexit
  dsimp only
  conv => arg 2; whnf
  go_upto_region 31 with fail
  go_cut [179] from 170 to 280 (fun v179 wx => v179 = .bool false ∧ ∃ (D3 : Dk) (q : List ByteArray), ALvM W W1 b g cap lb B1 quota D3 tx dd va0 al vs0 sf wx ∧ ALvF D3 al sf q quota)
  case first =>
    by_cases hal : D2.dead = false
    · have HE := Lib.hid (deadW HM.out.at_.disk)
      rw [hal] at HE
      have HCR := Lib.hid (crashA HM.out.at_.disk HO.out.ok (.slice cp mc cc) css (HC.out.below HM.out.at_.below) (fun i => by have := HO4.out i; omega))
      rw [crashX_liveA hal] at HCR
      have HDI := Lib.hid (HO.out.died hal css)
      clear hal
      go_wp2_with fail
      refine HE.out.mono ?_
      rintro e w' ⟨rfl, rfl⟩
      go_wp2_with fail
      refine HCR.out.mono ?_
      rintro e w3 ⟨rfl, hd3, hc3⟩
      have HM3 := Lib.hid (HM.out.disk HK.out hd3 hc3)
      clear hd3 hc3 x4
      go_wp2_with fail
      go_meet
      obtain ⟨q, hq⟩ := HDI.out
      exact ⟨rfl, D2.died css, q, HM3.out, hq⟩
    · have hdd : D2.dead = true := by
        cases hD : D2.dead with
        | false => exact absurd hD hal
        | true => rfl
      have HE := Lib.hid (deadW HM.out.at_.disk)
      rw [hdd] at HE
      have HDI := Lib.hid (HO.out.dead hdd)
      clear hdd hal
      go_wp2_with fail
      refine HE.out.mono ?_
      rintro e w' ⟨rfl, rfl⟩
      clear x4
      go_wp2_with fail
      go_meet
      obtain ⟨q, hq⟩ := HDI.out
      exact ⟨rfl, D2, q, HM.out, hq⟩
  case rest =>
    obtain ⟨rfl, D3, q, hm3, hf3⟩ := hcut
    have HM3 := Lib.hid hm3
    have HF3 := Lib.hid hf3
    clear hm3 hf3 HO HM x4
    have HRV := Lib.hid (reviveW HM3.out.at_.disk)
    go_wp2_with fail
    refine HRV.out.mono ?_
    rintro e w4 ⟨rfl, hd4, hc4⟩
    have HM4 := Lib.hid (HM3.out.disk HK.out hd4 (hc4.mono fun k _ h => .inl h))
    have HF4 := Lib.hid HF3.out.revive
    clear hd4 hc4 HRV HM3 HF3
    have x3 := (HM4.out.x HK.out HX.out).c3
    have x4 := (HM4.out.x HK.out HX.out).c4
    go_upto_if 184 with fail
    go_cut [5] from 170 to 280 (fun v5 wx => v5 = .pointer (some ⟨b, 0, none⟩) ∧ ∃ (D5 : Dk), ALvM W W1 b g cap lb B1 quota D5 tx dd va0 al vs0 sf wx ∧ ALvF D5 al sf q quota ∧ D5.dead = false ∧ D5.armed = 0)
    case first =>
      by_cases hAg : 0 < Ag
      · have HAR := Lib.hid (armW HM4.out.at_.disk rfl Ag.toNat (by omega) (.slice cp mc cc) css (HC.out.below HM4.out.at_.below) o3 HO4.out)
        have e0 : ((Ag.toNat : Nat) : Int) = Ag := by omega
        rw [e0] at HAR
        clear e0
        go_wp2_with fail
        refine HAR.out.mono ?_
        rintro e w5 ⟨rfl, hd5, hc5⟩
        have HM5 := Lib.hid (HM4.out.disk HK.out hd5 (hc5.mono fun k _ h => .inl h))
        have HF5 := Lib.hid (HF4.out.arm Ag.toNat css (by omega) (fun i => by have := HO4.out i; omega))
        clear hd5 hc5 HAR x3 x4
        have HOP := Lib.hid (aopenR HM5.out.at_.disk HF5.out.ok rfl (by rw [HF5.out.one]; decide) HF5.out.rest.sync HQQ.out)
        go_wp2_with fail
        refine HOP.out.mono ?_
        rintro e w6 ⟨D6, hd6, hc6, hres⟩
        have HM6 := Lib.hid (HM5.out.disk HK.out hd6 hc6)
        clear hd6 hc6 HOP
        rcases hres with ⟨rfl, hr6⟩ | ⟨lb6, rfl, hlb6, hl6, hr6⟩
        · have HF6 : Hid (ALvF D6 al sf q quota) := by
            cases hr6 with
            | gone h1 h2 h3 => exact HF5.out.gone h1 h2 h3
          clear hr6
          have HRV := Lib.hid (reviveW HM6.out.at_.disk)
          go_wp2_with fail
          refine HRV.out.mono ?_
          rintro e w7 ⟨rfl, hd7, hc7⟩
          have HM7 := Lib.hid (HM6.out.disk HK.out hd7 (hc7.mono fun k _ h => .inl h))
          have HF7 := Lib.hid HF6.out.revive
          have x4 := (HM7.out.x HK.out HX.out).c4
          clear hd7 hc7 HRV
          have HCR := Lib.hid (crashA HM7.out.at_.disk HF7.out.ok (.slice cp mc cc) css (HC.out.below HM7.out.at_.below) (fun i => by have := HO4.out i; omega))
          rw [crashX_liveA rfl] at HCR
          go_wp2_with fail
          refine HCR.out.mono ?_
          rintro e w8 ⟨rfl, hd8, hc8⟩
          have HM8 := Lib.hid (HM7.out.disk HK.out hd8 hc8)
          have HF8 := Lib.hid (HF7.out.died css)
          clear hd8 hc8 HCR x4
          have HRV := Lib.hid (reviveW HM8.out.at_.disk)
          go_wp2_with fail
          refine HRV.out.mono ?_
          rintro e w9 ⟨rfl, hd9, hc9⟩
          have HM9 := Lib.hid (HM8.out.disk HK.out hd9 (hc9.mono fun k _ h => .inl h))
          have HF9 := Lib.hid HF8.out.revive
          clear hd9 hc9 HRV
          go_wp2_with fail
          go_meet
          exact ⟨rfl, _, HM9.out, HF9.out, rfl, rfl⟩
        · have HF6 : Hid (ALvF D6 al sf q quota) := by
            cases hr6 with
            | ok h1 h2 h3 => exact HF5.out.opened h1 h2 h3
          clear hr6 hlb6 hl6
          have HRV := Lib.hid (reviveW HM6.out.at_.disk)
          go_wp2_with fail
          refine HRV.out.mono ?_
          rintro e w7 ⟨rfl, hd7, hc7⟩
          have HM7 := Lib.hid (HM6.out.disk HK.out hd7 (hc7.mono fun k _ h => .inl h))
          have HF7 := Lib.hid HF6.out.revive
          have x4 := (HM7.out.x HK.out HX.out).c4
          clear hd7 hc7 HRV
          have HCR := Lib.hid (crashA HM7.out.at_.disk HF7.out.ok (.slice cp mc cc) css (HC.out.below HM7.out.at_.below) (fun i => by have := HO4.out i; omega))
          rw [crashX_liveA rfl] at HCR
          go_wp2_with fail
          refine HCR.out.mono ?_
          rintro e w8 ⟨rfl, hd8, hc8⟩
          have HM8 := Lib.hid (HM7.out.disk HK.out hd8 hc8)
          have HF8 := Lib.hid (HF7.out.died css)
          clear hd8 hc8 HCR x4
          have HRV := Lib.hid (reviveW HM8.out.at_.disk)
          go_wp2_with fail
          refine HRV.out.mono ?_
          rintro e w9 ⟨rfl, hd9, hc9⟩
          have HM9 := Lib.hid (HM8.out.disk HK.out hd9 (hc9.mono fun k _ h => .inl h))
          have HF9 := Lib.hid HF8.out.revive
          clear hd9 hc9 HRV
          go_wp2_with fail
          go_meet
          exact ⟨rfl, _, HM9.out, HF9.out, rfl, rfl⟩
      · clear x4
        go_wp2_with fail
        go_meet
        exact ⟨rfl, _, HM4.out, HF4.out, rfl, rfl⟩
    case rest =>
      obtain ⟨rfl, D5, hm5, hf5, hal5, har5⟩ := hcut
      have HM5 := Lib.hid hm5
      have HF5 := Lib.hid hf5
      have HAR5 := Lib.hid har5
      have HOP := Lib.hid (aopenR HM5.out.at_.disk HF5.out.ok hal5 (by rw [HF5.out.one]; decide) HF5.out.rest.sync HQQ.out)
      clear hm5 hf5 hal5 har5 x3 x4 HM4 HF4
      go_wp2_with fail
      refine HOP.out.mono ?_
      rintro e w6 ⟨D6, hd6, hc6, hres⟩
      have HM6 := Lib.hid (HM5.out.disk HK.out hd6 hc6)
      clear hd6 hc6 HOP
      rcases hres with ⟨rfl, hr6⟩ | ⟨lb6, rfl, hlb6, hl6, hr6⟩
      · exfalso
        cases hr6 with
        | gone h1 h2 h3 => exact h1.ar HAR5.out
      have HB6 : Hid (ALvB D6 q quota ∧ ALvF D6 al sf q quota) := by
        cases hr6 with
        | ok h1 h2 h3 => exact ⟨⟨h1.ok, h1.al, h1.len.trans HF5.out.one, h1.ar HAR5.out, h2, (HF5.out.opened h1 h2 h3).z⟩, HF5.out.opened h1 h2 h3⟩
      have HLB : Hid (W.heap.size ≤ lb6) := by unfold Hid; have h1 := HM5.out.size HK.out; have h2 := HK.out.WB; omega
      have HL6 : Hid (AFr none w6 lb6 b 0 quota q false) := hl6.fr (fun k hk => by cases hk)
      clear hr6 hlb6 hl6 HM5 HF5 HAR5
      have hqn : q.length ≤ 1048576 := by have := HB6.out.2.few; omega
      have HQN := Lib.hid hqn
      have HT6 := Lib.hid (HL6.out.texts hqn)
      obtain ⟨n, hn⟩ : ∃ n, n = q.length := ⟨_, rfl⟩
      rw [← hn] at HT6
      have HNN := Lib.hid hn
      clear hqn hn
      go_wp2_with fail
      refine HT6.out.mono ?_
      rintro e w7 ⟨p7, rfl, hs7, _, hb7⟩
      have HM7 := Lib.hid (HM6.out.below hb7)
      have HL7 := Lib.hid (HL6.out.below hb7)
      have HBG := Lib.hid (lbeginsW _ _ sf q w7 HM7.out.safe hs7 HQN.out HB6.out.2.s2 HB6.out.2.s1 (by rintro p n' c h; injection h with _ h2 h3; omega))
      clear hs7 hb7 HT6 HM6 HL6
      go_wp2_with fail
      refine HBG.out.mono ?_
      rintro e w8 ⟨rfl, hb8⟩
      have HM8 := Lib.hid (HM7.out.below hb8)
      have HL8 := Lib.hid (HL7.out.below hb8)
      have HT8 := Lib.hid (HL8.out.texts HQN.out)
      rw [← HNN.out] at HT8
      clear hb8 HBG HM7 HL7
      go_wp2_with fail
      refine HT8.out.mono ?_
      rintro e w9 ⟨p9, rfl, hs9, _, hb9⟩
      have HM9 := Lib.hid (HM8.out.below hb9)
      have HL9 := Lib.hid (HL8.out.below hb9)
      have HBG := Lib.hid (lbeginsW _ _ q al w9 hs9 HM9.out.all.ws.strs HAL.out HB6.out.2.q2 HB6.out.2.q1 (by rintro p n' c h; have h1 := HM9.out.all.own; unfold OwnsS at h1; rw [h] at h1; have h2 := h1; obtain ⟨p', c', e⟩ := HM9.out.all.shape; rw [h] at e; injection e with _ e2 _; rw [← e2] at h2; exact (own_cap h2).1))
      clear hs9 hb9 HT8 HM8 HL8
      go_wp2_with fail
      refine HBG.out.mono ?_
      rintro e w10 ⟨rfl, hb10⟩
      have HM10 := Lib.hid (HM9.out.below hb10)
      have HL10 := Lib.hid (HL9.out.below hb10)
      have HRX := Lib.hid (HB6.out.1.read (cap := cap) HM10.out.at_.disk)
      have HVE := Lib.hid (fun w => HB6.out.1.verify w)
      have HSZ := Lib.hid (sizeYes HM10.out.at_.disk HB6.out.1.ok 0 (by rw [HB6.out.1.one]; decide))
      have hzq : ¬ quota < ((rd (D6.l.getD 0 Fl.zero)).size : Int) := by have := HB6.out.1.z; omega
      obtain ⟨z, hz⟩ : ∃ z, z = (rd (D6.l.getD 0 Fl.zero)).size := ⟨_, rfl⟩
      rw [← hz] at HSZ hzq
      obtain ⟨L, hL⟩ : ∃ L, L = strOf (linkL (q.map bs)) := ⟨_, rfl⟩
      rw [← hL, ← HNN.out] at HVE
      have HLL := Lib.hid hL
      clear hb10 HBG HM9 HL9 hz hL
      go_wp2_with fail
      refine HSZ.out.mono ?_
      rintro e w11 ⟨rfl, hb11⟩
      have HM11 := Lib.hid (HM10.out.below hb11)
      have HL11 := Lib.hid (HL10.out.below hb11)
      have HRX := Lib.hid (HB6.out.1.read (cap := cap) HM11.out.at_.disk)
      clear hb11 HSZ HM10 HL10
      go_wp2_with fail
      refine HRX.out.mono ?_
      rintro e w12 ⟨rfl, hb12⟩
      have HM12 := Lib.hid (HM11.out.below hb12)
      have HL12 := Lib.hid (HL11.out.below hb12)
      clear hb12 HRX HM11 HL11 hzq
      go_wp2_with fail
      refine (HVE.out _).mono ?_
      rintro e w13 ⟨p13, rfl, hs13, hb13⟩
      have HM13 := Lib.hid (HM12.out.below hb13)
      have HL13 := Lib.hid (HL12.out.below hb13)
      have HS13 := Lib.hid hs13
      have HT13 := Lib.hid (HL13.out.texts HQN.out)
      rw [← HNN.out] at HT13
      clear hb13 hs13 HVE HM12 HL12
      go_wp2_with fail
      refine HT13.out.mono ?_
      rintro e w14 ⟨p14, rfl, hs14, _, hb14⟩
      have HM14 := Lib.hid (HM13.out.below hb14)
      have HL14 := Lib.hid (HL13.out.below hb14)
      have HSM := Lib.hid (sameW _ _ q q w14 (HS13.out.below hb14) hs14 HQN.out HQN.out)
      rw [decide_eq_true rfl] at HSM
      clear hb14 hs14 HT13 HS13 HM13 HL13
      go_wp2_with fail
      refine HSM.out.mono ?_
      rintro e w15 ⟨rfl, hb15⟩
      have HM15 := Lib.hid (HM14.out.below hb15)
      have HL15 := Lib.hid (HL14.out.below hb15)
      have HLK := Lib.hid HL15.out.linkW
      rw [← HLL.out] at HLK
      clear hb15 HSM HM14 HL14
      go_wp2_with fail
      refine HLK.out.mono ?_
      rintro e w16 ⟨rfl, rfl⟩
      have HT16 := Lib.hid (HL15.out.texts HQN.out)
      rw [← HNN.out] at HT16
      clear HLK
      go_wp2_with fail
      refine HT16.out.mono ?_
      rintro e w17 ⟨p17, rfl, hs17, hf17, hb17⟩
      have HM17 := Lib.hid (HM15.out.below hb17)
      have HL17 := Lib.hid (HL15.out.below hb17)
      have HS17 := Lib.hid hs17
      have HF17 : Hid (ApartS (fun k => k = lb6 ∨ k = b ∨ k = g) (.slice p17 n n) q) := by
        intro a n' c e h0 hS
        have h1 := hf17 a (Value.slice.inj e).1
        have h2 := HL15.out.al.lt
        have h3 := HM15.out.size HK.out
        have h4 := HK.out.b1
        have h5 := HK.out.g1
        omega
      clear hs17 hf17 hb17 HT16 HM15 HL15
      go_wp2_with fail
      exact HEX.out _ _ _ _ _ _ _ _ _ _ _ _ _ _ _ _ _ _ _ _ _ _ _ _ _ _ _ _ _ _ _ _ _ _ _ _ _ _ _ _ _ _ _ _ _ _ _ _ _ _ _ _ _ _ _ _ _ _ _ _ _ _ _ _ _ _ _ _ _ _ _ _ _ _ _ _ _ _ _ _ _ _ _ _ _ _ _ _ _ _ _ _ _ _ _ _ _ _ _ _ _ _ _ _ _ _ _ _ _ _ _ _ _ _ _ _ _ _ _ _ _  _ lb6 _ D6 q HM17.out.at_ HL17.out.al HLB.out HS17.out HF17.out HB6.out.1
end Go.Proofs.YtilpbjcbffbjeaaGreatDoor
