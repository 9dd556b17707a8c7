/- The walk of AuditJoins. -/
import Derived.Test.YtilpbjcbffbjeaaDoorAFixed
namespace Go.Proofs.YtilpbjcbffbjeaaDoor
set_option linter.unusedVariables false
set_option maxRecDepth 100000
open Go.RowKit
theorem strs_two2 (w : World) (b : Nat) (x y : ByteArray) (h0 : w.cell? ⟨b, 0, none⟩ = some (.string x)) (h1 : w.cell? ⟨b, 1, none⟩ = some (.string y)) : Strs w (.slice (some ⟨b, 0, none⟩) 2 2) [x, y] := by
  refine Strs.mk (ss := [x, y]) fun i hi => ?_
  match i, (show i < 2 from hi) with
  | 0, _ => exact ⟨b, 0, rfl, h0⟩
  | 1, _ => exact ⟨b, 0, rfl, h1⟩
theorem Strs.cellJ {w : World} {v : Value} {ss : List ByteArray} (h : Strs w v ss) {p : Option Addr} {n c : Nat} (hv : v = .slice p n c) {i : Nat} (hi : i < ss.length) : ∃ b off, p = some ⟨b, off, none⟩ ∧ w.cell? ⟨b, off + i, none⟩ = some (.string (ss.getD i ⟨#[]⟩)) := by
  obtain ⟨p', c', e, hc⟩ := h.form
  rw [hv] at e
  injection e with e1 e2 e3
  subst e1
  exact hc i hi
theorem files_two {D : Dk} {a b : Fl} (hl : D.l.length = 2) (h0 : D.l.getD 0 Fl.zero = a) (h1 : D.l.getD 1 Fl.zero = b) : D.files = [rd a, rd b] := by
  obtain ⟨l, _, _, _⟩ := D
  match l, hl with
  | [x, y], _ =>
    have e0 : x = a := h0
    have e1 : y = b := h1
    subst e0 e1
    rfl
set_option maxHeartbeats 6400000 in
theorem joinsLaw (v : Value) (tt : List ByteArray) (cut quota : Int) (w : World) (hs : Strs w v tt) (hl : tt.length ≤ 1048576) :
    Calls Tryd.prog 4 #[v, .int .i64 cut, .int .i64 quota] w fun e w' => e = .returned (.bool true) ∧ Below w.heap.size w w' := by
  obtain ⟨vp, vc, rfl, _⟩ := hs.form
  have HSS := Lib.hid hs
  obtain ⟨m, hm⟩ : ∃ m, m = tt.length := ⟨_, rfl⟩
  rw [← hm] at HSS hl ⊢
  have HMM := Lib.hid hm
  clear hs hm
  go_enter Tryd.func4, Tryd.ntmps4
  go_wp2_with fail
  refine (newZ _ 2 (by decide) (by decide) (strs_two2 _ w.heap.size zfe zfe (by simp [zfe]) (by simp [zfe]))).mono ?_
  rintro e w1 ⟨b, g, cap, rfl, hat, hok⟩
  have HA := Lib.hid (hat.rebase ((Below.refl _ _).alloc (Nat.le_refl _) _) (by simp) (Nat.le_refl _))
  have HOK := Lib.hid hok
  clear hat hok
  by_cases hq : quota < 0 ∨ 262144 < quota
  · have H1 := Lib.hid (fun w v => aopenArg 0 quota hq w v)
    have H2 := Lib.hid (fun w v => aopenArg 1 quota hq w v)
    clear hq
    go_wp2_with fail
    refine (H1.out _ _).mono ?_
    rintro e w2 ⟨rfl, rfl⟩
    go_wp2_with fail
    refine (H2.out _ _).mono ?_
    rintro e w2 ⟨rfl, rfl⟩
    clear H1 H2
    go_wp2_with fail
    refine (afixedW _).mono ?_
    rintro e w3 ⟨rfl, hb⟩
    have HB := Lib.hid (HA.out.grow hb).below
    clear hb
    go_wp2_with fail
    go_ret
    exact ⟨rfl, HB.out⟩
  have hq' : 0 ≤ quota ∧ quota ≤ 262144 := by omega
  have HQ := Lib.hid hq'
  have HO1 := Lib.hid (HA.out.aopenU HOK.out rfl rfl (f := 0) (by decide) (restZ 2 0) hq' (few_zero 2))
  clear hq hq'
  go_wp2_with fail
  refine HO1.out.mono ?_
  rintro e w2 ⟨la, D1, rfl, _, hst, hc, hal⟩
  have HS := Lib.hid hst
  have HAL := Lib.hid hal
  clear hst hc hal HO1
  have HO2 := Lib.hid (HS.out.on.aopenU HS.out.ok HS.out.al HS.out.ar (f := 1) (ss := []) (by rw [HAL.out.len]; decide) (by rw [HAL.out.other 1 (by decide)]; exact restZ 2 1) HQ.out HS.out.few)
  go_wp2_with fail
  refine HO2.out.mono ?_
  rintro e w3 ⟨lb, D2, rfl, hlb, hst, hc, hal⟩
  have HS2 := Lib.hid (HS.out.besideO hc hal hst (by decide))
  have HT := Lib.hid hst
  have HNE : Hid (la ≠ lb) := by have := HS.out.log.lt; unfold Hid; omega
  have HLN : Hid (D2.l.length = 2) := by unfold Hid; rw [hal.len, HAL.out.len]; rfl
  clear hst hc hal hlb HO2 HS HAL HA HOK
  go_wp2_with fail
  go_loopw [11, 13] (fun v11 v13 wr => ∃ (i lb k0 k1 : Nat) (D : Dk) (ss : List ByteArray), v13 = .int .i64 (i : Nat) ∧ v11 = .pointer (some ⟨lb, 0, none⟩) ∧ i ≤ m ∧ ASt w.heap.size w b g cap la 0 quota ss k0 D wr ∧ ASt w.heap.size w b g cap lb 1 quota ss k1 D wr ∧ la ≠ lb ∧ D.l.length = 2) (fun _ v _ => (m - intOf v).toNat)
  case atStart => exact ⟨0, lb, _, _, D2, [], rfl, rfl, Nat.zero_le _, HS2.out, HT.out, HNE.out, HLN.out⟩
  case round =>
    clear HS2 HT HNE HLN
    obtain ⟨i, lb, k0, k1, D, ss, rfl, rfl, him, hsa, hsb, hne, hln⟩ := hrel
    have HS := Lib.hid hsa
    have HT := Lib.hid hsb
    have HNE := Lib.hid hne
    have HLN := Lib.hid hln
    clear hsa hsb hne hln
    by_cases hlt : i < m
    · have hi1 : (i : Int) < (m : Int) := by omega
      have hi0 : (0 : Int) ≤ (i : Int) := by omega
      obtain ⟨tb, toff, htp, htx⟩ := HSS.out.cellJ (p := vp) (n := m) (c := vc) rfl (i := i) (by rw [← HMM.out]; exact hlt)
      subst htp
      obtain ⟨T, hT⟩ : ∃ T, T = tt.getD i ⟨#[]⟩ := ⟨_, rfl⟩
      rw [← hT] at htx
      have HTX : Hid (∀ u, Below w.heap.size w u → u.cell? ⟨tb, toff + i, none⟩ = some (.string T)) := fun u hu => (hu.cell (block_lt_of_cell htx)).trans htx
      clear htx hT
      by_cases heq : (i : Int) = cut
      · subst heq
        have HO := Lib.hid (HT.out.on.aopenU HT.out.ok HT.out.al HT.out.ar (f := 1) (by rw [HLN.out]; decide) (ARest.of_ac HT.out.ac) HQ.out HT.out.few)
        go_wp2_with fail
        refine HO.out.mono ?_
        rintro e w4 ⟨lc, D3, rfl, hlc, hst, hc, hal⟩
        have HS3 := Lib.hid (HS.out.besideO hc hal hst (by decide))
        have HT3 := Lib.hid hst
        have HNE3 : Hid (la ≠ lc) := by have := HS.out.log.lt; unfold Hid; omega
        have HLN3 : Hid (D3.l.length = 2) := by unfold Hid; rw [hal.len]; exact HLN.out
        clear hst hc hal hlc HO HS HT HNE HLN
        have H1 := Lib.hid HT3.out.texts
        obtain ⟨q, hq⟩ : ∃ q, q = ss.length := ⟨_, rfl⟩
        have hqb : q ≤ 1048576 := by have := HS3.out.n; omega
        rw [← hq] at H1
        have HQQ := Lib.hid hq
        clear hq
        go_wp2_with fail
        refine H1.out.mono ?_
        rintro e w5 ⟨p5, rfl, hs5, hb⟩
        have HX5 := Lib.hid hs5
        replace HS3 := Lib.hid (HS3.out.grow hb)
        replace HT3 := Lib.hid (HT3.out.grow hb)
        clear hs5 hb H1
        have H2 := Lib.hid HS3.out.texts
        rw [← HQQ.out] at H2
        go_wp2_with fail
        refine H2.out.mono ?_
        rintro e w6 ⟨p6, rfl, hs6, hb⟩
        replace HX5 := Lib.hid (HX5.out.below hb)
        replace HS3 := Lib.hid (HS3.out.grow hb)
        replace HT3 := Lib.hid (HT3.out.grow hb)
        have HSM := Lib.hid (sameW _ _ ss ss w6 HX5.out hs6 (by rw [← HQQ.out]; exact hqb) (by rw [← HQQ.out]; exact hqb))
        rw [decide_eq_true rfl] at HSM
        clear hs6 hb H2 HX5
        go_wp2_with fail
        refine HSM.out.mono ?_
        rintro e w7 ⟨rfl, hb⟩
        replace HS3 := Lib.hid (HS3.out.grow hb)
        replace HT3 := Lib.hid (HT3.out.grow hb)
        clear hb HSM
        go_wp2_with fail
        obtain ⟨r, hr⟩ : ∃ r, r = aRes quota ss T := ⟨_, rfl⟩
        obtain ⟨s2, hs2⟩ : ∃ s, s = aTx quota ss T := ⟨_, rfl⟩
        obtain ⟨ro, hro⟩ : ∃ ro, ro = aroom quota (zT s2) := ⟨_, rfl⟩
        have HR := Lib.hid hr
        have HS2 := Lib.hid hs2
        have HRO := Lib.hid hro
        clear hr hs2 hro
        refine wp_region_U 19 (fun u => u.cell? ⟨tb, toff + i, none⟩ = some (.string T)) (by kernel_rfl) ?_
        change wpAnyU _ _ _ _ _ _ 20 (Array.replicate 20 false) _ _
        obtain ⟨wd, hwd⟩ : ∃ x, x = w7.drew := ⟨_, rfl⟩
        rw [← hwd]
        have hbd : Below w7.heap.size w7 wd := by rw [hwd]; exact (Below.refl _ _).drew
        have HSd := Lib.hid (HS3.out.grow hbd)
        have HTd := Lib.hid (HT3.out.grow hbd)
        clear hwd hbd HS3 HT3
        have hx := HTX.out wd HSd.out.on.below
        refine takeU 0 (v := ?_) rfl (by kernel_rfl) (by kernel_rfl) (fun _ _ _ h => h) rfl (fun u hu => ?_) hx ?_
        rotate_left
        · skip; go_simp <;> with_reducible rfl
        simp only [Act.put, List.setIfInBounds_toArray, List.set_cons_zero, List.set_cons_succ]
        refine takeU 1 (v := ?_) rfl (by kernel_rfl) (by kernel_rfl) (fun _ _ _ h => h) rfl (fun u hu => ?_) hx ?_
        rotate_left
        · skip; go_simp <;> with_reducible rfl
        simp only [Act.put, List.setIfInBounds_toArray, List.set_cons_zero, List.set_cons_succ]
        refine takeU 2 (v := ?_) rfl (by kernel_rfl) (by kernel_rfl) (fun _ _ _ h => h) rfl (fun u hu => ?_) hx ?_
        rotate_left
        · skip; go_simp <;> with_reducible rfl
        simp only [Act.put, List.setIfInBounds_toArray, List.set_cons_zero, List.set_cons_succ]
        refine takeU 3 (v := ?_) rfl (by kernel_rfl) (by kernel_rfl) (fun _ _ _ h => h) rfl (fun u hu => ?_) hx ?_
        rotate_left
        · skip; go_simp <;> with_reducible rfl
        simp only [Act.put, List.setIfInBounds_toArray, List.set_cons_zero, List.set_cons_succ]
        refine takeU 4 (v := ?_) rfl (by kernel_rfl) (by kernel_rfl) (fun _ _ _ h => h) rfl (fun u hu => ?_) hx ?_
        rotate_left
        · skip; go_simp <;> with_reducible rfl
        simp only [Act.put, List.setIfInBounds_toArray, List.set_cons_zero, List.set_cons_succ]
        refine takeU 6 (v := ?_) rfl (by kernel_rfl) (by kernel_rfl) (fun _ _ _ h => h) rfl (fun u hu => ?_) hx ?_
        rotate_left
        · skip; go_simp <;> with_reducible rfl
        simp only [Act.put, List.setIfInBounds_toArray, List.set_cons_zero, List.set_cons_succ]
        refine takeU 7 (v := ?_) rfl (by kernel_rfl) (by kernel_rfl) (fun _ _ _ h => h) rfl (fun u hu => ?_) hx ?_
        rotate_left
        · skip; go_simp <;> with_reducible rfl
        simp only [Act.put, List.setIfInBounds_toArray, List.set_cons_zero, List.set_cons_succ]
        refine takeU 8 (v := ?_) rfl (by kernel_rfl) (by kernel_rfl) (fun _ _ _ h => h) rfl (fun u hu => ?_) hx ?_
        rotate_left
        · skip; go_simp <;> with_reducible rfl
        simp only [Act.put, List.setIfInBounds_toArray, List.set_cons_zero, List.set_cons_succ]
        refine takeU 9 (v := ?_) rfl (by kernel_rfl) (by kernel_rfl) (fun _ _ _ h => h) rfl (fun u hu => ?_) hx ?_
        rotate_left
        · skip; go_simp <;> with_reducible rfl
        simp only [Act.put, List.setIfInBounds_toArray, List.set_cons_zero, List.set_cons_succ]
        refine takeU 10 (v := ?_) rfl (by kernel_rfl) (by kernel_rfl) (fun _ _ _ h => h) rfl (fun u hu => ?_) hx ?_
        rotate_left
        · skip; go_simp <;> with_reducible rfl
        simp only [Act.put, List.setIfInBounds_toArray, List.set_cons_zero, List.set_cons_succ]
        refine oneU 5 (by kernel_rfl) ?_
        refine callU 5 rfl (by kernel_rfl) rfl 8 _ _ rfl #[.pointer (some ⟨la, 0, none⟩), .string T] (by simp [Act.eval]) (enters_of Tryd.func8 (by kernel_rfl) rfl) (fun v w' => v = .int .i64 r ∧ Hid (∃ D', ASt w.heap.size w b g cap la 0 quota s2 k0 D' w' ∧ Chg (fun k => k = la ∨ k = b ∨ k = g) wd w' ∧ AliveA D3 D' 0)) ((HSd.out.app T).mono fun e w' ⟨h1, h2⟩ => ⟨_, h1, by rw [HR.out], by rw [HS2.out]; exact h2⟩) ?_
        rintro v w8 ⟨rfl, hK⟩
        obtain ⟨D4, hst, hc, hal⟩ := hK.out
        have HS4 := Lib.hid hst
        have HT4 := Lib.hid (HTd.out.beside hc HSd.out.log hal hst HNE3.out.symm (by decide))
        have HLN4 : Hid (D4.l.length = 2) := by unfold Hid; rw [hal.len]; exact HLN3.out
        clear hK hst hc hal HSd HTd hx
        have hx := HTX.out w8 HS4.out.on.below
        refine ⟨hx, ?_⟩
        simp only [Act.put, List.setIfInBounds_toArray, List.set_cons_zero, List.set_cons_succ]
        refine oneU 11 (by kernel_rfl) ?_
        refine callU 11 rfl (by kernel_rfl) rfl 8 _ _ rfl #[.pointer (some ⟨lc, 0, none⟩), .string T] (by simp [Act.eval]) (enters_of Tryd.func8 (by kernel_rfl) rfl) (fun v w' => v = .int .i64 r ∧ Hid (∃ D', ASt w.heap.size w b g cap lc 1 quota s2 ss.length D' w' ∧ Chg (fun k => k = lc ∨ k = b ∨ k = g) w8 w' ∧ AliveA D4 D' 1)) ((HT4.out.app T).mono fun e w' ⟨h1, h2⟩ => ⟨_, h1, by rw [HR.out], by rw [HS2.out]; exact h2⟩) ?_
        rintro v w9 ⟨rfl, hK⟩
        obtain ⟨D5, hst, hc, hal⟩ := hK.out
        have HT5 := Lib.hid hst
        have HS5 := Lib.hid (HS4.out.beside hc HT4.out.log hal hst HNE3.out (by decide))
        have HLN5 : Hid (D5.l.length = 2) := by unfold Hid; rw [hal.len]; exact HLN4.out
        clear hK hst hc hal HS4 HT4 hx
        have hx := HTX.out w9 HS5.out.on.below
        refine ⟨hx, ?_⟩
        simp only [Act.put, List.setIfInBounds_toArray, List.set_cons_zero, List.set_cons_succ]
        refine takeU 12 (v := ?_) rfl (by kernel_rfl) (by kernel_rfl) (fun _ _ _ h => h) rfl (fun u hu => ?_) hx ?_
        rotate_left
        · skip; go_simp <;> with_reducible rfl
        simp only [Act.put, List.setIfInBounds_toArray, List.set_cons_zero, List.set_cons_succ]
        refine takeU 13 (v := ?_) rfl (by kernel_rfl) (by kernel_rfl) (fun _ _ _ h => h) rfl (fun u hu => ?_) hx ?_
        rotate_left
        · skip; go_simp <;> with_reducible rfl
        simp only [Act.put, List.setIfInBounds_toArray, List.set_cons_zero, List.set_cons_succ]
        refine takeU 14 (v := ?_) rfl (by kernel_rfl) (by kernel_rfl) (fun _ _ _ h => h) rfl (fun u hu => ?_) hx ?_
        rotate_left
        · skip; go_simp <;> with_reducible rfl
        simp only [Act.put, List.setIfInBounds_toArray, List.set_cons_zero, List.set_cons_succ]
        refine takeU 16 (v := ?_) rfl (by kernel_rfl) (by kernel_rfl) (fun _ _ _ h => h) rfl (fun u hu => ?_) hx ?_
        rotate_left
        · skip; go_simp <;> with_reducible rfl
        simp only [Act.put, List.setIfInBounds_toArray, List.set_cons_zero, List.set_cons_succ]
        refine oneU 15 (by kernel_rfl) ?_
        refine callU 15 rfl (by kernel_rfl) rfl 16 _ _ rfl #[.pointer (some ⟨la, 0, none⟩)] (by simp [Act.eval]) (enters_of Tryd.func16 (by kernel_rfl) rfl) (fun v w' => v = .int .i64 ro ∧ Hid (Below w9.heap.size w9 w')) ((HS5.out.room).mono fun e w' ⟨h1, h2⟩ => ⟨_, h1, by rw [HRO.out], h2⟩) ?_
        rintro v w10 ⟨rfl, hK⟩
        replace HS5 := Lib.hid (HS5.out.grow hK.out)
        replace HT5 := Lib.hid (HT5.out.grow hK.out)
        clear hK hx
        have hx := HTX.out w10 HS5.out.on.below
        refine ⟨hx, ?_⟩
        simp only [Act.put, List.setIfInBounds_toArray, List.set_cons_zero, List.set_cons_succ]
        refine oneU 17 (by kernel_rfl) ?_
        refine callU 17 rfl (by kernel_rfl) rfl 16 _ _ rfl #[.pointer (some ⟨lc, 0, none⟩)] (by simp [Act.eval]) (enters_of Tryd.func16 (by kernel_rfl) rfl) (fun v w' => v = .int .i64 ro ∧ Hid (Below w10.heap.size w10 w')) ((HT5.out.room).mono fun e w' ⟨h1, h2⟩ => ⟨_, h1, by rw [HRO.out], h2⟩) ?_
        rintro v w11 ⟨rfl, hK⟩
        replace HS5 := Lib.hid (HS5.out.grow hK.out)
        replace HT5 := Lib.hid (HT5.out.grow hK.out)
        clear hK hx
        have hx := HTX.out w11 HS5.out.on.below
        refine ⟨hx, ?_⟩
        simp only [Act.put, List.setIfInBounds_toArray, List.set_cons_zero, List.set_cons_succ]
        refine takeU 18 (v := ?_) rfl (by kernel_rfl) (by kernel_rfl) (fun _ _ _ h => h) rfl (fun u hu => ?_) hx ?_
        rotate_left
        · skip; go_simp <;> with_reducible rfl
        simp only [Act.put, List.setIfInBounds_toArray, List.set_cons_zero, List.set_cons_succ]
        refine oneU 19 (by kernel_rfl) ?_
        refine endU (v := ?_) 19 rfl (by kernel_rfl) (by kernel_rfl) rfl ?_ ?_
        rotate_left
        · go_simp <;> with_reducible rfl
        simp only [Act.put, List.setIfInBounds_toArray, List.set_cons_zero, List.set_cons_succ]
        go_wp2_with fail
        exact ⟨⟨i + 1, lc, k0, ss.length, D5, s2, rfl, rfl, by omega, HS5.out, HT5.out, HNE3.out, HLN5.out⟩, by simp only [intOf]; omega⟩
      · have hke : ((i : Int) == cut) = false := by rw [beq_eq_false_iff_ne]; exact heq
        clear heq
        have HS3 := HS
        have HT3 := HT
        have HNE3 := HNE
        have HLN3 := HLN
        clear HS HT HNE HLN
        go_wp2_with fail
        obtain ⟨r, hr⟩ : ∃ r, r = aRes quota ss T := ⟨_, rfl⟩
        obtain ⟨s2, hs2⟩ : ∃ s, s = aTx quota ss T := ⟨_, rfl⟩
        obtain ⟨ro, hro⟩ : ∃ ro, ro = aroom quota (zT s2) := ⟨_, rfl⟩
        have HR := Lib.hid hr
        have HS2 := Lib.hid hs2
        have HRO := Lib.hid hro
        clear hr hs2 hro
        refine wp_region_U 19 (fun u => u.cell? ⟨tb, toff + i, none⟩ = some (.string T)) (by kernel_rfl) ?_
        change wpAnyU _ _ _ _ _ _ 20 (Array.replicate 20 false) _ _
        obtain ⟨wd, hwd⟩ : ∃ x, x = wr.drew := ⟨_, rfl⟩
        rw [← hwd]
        have hbd : Below wr.heap.size wr wd := by rw [hwd]; exact (Below.refl _ _).drew
        have HSd := Lib.hid (HS3.out.grow hbd)
        have HTd := Lib.hid (HT3.out.grow hbd)
        clear hwd hbd HS3 HT3
        have hx := HTX.out wd HSd.out.on.below
        refine takeU 0 (v := ?_) rfl (by kernel_rfl) (by kernel_rfl) (fun _ _ _ h => h) rfl (fun u hu => ?_) hx ?_
        rotate_left
        · skip; go_simp <;> with_reducible rfl
        simp only [Act.put, List.setIfInBounds_toArray, List.set_cons_zero, List.set_cons_succ]
        refine takeU 1 (v := ?_) rfl (by kernel_rfl) (by kernel_rfl) (fun _ _ _ h => h) rfl (fun u hu => ?_) hx ?_
        rotate_left
        · skip; go_simp <;> with_reducible rfl
        simp only [Act.put, List.setIfInBounds_toArray, List.set_cons_zero, List.set_cons_succ]
        refine takeU 2 (v := ?_) rfl (by kernel_rfl) (by kernel_rfl) (fun _ _ _ h => h) rfl (fun u hu => ?_) hx ?_
        rotate_left
        · skip; go_simp <;> with_reducible rfl
        simp only [Act.put, List.setIfInBounds_toArray, List.set_cons_zero, List.set_cons_succ]
        refine takeU 3 (v := ?_) rfl (by kernel_rfl) (by kernel_rfl) (fun _ _ _ h => h) rfl (fun u hu => ?_) hx ?_
        rotate_left
        · skip; go_simp <;> with_reducible rfl
        simp only [Act.put, List.setIfInBounds_toArray, List.set_cons_zero, List.set_cons_succ]
        refine takeU 4 (v := ?_) rfl (by kernel_rfl) (by kernel_rfl) (fun _ _ _ h => h) rfl (fun u hu => ?_) hx ?_
        rotate_left
        · skip; go_simp <;> with_reducible rfl
        simp only [Act.put, List.setIfInBounds_toArray, List.set_cons_zero, List.set_cons_succ]
        refine takeU 6 (v := ?_) rfl (by kernel_rfl) (by kernel_rfl) (fun _ _ _ h => h) rfl (fun u hu => ?_) hx ?_
        rotate_left
        · skip; go_simp <;> with_reducible rfl
        simp only [Act.put, List.setIfInBounds_toArray, List.set_cons_zero, List.set_cons_succ]
        refine takeU 7 (v := ?_) rfl (by kernel_rfl) (by kernel_rfl) (fun _ _ _ h => h) rfl (fun u hu => ?_) hx ?_
        rotate_left
        · skip; go_simp <;> with_reducible rfl
        simp only [Act.put, List.setIfInBounds_toArray, List.set_cons_zero, List.set_cons_succ]
        refine takeU 8 (v := ?_) rfl (by kernel_rfl) (by kernel_rfl) (fun _ _ _ h => h) rfl (fun u hu => ?_) hx ?_
        rotate_left
        · skip; go_simp <;> with_reducible rfl
        simp only [Act.put, List.setIfInBounds_toArray, List.set_cons_zero, List.set_cons_succ]
        refine takeU 9 (v := ?_) rfl (by kernel_rfl) (by kernel_rfl) (fun _ _ _ h => h) rfl (fun u hu => ?_) hx ?_
        rotate_left
        · skip; go_simp <;> with_reducible rfl
        simp only [Act.put, List.setIfInBounds_toArray, List.set_cons_zero, List.set_cons_succ]
        refine takeU 10 (v := ?_) rfl (by kernel_rfl) (by kernel_rfl) (fun _ _ _ h => h) rfl (fun u hu => ?_) hx ?_
        rotate_left
        · skip; go_simp <;> with_reducible rfl
        simp only [Act.put, List.setIfInBounds_toArray, List.set_cons_zero, List.set_cons_succ]
        refine oneU 5 (by kernel_rfl) ?_
        refine callU 5 rfl (by kernel_rfl) rfl 8 _ _ rfl #[.pointer (some ⟨la, 0, none⟩), .string T] (by simp [Act.eval]) (enters_of Tryd.func8 (by kernel_rfl) rfl) (fun v w' => v = .int .i64 r ∧ Hid (∃ D', ASt w.heap.size w b g cap la 0 quota s2 k0 D' w' ∧ Chg (fun k => k = la ∨ k = b ∨ k = g) wd w' ∧ AliveA D D' 0)) ((HSd.out.app T).mono fun e w' ⟨h1, h2⟩ => ⟨_, h1, by rw [HR.out], by rw [HS2.out]; exact h2⟩) ?_
        rintro v w8 ⟨rfl, hK⟩
        obtain ⟨D4, hst, hc, hal⟩ := hK.out
        have HS4 := Lib.hid hst
        have HT4 := Lib.hid (HTd.out.beside hc HSd.out.log hal hst HNE3.out.symm (by decide))
        have HLN4 : Hid (D4.l.length = 2) := by unfold Hid; rw [hal.len]; exact HLN3.out
        clear hK hst hc hal HSd HTd hx
        have hx := HTX.out w8 HS4.out.on.below
        refine ⟨hx, ?_⟩
        simp only [Act.put, List.setIfInBounds_toArray, List.set_cons_zero, List.set_cons_succ]
        refine oneU 11 (by kernel_rfl) ?_
        refine callU 11 rfl (by kernel_rfl) rfl 8 _ _ rfl #[.pointer (some ⟨lb, 0, none⟩), .string T] (by simp [Act.eval]) (enters_of Tryd.func8 (by kernel_rfl) rfl) (fun v w' => v = .int .i64 r ∧ Hid (∃ D', ASt w.heap.size w b g cap lb 1 quota s2 k1 D' w' ∧ Chg (fun k => k = lb ∨ k = b ∨ k = g) w8 w' ∧ AliveA D4 D' 1)) ((HT4.out.app T).mono fun e w' ⟨h1, h2⟩ => ⟨_, h1, by rw [HR.out], by rw [HS2.out]; exact h2⟩) ?_
        rintro v w9 ⟨rfl, hK⟩
        obtain ⟨D5, hst, hc, hal⟩ := hK.out
        have HT5 := Lib.hid hst
        have HS5 := Lib.hid (HS4.out.beside hc HT4.out.log hal hst HNE3.out (by decide))
        have HLN5 : Hid (D5.l.length = 2) := by unfold Hid; rw [hal.len]; exact HLN4.out
        clear hK hst hc hal HS4 HT4 hx
        have hx := HTX.out w9 HS5.out.on.below
        refine ⟨hx, ?_⟩
        simp only [Act.put, List.setIfInBounds_toArray, List.set_cons_zero, List.set_cons_succ]
        refine takeU 12 (v := ?_) rfl (by kernel_rfl) (by kernel_rfl) (fun _ _ _ h => h) rfl (fun u hu => ?_) hx ?_
        rotate_left
        · skip; go_simp <;> with_reducible rfl
        simp only [Act.put, List.setIfInBounds_toArray, List.set_cons_zero, List.set_cons_succ]
        refine takeU 13 (v := ?_) rfl (by kernel_rfl) (by kernel_rfl) (fun _ _ _ h => h) rfl (fun u hu => ?_) hx ?_
        rotate_left
        · skip; go_simp <;> with_reducible rfl
        simp only [Act.put, List.setIfInBounds_toArray, List.set_cons_zero, List.set_cons_succ]
        refine takeU 14 (v := ?_) rfl (by kernel_rfl) (by kernel_rfl) (fun _ _ _ h => h) rfl (fun u hu => ?_) hx ?_
        rotate_left
        · skip; go_simp <;> with_reducible rfl
        simp only [Act.put, List.setIfInBounds_toArray, List.set_cons_zero, List.set_cons_succ]
        refine takeU 16 (v := ?_) rfl (by kernel_rfl) (by kernel_rfl) (fun _ _ _ h => h) rfl (fun u hu => ?_) hx ?_
        rotate_left
        · skip; go_simp <;> with_reducible rfl
        simp only [Act.put, List.setIfInBounds_toArray, List.set_cons_zero, List.set_cons_succ]
        refine oneU 15 (by kernel_rfl) ?_
        refine callU 15 rfl (by kernel_rfl) rfl 16 _ _ rfl #[.pointer (some ⟨la, 0, none⟩)] (by simp [Act.eval]) (enters_of Tryd.func16 (by kernel_rfl) rfl) (fun v w' => v = .int .i64 ro ∧ Hid (Below w9.heap.size w9 w')) ((HS5.out.room).mono fun e w' ⟨h1, h2⟩ => ⟨_, h1, by rw [HRO.out], h2⟩) ?_
        rintro v w10 ⟨rfl, hK⟩
        replace HS5 := Lib.hid (HS5.out.grow hK.out)
        replace HT5 := Lib.hid (HT5.out.grow hK.out)
        clear hK hx
        have hx := HTX.out w10 HS5.out.on.below
        refine ⟨hx, ?_⟩
        simp only [Act.put, List.setIfInBounds_toArray, List.set_cons_zero, List.set_cons_succ]
        refine oneU 17 (by kernel_rfl) ?_
        refine callU 17 rfl (by kernel_rfl) rfl 16 _ _ rfl #[.pointer (some ⟨lb, 0, none⟩)] (by simp [Act.eval]) (enters_of Tryd.func16 (by kernel_rfl) rfl) (fun v w' => v = .int .i64 ro ∧ Hid (Below w10.heap.size w10 w')) ((HT5.out.room).mono fun e w' ⟨h1, h2⟩ => ⟨_, h1, by rw [HRO.out], h2⟩) ?_
        rintro v w11 ⟨rfl, hK⟩
        replace HS5 := Lib.hid (HS5.out.grow hK.out)
        replace HT5 := Lib.hid (HT5.out.grow hK.out)
        clear hK hx
        have hx := HTX.out w11 HS5.out.on.below
        refine ⟨hx, ?_⟩
        simp only [Act.put, List.setIfInBounds_toArray, List.set_cons_zero, List.set_cons_succ]
        refine takeU 18 (v := ?_) rfl (by kernel_rfl) (by kernel_rfl) (fun _ _ _ h => h) rfl (fun u hu => ?_) hx ?_
        rotate_left
        · skip; go_simp <;> with_reducible rfl
        simp only [Act.put, List.setIfInBounds_toArray, List.set_cons_zero, List.set_cons_succ]
        refine oneU 19 (by kernel_rfl) ?_
        refine endU (v := ?_) 19 rfl (by kernel_rfl) (by kernel_rfl) rfl ?_ ?_
        rotate_left
        · go_simp <;> with_reducible rfl
        simp only [Act.put, List.setIfInBounds_toArray, List.set_cons_zero, List.set_cons_succ]
        go_wp2_with fail
        exact ⟨⟨i + 1, lb, k0, k1, D5, s2, rfl, rfl, by omega, HS5.out, HT5.out, HNE3.out, HLN5.out⟩, by simp only [intOf]; omega⟩
    · have hi1 : ¬ (i : Int) < (m : Int) := by omega
      clear hlt
      have HFS := Lib.hid (filesW HS.out.on.disk HS.out.ok)
      rw [files_two HLN.out rfl rfl, HS.out.rdF, HT.out.rdF] at HFS
      obtain ⟨F, hF⟩ : ∃ F, F = fileS ss := ⟨_, rfl⟩
      rw [← hF] at HFS
      clear hF
      go_wp2_with fail
      refine HFS.out.mono ?_
      rintro e w4 ⟨v4, rfl, hos, hb⟩
      have HS3 := Lib.hid (HS.out.grow hb)
      have HT3 := Lib.hid (HT.out.grow hb)
      have hrow : Row1 w4 9 v4 ([F, F].map Value.string) := hos.ws
      obtain ⟨p4, c4, rfl, _, hcl⟩ := hrow.form
      obtain ⟨fg, rfl, hc0⟩ := hcl 0 (by simp)
      obtain ⟨fg', hfg, hc1⟩ := hcl 1 (by simp)
      obtain rfl : fg = fg' := by injection hfg with e; injection e
      have HF : Hid (∀ u, Below w4.heap.size w4 u → u.cell? ⟨fg, 0, none⟩ = some (.string F) ∧ u.cell? ⟨fg, 1, none⟩ = some (.string F)) := fun u hu => ⟨(hu.cell (block_lt_of_cell (w := w4) (a := ⟨fg, 0, none⟩) hc0)).trans hc0, (hu.cell (block_lt_of_cell (w := w4) (a := ⟨fg, 1, none⟩) hc1)).trans hc1⟩
      have HB4 := Lib.hid (Below.refl w4.heap.size w4)
      clear hos hb hrow hcl hc0 hc1 hfg HS HT HFS
      simp only [List.length_map, List.length_cons, List.length_nil]
      obtain ⟨q, hq⟩ : ∃ q, q = ss.length := ⟨_, rfl⟩
      obtain ⟨L, hL⟩ : ∃ L, L = strOf (linkL (ss.map bs)) := ⟨_, rfl⟩
      have hqb : q ≤ 1048576 := by have := HS3.out.n; omega
      have HQQ := Lib.hid hq
      have HLL := Lib.hid hL
      clear hq hL
      go_wp2_with fail
      refine wp_region_U 29 (fun u => u.cell? ⟨fg, 0, none⟩ = some (.string F) ∧ u.cell? ⟨fg, 1, none⟩ = some (.string F)) (by kernel_rfl) ?_
      change wpAnyU _ _ _ _ _ _ 30 (Array.replicate 30 false) _ _
      obtain ⟨wd, hwd⟩ : ∃ x, x = w4.drew := ⟨_, rfl⟩
      rw [← hwd]
      have hK : Hid (Below w4.heap.size w4 wd) := by unfold Hid; rw [hwd]; exact (Below.refl _ _).drew
      replace HB4 := Lib.hid (HB4.out.trans (hK.out.mono HB4.out.size))
      replace HS3 := Lib.hid (HS3.out.grow hK.out)
      replace HT3 := Lib.hid (HT3.out.grow hK.out)
      clear hwd hK
      have hx := HF.out wd HB4.out
      refine takeU 0 (v := ?_) rfl (by kernel_rfl) (by kernel_rfl) (fun _ _ _ h => h) rfl (fun u hu => ?_) hx ?_
      rotate_left
      · obtain ⟨z0, z1⟩ := hu; go_simp <;> with_reducible rfl
      simp only [Act.put, List.setIfInBounds_toArray, List.set_cons_zero, List.set_cons_succ]
      refine takeU 1 (v := ?_) rfl (by kernel_rfl) (by kernel_rfl) (fun _ _ _ h => h) rfl (fun u hu => ?_) hx ?_
      rotate_left
      · obtain ⟨z0, z1⟩ := hu; go_simp <;> with_reducible rfl
      simp only [Act.put, List.setIfInBounds_toArray, List.set_cons_zero, List.set_cons_succ]
      refine takeU 2 (v := ?_) rfl (by kernel_rfl) (by kernel_rfl) (fun _ _ _ h => h) rfl (fun u hu => ?_) hx ?_
      rotate_left
      · obtain ⟨z0, z1⟩ := hu; go_simp <;> with_reducible rfl
      simp only [Act.put, List.setIfInBounds_toArray, List.set_cons_zero, List.set_cons_succ]
      refine takeU 3 (v := ?_) rfl (by kernel_rfl) (by kernel_rfl) (fun _ _ _ h => h) rfl (fun u hu => ?_) hx ?_
      rotate_left
      · obtain ⟨z0, z1⟩ := hu; go_simp <;> with_reducible rfl
      simp only [Act.put, List.setIfInBounds_toArray, List.set_cons_zero, List.set_cons_succ]
      refine takeU 4 (v := ?_) rfl (by kernel_rfl) (by kernel_rfl) (fun _ _ _ h => h) rfl (fun u hu => ?_) hx ?_
      rotate_left
      · obtain ⟨z0, z1⟩ := hu; go_simp <;> with_reducible rfl
      simp only [Act.put, List.setIfInBounds_toArray, List.set_cons_zero, List.set_cons_succ]
      refine takeU 5 (v := ?_) rfl (by kernel_rfl) (by kernel_rfl) (fun _ _ _ h => h) rfl (fun u hu => ?_) hx ?_
      rotate_left
      · obtain ⟨z0, z1⟩ := hu; go_simp <;> with_reducible rfl
      simp only [Act.put, List.setIfInBounds_toArray, List.set_cons_zero, List.set_cons_succ]
      refine takeU 6 (v := ?_) rfl (by kernel_rfl) (by kernel_rfl) (fun _ _ _ h => h) rfl (fun u hu => ?_) hx ?_
      rotate_left
      · obtain ⟨z0, z1⟩ := hu; go_simp <;> with_reducible rfl
      simp only [Act.put, List.setIfInBounds_toArray, List.set_cons_zero, List.set_cons_succ]
      refine takeU 7 (v := ?_) rfl (by kernel_rfl) (by kernel_rfl) (fun _ _ _ h => h) rfl (fun u hu => ?_) hx ?_
      rotate_left
      · obtain ⟨z0, z1⟩ := hu; go_simp <;> with_reducible rfl
      simp only [Act.put, List.setIfInBounds_toArray, List.set_cons_zero, List.set_cons_succ]
      refine takeU 8 (v := ?_) rfl (by kernel_rfl) (by kernel_rfl) (fun _ _ _ h => h) rfl (fun u hu => ?_) hx ?_
      rotate_left
      · obtain ⟨z0, z1⟩ := hu; go_simp <;> with_reducible rfl
      simp only [Act.put, List.setIfInBounds_toArray, List.set_cons_zero, List.set_cons_succ]
      refine takeU 9 (v := ?_) rfl (by kernel_rfl) (by kernel_rfl) (fun _ _ _ h => h) rfl (fun u hu => ?_) hx ?_
      rotate_left
      · obtain ⟨z0, z1⟩ := hu; go_simp <;> with_reducible rfl
      simp only [Act.put, List.setIfInBounds_toArray, List.set_cons_zero, List.set_cons_succ]
      refine takeU 10 (v := ?_) rfl (by kernel_rfl) (by kernel_rfl) (fun _ _ _ h => h) rfl (fun u hu => ?_) hx ?_
      rotate_left
      · obtain ⟨z0, z1⟩ := hu; go_simp <;> with_reducible rfl
      simp only [Act.put, List.setIfInBounds_toArray, List.set_cons_zero, List.set_cons_succ]
      refine takeU 11 (v := ?_) rfl (by kernel_rfl) (by kernel_rfl) (fun _ _ _ h => h) rfl (fun u hu => ?_) hx ?_
      rotate_left
      · obtain ⟨z0, z1⟩ := hu; go_simp <;> with_reducible rfl
      simp only [Act.put, List.setIfInBounds_toArray, List.set_cons_zero, List.set_cons_succ]
      refine takeU 12 (v := ?_) rfl (by kernel_rfl) (by kernel_rfl) (fun _ _ _ h => h) rfl (fun u hu => ?_) hx ?_
      rotate_left
      · obtain ⟨z0, z1⟩ := hu; go_simp <;> with_reducible rfl
      simp only [Act.put, List.setIfInBounds_toArray, List.set_cons_zero, List.set_cons_succ]
      refine takeU 13 (v := ?_) rfl (by kernel_rfl) (by kernel_rfl) (fun _ _ _ h => h) rfl (fun u hu => ?_) hx ?_
      rotate_left
      · obtain ⟨z0, z1⟩ := hu; go_simp <;> with_reducible rfl
      simp only [Act.put, List.setIfInBounds_toArray, List.set_cons_zero, List.set_cons_succ]
      refine takeU 15 (v := ?_) rfl (by kernel_rfl) (by kernel_rfl) (fun _ _ _ h => h) rfl (fun u hu => ?_) hx ?_
      rotate_left
      · obtain ⟨z0, z1⟩ := hu; go_simp <;> with_reducible rfl
      simp only [Act.put, List.setIfInBounds_toArray, List.set_cons_zero, List.set_cons_succ]
      refine oneU 14 (by kernel_rfl) ?_
      refine callU 14 rfl (by kernel_rfl) rfl 14 _ _ rfl #[.pointer (some ⟨la, 0, none⟩)] (by simp [Act.eval]) (enters_of Tryd.func14 (by kernel_rfl) rfl) (fun v w' => v = .string L ∧ w' = wd) ((HS3.out.link).mono fun e w' ⟨h1, h2⟩ => ⟨_, h1, by rw [HLL.out], h2⟩) ?_
      rintro v w5 ⟨rfl, rfl⟩
      refine ⟨hx, ?_⟩
      simp only [Act.put, List.setIfInBounds_toArray, List.set_cons_zero, List.set_cons_succ]
      refine oneU 16 (by kernel_rfl) ?_
      refine callU 16 rfl (by kernel_rfl) rfl 14 _ _ rfl #[.pointer (some ⟨lb, 0, none⟩)] (by simp [Act.eval]) (enters_of Tryd.func14 (by kernel_rfl) rfl) (fun v w' => v = .string L ∧ w' = w5) ((HT3.out.link).mono fun e w' ⟨h1, h2⟩ => ⟨_, h1, by rw [HLL.out], h2⟩) ?_
      rintro v w6 ⟨rfl, rfl⟩
      refine ⟨hx, ?_⟩
      simp only [Act.put, List.setIfInBounds_toArray, List.set_cons_zero, List.set_cons_succ]
      refine takeU 17 (v := ?_) rfl (by kernel_rfl) (by kernel_rfl) (fun _ _ _ h => h) rfl (fun u hu => ?_) hx ?_
      rotate_left
      · obtain ⟨z0, z1⟩ := hu; go_simp <;> with_reducible rfl
      simp only [Act.put, List.setIfInBounds_toArray, List.set_cons_zero, List.set_cons_succ]
      refine takeU 18 (v := ?_) rfl (by kernel_rfl) (by kernel_rfl) (fun _ _ _ h => h) rfl (fun u hu => ?_) hx ?_
      rotate_left
      · obtain ⟨z0, z1⟩ := hu; go_simp <;> with_reducible rfl
      simp only [Act.put, List.setIfInBounds_toArray, List.set_cons_zero, List.set_cons_succ]
      refine takeU 19 (v := ?_) rfl (by kernel_rfl) (by kernel_rfl) (fun _ _ _ h => h) rfl (fun u hu => ?_) hx ?_
      rotate_left
      · obtain ⟨z0, z1⟩ := hu; go_simp <;> with_reducible rfl
      simp only [Act.put, List.setIfInBounds_toArray, List.set_cons_zero, List.set_cons_succ]
      refine takeU 20 (v := ?_) rfl (by kernel_rfl) (by kernel_rfl) (fun _ _ _ h => h) rfl (fun u hu => ?_) hx ?_
      rotate_left
      · obtain ⟨z0, z1⟩ := hu; go_simp <;> with_reducible rfl
      simp only [Act.put, List.setIfInBounds_toArray, List.set_cons_zero, List.set_cons_succ]
      refine takeU 22 (v := ?_) rfl (by kernel_rfl) (by kernel_rfl) (fun _ _ _ h => h) rfl (fun u hu => ?_) hx ?_
      rotate_left
      · obtain ⟨z0, z1⟩ := hu; go_simp <;> with_reducible rfl
      simp only [Act.put, List.setIfInBounds_toArray, List.set_cons_zero, List.set_cons_succ]
      refine oneU 21 (by kernel_rfl) ?_
      refine callU 21 rfl (by kernel_rfl) rfl 13 _ _ rfl #[.pointer (some ⟨la, 0, none⟩)] (by simp [Act.eval]) (enters_of Tryd.func13 (by kernel_rfl) rfl) (fun v w' => Hid (∃ p, v = .slice p q q ∧ Strs w' (.slice p q q) ss) ∧ Hid (Below w6.heap.size w6 w')) ((HS3.out.texts).mono fun e w' ⟨p, h1, h2, h3⟩ => ⟨_, h1, ⟨p, by rw [HQQ.out], by rw [HQQ.out]; exact h2⟩, h3⟩) ?_
      rintro v w7 ⟨hV, hK⟩
      obtain ⟨p7, rfl, hs7⟩ := hV.out
      have HX := Lib.hid hs7
      replace HB4 := Lib.hid (HB4.out.trans (hK.out.mono HB4.out.size))
      replace HS3 := Lib.hid (HS3.out.grow hK.out)
      replace HT3 := Lib.hid (HT3.out.grow hK.out)
      clear hx hV hK hs7
      have hx := HF.out w7 HB4.out
      refine ⟨hx, ?_⟩
      simp only [Act.put, List.setIfInBounds_toArray, List.set_cons_zero, List.set_cons_succ]
      refine oneU 23 (by kernel_rfl) ?_
      refine callU 23 rfl (by kernel_rfl) rfl 13 _ _ rfl #[.pointer (some ⟨lb, 0, none⟩)] (by simp [Act.eval]) (enters_of Tryd.func13 (by kernel_rfl) rfl) (fun v w' => Hid (∃ p, v = .slice p q q ∧ Strs w' (.slice p q q) ss) ∧ Hid (Below w7.heap.size w7 w')) ((HT3.out.texts).mono fun e w' ⟨p, h1, h2, h3⟩ => ⟨_, h1, ⟨p, by rw [HQQ.out], by rw [HQQ.out]; exact h2⟩, h3⟩) ?_
      rintro v w8 ⟨hV, hK⟩
      obtain ⟨p8, rfl, hs8⟩ := hV.out
      have HY := Lib.hid hs8
      replace HX := Lib.hid (HX.out.below hK.out)
      replace HB4 := Lib.hid (HB4.out.trans (hK.out.mono HB4.out.size))
      replace HS3 := Lib.hid (HS3.out.grow hK.out)
      replace HT3 := Lib.hid (HT3.out.grow hK.out)
      clear hx hV hK hs8
      have hx := HF.out w8 HB4.out
      have HSM := Lib.hid (sameW _ _ ss ss w8 HX.out HY.out (by rw [← HQQ.out]; exact hqb) (by rw [← HQQ.out]; exact hqb))
      rw [decide_eq_true rfl] at HSM
      refine ⟨hx, ?_⟩
      simp only [Act.put, List.setIfInBounds_toArray, List.set_cons_zero, List.set_cons_succ]
      refine oneU 24 (by kernel_rfl) ?_
      refine callU 24 rfl (by kernel_rfl) rfl 12 _ _ rfl #[.slice p7 q q, .slice p8 q q] (by simp [Act.eval]) (enters_of Tryd.func12 (by kernel_rfl) rfl) (fun v w' => v = .bool true ∧ Hid (Below w8.heap.size w8 w')) ((HSM.out).mono fun e w' ⟨h1, h2⟩ => ⟨_, h1, rfl, h2⟩) ?_
      rintro v w9 ⟨rfl, hK⟩
      replace HB4 := Lib.hid (HB4.out.trans (hK.out.mono HB4.out.size))
      replace HS3 := Lib.hid (HS3.out.grow hK.out)
      replace HT3 := Lib.hid (HT3.out.grow hK.out)
      clear hx hK HSM
      have hx := HF.out w9 HB4.out
      refine ⟨hx, ?_⟩
      simp only [Act.put, List.setIfInBounds_toArray, List.set_cons_zero, List.set_cons_succ]
      refine takeU 25 (v := ?_) rfl (by kernel_rfl) (by kernel_rfl) (fun _ _ _ h => h) rfl (fun u hu => ?_) hx ?_
      rotate_left
      · obtain ⟨z0, z1⟩ := hu; go_simp <;> with_reducible rfl
      simp only [Act.put, List.setIfInBounds_toArray, List.set_cons_zero, List.set_cons_succ]
      refine takeU 26 (v := ?_) rfl (by kernel_rfl) (by kernel_rfl) (fun _ _ _ h => h) rfl (fun u hu => ?_) hx ?_
      rotate_left
      · obtain ⟨z0, z1⟩ := hu; go_simp <;> with_reducible rfl
      simp only [Act.put, List.setIfInBounds_toArray, List.set_cons_zero, List.set_cons_succ]
      refine oneU 27 (by kernel_rfl) ?_
      refine callU 27 rfl (by kernel_rfl) rfl 15 _ _ rfl #[] (by simp) (enters_of Tryd.func15 (by kernel_rfl) rfl) (fun v w' => v = .bool true ∧ Hid (Below w9.heap.size w9 w')) ((afixedW w9).mono fun e w' ⟨h1, h2⟩ => ⟨_, h1, rfl, h2⟩) ?_
      rintro v w10 ⟨rfl, hK⟩
      replace HB4 := Lib.hid (HB4.out.trans (hK.out.mono HB4.out.size))
      replace HS3 := Lib.hid (HS3.out.grow hK.out)
      replace HT3 := Lib.hid (HT3.out.grow hK.out)
      clear hx hK
      have hx := HF.out w10 HB4.out
      refine ⟨hx, ?_⟩
      simp only [Act.put, List.setIfInBounds_toArray, List.set_cons_zero, List.set_cons_succ]
      refine takeU 28 (v := ?_) rfl (by kernel_rfl) (by kernel_rfl) (fun _ _ _ h => h) rfl (fun u hu => ?_) hx ?_
      rotate_left
      · obtain ⟨z0, z1⟩ := hu; go_simp <;> with_reducible rfl
      simp only [Act.put, List.setIfInBounds_toArray, List.set_cons_zero, List.set_cons_succ]
      refine oneU 29 (by kernel_rfl) ?_
      refine endU (v := ?_) 29 rfl (by kernel_rfl) (by kernel_rfl) rfl ?_ ?_
      rotate_left
      · go_simp <;> with_reducible rfl
      simp only [Act.put, List.setIfInBounds_toArray, List.set_cons_zero, List.set_cons_succ]
      go_wp2_with fail
      go_ret
      exact ⟨rfl, HS3.out.on.below⟩
end Go.Proofs.YtilpbjcbffbjeaaDoor
