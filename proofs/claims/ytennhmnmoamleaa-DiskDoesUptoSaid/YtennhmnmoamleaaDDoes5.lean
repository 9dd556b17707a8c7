/- The law's plays of Arm: the program copies the choices, which are then overwritten. -/
import Derived.Test.YtennhmnmoamleaaDDoes4
namespace Go.Proofs.Ytennhmnmoamleaa
set_option linter.unusedVariables false
open Go.RowKit
/-- What the program's Arm leaves, whatever is asked. -/
def ArmP (b g cap : Nat) (D : Dk) (n : Int) (css : List (List Int)) (w w' : World) : Prop :=
  ((D.armX n css).1 = D ∧ w = w') ∨ (∃ cv, IsDisk w' b g cap (D.armX n css).1 ∧ Chg (fun k => k = b) w w' ∧ (D.armX n css).1 = ⟨D.l, n.toNat, css, D.dead⟩ ∧ w'.cell? ⟨b, 2, none⟩ = some cv ∧ WCsB w' w.heap.size cv css)
section
variable {B : Nat} {w0 w : World} {b g r cap : Nat} {D : Dk}
theorem armA (h : IsDisk w b g cap D) (n : Int) (hn : n ≤ 9223372036854775807) (cv : Value) (css : List (List Int)) (hcs : Rss w cv css) (hcl : css.length ≤ 1048576) (hcm : ∀ i, (css.getD i []).length ≤ 1048576) :
    Calls Try.prog 21 #[.pointer (some ⟨b, 0, none⟩), .int .i64 n, cv] w fun e w' => e = .returned (.int .i64 (D.armX n css).2) ∧ ArmP b g cap D n css w w' := by
  by_cases hd : D.dead = true
  · have e : D.armX n css = (D, 2) := by unfold Dk.armX; rw [if_pos hd]
    exact (armDead h hd n cv).mono fun _ _ ⟨h1, h2⟩ => ⟨by rw [e]; exact h1, .inl ⟨by rw [e], h2⟩⟩
  · by_cases hneg : n < 0
    · have e : D.armX n css = (D, 1) := by unfold Dk.armX; rw [if_neg hd, if_pos hneg]
      exact (armNeg h (by simpa using hd) n hneg cv).mono fun _ _ ⟨h1, h2⟩ => ⟨by rw [e]; exact h1, .inl ⟨by rw [e], h2⟩⟩
    · obtain ⟨m, rfl⟩ : ∃ m : Nat, n = m := ⟨n.toNat, by omega⟩
      have e : D.armX (m : Int) css = (⟨D.l, m, css, D.dead⟩, 0) := by unfold Dk.armX; rw [if_neg hd, if_neg hneg, Int.toNat_natCast]
      exact (armWB h (by simpa using hd) m (by omega) cv css hcs hcl hcm).mono fun _ _ ⟨h1, h2, h3, cv', h4, h5⟩ => ⟨by rw [e]; exact h1, .inr ⟨cv', by rw [e]; exact h2, h3, by rw [e, Int.toNat_natCast], h4, h5⟩⟩
/-- Slices of ints of one's own, in blocks from base up to top, whatever they hold. -/
structure RowsX (base top N : Nat) (vp : Option Addr) (vc : Nat) (w : World) (us : List Value) : Prop where
  len : us.length = N
  row : w.ownsRow base 57 1 (.slice vp N vc) N us
  tp : ∀ k, (Value.slice vp N vc).ownBlock = some k → k < top
  each : ∀ j, j < N → ∃ zs, WIb w base (us.getD j (.slice none 0 0)) zs ∧ zs.length ≤ 1048576 ∧ ∀ k, (us.getD j (.slice none 0 0)).ownBlock = some k → k < top
/-- An int is stored into a row of ints. -/
theorem WIb.set {base Y k : Nat} {v : Value} {zs : List Int} (h : WIb w base v zs) {cur : Array Value} (hY : w.heap[Y]? = some (.cells cur 3 (0, 0))) (z : Int) : ∃ zs', WIb (w.setCell ⟨Y, k, none⟩ (.int .i64 z)) base v zs' ∧ zs'.length = zs.length := by
  rcases h.2 with ⟨hv, hn⟩ | ⟨g, c, cur2, hv, hb, hg, h3, h4, h5, h6⟩
  · exact ⟨zs, ⟨h.1, .inl ⟨hv, hn⟩⟩, rfl⟩
  · by_cases e : g = Y
    · subst e
      rw [hg] at hY
      injection hY with hY
      injection hY with hcur _ _
      subst hcur
      have hl : (zs.map (Value.int .i64)).length = zs.length := by rw [List.length_map]
      refine ⟨if k < zs.length then zs.set k z else zs, ⟨by split <;> simp, .inr ⟨g, c, cur2.setIfInBounds k (.int .i64 z), ?_, hb, setCell_blk w g k _ hg, ?_, h4, by rw [Array.size_setIfInBounds]; exact h5, ?_⟩⟩, by split <;> simp⟩
      · rw [hv]; split <;> simp
      · have : (zs.map (Value.int .i64)).length ≤ c := h3
        rw [hl] at this
        split <;> simpa using this
      · rw [hl, Nat.mul_one] at h6
        split
        · rw [List.length_map, List.length_set, Array.toList_setIfInBounds, List.take_set, Nat.mul_one, h6, List.map_set]
        · rw [List.length_map, Array.toList_setIfInBounds, List.take_set, Nat.mul_one, h6, List.set_eq_of_length_le (by rw [hl]; omega)]
    · refine ⟨zs, ⟨h.1, .inr ⟨g, c, cur2, hv, hb, ?_, h3, h4, h5, h6⟩⟩, rfl⟩
      rw [Below.heap_setCell _ _ _ _ (by show g ≠ Y; exact e)]
      exact hg
theorem RowsX.inner {base top N Y k L c : Nat} {vp : Option Addr} {vc : Nat} {us : List Value} (h : RowsX base top N vp vc w us) {i : Nat} (hi : i < N) (hu : us.getD i (.slice none 0 0) = .slice (some ⟨Y, 0, none⟩) L c) (hk : k < L) :
    (∃ o, w.cell? ⟨Y, k, none⟩ = some o) ∧ w.frozen? ⟨Y, k, none⟩ = false ∧ base ≤ Y ∧ Y < top ∧ RowsX base top N vp vc (w.setCell ⟨Y, k, none⟩ (.int .i64 999)) us := by
  obtain ⟨zs, hw, hzl, ht⟩ := h.each i hi
  rw [hu] at hw ht
  have hY := ht Y rfl
  rcases hw.2 with ⟨hv, _⟩ | ⟨g, cc, cur, hv, hb, hg, h3, h4, h5, h6⟩
  · cases hv
  · have e : Y = g ∧ L = (zs.map (Value.int .i64)).length ∧ c = cc := by injection hv with e1 e2 e3; injection e1 with e1; injection e1 with e1; exact ⟨e1, e2, e3⟩
    obtain ⟨rfl, hL, rfl⟩ := e
    have hks : k < cur.size := by omega
    refine ⟨⟨cur[k], by rw [cell_of_row w Y k cur _ _ hg, Array.getElem?_eq_getElem hks]⟩, frozen_of_row w Y k cur _ hg, hb, hY, h.len, ?_, h.tp, fun j hj => ?_⟩
    · refine row_keep h.row (Chg.setCell (fun k => k = Y) w rfl _) (fun k _ _ e cur' fr hh => ?_)
      subst e
      rw [hg] at hh
      injection hh with hh
      injection hh with _ hT _
      exact absurd hT (by decide)
    · obtain ⟨zs2, hw2, hzl2, ht2⟩ := h.each j hj
      obtain ⟨zs3, hw3, hl3⟩ := hw2.set (k := k) hg 999
      exact ⟨zs3, hw3, by omega, ht2⟩
theorem RowsX.outer {base top N X : Nat} {vc : Nat} {us : List Value} (h : RowsX base top N (some ⟨X, 0, none⟩) vc w us) {i : Nat} (hi : i < N) :
    w.cell? ⟨X, i, none⟩ = some (us.getD i (.slice none 0 0)) ∧ w.frozen? ⟨X, i, none⟩ = false ∧ base ≤ X ∧ X < top ∧ RowsX base top N (some ⟨X, 0, none⟩) vc (w.setCell ⟨X, i, none⟩ (.slice none 0 0)) (us.set i (.slice none 0 0)) := by
  have hl := h.len
  have hX := h.tp X rfl
  rcases h.row.2 with ⟨hv, _⟩ | ⟨g, cc, cur, hv, hb, hg, h3, h4, h5, h6⟩
  · cases hv
  · have e : X = g ∧ vc = cc := by injection hv with e1 e2 e3; injection e1 with e1; injection e1 with e1; exact ⟨e1, e3⟩
    obtain ⟨rfl, rfl⟩ := e
    have hcell := World.ownsRow.cellAt (w := w) (base := base) (e := 57) (size := 1) (g := X) (cap := vc) (n := N) (xs := us) h.row i (by omega)
    refine ⟨by rw [hcell, List.getD_eq_getElem?_getD, List.getElem?_eq_getElem (by omega)]; rfl, frozen_of_row w X i cur _ hg, hb, hX, by rw [List.length_set]; exact hl, ?_, h.tp, fun j hj => ?_⟩
    · refine ⟨by rw [List.length_set]; omega, .inr ⟨X, vc, cur.setIfInBounds i (.slice none 0 0), rfl, hb, setCell_blk w X i _ hg, h3, h4, by rw [Array.size_setIfInBounds]; exact h5, ?_⟩⟩
      rw [Array.toList_setIfInBounds, List.take_set, h6]
    · by_cases e : i = j
      · subst e
        rw [getD_set_self _ _ _ _ (by omega)]
        exact ⟨[], ⟨rfl, .inl ⟨rfl, rfl⟩⟩, Nat.zero_le _, fun k hk => by simp [Value.ownBlock] at hk⟩
      · rw [getD_set_ne _ _ _ _ _ e]
        obtain ⟨zs2, hw2, hzl2, ht2⟩ := h.each j hj
        refine ⟨zs2, row_keep hw2 (Chg.setCell (fun k => k = X) w rfl _) (fun k _ _ e cur' fr hh => ?_), hzl2, ht2⟩
        subst e
        rw [hg] at hh
        injection hh with hh
        injection hh with _ hT _
        exact absurd hT (by decide)
theorem WCsB.rows {base : Nat} {css : List (List Int)} {vp : Option Addr} {vc N : Nat} (h : WCsB w base (.slice vp N vc) css) (hN : N = css.length) (hm : ∀ i, (css.getD i []).length ≤ 1048576) : ∃ us, RowsX base w.heap.size N vp vc w us := by
  obtain ⟨us, h1, h2, h3⟩ := h
  rw [h1, ← hN] at h2
  refine ⟨us, by omega, h2, fun k hk => (World.ownsRow.lt h2 k hk).2, fun j hj => ⟨_, h3 j (by omega), hm j, fun k hk => (World.ownsRow.lt (h3 j (by omega)) k hk).2⟩⟩
theorem RowsX.keep {S : Nat → Prop} {w' : World} {base top N : Nat} {vp : Option Addr} {vc : Nat} {us : List Value} (h : RowsX base top N vp vc w us) (hc : Chg S w w') (hS : ∀ k, base ≤ k → ¬ S k) : RowsX base top N vp vc w' us :=
  ⟨h.len, row_keep h.row hc (fun k _ hb hk => absurd hk (hS k hb)), h.tp, fun j hj => by obtain ⟨zs, h1, h2, h3⟩ := h.each j hj; exact ⟨zs, row_keep h1 hc (fun k _ hb hk => absurd hk (hS k hb)), h2, h3⟩⟩
set_option maxRecDepth 100000 in
set_option maxHeartbeats 1600000 in
theorem plays4 (h : Duo B w0 w b g r D) (hok : DOk D) (on f n : Int) (s : ByteArray) (cv : Value) (css : List (List Int)) (hcv : Rss w0 cv css) (hbel : Below w0.heap.size w0 w) (hs : s.size ≤ 1048576) (hcl : css.length ≤ 1048576) (hcm : ∀ i, (css.getD i []).length ≤ 1048576) (hn : n ≤ 9223372036854775807)
    (hm : ∀ f, f < D.l.length → (D.l.getD f Fl.zero).ws.length < 1099511627776) :
    Calls Try.prog 10 #[.pointer (some ⟨b, 0, none⟩), .pointer (some ⟨r, 0, none⟩), .agg #[.int .i64 on, .int .i64 4, .int .i64 f, .int .i64 n, .string s, cv]] w fun e w' => e = .returned (.bool true) ∧ Duo B w0 w' b g r (D.armX n css).1 ∧ Chg (Of b g r) w w' := by
  obtain ⟨q, qc, rfl, _⟩ := id hcv
  obtain ⟨m, hmm⟩ : ∃ m, m = css.length := ⟨_, rfl⟩
  rw [← hmm] at hcv ⊢
  have HMM := Lib.hid hmm
  obtain ⟨W, hW⟩ : ∃ W, W = w.alloc (.cells #[.int .i64 on, .int .i64 4, .int .i64 f, .int .i64 n, .string s, .slice q m qc] 36) := ⟨_, rfl⟩
  have hbW : Below w.heap.size w W := by rw [hW]; exact (Below.refl _ _).alloc (Nat.le_refl _) _
  have hblk : W.heap[w.heap.size]? = some (.cells #[.int .i64 on, .int .i64 4, .int .i64 f, .int .i64 n, .string s, .slice q m qc] 36 (0, 0)) := by rw [hW]; exact heap_alloc_new w _
  have hlt := h.lt
  have H := Lib.hid (h.grow hbW)
  have HCV := Lib.hid (hcv.below (hbel.trans (hbW.mono hbel.size)))
  have HCV0 := Lib.hid hcv
  have HOK := Lib.hid hok
  have HM := Lib.hid hm
  have HCM := Lib.hid hcm
  have HBLK := Lib.hid hblk
  have HBW := Lib.hid hbW
  have HWZ : Hid (W.heap.size = w.heap.size + 1) := by unfold Hid; rw [hW]; simp
  have HW := Lib.hid hW
  obtain ⟨bb, hbb⟩ : ∃ bb, bb = w.heap.size := ⟨_, rfl⟩
  rw [← hbb] at hlt HBLK HWZ
  have KK : Hid (∀ u : World, u.heap[bb]? = some (.cells #[.int .i64 on, .int .i64 4, .int .i64 f, .int .i64 n, .string s, .slice q m qc] 36 (0, 0)) → u.cell? ⟨bb, 2, none⟩ = some (.int .i64 f) ∧ u.cell? ⟨bb, 3, none⟩ = some (.int .i64 n) ∧ u.cell? ⟨bb, 4, none⟩ = some (.string s) ∧ u.cell? ⟨bb, 5, none⟩ = some (.slice q m qc)) := fun u hu =>
    ⟨cell_of_row u bb 2 _ _ _ hu, cell_of_row u bb 3 _ _ _ hu, cell_of_row u bb 4 _ _ _ hu, cell_of_row u bb 5 _ _ _ hu⟩
  have HBB := Lib.hid hbb
  clear h hok hcv hmm hbW hblk hm hcm hW hbel hbb
  have hsl : ∃ p, p = q := ⟨_, rfl⟩
  clear hsl
  go_enter Try.func10, Try.ntmps10
  go_wp2_with fail
  rw [← HW.out, ← HBB.out]
  refine (ownedW (.slice q m qc) css HCV.out hcl HCM.out).mono ?_
  rintro e w1 ⟨v, rfl, hv, hb1⟩
  obtain ⟨vp, vc, rfl⟩ := hv.form
  rw [← HMM.out] at hv ⊢
  obtain ⟨us, hrows⟩ := hv.rows HMM.out HCM.out
  have HRX := Lib.hid hrows
  have HB1 := Lib.hid hb1
  have hblk1 := (hb1.block bb (by have := HWZ.out; omega)).trans HBLK.out
  have HBLK1 := Lib.hid hblk1
  obtain ⟨_, k3, _, k5⟩ := KK.out w1 hblk1
  have hz1 := hb1.size
  obtain ⟨cap, hp⟩ := H.out.p
  have HP := Lib.hid hp
  have HA := Lib.hid (armA (hp.below hb1) n hn (.slice vp m vc) css hv.wcs.rss hcl HCM.out)
  clear hv hrows hb1 hblk1 hp
  go_wp2_with fail
  refine HA.out.mono ?_
  rintro e w2 ⟨rfl, hap⟩
  have hc2 : Chg (fun k => k = b) w1 w2 := by
    rcases hap with ⟨_, e⟩ | ⟨_, _, hc, _⟩
    · subst e; exact Chg.refl _ _
    · exact hc
  have HAP := Lib.hid hap
  have hbb1 : bb < w1.heap.size := by have := HWZ.out; omega
  have HBLK2 : Hid (w2.heap[bb]? = _) := chg_blk hc2 hbb1 (by intro e; omega) HBLK1.out
  have HRX2 : Hid (RowsX W.heap.size w1.heap.size m vp vc w2 us) := HRX.out.keep hc2 (fun k hk e => by have := HWZ.out; omega)
  have HC2 := Lib.hid hc2
  have hmb : m ≤ 1048576 := by rw [HMM.out]; exact hcl
  have hWb := HWZ.out
  have HWB := Lib.hid hWb
  clear hap hc2 HA HRX k3 k5 hWb
  go_wp2_with fail
  go_loopw [13] (fun vi wr => ∃ (i : Nat) (us : List Value), i ≤ m ∧ vi = .int .i64 (i : Nat) ∧ RowsX W.heap.size w1.heap.size m vp vc wr us ∧ Chg (fun k => W.heap.size ≤ k ∧ k < w1.heap.size) w2 wr) (fun vi _ => (m - intOf vi).toNat)
  case atStart => exact ⟨0, us, by omega, rfl, HRX2.out, Chg.refl _ _⟩
  case round =>
    obtain ⟨i, us, hi, rfl, hr, hc⟩ := hrel
    have HR := Lib.hid hr
    have HC := Lib.hid hc
    by_cases hlt : i < m
    · obtain ⟨X, rfl⟩ : ∃ X, vp = some ⟨X, 0, none⟩ := by
        rcases hr.row.2 with ⟨hv, _⟩ | ⟨X, c1, _, hv, _⟩
        · injection hv with _ h2 _; omega
        · injection hv with h1 _ _; exact ⟨X, h1⟩
      obtain ⟨zs, hw, hzl, _⟩ := hr.each i hlt
      obtain ⟨p5, c5, hu5⟩ := hw.form
      obtain ⟨L, hL⟩ : ∃ L, L = zs.length := ⟨_, rfl⟩
      rw [← hL] at hu5 hzl
      have HU5 := Lib.hid hu5
      clear hr hc hw hL hu5
      obtain ⟨wo, hwo⟩ : ∃ wo : World, wo = wr := ⟨_, rfl⟩
      go_wp2_with fail
      go_loopw [14] (fun vk wq => ∃ k : Nat, k ≤ L ∧ vk = .int .i64 (k : Nat) ∧ RowsX W.heap.size w1.heap.size m (some ⟨X, 0, none⟩) vc wq us ∧ Chg (fun k => W.heap.size ≤ k ∧ k < w1.heap.size) w2 wq) (fun vk _ => (L - intOf vk).toNat)
      case atStart => exact ⟨0, by omega, rfl, HR.out, HC.out⟩
      case round =>
        obtain ⟨k, hk, rfl, hr, hc⟩ := hrel
        have HR2 := Lib.hid hr
        have HCQ := Lib.hid hc
        obtain ⟨o1, o2, o3, o4, o5⟩ := hr.outer hlt
        rw [HU5.out] at o1
        have HO5 := Lib.hid (And.intro o3 (And.intro o4 o5))
        clear hr hc o3 o4 o5
        have i1 : (0 : Int) ≤ (i : Int) := by omega
        have i2 : (i : Int) < (m : Int) := by omega
        by_cases hkl : k < L
        · obtain ⟨Y, rfl⟩ : ∃ Y, p5 = some ⟨Y, 0, none⟩ := by
            obtain ⟨zs, hw, _, _⟩ := HR2.out.each i hlt
            rw [HU5.out] at hw
            rcases hw.2 with ⟨hv, _⟩ | ⟨Y, c1, _, hv, _⟩
            · injection hv with _ h2 _; omega
            · injection hv with h1 _ _; exact ⟨Y, h1⟩
          obtain ⟨⟨y0, y1⟩, y2, y3, y4, y5⟩ := HR2.out.inner hlt HU5.out hkl
          have R := Lib.hid (And.intro y5 (HCQ.out.trans (Chg.setCell (fun k => W.heap.size ≤ k ∧ k < w1.heap.size) _ (j := k) ⟨y3, y4⟩ (.int .i64 999))))
          clear y3 y4 y5 HO5
          go_wp2_with fail
          exact ⟨⟨k + 1, by omega, rfl, R.out⟩, by simp [intOf]; omega⟩
        · have R := Lib.hid (And.intro HO5.out.2.2 (HCQ.out.trans (Chg.setCell (fun k => W.heap.size ≤ k ∧ k < w1.heap.size) _ (j := i) ⟨HO5.out.1, HO5.out.2.1⟩ (.slice none 0 0))))
          clear HO5
          go_wp2_with fail
          exact ⟨⟨i + 1, _, by omega, rfl, R.out⟩, by simp [intOf]; omega⟩
    · have hblkr := chg_blk hc (by have := HC2.out.size; omega) (by rintro ⟨e, _⟩; have := HWB.out; omega) HBLK2.out
      obtain ⟨_, k3, _, k5⟩ := KK.out wr hblkr
      have hch : Chg (fun k => k = b) W wr := by
        refine ⟨hc.os.trans (HC2.out.os.trans HB1.out.os), hc.tape.trans (HC2.out.tape.trans HB1.out.tape), hc.output.trans (HC2.out.output.trans HB1.out.output), Nat.le_trans HB1.out.size (Nat.le_trans HC2.out.size hc.size), fun k hk hn => ?_⟩
        have e1 := HB1.out.block k hk
        have e2 := HC2.out.block k (Nat.lt_of_lt_of_le hk HB1.out.size) hn
        have e3 := hc.block k (Nat.lt_of_lt_of_le hk (Nat.le_trans HB1.out.size HC2.out.size)) (by rintro ⟨e, _⟩; omega)
        exact e3.trans (e2.trans e1)
      have hpw : IsDisk wr b g cap (D.armX n css).1 := by
        rcases HAP.out with ⟨e1, e2⟩ | ⟨cv, d1, d2, d3, d4, d5⟩
        · rw [e1]
          refine HP.out.below ⟨hch.os, hch.tape, hch.output, hch.size, fun k hk => ?_⟩
          subst e2
          exact (hc.block k (Nat.lt_of_lt_of_le hk HB1.out.size) (by rintro ⟨e, _⟩; omega)).trans (HB1.out.block k hk)
        · obtain ⟨cv2, f1, f2⟩ := d1.blk
          have hcv : cv2 = cv := by
            have := cell_of_row w2 b 2 _ _ _ f1
            rw [d4] at this
            injection this with this
            exact this.symm
          subst hcv
          have hbw : b < w2.heap.size := d1.lt
          refine ⟨⟨cv2, (hc.block b hbw (by rintro ⟨e, _⟩; have := HWB.out; omega)).trans f1, ?_⟩, ?_⟩
          · rw [d3]
            exact (d5.keep hc (fun k hk hS => by omega)).wcs
          · rw [d3]
            exact HP.out.fs.keep hch (Ne.symm HP.out.ne) (by obtain ⟨_, hbb, _⟩ := HP.out.blk; exact muts_blk hbb)
      obtain ⟨g3, c3, hr3⟩ := H.out.q
      have hr4 : IsR B w0 wr r g3 c3 D := hr3.keep hch (fun e => (HP.out.apart hr3).1 e) (fun k hk e => by have := H.out.bB; omega) (by obtain ⟨_, hbb, _⟩ := HP.out.blk; exact muts_blk hbb)
      have HPW := Lib.hid (And.intro hpw (And.intro hch hr4))
      have HRA := Lib.hid (rarmA hr4 n (.slice q m qc) css HCV0.out)
      clear hr hc hblkr hch hpw hr3 hr4 HAP HRX2
      go_wp2_with fail
      refine HRA.out.mono ?_
      rintro e w4 ⟨rfl, h4, hc4⟩
      have R := Lib.hid (H.out.both HPW.out.1 (HPW.out.2.1.mono (fun k _ e => .inl e)) HPW.out.2.2 h4 hc4)
      clear h4 hc4 HPW HRA k3 k5
      go_wp2_with fail
      go_ret
      exact ⟨rfl, R.out.1, (Chg.of_below (Of b g r) HBW.out).trans R.out.2⟩
end
end Go.Proofs.Ytennhmnmoamleaa
