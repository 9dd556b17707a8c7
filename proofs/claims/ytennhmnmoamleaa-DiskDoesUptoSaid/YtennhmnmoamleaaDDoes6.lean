/- The law's plays of Read, Revive, After and the others; plays whole. -/
import Derived.Test.YtennhmnmoamleaaDDoes5
namespace Go.Proofs.Ytennhmnmoamleaa
set_option linter.unusedVariables false
open Go.RowKit
section
variable {B : Nat} {w0 w : World} {b g r cap : Nat} {D : Dk}
set_option maxRecDepth 100000 in
set_option maxHeartbeats 1600000 in
theorem plays3 (h : Duo B w0 w b g r D) (hok : DOk D) (on f n : Int) (s : ByteArray) (cv : Value) (css : List (List Int)) (hcv : Rss w0 cv css) (hbel : Below w0.heap.size w0 w) (hs : s.size ≤ 1048576) (hcl : css.length ≤ 1048576) (hcm : ∀ i, (css.getD i []).length ≤ 1048576) (hn : n ≤ 9223372036854775807)
    (hm : ∀ f, f < D.l.length → (D.l.getD f Fl.zero).ws.length < 1099511627776) :
    Calls Try.prog 10 #[.pointer (some ⟨b, 0, none⟩), .pointer (some ⟨r, 0, none⟩), .agg #[.int .i64 on, .int .i64 3, .int .i64 f, .int .i64 n, .string s, cv]] w fun e w' => e = .returned (.bool true) ∧ Duo B w0 w' b g r D ∧ Chg (Of b g r) w w' := by
  obtain ⟨q, qc, rfl, _⟩ := id hcv
  obtain ⟨m, hmm⟩ : ∃ m, m = css.length := ⟨_, rfl⟩
  rw [← hmm] at hcv ⊢
  obtain ⟨W, hW⟩ : ∃ W, W = w.alloc (.cells #[.int .i64 on, .int .i64 3, .int .i64 f, .int .i64 n, .string s, .slice q m qc] 36) := ⟨_, rfl⟩
  have hbW : Below w.heap.size w W := by rw [hW]; exact (Below.refl _ _).alloc (Nat.le_refl _) _
  have hblk : W.heap[w.heap.size]? = some (.cells #[.int .i64 on, .int .i64 3, .int .i64 f, .int .i64 n, .string s, .slice q m qc] 36 (0, 0)) := by rw [hW]; exact heap_alloc_new w _
  have hlt := h.lt
  have H := Lib.hid (h.grow hbW)
  have HCV := Lib.hid (hcv.below (hbel.trans (hbW.mono hbel.size)))
  have HCV0 := Lib.hid hcv
  have HOK := Lib.hid hok
  have HM := Lib.hid hm
  have HCM := Lib.hid hcm
  have HBLK := Lib.hid hblk
  have HBW := Lib.hid hbW
  have HWZ : Hid (W.heap.size = w.heap.size + 1) := by unfold Hid; rw [hW]; simp
  have HW := Lib.hid hW
  obtain ⟨bb, hbb⟩ : ∃ bb, bb = w.heap.size := ⟨_, rfl⟩
  rw [← hbb] at hlt HBLK HWZ
  have KK : Hid (∀ u : World, u.heap[bb]? = some (.cells #[.int .i64 on, .int .i64 3, .int .i64 f, .int .i64 n, .string s, .slice q m qc] 36 (0, 0)) → u.cell? ⟨bb, 2, none⟩ = some (.int .i64 f) ∧ u.cell? ⟨bb, 3, none⟩ = some (.int .i64 n) ∧ u.cell? ⟨bb, 4, none⟩ = some (.string s) ∧ u.cell? ⟨bb, 5, none⟩ = some (.slice q m qc)) := fun u hu =>
    ⟨cell_of_row u bb 2 _ _ _ hu, cell_of_row u bb 3 _ _ _ hu, cell_of_row u bb 4 _ _ _ hu, cell_of_row u bb 5 _ _ _ hu⟩
  have HBB := Lib.hid hbb
  clear h hok hcv hmm hbW hblk hm hcm hW hbel hbb
  go_enter Try.func10, Try.ntmps10
  go_wp2_with fail
  rw [← HW.out, ← HBB.out]
  obtain ⟨k2, _, _, _⟩ := KK.out W HBLK.out
  obtain ⟨cap, hp⟩ := H.out.p
  obtain ⟨g3, c3, hq⟩ := H.out.q
  have HRD := Lib.hid (readA hp HOK.out f)
  have HQ := Lib.hid hq
  have hwz := HWZ.out
  have hbl : bb < W.heap.size := by omega
  clear hp hq hwz
  refine HRD.out.mono ?_
  rintro e w1 ⟨rfl, hb1⟩
  obtain ⟨k2', _, _, _⟩ := KK.out w1 ((hb1.block bb hbl).trans HBLK.out)
  have HR2 := Lib.hid (rreadA (HQ.out.grow hb1) HOK.out f)
  have HB1 := Lib.hid hb1
  clear hb1 k2 HRD
  obtain ⟨sr, hsr⟩ : ∃ s, s = (D.readX f).1 := ⟨_, rfl⟩
  obtain ⟨er, her⟩ : ∃ e, e = (D.readX f).2 := ⟨_, rfl⟩
  rw [← hsr, ← her]
  rw [← hsr, ← her] at HR2
  clear hsr her
  go_wp2_with fail
  refine HR2.out.mono ?_
  rintro e w2 ⟨rfl, hb2⟩
  have HF := Lib.hid (HB1.out.trans (hb2.mono HB1.out.size))
  clear hb2 HR2 k2'
  go_wp2_with fail
  go_ret
  exact ⟨rfl, H.out.grow HF.out, (Chg.of_below (Of b g r) HBW.out).trans (Chg.of_below (Of b g r) HF.out)⟩
set_option maxRecDepth 100000 in
set_option maxHeartbeats 1600000 in
theorem plays6 (h : Duo B w0 w b g r D) (hok : DOk D) (on f n : Int) (s : ByteArray) (cv : Value) (css : List (List Int)) (hcv : Rss w0 cv css) (hbel : Below w0.heap.size w0 w) (hs : s.size ≤ 1048576) (hcl : css.length ≤ 1048576) (hcm : ∀ i, (css.getD i []).length ≤ 1048576) (hn : n ≤ 9223372036854775807)
    (hm : ∀ f, f < D.l.length → (D.l.getD f Fl.zero).ws.length < 1099511627776) :
    Calls Try.prog 10 #[.pointer (some ⟨b, 0, none⟩), .pointer (some ⟨r, 0, none⟩), .agg #[.int .i64 on, .int .i64 6, .int .i64 f, .int .i64 n, .string s, cv]] w fun e w' => e = .returned (.bool true) ∧ Duo B w0 w' b g r ⟨D.l, 0, D.ch, false⟩ ∧ Chg (Of b g r) w w' := by
  obtain ⟨q, qc, rfl, _⟩ := id hcv
  obtain ⟨m, hmm⟩ : ∃ m, m = css.length := ⟨_, rfl⟩
  rw [← hmm] at hcv ⊢
  obtain ⟨W, hW⟩ : ∃ W, W = w.alloc (.cells #[.int .i64 on, .int .i64 6, .int .i64 f, .int .i64 n, .string s, .slice q m qc] 36) := ⟨_, rfl⟩
  have hbW : Below w.heap.size w W := by rw [hW]; exact (Below.refl _ _).alloc (Nat.le_refl _) _
  have hblk : W.heap[w.heap.size]? = some (.cells #[.int .i64 on, .int .i64 6, .int .i64 f, .int .i64 n, .string s, .slice q m qc] 36 (0, 0)) := by rw [hW]; exact heap_alloc_new w _
  have hlt := h.lt
  have H := Lib.hid (h.grow hbW)
  have HCV := Lib.hid (hcv.below (hbel.trans (hbW.mono hbel.size)))
  have HCV0 := Lib.hid hcv
  have HOK := Lib.hid hok
  have HM := Lib.hid hm
  have HCM := Lib.hid hcm
  have HBLK := Lib.hid hblk
  have HBW := Lib.hid hbW
  have HWZ : Hid (W.heap.size = w.heap.size + 1) := by unfold Hid; rw [hW]; simp
  have HW := Lib.hid hW
  obtain ⟨bb, hbb⟩ : ∃ bb, bb = w.heap.size := ⟨_, rfl⟩
  rw [← hbb] at hlt HBLK HWZ
  have KK : Hid (∀ u : World, u.heap[bb]? = some (.cells #[.int .i64 on, .int .i64 6, .int .i64 f, .int .i64 n, .string s, .slice q m qc] 36 (0, 0)) → u.cell? ⟨bb, 2, none⟩ = some (.int .i64 f) ∧ u.cell? ⟨bb, 3, none⟩ = some (.int .i64 n) ∧ u.cell? ⟨bb, 4, none⟩ = some (.string s) ∧ u.cell? ⟨bb, 5, none⟩ = some (.slice q m qc)) := fun u hu =>
    ⟨cell_of_row u bb 2 _ _ _ hu, cell_of_row u bb 3 _ _ _ hu, cell_of_row u bb 4 _ _ _ hu, cell_of_row u bb 5 _ _ _ hu⟩
  have HBB := Lib.hid hbb
  clear h hok hcv hmm hbW hblk hm hcm hW hbel hbb
  go_enter Try.func10, Try.ntmps10
  go_wp2_with fail
  rw [← HW.out, ← HBB.out]
  obtain ⟨cap, hp⟩ := H.out.p
  have HP := Lib.hid (reviveW hp)
  clear hp
  refine HP.out.mono ?_
  rintro e w1 ⟨rfl, hd1, hc1⟩
  have hc1' : Chg (fun k => k = b ∨ k = g) W w1 := hc1.mono (fun k _ e => .inl e)
  obtain ⟨g3, c3, hr3⟩ := H.out.left hd1 hc1'
  have HR := Lib.hid (rreviveW hr3)
  have HD := Lib.hid (And.intro hd1 (And.intro hc1' hr3))
  clear hd1 hc1 hc1' hr3 HP
  go_wp2_with fail
  refine HR.out.mono ?_
  rintro e w2 ⟨rfl, hd2, hc2⟩
  have R := Lib.hid (H.out.both HD.out.1 HD.out.2.1 HD.out.2.2 ⟨_, _, hd2⟩ hc2)
  clear hd2 hc2 HR HD
  go_wp2_with fail
  go_ret
  exact ⟨rfl, R.out.1, (Chg.of_below (Of b g r) HBW.out).trans R.out.2⟩
set_option maxRecDepth 100000 in
set_option maxHeartbeats 1600000 in
theorem plays7 (h : Duo B w0 w b g r D) (hok : DOk D) (on f n : Int) (s : ByteArray) (cv : Value) (css : List (List Int)) (hcv : Rss w0 cv css) (hbel : Below w0.heap.size w0 w) (hs : s.size ≤ 1048576) (hcl : css.length ≤ 1048576) (hcm : ∀ i, (css.getD i []).length ≤ 1048576) (hn : n ≤ 9223372036854775807)
    (hm : ∀ f, f < D.l.length → (D.l.getD f Fl.zero).ws.length < 1099511627776) :
    Calls Try.prog 10 #[.pointer (some ⟨b, 0, none⟩), .pointer (some ⟨r, 0, none⟩), .agg #[.int .i64 on, .int .i64 7, .int .i64 f, .int .i64 n, .string s, cv]] w fun e w' => e = .returned (.bool true) ∧ Duo B w0 w' b g r D ∧ Chg (Of b g r) w w' := by
  obtain ⟨q, qc, rfl, _⟩ := id hcv
  obtain ⟨m, hmm⟩ : ∃ m, m = css.length := ⟨_, rfl⟩
  rw [← hmm] at hcv ⊢
  obtain ⟨W, hW⟩ : ∃ W, W = w.alloc (.cells #[.int .i64 on, .int .i64 7, .int .i64 f, .int .i64 n, .string s, .slice q m qc] 36) := ⟨_, rfl⟩
  have hbW : Below w.heap.size w W := by rw [hW]; exact (Below.refl _ _).alloc (Nat.le_refl _) _
  have hblk : W.heap[w.heap.size]? = some (.cells #[.int .i64 on, .int .i64 7, .int .i64 f, .int .i64 n, .string s, .slice q m qc] 36 (0, 0)) := by rw [hW]; exact heap_alloc_new w _
  have hlt := h.lt
  have H := Lib.hid (h.grow hbW)
  have HCV := Lib.hid (hcv.below (hbel.trans (hbW.mono hbel.size)))
  have HCV0 := Lib.hid hcv
  have HOK := Lib.hid hok
  have HM := Lib.hid hm
  have HCM := Lib.hid hcm
  have HBLK := Lib.hid hblk
  have HBW := Lib.hid hbW
  have HWZ : Hid (W.heap.size = w.heap.size + 1) := by unfold Hid; rw [hW]; simp
  have HW := Lib.hid hW
  obtain ⟨bb, hbb⟩ : ∃ bb, bb = w.heap.size := ⟨_, rfl⟩
  rw [← hbb] at hlt HBLK HWZ
  have KK : Hid (∀ u : World, u.heap[bb]? = some (.cells #[.int .i64 on, .int .i64 7, .int .i64 f, .int .i64 n, .string s, .slice q m qc] 36 (0, 0)) → u.cell? ⟨bb, 2, none⟩ = some (.int .i64 f) ∧ u.cell? ⟨bb, 3, none⟩ = some (.int .i64 n) ∧ u.cell? ⟨bb, 4, none⟩ = some (.string s) ∧ u.cell? ⟨bb, 5, none⟩ = some (.slice q m qc)) := fun u hu =>
    ⟨cell_of_row u bb 2 _ _ _ hu, cell_of_row u bb 3 _ _ _ hu, cell_of_row u bb 4 _ _ _ hu, cell_of_row u bb 5 _ _ _ hu⟩
  have HBB := Lib.hid hbb
  clear h hok hcv hmm hbW hblk hm hcm hW hbel hbb
  go_enter Try.func10, Try.ntmps10
  go_wp2_with fail
  rw [← HW.out, ← HBB.out]
  have HB2 : Hid (W.drew.heap[bb]? = some (.cells #[.int .i64 on, .int .i64 7, .int .i64 f, .int .i64 n, .string s, .slice q m qc] 36 (0, 0))) := HBLK.out
  refine wp_region_U 9 (fun u => u.heap[bb]? = some (.cells #[.int .i64 on, .int .i64 7, .int .i64 f, .int .i64 n, .string s, .slice q m qc] 36 (0, 0))) (by kernel_rfl) ?_
  change wpAnyU _ _ _ _ _ _ 10 (Array.replicate 10 false) _ _
  have H2 := Lib.hid (H.out.grow ((Below.refl W.heap.size W).drew))
  have HCV2 := Lib.hid (HCV.out.below ((Below.refl W.heap.size W).drew))
  have HBW2 := Lib.hid (HBW.out.trans ((Below.refl W.heap.size W).drew.mono HBW.out.size))
  have hz2 : W.drew.heap.size = bb + 1 := HWZ.out
  obtain ⟨w2, hw2⟩ : ∃ w2, w2 = W.drew := ⟨_, rfl⟩
  rw [← hw2]
  rw [← hw2] at HB2 H2 HCV2 HBW2 hz2
  have HZ2 := Lib.hid hz2
  clear hw2 hz2
  obtain ⟨cap, hp⟩ := H2.out.p
  have HP := Lib.hid hp
  clear hp
  obtain ⟨g3, c3, hq⟩ := H2.out.q
  have HQ := Lib.hid hq
  have hn32 := HOK.out.n
  clear hq
  refine takeU 0 (v := ?_) rfl (by kernel_rfl) (by kernel_rfl) (fun _ _ _ h => h) rfl (fun u hu => ?_) HB2.out ?_
  rotate_left
  · have k0 := (KK.out u hu).1; have k1 := (KK.out u hu).2.1; have k2 := (KK.out u hu).2.2.1; have k3 := (KK.out u hu).2.2.2; go_simp <;> with_reducible rfl
  simp only [Act.put, List.setIfInBounds_toArray, List.set_cons_zero, List.set_cons_succ]
  refine takeU 1 (v := ?_) rfl (by kernel_rfl) (by kernel_rfl) (fun _ _ _ h => h) rfl (fun u hu => ?_) HB2.out ?_
  rotate_left
  · have k0 := (KK.out u hu).1; have k1 := (KK.out u hu).2.1; have k2 := (KK.out u hu).2.2.1; have k3 := (KK.out u hu).2.2.2; go_simp <;> with_reducible rfl
  simp only [Act.put, List.setIfInBounds_toArray, List.set_cons_zero, List.set_cons_succ]
  refine takeU 2 (v := ?_) rfl (by kernel_rfl) (by kernel_rfl) (fun _ _ _ h => h) rfl (fun u hu => ?_) HB2.out ?_
  rotate_left
  · have k0 := (KK.out u hu).1; have k1 := (KK.out u hu).2.1; have k2 := (KK.out u hu).2.2.1; have k3 := (KK.out u hu).2.2.2; go_simp <;> with_reducible rfl
  simp only [Act.put, List.setIfInBounds_toArray, List.set_cons_zero, List.set_cons_succ]
  refine takeU 4 (v := ?_) rfl (by kernel_rfl) (by kernel_rfl) (fun _ _ _ h => h) rfl (fun u hu => ?_) HB2.out ?_
  rotate_left
  · have k0 := (KK.out u hu).1; have k1 := (KK.out u hu).2.1; have k2 := (KK.out u hu).2.2.1; have k3 := (KK.out u hu).2.2.2; go_simp <;> with_reducible rfl
  simp only [Act.put, List.setIfInBounds_toArray, List.set_cons_zero, List.set_cons_succ]
  refine takeU 5 (v := ?_) rfl (by kernel_rfl) (by kernel_rfl) (fun _ _ _ h => h) rfl (fun u hu => ?_) HB2.out ?_
  rotate_left
  · have k0 := (KK.out u hu).1; have k1 := (KK.out u hu).2.1; have k2 := (KK.out u hu).2.2.1; have k3 := (KK.out u hu).2.2.2; go_simp <;> with_reducible rfl
  simp only [Act.put, List.setIfInBounds_toArray, List.set_cons_zero, List.set_cons_succ]
  refine takeU 6 (v := ?_) rfl (by kernel_rfl) (by kernel_rfl) (fun _ _ _ h => h) rfl (fun u hu => ?_) HB2.out ?_
  rotate_left
  · have k0 := (KK.out u hu).1; have k1 := (KK.out u hu).2.1; have k2 := (KK.out u hu).2.2.1; have k3 := (KK.out u hu).2.2.2; go_simp <;> with_reducible rfl
  simp only [Act.put, List.setIfInBounds_toArray, List.set_cons_zero, List.set_cons_succ]
  refine oneU 3 (by kernel_rfl) ?_
  refine callU 3 rfl (by kernel_rfl) rfl 16 _ _ rfl #[.pointer (some ⟨b, 0, none⟩), .slice q m qc] (by simp [Act.eval]) (enters_of Try.func16 (by kernel_rfl) rfl) (fun v w' => ∃ p c, v = .slice p D.l.length c ∧ Hid (Strs w' v (D.after css) ∧ Below w2.heap.size w2 w')) ((afterW HP.out HOK.out (.slice q m qc) css HCV2.out (fun i => by have := HCM.out i; omega)).mono fun e w' ⟨v, h1, h2, h3⟩ => ⟨v, h1, by obtain ⟨q, d, hv, _⟩ := h2.ws.form; rw [length_after] at hv; exact ⟨q, d, hv, h2.ws.strs, h3⟩⟩) ?_
  rintro v3 w3 ⟨p3, d3, rfl, hh⟩
  have HB3 := Lib.hid hh.out.2
  have HS3 := Lib.hid hh.out.1
  have HK3 : Hid (w3.heap[bb]? = _) := (hh.out.2.block bb (by have := HZ2.out; omega)).trans HB2.out
  clear hh
  refine ⟨HK3.out, ?_⟩
  simp only [Act.put, List.setIfInBounds_toArray, List.set_cons_zero, List.set_cons_succ]
  refine oneU 7 (by kernel_rfl) ?_
  refine callU 7 rfl (by kernel_rfl) rfl 34 _ _ rfl #[.pointer (some ⟨r, 0, none⟩), .slice q m qc] (by simp [Act.eval]) (enters_of Try.func34 (by kernel_rfl) rfl) (fun v w' => ∃ p c, v = .slice p D.l.length c ∧ Hid (Strs w' v (D.after css) ∧ Below w3.heap.size w3 w')) ((rafterW (HQ.out.grow HB3.out) HOK.out (.slice q m qc) css (HCV2.out.below HB3.out) (fun i => by have := HCM.out i; omega)).mono fun e w' ⟨v, h1, h2, h3⟩ => ⟨v, h1, by obtain ⟨q, d, hv, _⟩ := h2.ws.form; rw [length_after] at hv; exact ⟨q, d, hv, h2.ws.strs, h3⟩⟩) ?_
  rintro v4 w4 ⟨p4, d4, rfl, hh⟩
  have HB4 := Lib.hid hh.out.2
  have HS4 := Lib.hid hh.out.1
  have HK4 : Hid (w4.heap[bb]? = _) := (hh.out.2.block bb (by have := HZ2.out; have := HB3.out.size; omega)).trans HK3.out
  clear hh
  refine ⟨HK4.out, ?_⟩
  simp only [Act.put, List.setIfInBounds_toArray, List.set_cons_zero, List.set_cons_succ]
  refine oneU 8 (by kernel_rfl) ?_
  refine callU 8 rfl (by kernel_rfl) rfl 33 _ _ rfl #[.slice p3 D.l.length d3, .slice p4 D.l.length d4] (by simp [Act.eval]) (enters_of Try.func33 (by kernel_rfl) rfl) (fun v w' => v = .bool true ∧ Hid (Below w4.heap.size w4 w')) ((sameW (.slice p3 D.l.length d3) (.slice p4 D.l.length d4) (D.after css) (D.after css) w4 (HS3.out.below HB4.out) HS4.out (by rw [length_after]; omega) (by rw [length_after]; omega)).mono fun e w' ⟨h1, h2⟩ => ⟨_, h1, by rw [decide_eq_true rfl], h2⟩) ?_
  rintro v5 w5 ⟨rfl, hh⟩
  have HB5 := Lib.hid (HB3.out.trans ((HB4.out.mono HB3.out.size).trans (hh.out.mono (Nat.le_trans HB3.out.size HB4.out.size))))
  have HK5 : Hid (w5.heap[bb]? = _) := (hh.out.block bb (by have := HZ2.out; have := HB3.out.size; have := HB4.out.size; omega)).trans HK4.out
  clear hh
  refine ⟨HK5.out, ?_⟩
  simp only [Act.put, List.setIfInBounds_toArray, List.set_cons_zero, List.set_cons_succ]
  refine oneU 9 (by kernel_rfl) ?_
  refine endU (v := ?_) 9 rfl (by kernel_rfl) (by kernel_rfl) rfl ?_ ?_
  rotate_left
  · go_simp <;> with_reducible rfl
  simp only [Act.put, List.setIfInBounds_toArray, List.set_cons_zero, List.set_cons_succ]
  clear HK3 HK4 HK5 HB2 HS3 HS4 HB3 HB4
  go_wp2_with fail
  go_ret
  exact ⟨rfl, H2.out.grow HB5.out, (Chg.of_below (Of b g r) HBW2.out).trans (Chg.of_below (Of b g r) HB5.out)⟩
set_option maxRecDepth 100000 in
set_option maxHeartbeats 1600000 in
theorem plays8 (h : Duo B w0 w b g r D) (hok : DOk D) (on f n : Int) (s : ByteArray) (cv : Value) (css : List (List Int)) (hcv : Rss w0 cv css) (hbel : Below w0.heap.size w0 w) (hs : s.size ≤ 1048576) (hcl : css.length ≤ 1048576) (hcm : ∀ i, (css.getD i []).length ≤ 1048576) (hn : n ≤ 9223372036854775807)
    (hm : ∀ f, f < D.l.length → (D.l.getD f Fl.zero).ws.length < 1099511627776) (kd : Int) (hk : kd < 0 ∨ 7 < kd) :
    Calls Try.prog 10 #[.pointer (some ⟨b, 0, none⟩), .pointer (some ⟨r, 0, none⟩), .agg #[.int .i64 on, .int .i64 kd, .int .i64 f, .int .i64 n, .string s, cv]] w fun e w' => e = .returned (.bool true) ∧ Duo B w0 w' b g r D ∧ Chg (Of b g r) w w' := by
  obtain ⟨q, qc, rfl, _⟩ := id hcv
  obtain ⟨m, hmm⟩ : ∃ m, m = css.length := ⟨_, rfl⟩
  rw [← hmm] at hcv ⊢
  obtain ⟨W, hW⟩ : ∃ W, W = w.alloc (.cells #[.int .i64 on, .int .i64 kd, .int .i64 f, .int .i64 n, .string s, .slice q m qc] 36) := ⟨_, rfl⟩
  have hbW : Below w.heap.size w W := by rw [hW]; exact (Below.refl _ _).alloc (Nat.le_refl _) _
  have hblk : W.heap[w.heap.size]? = some (.cells #[.int .i64 on, .int .i64 kd, .int .i64 f, .int .i64 n, .string s, .slice q m qc] 36 (0, 0)) := by rw [hW]; exact heap_alloc_new w _
  have hlt := h.lt
  have H := Lib.hid (h.grow hbW)
  have HCV := Lib.hid (hcv.below (hbel.trans (hbW.mono hbel.size)))
  have HCV0 := Lib.hid hcv
  have HOK := Lib.hid hok
  have HM := Lib.hid hm
  have HCM := Lib.hid hcm
  have HBLK := Lib.hid hblk
  have HBW := Lib.hid hbW
  have HWZ : Hid (W.heap.size = w.heap.size + 1) := by unfold Hid; rw [hW]; simp
  have HW := Lib.hid hW
  obtain ⟨bb, hbb⟩ : ∃ bb, bb = w.heap.size := ⟨_, rfl⟩
  rw [← hbb] at hlt HBLK HWZ
  have KK : Hid (∀ u : World, u.heap[bb]? = some (.cells #[.int .i64 on, .int .i64 kd, .int .i64 f, .int .i64 n, .string s, .slice q m qc] 36 (0, 0)) → u.cell? ⟨bb, 2, none⟩ = some (.int .i64 f) ∧ u.cell? ⟨bb, 3, none⟩ = some (.int .i64 n) ∧ u.cell? ⟨bb, 4, none⟩ = some (.string s) ∧ u.cell? ⟨bb, 5, none⟩ = some (.slice q m qc)) := fun u hu =>
    ⟨cell_of_row u bb 2 _ _ _ hu, cell_of_row u bb 3 _ _ _ hu, cell_of_row u bb 4 _ _ _ hu, cell_of_row u bb 5 _ _ _ hu⟩
  have HBB := Lib.hid hbb
  clear h hok hcv hmm hbW hblk hm hcm hW hbel hbb
  have e0 : (kd == 0) = false := by rw [beq_eq_false_iff_ne]; omega
  have e1 : (kd == 1) = false := by rw [beq_eq_false_iff_ne]; omega
  have e2 : (kd == 2) = false := by rw [beq_eq_false_iff_ne]; omega
  have e3 : (kd == 3) = false := by rw [beq_eq_false_iff_ne]; omega
  have e4 : (kd == 4) = false := by rw [beq_eq_false_iff_ne]; omega
  have e5 : (kd == 5) = false := by rw [beq_eq_false_iff_ne]; omega
  have e6 : (kd == 6) = false := by rw [beq_eq_false_iff_ne]; omega
  have e7 : (kd == 7) = false := by rw [beq_eq_false_iff_ne]; omega
  clear hk
  go_enter Try.func10, Try.ntmps10
  go_wp2_with fail
  go_ret
  rw [← HW.out]
  exact ⟨rfl, H.out, Chg.of_below (Of b g r) HBW.out⟩
/-- What a call of a script makes of a disk. -/
def Dk.play (D : Dk) (o : Opv) : Dk :=
  if o.kind = 0 then (D.writeX o.f o.s).1 else if o.kind = 1 then (D.syncX o.f).1 else if o.kind = 2 then (D.cutX o.f o.n).1 else if o.kind = 4 then (D.armX o.n o.ch).1
  else if o.kind = 5 then (D.crashX o.ch).1 else if o.kind = 6 then ⟨D.l, 0, D.ch, false⟩ else D
theorem playsW (h : Duo B w0 w b g r D) (hok : DOk D) (o : Opv) (cv : Value) (hcv : Rss w0 cv o.ch) (hbel : Below w0.heap.size w0 w) (hs : o.s.size ≤ 1048576) (hcl : o.ch.length ≤ 1048576) (hcm : ∀ i, (o.ch.getD i []).length ≤ 1048576) (hn : o.n ≤ 9223372036854775807)
    (hm : ∀ f, f < D.l.length → (D.l.getD f Fl.zero).ws.length < 1099511627776) :
    Calls Try.prog 10 #[.pointer (some ⟨b, 0, none⟩), .pointer (some ⟨r, 0, none⟩), .agg #[.int .i64 o.on, .int .i64 o.kind, .int .i64 o.f, .int .i64 o.n, .string o.s, cv]] w fun e w' => e = .returned (.bool true) ∧ Duo B w0 w' b g r (D.play o) ∧ Chg (Of b g r) w w' := by
  obtain ⟨on, kd, f, n, s, css⟩ := o
  dsimp only at *
  unfold Dk.play
  dsimp only
  by_cases h0 : kd = 0
  · subst h0; rw [if_pos rfl]; exact plays0 h hok on f n s cv css hcv hbel hs hcl hcm hn hm
  rw [if_neg h0]
  by_cases h1 : kd = 1
  · subst h1; rw [if_pos rfl]; exact plays1 h hok on f n s cv css hcv hbel hs hcl hcm hn hm
  rw [if_neg h1]
  by_cases h2 : kd = 2
  · subst h2; rw [if_pos rfl]; exact plays2 h hok on f n s cv css hcv hbel hs hcl hcm hn hm
  rw [if_neg h2]
  by_cases h4 : kd = 4
  · subst h4; rw [if_pos rfl]; exact plays4 h hok on f n s cv css hcv hbel hs hcl hcm hn hm
  rw [if_neg h4]
  by_cases h5 : kd = 5
  · subst h5; rw [if_pos rfl]; exact plays5 h hok on f n s cv css hcv hbel hs hcl hcm hn hm
  rw [if_neg h5]
  by_cases h6 : kd = 6
  · subst h6; rw [if_pos rfl]; exact plays6 h hok on f n s cv css hcv hbel hs hcl hcm hn hm
  rw [if_neg h6]
  by_cases h3 : kd = 3
  · subst h3; exact plays3 h hok on f n s cv css hcv hbel hs hcl hcm hn hm
  by_cases h7 : kd = 7
  · subst h7; exact plays7 h hok on f n s cv css hcv hbel hs hcl hcm hn hm
  exact plays8 h hok on f n s cv css hcv hbel hs hcl hcm hn hm kd (by omega)
end
end Go.Proofs.Ytennhmnmoamleaa
