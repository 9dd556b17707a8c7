/- WalOpens: the walk of the law. -/
import Derived.Test.YtilpbjcbffbjeaaGreatDoorWSideW
import Derived.Test.YtilpbjcbffbjeaaGreatDoorWFixed
namespace Go.Proofs.YtilpbjcbffbjeaaGreatDoor
set_option linter.unusedVariables false
set_option maxRecDepth 100000
open Go.RowKit
theorem below_chg {S : Nat → Prop} {B : Nat} {w w1 w2 : World} (h : Below B w w1) (hc : Chg S w1 w2) (hS : ∀ k, k < B → ¬ S k) (hz : B ≤ w1.heap.size) : Below B w w2 :=
  ⟨hc.os.trans h.os, hc.tape.trans h.tape, hc.output.trans h.output, Nat.le_trans h.size hc.size, fun k hk => (hc.block k (by omega) (hS k hk)).trans (h.block k hk)⟩
theorem rnew_isO {w0 w w' : World} {b : Nat} {v : Value} {ss : List ByteArray} (hbel : Below w0.heap.size w0 w') (hb : w0.heap.size ≤ b) (h : w'.heap[b]? = some (.cells #[v, .int .i64 0, .slice none 0 0, .bool false] 76 (0, 0))) (ho : OwnsRF w' (b + 1) v ss) (h0 : 0 < ss.length) :
    ∃ g cap, IsR w0.heap.size w0 w' b g cap (newDk ss) := by
  obtain ⟨g, cap, hv, _, hr⟩ := ho.rfs h0
  exact ⟨g, cap, ⟨v, .slice none 0 0, h, hr, Rss.nil w0⟩, hb, hbel, rfl⟩
theorem nw_new (ss : List ByteArray) : NoW (newDk ss) := fun i => by
  unfold newDk
  dsimp only
  rw [List.getD_eq_getElem?_getD, List.getElem?_map]
  rcases ss[i]? with _ | s <;> rfl
theorem arm_ok {D : Dk} (h : DOk D) (n : Int) (css : List (List Int)) (hn : n ≤ 9223372036854775807) (hcm : ∀ i, (css.getD i []).length ≤ 1048576) : DOk (D.armX n css).1 := by
  unfold Dk.armX
  split
  · exact h
  split
  · exact h
  · exact ⟨h.n, h.pos, h.size, h.many, by dsimp only; omega, fun i => by have := hcm i; dsimp only; omega⟩
theorem arm_nw {D : Dk} (h : NoW D) (n : Int) (css : List (List Int)) : NoW (D.armX n css).1 := by
  unfold Dk.armX
  split
  · exact h
  split
  · exact h
  · exact h
theorem armO {b g cap : Nat} {D : Dk} {w : World} (h : IsDisk w b g cap D) (n : Int) (hn : n ≤ 9223372036854775807) (cv : Value) (css : List (List Int)) (hcs : Rss w cv css) (hcl : css.length ≤ 1048576) (hcm : ∀ i, (css.getD i []).length ≤ 1048576) :
    Calls Tryz.prog 13 #[.pointer (some ⟨b, 0, none⟩), .int .i64 n, cv] w fun e w' => e = .returned (.int .i64 (D.armX n css).2) ∧ IsDisk w' b g cap (D.armX n css).1 ∧ Chg (fun k => k = b) w w' := by
  by_cases hd : D.dead = true
  · have e : D.armX n css = (D, 2) := by unfold Dk.armX; rw [if_pos hd]
    exact (armDead h hd n cv).mono fun _ _ ⟨h1, h2⟩ => ⟨by rw [e]; exact h1, by rw [e, ← h2]; exact h, by rw [← h2]; exact Chg.refl _ _⟩
  · by_cases hneg : n < 0
    · have e : D.armX n css = (D, 1) := by unfold Dk.armX; rw [if_neg hd, if_pos hneg]
      exact (armNeg h (by simpa using hd) n hneg cv).mono fun _ _ ⟨h1, h2⟩ => ⟨by rw [e]; exact h1, by rw [e, ← h2]; exact h, by rw [← h2]; exact Chg.refl _ _⟩
    · obtain ⟨m, rfl⟩ : ∃ m : Nat, n = m := ⟨n.toNat, by omega⟩
      have e : D.armX (m : Int) css = (⟨D.l, m, css, D.dead⟩, 0) := by unfold Dk.armX; rw [if_neg hd, if_neg hneg, Int.toNat_natCast]
      exact (armW h (by simpa using hd) m (by omega) cv css hcs hcl hcm).mono fun _ _ ⟨h1, h2, h3⟩ => ⟨by rw [e]; exact h1, by rw [e]; exact h2, h3⟩
set_option maxHeartbeats 6400000 in
theorem opensLaw {w : World} (v : Value) (ss : List ByteArray) (f : Int) (h : Strs w v ss) (hl : ss.length ≤ 1048576) (hm : ∀ i, i < ss.length → (ss.getD i ⟨#[]⟩).size ≤ 1048576)
    (on kd n : Int) (s : ByteArray) (cv : Value) (css : List (List Int)) (hcv : Rss w cv css) (hcl : css.length ≤ 1048576) (hcm : ∀ i, (css.getD i []).length ≤ 1048576) (hn : n ≤ 9223372036854775807) :
    Calls Tryz.prog 6 #[v, .int .i64 f, .agg #[.int .i64 on, .int .i64 kd, .int .i64 n, .string s, cv]] w fun e w' => e = .returned (.bool true) ∧ Below w.heap.size w w' := by
  have hbW : Below w.heap.size w (w.alloc (.cells #[.int .i64 on, .int .i64 kd, .int .i64 n, .string s, cv] 64)) := (Below.refl _ _).alloc (Nat.le_refl _) _
  have HNEW := Lib.hid (newW v ss (h.below hbW) hl hm)
  have HSTR := Lib.hid h
  have HL := Lib.hid hl
  have HHM := Lib.hid hm
  have HCV := Lib.hid hcv
  have HCL := Lib.hid hcl
  have HCM := Lib.hid hcm
  have HNN := Lib.hid hn
  obtain ⟨vp, vc, hve, _⟩ := h.form
  subst hve
  obtain ⟨qp, qc, rfl, _⟩ := id hcv
  obtain ⟨ns, hns⟩ : ∃ m, m = ss.length := ⟨_, rfl⟩
  rw [← hns] at HNEW HSTR ⊢
  obtain ⟨nc, hnc⟩ : ∃ m, m = css.length := ⟨_, rfl⟩
  rw [← hnc] at HCV HNEW hbW ⊢
  obtain ⟨bb, hbb⟩ : ∃ bb, bb = w.heap.size := ⟨_, rfl⟩
  obtain ⟨W0, hW0⟩ : ∃ W, W = w.alloc (.cells #[.int .i64 on, .int .i64 kd, .int .i64 n, .string s, .slice qp nc qc] 64) := ⟨_, rfl⟩
  have HBLK0 : Hid (W0.heap[bb]? = some (.cells #[.int .i64 on, .int .i64 kd, .int .i64 n, .string s, .slice qp nc qc] 64 (0, 0))) := by unfold Hid; rw [hW0, hbb]; exact heap_alloc_new w _
  have HBW0 : Hid (Below w.heap.size w W0) := by unfold Hid; rw [hW0]; exact hbW
  have HW0 := Lib.hid hW0
  have HBB := Lib.hid hbb
  rw [← hW0] at HNEW
  clear h hl hm hns hcv hcl hcm hn hnc hbW hW0 hbb
  go_enter Tryz.func6, Tryz.ntmps6
  go_wp2_with fail
  rw [← HW0.out, ← HBB.out]
  refine HNEW.out.mono ?_
  rintro e w1 ⟨hb1, hh⟩
  have HR := Lib.hid (rnewW (.slice vp ns vc) ss (HSTR.out.below (HBW0.out.trans (hb1.mono HBW0.out.size))) HL.out HHM.out)
  have HB1 := Lib.hid (HBW0.out.trans (hb1.mono HBW0.out.size))
  have HK1 : Hid (w1.heap[bb]? = some (.cells #[.int .i64 on, .int .i64 kd, .int .i64 n, .string s, .slice qp nc qc] 64 (0, 0))) := (hb1.block bb (Array.getElem?_eq_some_iff.1 HBLK0.out).1).trans HBLK0.out
  have HZ0 : Hid (bb < W0.heap.size) := (Array.getElem?_eq_some_iff.1 HBLK0.out).1
  clear hb1 HNEW HBLK0
  rcases hh with ⟨hne, rfl⟩ | ⟨he0, b, g, cap, rfl, hid, hbb, hgg⟩
  · have HNE := Lib.hid hne
    obtain ⟨er, her⟩ : ∃ er, er = newErr ss := ⟨_, rfl⟩
    have HER := Lib.hid her
    rw [← her] at HR ⊢
    clear hne her
    go_wp2_with fail
    refine HR.out.mono ?_
    rintro e w2 ⟨hb2, hh⟩
    have HB2 := Lib.hid (HB1.out.trans (hb2.mono HB1.out.size))
    rcases hh with ⟨_, rfl⟩ | ⟨he, _⟩
    · clear hb2
      go_wp2_with fail
      refine (fixedLW w2).mono ?_
      rintro e w3 ⟨rfl, hb3⟩
      have HB3 := Lib.hid (HB2.out.trans (hb3.mono HB2.out.size))
      clear hb3
      go_wp2_with fail
      go_ret
      exact ⟨rfl, HB3.out⟩
    · exact absurd (by rw [← HER.out]; exact he) HNE.out
  · have hgood := newErr_good he0
    have HE := Lib.hid he0
    have HG := Lib.hid hgood
    have HOK := Lib.hid (newDk_ok he0)
    have HID := Lib.hid hid
    have HBG := Lib.hid (And.intro hbb hgg)
    clear he0 hgood hid hbb hgg
    go_wp2_with fail
    refine HR.out.mono ?_
    rintro e w2 ⟨hb2, hh⟩
    rcases hh with ⟨hne, _⟩ | ⟨_, r, rv, rfl, hrb, hro, hrr⟩
    · exact absurd HE.out hne
    obtain ⟨g', cap', hisr⟩ := rnew_isO (w := w) (HB1.out.trans (hb2.mono HB1.out.size)) (Nat.le_trans HB1.out.size hrr) hrb hro HG.out.1
    have hduo : Duo w.heap.size w w2 b g r (newDk ss) := ⟨⟨cap, HID.out.below hb2⟩, ⟨g', cap', hisr⟩, Nat.le_trans HBW0.out.size HBG.out.1, Nat.le_trans HBW0.out.size HBG.out.2⟩
    have HDUO := Lib.hid hduo
    have HB2 := Lib.hid (HB1.out.trans (hb2.mono HB1.out.size))
    have HK2 : Hid (w2.heap[bb]? = some (.cells #[.int .i64 on, .int .i64 kd, .int .i64 n, .string s, .slice qp nc qc] 64 (0, 0))) := (hb2.block bb (Array.getElem?_eq_some_iff.1 HK1.out).1).trans HK1.out
    have HBN : Hid (bb ≠ b ∧ bb ≠ g ∧ bb ≠ r) := by
      refine ⟨?_, ?_, ?_⟩
      · have := HZ0.out; have := HBG.out.1; omega
      · have := HZ0.out; have := HBG.out.2; omega
      · have := (Array.getElem?_eq_some_iff.1 HK1.out).1; omega
    clear hb2 hrb hro hrr hisr hduo HR
    go_wp2_with fail
    obtain ⟨sb, hsb⟩ : ∃ x, x = w2.heap.size := ⟨_, rfl⟩
    obtain ⟨W, hW⟩ : ∃ W, W = w2.alloc (.cells #[.pointer none, .pointer (some ⟨b, 0, none⟩), .pointer none, .pointer (some ⟨r, 0, none⟩)] 72) := ⟨_, rfl⟩
    have hbW : Below w2.heap.size w2 W := by rw [hW]; exact (Below.refl _ _).alloc (Nat.le_refl _) _
    have HSD : Hid (IsSide W sb b r) := ⟨_, _, by rw [hW, hsb]; exact heap_alloc_new w2 _⟩
    have HDW := Lib.hid (HDUO.out.grow hbW)
    have HKW : Hid (W.heap[bb]? = some (.cells #[.int .i64 on, .int .i64 kd, .int .i64 n, .string s, .slice qp nc qc] 64 (0, 0))) := (hbW.block bb (Array.getElem?_eq_some_iff.1 HK2.out).1).trans HK2.out
    have HBW := Lib.hid (HB2.out.trans (hbW.mono HB2.out.size))
    have HSB : Hid (w.heap.size ≤ sb ∧ sb ≠ bb) := by unfold Hid; rw [hsb]; exact ⟨HB2.out.size, by have := (Array.getElem?_eq_some_iff.1 HK2.out).1; omega⟩
    rw [← hW, ← hsb]
    clear hW hbW hsb HDUO HK1 HK2
    obtain ⟨cap1, hp1⟩ := HDW.out.p
    have HP1 := Lib.hid (hp1.below (Below.refl W.heap.size W).drew)
    clear hp1
    have HNB : Hid (max 0 n ≤ 9223372036854775807) := by unfold Hid; have := HNN.out; omega
    have KK : Hid (∀ u : World, u.heap[bb]? = some (.cells #[.int .i64 on, .int .i64 kd, .int .i64 n, .string s, .slice qp nc qc] 64 (0, 0)) → u.cell? ⟨bb, 2, none⟩ = some (.int .i64 n) ∧ u.cell? ⟨bb, 4, none⟩ = some (.slice qp nc qc)) := fun u hu => ⟨cell_of_row u bb 2 _ _ _ hu, cell_of_row u bb 4 _ _ _ hu⟩
    have HDr : Hid (Below w.heap.size w W.drew) := HBW.out.drew
    have HDd := Lib.hid (HDW.out.grow ((Below.refl _ _).drew))
    have HSd := Lib.hid (HSD.out.below ((Below.refl _ _).drew))
    have HKd : Hid (W.drew.heap[bb]? = some (.cells #[.int .i64 on, .int .i64 kd, .int .i64 n, .string s, .slice qp nc qc] 64 (0, 0))) := HKW.out
    refine wp_region_U 14 (fun u => u.heap[bb]? = some (.cells #[.int .i64 on, .int .i64 kd, .int .i64 n, .string s, .slice qp nc qc] 64 (0, 0))) (by kernel_rfl) ?_
    change wpAnyU _ _ _ _ _ _ 15 (Array.replicate 15 false) _ _
    obtain ⟨Wd, hWd⟩ : ∃ x, x = W.drew := ⟨_, rfl⟩
    rw [← hWd]
    rw [← hWd] at HDr HDd HSd HKd HP1
    clear hWd HBW HDW HSD HKW
    refine takeU 0 (v := ?_) rfl (by kernel_rfl) (by kernel_rfl) (fun _ _ _ h => h) rfl (fun u hu => ?_) HKd.out ?_
    rotate_left
    · have k2 := (KK.out u hu).1; have k4 := (KK.out u hu).2; go_simp <;> with_reducible rfl
    simp only [Act.put, List.setIfInBounds_toArray, List.set_cons_zero, List.set_cons_succ]
    refine takeU 1 (v := ?_) rfl (by kernel_rfl) (by kernel_rfl) (fun _ _ _ h => h) rfl (fun u hu => ?_) HKd.out ?_
    rotate_left
    · have k2 := (KK.out u hu).1; have k4 := (KK.out u hu).2; go_simp <;> with_reducible rfl
    simp only [Act.put, List.setIfInBounds_toArray, List.set_cons_zero, List.set_cons_succ]
    refine takeU 2 (v := ?_) rfl (by kernel_rfl) (by kernel_rfl) (fun _ _ _ h => h) rfl (fun u hu => ?_) HKd.out ?_
    rotate_left
    · have k2 := (KK.out u hu).1; have k4 := (KK.out u hu).2; go_simp <;> with_reducible rfl
    simp only [Act.put, List.setIfInBounds_toArray, List.set_cons_zero, List.set_cons_succ]
    refine takeU 3 (v := ?_) rfl (by kernel_rfl) (by kernel_rfl) (fun _ _ _ h => h) rfl (fun u hu => ?_) HKd.out ?_
    rotate_left
    · have k2 := (KK.out u hu).1; have k4 := (KK.out u hu).2; go_simp <;> with_reducible rfl
    simp only [Act.put, List.setIfInBounds_toArray, List.set_cons_zero, List.set_cons_succ]
    refine takeU 4 (v := ?_) rfl (by kernel_rfl) (by kernel_rfl) (fun _ _ _ h => h) rfl (fun u hu => ?_) HKd.out ?_
    rotate_left
    · have k2 := (KK.out u hu).1; have k4 := (KK.out u hu).2; go_simp <;> with_reducible rfl
    simp only [Act.put, List.setIfInBounds_toArray, List.set_cons_zero, List.set_cons_succ]
    refine takeU 5 (v := ?_) rfl (by kernel_rfl) (by kernel_rfl) (fun _ _ _ h => h) rfl (fun u hu => ?_) HKd.out ?_
    rotate_left
    · have k2 := (KK.out u hu).1; have k4 := (KK.out u hu).2; go_simp <;> with_reducible rfl
    simp only [Act.put, List.setIfInBounds_toArray, List.set_cons_zero, List.set_cons_succ]
    refine takeU 7 (v := ?_) rfl (by kernel_rfl) (by kernel_rfl) (fun _ _ _ h => h) rfl (fun u hu => ?_) HKd.out ?_
    rotate_left
    · have k2 := (KK.out u hu).1; have k4 := (KK.out u hu).2; go_simp <;> with_reducible rfl
    simp only [Act.put, List.setIfInBounds_toArray, List.set_cons_zero, List.set_cons_succ]
    refine takeU 8 (v := ?_) rfl (by kernel_rfl) (by kernel_rfl) (fun _ _ _ h => h) rfl (fun u hu => ?_) HKd.out ?_
    rotate_left
    · have k2 := (KK.out u hu).1; have k4 := (KK.out u hu).2; go_simp <;> with_reducible rfl
    simp only [Act.put, List.setIfInBounds_toArray, List.set_cons_zero, List.set_cons_succ]
    refine takeU 9 (v := ?_) rfl (by kernel_rfl) (by kernel_rfl) (fun _ _ _ h => h) rfl (fun u hu => ?_) HKd.out ?_
    rotate_left
    · have k2 := (KK.out u hu).1; have k4 := (KK.out u hu).2; go_simp <;> with_reducible rfl
    simp only [Act.put, List.setIfInBounds_toArray, List.set_cons_zero, List.set_cons_succ]
    refine takeU 10 (v := ?_) rfl (by kernel_rfl) (by kernel_rfl) (fun _ _ _ h => h) rfl (fun u hu => ?_) HKd.out ?_
    rotate_left
    · have k2 := (KK.out u hu).1; have k4 := (KK.out u hu).2; go_simp <;> with_reducible rfl
    simp only [Act.put, List.setIfInBounds_toArray, List.set_cons_zero, List.set_cons_succ]
    refine takeU 11 (v := ?_) rfl (by kernel_rfl) (by kernel_rfl) (fun _ _ _ h => h) rfl (fun u hu => ?_) HKd.out ?_
    rotate_left
    · have k2 := (KK.out u hu).1; have k4 := (KK.out u hu).2; go_simp <;> with_reducible rfl
    simp only [Act.put, List.setIfInBounds_toArray, List.set_cons_zero, List.set_cons_succ]
    refine takeU 12 (v := ?_) rfl (by kernel_rfl) (by kernel_rfl) (fun _ _ _ h => h) rfl (fun u hu => ?_) HKd.out ?_
    rotate_left
    · have k2 := (KK.out u hu).1; have k4 := (KK.out u hu).2; go_simp <;> with_reducible rfl
    simp only [Act.put, List.setIfInBounds_toArray, List.set_cons_zero, List.set_cons_succ]
    refine oneU 6 (by kernel_rfl) ?_
    refine callU 6 rfl (by kernel_rfl) rfl 13 _ _ rfl #[.pointer (some ⟨b, 0, none⟩), .int .i64 (max 0 n), .slice qp nc qc] (by simp [Act.eval]) (enters_of Tryz.func13 (by kernel_rfl) rfl) (fun v w' => v = .int .i64 ((newDk ss).armX (max 0 n) css).2 ∧ Hid (IsDisk w' b g cap1 ((newDk ss).armX (max 0 n) css).1 ∧ Chg (fun k => k = b) Wd w')) ((armO HP1.out (max 0 n) HNB.out (.slice qp nc qc) css (HCV.out.below HDr.out) HCL.out HCM.out).mono fun e w' ⟨h1, h2, h3⟩ => ⟨_, h1, rfl, h2, h3⟩) ?_
    rintro v3 w3 ⟨rfl, hh⟩
    have HD3 := Lib.hid hh.out.1
    have HC3 := Lib.hid hh.out.2
    have HK3 : Hid (w3.heap[bb]? = some (.cells #[.int .i64 on, .int .i64 kd, .int .i64 n, .string s, .slice qp nc qc] 64 (0, 0))) := (hh.out.2.block bb (Array.getElem?_eq_some_iff.1 HKd.out).1 HBN.out.1).trans HKd.out
    obtain ⟨g3, cap3, hr3⟩ := HDd.out.left hh.out.1 (hh.out.2.mono (fun k _ h => .inl h))
    have HR3 := Lib.hid hr3
    clear hh hr3
    refine ⟨HK3.out, ?_⟩
    simp only [Act.put, List.setIfInBounds_toArray, List.set_cons_zero, List.set_cons_succ]
    refine oneU 13 (by kernel_rfl) ?_
    refine callU 13 rfl (by kernel_rfl) rfl 37 _ _ rfl #[.pointer (some ⟨r, 0, none⟩), .int .i64 (max 0 n), .slice qp nc qc] (by simp [Act.eval]) (enters_of Tryz.func37 (by kernel_rfl) rfl) (fun v w' => v = .int .i64 ((newDk ss).armX (max 0 n) css).2 ∧ Hid ((∃ g' cap', IsR w.heap.size w w' r g' cap' ((newDk ss).armX (max 0 n) css).1) ∧ Chg (fun k => k = r) w3 w')) ((rarmA HR3.out (max 0 n) (.slice qp nc qc) css HCV.out).mono fun e w' ⟨h1, h2, h3⟩ => ⟨_, h1, rfl, h2, h3⟩) ?_
    rintro v4 w4 ⟨rfl, hh⟩
    obtain ⟨g4, cap4, hr4⟩ := hh.out.1
    have HD4 : Hid (Duo w.heap.size w w4 b g r ((newDk ss).armX (max 0 n) css).1) := ⟨⟨cap1, Duo.right HD3.out HR3.out hr4 hh.out.2⟩, ⟨g4, cap4, hr4⟩, HDd.out.bB, HDd.out.gB⟩
    have HNE4 := Lib.hid (HSd.out.ne HDd.out)
    have HS4 := Lib.hid ((HSd.out.keep HC3.out HNE4.out.1).keep hh.out.2 HNE4.out.2.2)
    have HK4 : Hid (w4.heap[bb]? = some (.cells #[.int .i64 on, .int .i64 kd, .int .i64 n, .string s, .slice qp nc qc] 64 (0, 0))) := (hh.out.2.block bb (Array.getElem?_eq_some_iff.1 HK3.out).1 HBN.out.2.2).trans HK3.out
    have HB4 : Hid (Below w.heap.size w w4) := below_chg (below_chg HDr.out HC3.out (fun k hk e => by have := HDd.out.bB; omega) HDr.out.size) hh.out.2 (fun k hk e => by have := HDd.out.lt; omega) (Nat.le_trans HDr.out.size HC3.out.size)
    clear hh hr4
    refine ⟨HK4.out, ?_⟩
    simp only [Act.put, List.setIfInBounds_toArray, List.set_cons_zero, List.set_cons_succ]
    refine oneU 14 (by kernel_rfl) ?_
    refine endU (v := ?_) 14 rfl (by kernel_rfl) (by kernel_rfl) rfl ?_ ?_
    rotate_left
    · go_simp <;> with_reducible rfl
    simp only [Act.put, List.setIfInBounds_toArray, List.set_cons_zero, List.set_cons_succ]
    go_wp2_with fail
    have HOK4 := Lib.hid (arm_ok HOK.out (max 0 n) css HNB.out HCM.out)
    have HNW4 := Lib.hid (arm_nw (nw_new ss) (max 0 n) css)
    obtain ⟨D0, hD0⟩ : ∃ D, D = ((newDk ss).armX (max 0 n) css).1 := ⟨_, rfl⟩
    rw [← hD0] at HD4 HOK4 HNW4
    clear hD0
    go_loopw [12] (fun v12 wr => ∃ (i : Nat) (D : Dk), i ≤ 3 ∧ v12 = .int .i64 (i : Nat) ∧ Duo w.heap.size w wr b g r D ∧ DOk D ∧ NoW D ∧ IsSide wr sb b r ∧ Below w.heap.size w wr) (fun v _ => ((3 : Int) - intOf v).toNat)
    case atStart => exact ⟨0, D0, by omega, rfl, HD4.out, HOK4.out, HNW4.out, HS4.out, HB4.out⟩
    case round =>
      obtain ⟨i, D, hi, rfl, hdu, hok, hnw, hsi, hbl⟩ := hrel
      have HDU := Lib.hid hdu
      have HSI := Lib.hid hsi
      have HBL := Lib.hid hbl
      obtain ⟨D', o, hoc, hok'⟩ := OC.total hok f
      have HO := Lib.hid (opensW (f := f) hdu hok hnw hsi HSB.out.1 hoc)
      have HOK := Lib.hid hok'
      have HNW := Lib.hid (hoc.nw hnw)
      clear hdu hok hnw hsi hbl hoc hok' HD4 HOK4 HNW4 HS4 HB4
      by_cases hlt : i < 3
      · have hli : (i : Int) < 3 := by omega
        have hz : (0 : Int) ≤ (i : Int) := by omega
        go_wp2_with fail
        refine HO.out.mono ?_
        rintro e w1 ⟨rfl, hdu, hsi, hch⟩
        have HD1 := Lib.hid hdu
        have HS1 := Lib.hid hsi
        have HB1 : Hid (Below w.heap.size w w1) := below_chg HBL.out hch (fun k hk e => by
          have h1 := HDU.out.lt
          have h2 := HDU.out.bB
          have h3 := HDU.out.gB
          have h4 := HSB.out.1
          rcases e with e | e | e | e <;> omega) HBL.out.size
        clear hdu hsi hch HO
        go_wp2_with fail
        have HD1d := Lib.hid (HD1.out.grow (Below.refl _ _).drew)
        have HS1d := Lib.hid (HS1.out.below (Below.refl _ _).drew)
        have HB1d : Hid (Below w.heap.size w w1.drew) := HB1.out.drew
        refine wp_region_U 18 (fun u => Below w1.drew.heap.size w1.drew u) (by kernel_rfl) ?_
        change wpAnyU _ _ _ _ _ _ 19 (Array.replicate 19 false) _ _
        obtain ⟨Wd, hWd⟩ : ∃ x, x = w1.drew := ⟨_, rfl⟩
        rw [← hWd] at HD1d HS1d HB1d
        rw [← hWd]
        clear hWd HD1 HS1 HB1
        have HSr := Lib.hid (Below.refl Wd.heap.size Wd)
        obtain ⟨capd, hpd⟩ := HD1d.out.p
        obtain ⟨gq, capq, hqd⟩ := HD1d.out.q
        have HP := Lib.hid hpd
        have HQ := Lib.hid hqd
        have c3 := hqd.cells.2.2.2
        have hrl := hqd.lt
        have hn := HOK.out.n
        have KK2 : Hid (∀ u, Below Wd.heap.size Wd u → u.cell? ⟨r, 3, none⟩ = some (.bool D'.dead)) := fun u hu => (hu.cell (p := ⟨r, 3, none⟩) hrl).trans c3
        clear hpd hqd c3
        refine takeU 0 (v := ?_) rfl (by kernel_rfl) (by kernel_rfl) (fun _ _ _ h => h) rfl (fun u hu => ?_) HSr.out ?_
        rotate_left
        · skip; go_simp <;> with_reducible rfl
        simp only [Act.put, List.setIfInBounds_toArray, List.set_cons_zero, List.set_cons_succ]
        refine takeU 1 (v := ?_) rfl (by kernel_rfl) (by kernel_rfl) (fun _ _ _ h => h) rfl (fun u hu => ?_) HSr.out ?_
        rotate_left
        · skip; go_simp <;> with_reducible rfl
        simp only [Act.put, List.setIfInBounds_toArray, List.set_cons_zero, List.set_cons_succ]
        refine takeU 2 (v := ?_) rfl (by kernel_rfl) (by kernel_rfl) (fun _ _ _ h => h) rfl (fun u hu => ?_) HSr.out ?_
        rotate_left
        · skip; go_simp <;> with_reducible rfl
        simp only [Act.put, List.setIfInBounds_toArray, List.set_cons_zero, List.set_cons_succ]
        refine takeU 3 (v := ?_) rfl (by kernel_rfl) (by kernel_rfl) (fun _ _ _ h => h) rfl (fun u hu => ?_) HSr.out ?_
        rotate_left
        · skip; go_simp <;> with_reducible rfl
        simp only [Act.put, List.setIfInBounds_toArray, List.set_cons_zero, List.set_cons_succ]
        refine takeU 5 (v := ?_) rfl (by kernel_rfl) (by kernel_rfl) (fun _ _ _ h => h) rfl (fun u hu => ?_) HSr.out ?_
        rotate_left
        · skip; go_simp <;> with_reducible rfl
        simp only [Act.put, List.setIfInBounds_toArray, List.set_cons_zero, List.set_cons_succ]
        refine oneU 4 (by kernel_rfl) ?_
        refine callU 4 rfl (by kernel_rfl) rfl 39 _ _ rfl #[.pointer (some ⟨b, 0, none⟩)] (by simp [Act.eval]) (enters_of Tryz.func39 (by kernel_rfl) rfl) (fun v w' => ∃ q d, v = .slice q D'.l.length d ∧ Hid (Strs w' v D'.files ∧ Below Wd.heap.size Wd w')) ((filesW HP.out HOK.out).mono fun e w' ⟨v, h1, h2, h3⟩ => ⟨v, h1, by obtain ⟨q, d, hv, _⟩ := h2.ws.form; rw [length_files] at hv; exact ⟨q, d, hv, h2.ws.strs, h3⟩⟩) ?_
        rintro v2 w2 ⟨q2, d2, rfl, hh⟩
        have HB2 := Lib.hid hh.out.2
        have HF2 := Lib.hid hh.out.1
        clear hh
        refine ⟨HB2.out, ?_⟩
        simp only [Act.put, List.setIfInBounds_toArray, List.set_cons_zero, List.set_cons_succ]
        refine oneU 6 (by kernel_rfl) ?_
        refine callU 6 rfl (by kernel_rfl) rfl 40 _ _ rfl #[.pointer (some ⟨r, 0, none⟩)] (by simp [Act.eval]) (enters_of Tryz.func40 (by kernel_rfl) rfl) (fun v w' => ∃ q d, v = .slice q D'.l.length d ∧ Hid (Strs w' v D'.files ∧ Below w2.heap.size w2 w')) ((rfilesW (HQ.out.grow HB2.out) HOK.out).mono fun e w' ⟨v, h1, h2, h3⟩ => ⟨v, h1, by obtain ⟨q, d, hv, _⟩ := h2.ws.form; rw [length_files] at hv; exact ⟨q, d, hv, h2.ws.strs, h3⟩⟩) ?_
        rintro v3 w3 ⟨q3, d3, rfl, hh⟩
        have HB3 := Lib.hid (HB2.out.trans (hh.out.2.mono HB2.out.size))
        have HF3 := Lib.hid hh.out.1
        have HF2' := Lib.hid (HF2.out.below hh.out.2)
        clear hh
        refine ⟨HB3.out, ?_⟩
        simp only [Act.put, List.setIfInBounds_toArray, List.set_cons_zero, List.set_cons_succ]
        refine oneU 7 (by kernel_rfl) ?_
        refine callU 7 rfl (by kernel_rfl) rfl 24 _ _ rfl #[.slice q2 D'.l.length d2, .slice q3 D'.l.length d3] (by simp [Act.eval]) (enters_of Tryz.func24 (by kernel_rfl) rfl) (fun v w' => v = .bool true ∧ Hid (Below w3.heap.size w3 w')) ((sameW (.slice q2 D'.l.length d2) (.slice q3 D'.l.length d3) D'.files D'.files w3 HF2'.out HF3.out (by rw [length_files]; omega) (by rw [length_files]; omega)).mono fun e w' ⟨h1, h2⟩ => ⟨_, h1, by rw [decide_eq_true rfl], h2⟩) ?_
        rintro v4 w4 ⟨rfl, hh⟩
        have HB4 := Lib.hid (HB3.out.trans (hh.out.mono HB3.out.size))
        clear hh
        refine ⟨HB4.out, ?_⟩
        simp only [Act.put, List.setIfInBounds_toArray, List.set_cons_zero, List.set_cons_succ]
        refine takeU 8 (v := ?_) rfl (by kernel_rfl) (by kernel_rfl) (fun _ _ _ h => h) rfl (fun u hu => ?_) HB4.out ?_
        rotate_left
        · skip; go_simp <;> with_reducible rfl
        simp only [Act.put, List.setIfInBounds_toArray, List.set_cons_zero, List.set_cons_succ]
        refine takeU 9 (v := ?_) rfl (by kernel_rfl) (by kernel_rfl) (fun _ _ _ h => h) rfl (fun u hu => ?_) HB4.out ?_
        rotate_left
        · skip; go_simp <;> with_reducible rfl
        simp only [Act.put, List.setIfInBounds_toArray, List.set_cons_zero, List.set_cons_succ]
        refine takeU 10 (v := ?_) rfl (by kernel_rfl) (by kernel_rfl) (fun _ _ _ h => h) rfl (fun u hu => ?_) HB4.out ?_
        rotate_left
        · skip; go_simp <;> with_reducible rfl
        simp only [Act.put, List.setIfInBounds_toArray, List.set_cons_zero, List.set_cons_succ]
        refine takeU 11 (v := ?_) rfl (by kernel_rfl) (by kernel_rfl) (fun _ _ _ h => h) rfl (fun u hu => ?_) HB4.out ?_
        rotate_left
        · skip; go_simp <;> with_reducible rfl
        simp only [Act.put, List.setIfInBounds_toArray, List.set_cons_zero, List.set_cons_succ]
        refine takeU 13 (v := ?_) rfl (by kernel_rfl) (by kernel_rfl) (fun _ _ _ h => h) rfl (fun u hu => ?_) HB4.out ?_
        rotate_left
        · have k0 := KK2.out u hu; go_simp <;> with_reducible rfl
        simp only [Act.put, List.setIfInBounds_toArray, List.set_cons_zero, List.set_cons_succ]
        refine takeU 14 (v := ?_) rfl (by kernel_rfl) (by kernel_rfl) (fun _ _ _ h => h) rfl (fun u hu => ?_) HB4.out ?_
        rotate_left
        · have k0 := KK2.out u hu; go_simp <;> with_reducible rfl
        simp only [Act.put, List.setIfInBounds_toArray, List.set_cons_zero, List.set_cons_succ]
        refine takeU 15 (v := ?_) rfl (by kernel_rfl) (by kernel_rfl) (fun _ _ _ h => h) rfl (fun u hu => ?_) HB4.out ?_
        rotate_left
        · have k0 := KK2.out u hu; go_simp <;> with_reducible rfl
        simp only [Act.put, List.setIfInBounds_toArray, List.set_cons_zero, List.set_cons_succ]
        refine takeU 16 (v := ?_) rfl (by kernel_rfl) (by kernel_rfl) (fun _ _ _ h => h) rfl (fun u hu => ?_) HB4.out ?_
        rotate_left
        · have k0 := KK2.out u hu; go_simp <;> with_reducible rfl
        simp only [Act.put, List.setIfInBounds_toArray, List.set_cons_zero, List.set_cons_succ]
        refine oneU 12 (by kernel_rfl) ?_
        refine callU 12 rfl (by kernel_rfl) rfl 14 _ _ rfl #[.pointer (some ⟨b, 0, none⟩)] (by simp [Act.eval]) (enters_of Tryz.func14 (by kernel_rfl) rfl) (fun v w' => v = .bool D'.dead ∧ w4 = w') ((deadW (HP.out.below HB4.out)).mono fun e w' ⟨h1, h2⟩ => ⟨_, h1, rfl, h2⟩) ?_
        rintro v5 w5 ⟨rfl, hw5⟩
        subst hw5
        refine ⟨HB4.out, ?_⟩
        simp only [Act.put, List.setIfInBounds_toArray, List.set_cons_zero, List.set_cons_succ]
        refine takeU 17 (v := ?_) rfl (by kernel_rfl) (by kernel_rfl) (fun _ _ _ h => h) rfl (fun u hu => ?_) HB4.out ?_
        rotate_left
        · skip; go_simp <;> with_reducible rfl
        simp only [Act.put, List.setIfInBounds_toArray, List.set_cons_zero, List.set_cons_succ]
        refine oneU 18 (by kernel_rfl) ?_
        refine endU (v := ?_) 18 rfl (by kernel_rfl) (by kernel_rfl) rfl ?_ ?_
        rotate_left
        · go_simp <;> with_reducible rfl
        simp only [Act.put, List.setIfInBounds_toArray, List.set_cons_zero, List.set_cons_succ]
        have HD5 := Lib.hid (HD1d.out.grow HB4.out)
        have HS5 := Lib.hid (HS1d.out.below HB4.out)
        have HB5 : Hid (Below w.heap.size w w4) := HB1d.out.trans (HB4.out.mono HB1d.out.size)
        clear HB4 HB3 HB2 HF2 HF3 HF2' HP HQ KK2
        go_wp2_with fail
        obtain ⟨cap5, hp5⟩ := HD5.out.p
        refine (reviveW hp5).mono ?_
        rintro e w6 ⟨rfl, hd6, hc6⟩
        obtain ⟨g6, cap6, hr6⟩ := HD5.out.left hd6 (hc6.mono (fun k _ h => .inl h))
        have HD6 := Lib.hid hd6
        have HR6 := Lib.hid hr6
        have HNE5 := Lib.hid (HS5.out.ne HD5.out)
        have HS6 := Lib.hid (HS5.out.keep hc6 HNE5.out.1)
        have HB6 : Hid (Below w.heap.size w w6) := below_chg HB5.out hc6 (fun k hk e => by have := HD5.out.bB; omega) HB5.out.size
        clear hp5 hd6 hc6 hr6
        go_wp2_with fail
        refine (rreviveW HR6.out).mono ?_
        rintro e w7 ⟨rfl, hr7, hc7⟩
        have HD7 : Hid (Duo w.heap.size w w7 b g r ⟨D'.l, 0, D'.ch, false⟩) := ⟨⟨cap5, Duo.right HD6.out HR6.out hr7 hc7⟩, ⟨_, _, hr7⟩, HD5.out.bB, HD5.out.gB⟩
        have HS7 := Lib.hid (HS6.out.keep hc7 HNE5.out.2.2)
        have HB7 : Hid (Below w.heap.size w w7) := below_chg HB6.out hc7 (fun k hk e => by have := HD5.out.lt; omega) HB6.out.size
        clear hr7 hc7 hrl hn
        go_wp2_with fail
        exact ⟨⟨i + 1, ⟨D'.l, 0, D'.ch, false⟩, by omega, rfl, HD7.out, ⟨HOK.out.n, HOK.out.pos, HOK.out.size, HOK.out.many, Nat.zero_le _, HOK.out.chl⟩, HNW.out, HS7.out, HB7.out⟩, by simp only [intOf]; omega⟩
      · have hli : ¬ (i : Int) < 3 := by omega
        clear hlt hi
        go_wp2_with fail
        refine (fixedLW wr).mono ?_
        rintro e w3 ⟨rfl, hb3⟩
        have HB3 := Lib.hid (HBL.out.trans (hb3.mono HBL.out.size))
        clear hb3
        go_wp2_with fail
        go_ret
        exact ⟨rfl, HB3.out⟩
end Go.Proofs.YtilpbjcbffbjeaaGreatDoor
