/- The law's plays: a call on two disks in one state is answered alike, and leaves them in one state. -/
import Derived.Test.YtennhmnmoamleaaDDoes2
namespace Go.Proofs.Ytennhmnmoamleaa
set_option linter.unusedVariables false
open Go.RowKit
theorem chg_blk {S : Nat → Prop} {w w' : World} {k : Nat} (hc : Chg S w w') (hk : k < w.heap.size) (hn : ¬ S k) {x : Option Obj} (h : w.heap[k]? = x) : w'.heap[k]? = x := (hc.block k hk hn).trans h
section
variable {B : Nat} {w0 w : World} {b g r : Nat} {D : Dk}
/-- Both have answered. -/
theorem Duo.both {D' : Dk} {w1 w2 : World} {cap g1 c1 : Nat} (h : Duo B w0 w b g r D) (hd : IsDisk w1 b g cap D') (hc : Chg (fun k => k = b ∨ k = g) w w1) (hr1 : IsR B w0 w1 r g1 c1 D) (hr : ∃ g' cap', IsR B w0 w2 r g' cap' D') (hc2 : Chg (fun k => k = r) w1 w2) :
    Duo B w0 w2 b g r D' ∧ Chg (Of b g r) w w2 := by
  obtain ⟨g', cap', hr⟩ := hr
  refine ⟨⟨⟨cap, Duo.right hd hr1 hr hc2⟩, ⟨g', cap', hr⟩, h.bB, h.gB⟩, (hc.mono (fun k _ hk => ?_)).trans (hc2.mono (fun k _ hk => .inr (.inr hk)))⟩
  rcases hk with e | e
  · exact .inl e
  · exact .inr (.inl e)
set_option maxRecDepth 100000 in
set_option maxHeartbeats 1600000 in
theorem plays0 (h : Duo B w0 w b g r D) (hok : DOk D) (on f n : Int) (s : ByteArray) (cv : Value) (css : List (List Int)) (hcv : Rss w0 cv css) (hbel : Below w0.heap.size w0 w) (hs : s.size ≤ 1048576) (hcl : css.length ≤ 1048576) (hcm : ∀ i, (css.getD i []).length ≤ 1048576) (hn : n ≤ 9223372036854775807)
    (hm : ∀ f, f < D.l.length → (D.l.getD f Fl.zero).ws.length < 1099511627776) :
    Calls Try.prog 10 #[.pointer (some ⟨b, 0, none⟩), .pointer (some ⟨r, 0, none⟩), .agg #[.int .i64 on, .int .i64 0, .int .i64 f, .int .i64 n, .string s, cv]] w fun e w' => e = .returned (.bool true) ∧ Duo B w0 w' b g r (D.writeX f s).1 ∧ Chg (Of b g r) w w' := by
  obtain ⟨q, qc, rfl, _⟩ := id hcv
  obtain ⟨m, hmm⟩ : ∃ m, m = css.length := ⟨_, rfl⟩
  rw [← hmm] at hcv ⊢
  obtain ⟨W, hW⟩ : ∃ W, W = w.alloc (.cells #[.int .i64 on, .int .i64 0, .int .i64 f, .int .i64 n, .string s, .slice q m qc] 36) := ⟨_, rfl⟩
  have hbW : Below w.heap.size w W := by rw [hW]; exact (Below.refl _ _).alloc (Nat.le_refl _) _
  have hblk : W.heap[w.heap.size]? = some (.cells #[.int .i64 on, .int .i64 0, .int .i64 f, .int .i64 n, .string s, .slice q m qc] 36 (0, 0)) := by rw [hW]; exact heap_alloc_new w _
  have hlt := h.lt
  have H := Lib.hid (h.grow hbW)
  have HCV := Lib.hid (hcv.below (hbel.trans (hbW.mono hbel.size)))
  have HCV0 := Lib.hid hcv
  have HOK := Lib.hid hok
  have HM := Lib.hid hm
  have HCM := Lib.hid hcm
  have HBLK := Lib.hid hblk
  have HBW := Lib.hid hbW
  have HWZ : Hid (W.heap.size = w.heap.size + 1) := by unfold Hid; rw [hW]; simp
  have HW := Lib.hid hW
  obtain ⟨bb, hbb⟩ : ∃ bb, bb = w.heap.size := ⟨_, rfl⟩
  rw [← hbb] at hlt HBLK HWZ
  have KK : Hid (∀ u : World, u.heap[bb]? = some (.cells #[.int .i64 on, .int .i64 0, .int .i64 f, .int .i64 n, .string s, .slice q m qc] 36 (0, 0)) → u.cell? ⟨bb, 2, none⟩ = some (.int .i64 f) ∧ u.cell? ⟨bb, 3, none⟩ = some (.int .i64 n) ∧ u.cell? ⟨bb, 4, none⟩ = some (.string s) ∧ u.cell? ⟨bb, 5, none⟩ = some (.slice q m qc)) := fun u hu =>
    ⟨cell_of_row u bb 2 _ _ _ hu, cell_of_row u bb 3 _ _ _ hu, cell_of_row u bb 4 _ _ _ hu, cell_of_row u bb 5 _ _ _ hu⟩
  have HBB := Lib.hid hbb
  clear h hok hcv hmm hbW hblk hm hcm hW hbel hbb
  go_enter Try.func10, Try.ntmps10
  go_wp2_with fail
  rw [← HW.out, ← HBB.out]
  have HB2 : Hid (W.drew.heap[bb]? = some (.cells #[.int .i64 on, .int .i64 0, .int .i64 f, .int .i64 n, .string s, .slice q m qc] 36 (0, 0))) := HBLK.out
  refine wp_region_U 13 (fun u => u.heap[bb]? = some (.cells #[.int .i64 on, .int .i64 0, .int .i64 f, .int .i64 n, .string s, .slice q m qc] 36 (0, 0))) (by kernel_rfl) ?_
  change wpAnyU _ _ _ _ _ _ 14 (Array.replicate 14 false) _ _
  have H2 := Lib.hid (H.out.grow ((Below.refl W.heap.size W).drew))
  have HCV2 := Lib.hid (HCV.out.below ((Below.refl W.heap.size W).drew))
  have HBW2 := Lib.hid (HBW.out.trans ((Below.refl W.heap.size W).drew.mono HBW.out.size))
  have hz2 : W.drew.heap.size = bb + 1 := HWZ.out
  obtain ⟨w2, hw2⟩ : ∃ w2, w2 = W.drew := ⟨_, rfl⟩
  rw [← hw2]
  rw [← hw2] at HB2 H2 HCV2 HBW2 hz2
  have HZ2 := Lib.hid hz2
  clear hw2 hz2
  obtain ⟨cap, hp⟩ := H2.out.p
  have HP := Lib.hid hp
  clear hp
  refine takeU 0 (v := ?_) rfl (by kernel_rfl) (by kernel_rfl) (fun _ _ _ h => h) rfl (fun u hu => ?_) HB2.out ?_
  rotate_left
  · have k0 := (KK.out u hu).1; have k1 := (KK.out u hu).2.1; have k2 := (KK.out u hu).2.2.1; have k3 := (KK.out u hu).2.2.2; go_simp <;> with_reducible rfl
  simp only [Act.put, List.setIfInBounds_toArray, List.set_cons_zero, List.set_cons_succ]
  refine takeU 1 (v := ?_) rfl (by kernel_rfl) (by kernel_rfl) (fun _ _ _ h => h) rfl (fun u hu => ?_) HB2.out ?_
  rotate_left
  · have k0 := (KK.out u hu).1; have k1 := (KK.out u hu).2.1; have k2 := (KK.out u hu).2.2.1; have k3 := (KK.out u hu).2.2.2; go_simp <;> with_reducible rfl
  simp only [Act.put, List.setIfInBounds_toArray, List.set_cons_zero, List.set_cons_succ]
  refine takeU 2 (v := ?_) rfl (by kernel_rfl) (by kernel_rfl) (fun _ _ _ h => h) rfl (fun u hu => ?_) HB2.out ?_
  rotate_left
  · have k0 := (KK.out u hu).1; have k1 := (KK.out u hu).2.1; have k2 := (KK.out u hu).2.2.1; have k3 := (KK.out u hu).2.2.2; go_simp <;> with_reducible rfl
  simp only [Act.put, List.setIfInBounds_toArray, List.set_cons_zero, List.set_cons_succ]
  refine takeU 3 (v := ?_) rfl (by kernel_rfl) (by kernel_rfl) (fun _ _ _ h => h) rfl (fun u hu => ?_) HB2.out ?_
  rotate_left
  · have k0 := (KK.out u hu).1; have k1 := (KK.out u hu).2.1; have k2 := (KK.out u hu).2.2.1; have k3 := (KK.out u hu).2.2.2; go_simp <;> with_reducible rfl
  simp only [Act.put, List.setIfInBounds_toArray, List.set_cons_zero, List.set_cons_succ]
  refine takeU 4 (v := ?_) rfl (by kernel_rfl) (by kernel_rfl) (fun _ _ _ h => h) rfl (fun u hu => ?_) HB2.out ?_
  rotate_left
  · have k0 := (KK.out u hu).1; have k1 := (KK.out u hu).2.1; have k2 := (KK.out u hu).2.2.1; have k3 := (KK.out u hu).2.2.2; go_simp <;> with_reducible rfl
  simp only [Act.put, List.setIfInBounds_toArray, List.set_cons_zero, List.set_cons_succ]
  refine takeU 6 (v := ?_) rfl (by kernel_rfl) (by kernel_rfl) (fun _ _ _ h => h) rfl (fun u hu => ?_) HB2.out ?_
  rotate_left
  · have k0 := (KK.out u hu).1; have k1 := (KK.out u hu).2.1; have k2 := (KK.out u hu).2.2.1; have k3 := (KK.out u hu).2.2.2; go_simp <;> with_reducible rfl
  simp only [Act.put, List.setIfInBounds_toArray, List.set_cons_zero, List.set_cons_succ]
  refine takeU 7 (v := ?_) rfl (by kernel_rfl) (by kernel_rfl) (fun _ _ _ h => h) rfl (fun u hu => ?_) HB2.out ?_
  rotate_left
  · have k0 := (KK.out u hu).1; have k1 := (KK.out u hu).2.1; have k2 := (KK.out u hu).2.2.1; have k3 := (KK.out u hu).2.2.2; go_simp <;> with_reducible rfl
  simp only [Act.put, List.setIfInBounds_toArray, List.set_cons_zero, List.set_cons_succ]
  refine takeU 8 (v := ?_) rfl (by kernel_rfl) (by kernel_rfl) (fun _ _ _ h => h) rfl (fun u hu => ?_) HB2.out ?_
  rotate_left
  · have k0 := (KK.out u hu).1; have k1 := (KK.out u hu).2.1; have k2 := (KK.out u hu).2.2.1; have k3 := (KK.out u hu).2.2.2; go_simp <;> with_reducible rfl
  simp only [Act.put, List.setIfInBounds_toArray, List.set_cons_zero, List.set_cons_succ]
  refine takeU 9 (v := ?_) rfl (by kernel_rfl) (by kernel_rfl) (fun _ _ _ h => h) rfl (fun u hu => ?_) HB2.out ?_
  rotate_left
  · have k0 := (KK.out u hu).1; have k1 := (KK.out u hu).2.1; have k2 := (KK.out u hu).2.2.1; have k3 := (KK.out u hu).2.2.2; go_simp <;> with_reducible rfl
  simp only [Act.put, List.setIfInBounds_toArray, List.set_cons_zero, List.set_cons_succ]
  refine takeU 10 (v := ?_) rfl (by kernel_rfl) (by kernel_rfl) (fun _ _ _ h => h) rfl (fun u hu => ?_) HB2.out ?_
  rotate_left
  · have k0 := (KK.out u hu).1; have k1 := (KK.out u hu).2.1; have k2 := (KK.out u hu).2.2.1; have k3 := (KK.out u hu).2.2.2; go_simp <;> with_reducible rfl
  simp only [Act.put, List.setIfInBounds_toArray, List.set_cons_zero, List.set_cons_succ]
  refine oneU 5 (by kernel_rfl) ?_
  refine callU 5 rfl (by kernel_rfl) rfl 12 _ _ rfl #[.pointer (some ⟨b, 0, none⟩), .int .i64 f, .string s] (by simp [Act.eval]) (enters_of Try.func12 (by kernel_rfl) rfl) (fun v w' => v = .int .i64 (D.writeX f s).2 ∧ Hid (IsDisk w' b g cap (D.writeX f s).1 ∧ Chg (fun k => k = b ∨ k = g) w2 w')) ((writeA HP.out HOK.out f s (by omega) HM.out).mono fun e w' ⟨h1, h2, h3⟩ => ⟨_, h1, rfl, h2, h3⟩) ?_
  rintro v3 w3 ⟨rfl, h3⟩
  have HS3 : Hid (w3.heap[bb]? = _) := chg_blk h3.out.2 (by have := HZ2.out; omega) (by rintro (e | e) <;> omega) HB2.out
  obtain ⟨g3, c3, hr3⟩ := H2.out.left h3.out.1 h3.out.2
  have HR3 := Lib.hid hr3
  have HCV3 := Lib.hid (HCV0.out.below (by have := hr3.below; rw [hr3.le] at this; exact this))
  have hz3 : bb < w3.heap.size := by have := h3.out.2.size; have := HZ2.out; omega
  clear hr3
  refine ⟨HS3.out, ?_⟩
  simp only [Act.put, List.setIfInBounds_toArray, List.set_cons_zero, List.set_cons_succ]
  refine oneU 11 (by kernel_rfl) ?_
  refine callU 11 rfl (by kernel_rfl) rfl 25 _ _ rfl #[.pointer (some ⟨r, 0, none⟩), .int .i64 f, .string s] (by simp [Act.eval]) (enters_of Try.func25 (by kernel_rfl) rfl) (fun v w' => v = .int .i64 (D.writeX f s).2 ∧ Hid ((∃ g' cap', IsR B w0 w' r g' cap' (D.writeX f s).1) ∧ Chg (fun k => k = r) w3 w')) ((rwriteA HR3.out HOK.out f s (by omega) HM.out).mono fun e w' ⟨h1, h2, h3⟩ => ⟨_, h1, rfl, h2, h3⟩) ?_
  rintro v4 w4 ⟨rfl, h4⟩
  have HS4 : Hid (w4.heap[bb]? = _) := chg_blk h4.out.2 hz3 (by intro e; omega) HS3.out
  refine ⟨HS4.out, ?_⟩
  simp only [Act.put, List.setIfInBounds_toArray, List.set_cons_zero, List.set_cons_succ]
  refine takeU 12 (v := ?_) rfl (by kernel_rfl) (by kernel_rfl) (fun _ _ _ h => h) rfl (fun u hu => ?_) HS4.out ?_
  rotate_left
  · skip; go_simp <;> with_reducible rfl
  simp only [Act.put, List.setIfInBounds_toArray, List.set_cons_zero, List.set_cons_succ]
  refine oneU 13 (by kernel_rfl) ?_
  refine endU (v := ?_) 13 rfl (by kernel_rfl) (by kernel_rfl) rfl ?_ ?_
  rotate_left
  · go_simp <;> with_reducible rfl
  simp only [Act.put, List.setIfInBounds_toArray, List.set_cons_zero, List.set_cons_succ]
  have R := Lib.hid (H2.out.both h3.out.1 h3.out.2 HR3.out h4.out.1 h4.out.2)
  clear h3 h4 HS3 HS4 HB2 HP HR3
  go_wp2_with fail
  go_ret
  exact ⟨rfl, R.out.1, (Chg.of_below (Of b g r) HBW2.out).trans R.out.2⟩
set_option maxRecDepth 100000 in
set_option maxHeartbeats 1600000 in
theorem plays1 (h : Duo B w0 w b g r D) (hok : DOk D) (on f n : Int) (s : ByteArray) (cv : Value) (css : List (List Int)) (hcv : Rss w0 cv css) (hbel : Below w0.heap.size w0 w) (hs : s.size ≤ 1048576) (hcl : css.length ≤ 1048576) (hcm : ∀ i, (css.getD i []).length ≤ 1048576) (hn : n ≤ 9223372036854775807)
    (hm : ∀ f, f < D.l.length → (D.l.getD f Fl.zero).ws.length < 1099511627776) :
    Calls Try.prog 10 #[.pointer (some ⟨b, 0, none⟩), .pointer (some ⟨r, 0, none⟩), .agg #[.int .i64 on, .int .i64 1, .int .i64 f, .int .i64 n, .string s, cv]] w fun e w' => e = .returned (.bool true) ∧ Duo B w0 w' b g r (D.syncX f).1 ∧ Chg (Of b g r) w w' := by
  obtain ⟨q, qc, rfl, _⟩ := id hcv
  obtain ⟨m, hmm⟩ : ∃ m, m = css.length := ⟨_, rfl⟩
  rw [← hmm] at hcv ⊢
  obtain ⟨W, hW⟩ : ∃ W, W = w.alloc (.cells #[.int .i64 on, .int .i64 1, .int .i64 f, .int .i64 n, .string s, .slice q m qc] 36) := ⟨_, rfl⟩
  have hbW : Below w.heap.size w W := by rw [hW]; exact (Below.refl _ _).alloc (Nat.le_refl _) _
  have hblk : W.heap[w.heap.size]? = some (.cells #[.int .i64 on, .int .i64 1, .int .i64 f, .int .i64 n, .string s, .slice q m qc] 36 (0, 0)) := by rw [hW]; exact heap_alloc_new w _
  have hlt := h.lt
  have H := Lib.hid (h.grow hbW)
  have HCV := Lib.hid (hcv.below (hbel.trans (hbW.mono hbel.size)))
  have HCV0 := Lib.hid hcv
  have HOK := Lib.hid hok
  have HM := Lib.hid hm
  have HCM := Lib.hid hcm
  have HBLK := Lib.hid hblk
  have HBW := Lib.hid hbW
  have HWZ : Hid (W.heap.size = w.heap.size + 1) := by unfold Hid; rw [hW]; simp
  have HW := Lib.hid hW
  obtain ⟨bb, hbb⟩ : ∃ bb, bb = w.heap.size := ⟨_, rfl⟩
  rw [← hbb] at hlt HBLK HWZ
  have KK : Hid (∀ u : World, u.heap[bb]? = some (.cells #[.int .i64 on, .int .i64 1, .int .i64 f, .int .i64 n, .string s, .slice q m qc] 36 (0, 0)) → u.cell? ⟨bb, 2, none⟩ = some (.int .i64 f) ∧ u.cell? ⟨bb, 3, none⟩ = some (.int .i64 n) ∧ u.cell? ⟨bb, 4, none⟩ = some (.string s) ∧ u.cell? ⟨bb, 5, none⟩ = some (.slice q m qc)) := fun u hu =>
    ⟨cell_of_row u bb 2 _ _ _ hu, cell_of_row u bb 3 _ _ _ hu, cell_of_row u bb 4 _ _ _ hu, cell_of_row u bb 5 _ _ _ hu⟩
  have HBB := Lib.hid hbb
  clear h hok hcv hmm hbW hblk hm hcm hW hbel hbb
  go_enter Try.func10, Try.ntmps10
  go_wp2_with fail
  rw [← HW.out, ← HBB.out]
  have HB2 : Hid (W.drew.heap[bb]? = some (.cells #[.int .i64 on, .int .i64 1, .int .i64 f, .int .i64 n, .string s, .slice q m qc] 36 (0, 0))) := HBLK.out
  refine wp_region_U 9 (fun u => u.heap[bb]? = some (.cells #[.int .i64 on, .int .i64 1, .int .i64 f, .int .i64 n, .string s, .slice q m qc] 36 (0, 0))) (by kernel_rfl) ?_
  change wpAnyU _ _ _ _ _ _ 10 (Array.replicate 10 false) _ _
  have H2 := Lib.hid (H.out.grow ((Below.refl W.heap.size W).drew))
  have HCV2 := Lib.hid (HCV.out.below ((Below.refl W.heap.size W).drew))
  have HBW2 := Lib.hid (HBW.out.trans ((Below.refl W.heap.size W).drew.mono HBW.out.size))
  have hz2 : W.drew.heap.size = bb + 1 := HWZ.out
  obtain ⟨w2, hw2⟩ : ∃ w2, w2 = W.drew := ⟨_, rfl⟩
  rw [← hw2]
  rw [← hw2] at HB2 H2 HCV2 HBW2 hz2
  have HZ2 := Lib.hid hz2
  clear hw2 hz2
  obtain ⟨cap, hp⟩ := H2.out.p
  have HP := Lib.hid hp
  clear hp
  refine takeU 0 (v := ?_) rfl (by kernel_rfl) (by kernel_rfl) (fun _ _ _ h => h) rfl (fun u hu => ?_) HB2.out ?_
  rotate_left
  · have k0 := (KK.out u hu).1; have k1 := (KK.out u hu).2.1; have k2 := (KK.out u hu).2.2.1; have k3 := (KK.out u hu).2.2.2; go_simp <;> with_reducible rfl
  simp only [Act.put, List.setIfInBounds_toArray, List.set_cons_zero, List.set_cons_succ]
  refine takeU 1 (v := ?_) rfl (by kernel_rfl) (by kernel_rfl) (fun _ _ _ h => h) rfl (fun u hu => ?_) HB2.out ?_
  rotate_left
  · have k0 := (KK.out u hu).1; have k1 := (KK.out u hu).2.1; have k2 := (KK.out u hu).2.2.1; have k3 := (KK.out u hu).2.2.2; go_simp <;> with_reducible rfl
  simp only [Act.put, List.setIfInBounds_toArray, List.set_cons_zero, List.set_cons_succ]
  refine takeU 2 (v := ?_) rfl (by kernel_rfl) (by kernel_rfl) (fun _ _ _ h => h) rfl (fun u hu => ?_) HB2.out ?_
  rotate_left
  · have k0 := (KK.out u hu).1; have k1 := (KK.out u hu).2.1; have k2 := (KK.out u hu).2.2.1; have k3 := (KK.out u hu).2.2.2; go_simp <;> with_reducible rfl
  simp only [Act.put, List.setIfInBounds_toArray, List.set_cons_zero, List.set_cons_succ]
  refine takeU 4 (v := ?_) rfl (by kernel_rfl) (by kernel_rfl) (fun _ _ _ h => h) rfl (fun u hu => ?_) HB2.out ?_
  rotate_left
  · have k0 := (KK.out u hu).1; have k1 := (KK.out u hu).2.1; have k2 := (KK.out u hu).2.2.1; have k3 := (KK.out u hu).2.2.2; go_simp <;> with_reducible rfl
  simp only [Act.put, List.setIfInBounds_toArray, List.set_cons_zero, List.set_cons_succ]
  refine takeU 5 (v := ?_) rfl (by kernel_rfl) (by kernel_rfl) (fun _ _ _ h => h) rfl (fun u hu => ?_) HB2.out ?_
  rotate_left
  · have k0 := (KK.out u hu).1; have k1 := (KK.out u hu).2.1; have k2 := (KK.out u hu).2.2.1; have k3 := (KK.out u hu).2.2.2; go_simp <;> with_reducible rfl
  simp only [Act.put, List.setIfInBounds_toArray, List.set_cons_zero, List.set_cons_succ]
  refine takeU 6 (v := ?_) rfl (by kernel_rfl) (by kernel_rfl) (fun _ _ _ h => h) rfl (fun u hu => ?_) HB2.out ?_
  rotate_left
  · have k0 := (KK.out u hu).1; have k1 := (KK.out u hu).2.1; have k2 := (KK.out u hu).2.2.1; have k3 := (KK.out u hu).2.2.2; go_simp <;> with_reducible rfl
  simp only [Act.put, List.setIfInBounds_toArray, List.set_cons_zero, List.set_cons_succ]
  refine oneU 3 (by kernel_rfl) ?_
  refine callU 3 rfl (by kernel_rfl) rfl 17 _ _ rfl #[.pointer (some ⟨b, 0, none⟩), .int .i64 f] (by simp [Act.eval]) (enters_of Try.func17 (by kernel_rfl) rfl) (fun v w' => v = .int .i64 (D.syncX f).2 ∧ Hid (IsDisk w' b g cap (D.syncX f).1 ∧ Chg (fun k => k = b ∨ k = g) w2 w')) ((syncA HP.out HOK.out f).mono fun e w' ⟨h1, h2, h3⟩ => ⟨_, h1, rfl, h2, h3⟩) ?_
  rintro v3 w3 ⟨rfl, h3⟩
  have HS3 : Hid (w3.heap[bb]? = _) := chg_blk h3.out.2 (by have := HZ2.out; omega) (by rintro (e | e) <;> omega) HB2.out
  obtain ⟨g3, c3, hr3⟩ := H2.out.left h3.out.1 h3.out.2
  have HR3 := Lib.hid hr3
  have HCV3 := Lib.hid (HCV0.out.below (by have := hr3.below; rw [hr3.le] at this; exact this))
  have hz3 : bb < w3.heap.size := by have := h3.out.2.size; have := HZ2.out; omega
  clear hr3
  refine ⟨HS3.out, ?_⟩
  simp only [Act.put, List.setIfInBounds_toArray, List.set_cons_zero, List.set_cons_succ]
  refine oneU 7 (by kernel_rfl) ?_
  refine callU 7 rfl (by kernel_rfl) rfl 26 _ _ rfl #[.pointer (some ⟨r, 0, none⟩), .int .i64 f] (by simp [Act.eval]) (enters_of Try.func26 (by kernel_rfl) rfl) (fun v w' => v = .int .i64 (D.syncX f).2 ∧ Hid ((∃ g' cap', IsR B w0 w' r g' cap' (D.syncX f).1) ∧ Chg (fun k => k = r) w3 w')) ((rsyncA HR3.out HOK.out f).mono fun e w' ⟨h1, h2, h3⟩ => ⟨_, h1, rfl, h2, h3⟩) ?_
  rintro v4 w4 ⟨rfl, h4⟩
  have HS4 : Hid (w4.heap[bb]? = _) := chg_blk h4.out.2 hz3 (by intro e; omega) HS3.out
  refine ⟨HS4.out, ?_⟩
  simp only [Act.put, List.setIfInBounds_toArray, List.set_cons_zero, List.set_cons_succ]
  refine takeU 8 (v := ?_) rfl (by kernel_rfl) (by kernel_rfl) (fun _ _ _ h => h) rfl (fun u hu => ?_) HS4.out ?_
  rotate_left
  · skip; go_simp <;> with_reducible rfl
  simp only [Act.put, List.setIfInBounds_toArray, List.set_cons_zero, List.set_cons_succ]
  refine oneU 9 (by kernel_rfl) ?_
  refine endU (v := ?_) 9 rfl (by kernel_rfl) (by kernel_rfl) rfl ?_ ?_
  rotate_left
  · go_simp <;> with_reducible rfl
  simp only [Act.put, List.setIfInBounds_toArray, List.set_cons_zero, List.set_cons_succ]
  have R := Lib.hid (H2.out.both h3.out.1 h3.out.2 HR3.out h4.out.1 h4.out.2)
  clear h3 h4 HS3 HS4 HB2 HP HR3
  go_wp2_with fail
  go_ret
  exact ⟨rfl, R.out.1, (Chg.of_below (Of b g r) HBW2.out).trans R.out.2⟩
set_option maxRecDepth 100000 in
set_option maxHeartbeats 1600000 in
theorem plays2 (h : Duo B w0 w b g r D) (hok : DOk D) (on f n : Int) (s : ByteArray) (cv : Value) (css : List (List Int)) (hcv : Rss w0 cv css) (hbel : Below w0.heap.size w0 w) (hs : s.size ≤ 1048576) (hcl : css.length ≤ 1048576) (hcm : ∀ i, (css.getD i []).length ≤ 1048576) (hn : n ≤ 9223372036854775807)
    (hm : ∀ f, f < D.l.length → (D.l.getD f Fl.zero).ws.length < 1099511627776) :
    Calls Try.prog 10 #[.pointer (some ⟨b, 0, none⟩), .pointer (some ⟨r, 0, none⟩), .agg #[.int .i64 on, .int .i64 2, .int .i64 f, .int .i64 n, .string s, cv]] w fun e w' => e = .returned (.bool true) ∧ Duo B w0 w' b g r (D.cutX f n).1 ∧ Chg (Of b g r) w w' := by
  obtain ⟨q, qc, rfl, _⟩ := id hcv
  obtain ⟨m, hmm⟩ : ∃ m, m = css.length := ⟨_, rfl⟩
  rw [← hmm] at hcv ⊢
  obtain ⟨W, hW⟩ : ∃ W, W = w.alloc (.cells #[.int .i64 on, .int .i64 2, .int .i64 f, .int .i64 n, .string s, .slice q m qc] 36) := ⟨_, rfl⟩
  have hbW : Below w.heap.size w W := by rw [hW]; exact (Below.refl _ _).alloc (Nat.le_refl _) _
  have hblk : W.heap[w.heap.size]? = some (.cells #[.int .i64 on, .int .i64 2, .int .i64 f, .int .i64 n, .string s, .slice q m qc] 36 (0, 0)) := by rw [hW]; exact heap_alloc_new w _
  have hlt := h.lt
  have H := Lib.hid (h.grow hbW)
  have HCV := Lib.hid (hcv.below (hbel.trans (hbW.mono hbel.size)))
  have HCV0 := Lib.hid hcv
  have HOK := Lib.hid hok
  have HM := Lib.hid hm
  have HCM := Lib.hid hcm
  have HBLK := Lib.hid hblk
  have HBW := Lib.hid hbW
  have HWZ : Hid (W.heap.size = w.heap.size + 1) := by unfold Hid; rw [hW]; simp
  have HW := Lib.hid hW
  obtain ⟨bb, hbb⟩ : ∃ bb, bb = w.heap.size := ⟨_, rfl⟩
  rw [← hbb] at hlt HBLK HWZ
  have KK : Hid (∀ u : World, u.heap[bb]? = some (.cells #[.int .i64 on, .int .i64 2, .int .i64 f, .int .i64 n, .string s, .slice q m qc] 36 (0, 0)) → u.cell? ⟨bb, 2, none⟩ = some (.int .i64 f) ∧ u.cell? ⟨bb, 3, none⟩ = some (.int .i64 n) ∧ u.cell? ⟨bb, 4, none⟩ = some (.string s) ∧ u.cell? ⟨bb, 5, none⟩ = some (.slice q m qc)) := fun u hu =>
    ⟨cell_of_row u bb 2 _ _ _ hu, cell_of_row u bb 3 _ _ _ hu, cell_of_row u bb 4 _ _ _ hu, cell_of_row u bb 5 _ _ _ hu⟩
  have HBB := Lib.hid hbb
  clear h hok hcv hmm hbW hblk hm hcm hW hbel hbb
  go_enter Try.func10, Try.ntmps10
  go_wp2_with fail
  rw [← HW.out, ← HBB.out]
  have HB2 : Hid (W.drew.heap[bb]? = some (.cells #[.int .i64 on, .int .i64 2, .int .i64 f, .int .i64 n, .string s, .slice q m qc] 36 (0, 0))) := HBLK.out
  refine wp_region_U 13 (fun u => u.heap[bb]? = some (.cells #[.int .i64 on, .int .i64 2, .int .i64 f, .int .i64 n, .string s, .slice q m qc] 36 (0, 0))) (by kernel_rfl) ?_
  change wpAnyU _ _ _ _ _ _ 14 (Array.replicate 14 false) _ _
  have H2 := Lib.hid (H.out.grow ((Below.refl W.heap.size W).drew))
  have HCV2 := Lib.hid (HCV.out.below ((Below.refl W.heap.size W).drew))
  have HBW2 := Lib.hid (HBW.out.trans ((Below.refl W.heap.size W).drew.mono HBW.out.size))
  have hz2 : W.drew.heap.size = bb + 1 := HWZ.out
  obtain ⟨w2, hw2⟩ : ∃ w2, w2 = W.drew := ⟨_, rfl⟩
  rw [← hw2]
  rw [← hw2] at HB2 H2 HCV2 HBW2 hz2
  have HZ2 := Lib.hid hz2
  clear hw2 hz2
  obtain ⟨cap, hp⟩ := H2.out.p
  have HP := Lib.hid hp
  clear hp
  refine takeU 0 (v := ?_) rfl (by kernel_rfl) (by kernel_rfl) (fun _ _ _ h => h) rfl (fun u hu => ?_) HB2.out ?_
  rotate_left
  · have k0 := (KK.out u hu).1; have k1 := (KK.out u hu).2.1; have k2 := (KK.out u hu).2.2.1; have k3 := (KK.out u hu).2.2.2; go_simp <;> with_reducible rfl
  simp only [Act.put, List.setIfInBounds_toArray, List.set_cons_zero, List.set_cons_succ]
  refine takeU 1 (v := ?_) rfl (by kernel_rfl) (by kernel_rfl) (fun _ _ _ h => h) rfl (fun u hu => ?_) HB2.out ?_
  rotate_left
  · have k0 := (KK.out u hu).1; have k1 := (KK.out u hu).2.1; have k2 := (KK.out u hu).2.2.1; have k3 := (KK.out u hu).2.2.2; go_simp <;> with_reducible rfl
  simp only [Act.put, List.setIfInBounds_toArray, List.set_cons_zero, List.set_cons_succ]
  refine takeU 2 (v := ?_) rfl (by kernel_rfl) (by kernel_rfl) (fun _ _ _ h => h) rfl (fun u hu => ?_) HB2.out ?_
  rotate_left
  · have k0 := (KK.out u hu).1; have k1 := (KK.out u hu).2.1; have k2 := (KK.out u hu).2.2.1; have k3 := (KK.out u hu).2.2.2; go_simp <;> with_reducible rfl
  simp only [Act.put, List.setIfInBounds_toArray, List.set_cons_zero, List.set_cons_succ]
  refine takeU 3 (v := ?_) rfl (by kernel_rfl) (by kernel_rfl) (fun _ _ _ h => h) rfl (fun u hu => ?_) HB2.out ?_
  rotate_left
  · have k0 := (KK.out u hu).1; have k1 := (KK.out u hu).2.1; have k2 := (KK.out u hu).2.2.1; have k3 := (KK.out u hu).2.2.2; go_simp <;> with_reducible rfl
  simp only [Act.put, List.setIfInBounds_toArray, List.set_cons_zero, List.set_cons_succ]
  refine takeU 4 (v := ?_) rfl (by kernel_rfl) (by kernel_rfl) (fun _ _ _ h => h) rfl (fun u hu => ?_) HB2.out ?_
  rotate_left
  · have k0 := (KK.out u hu).1; have k1 := (KK.out u hu).2.1; have k2 := (KK.out u hu).2.2.1; have k3 := (KK.out u hu).2.2.2; go_simp <;> with_reducible rfl
  simp only [Act.put, List.setIfInBounds_toArray, List.set_cons_zero, List.set_cons_succ]
  refine takeU 6 (v := ?_) rfl (by kernel_rfl) (by kernel_rfl) (fun _ _ _ h => h) rfl (fun u hu => ?_) HB2.out ?_
  rotate_left
  · have k0 := (KK.out u hu).1; have k1 := (KK.out u hu).2.1; have k2 := (KK.out u hu).2.2.1; have k3 := (KK.out u hu).2.2.2; go_simp <;> with_reducible rfl
  simp only [Act.put, List.setIfInBounds_toArray, List.set_cons_zero, List.set_cons_succ]
  refine takeU 7 (v := ?_) rfl (by kernel_rfl) (by kernel_rfl) (fun _ _ _ h => h) rfl (fun u hu => ?_) HB2.out ?_
  rotate_left
  · have k0 := (KK.out u hu).1; have k1 := (KK.out u hu).2.1; have k2 := (KK.out u hu).2.2.1; have k3 := (KK.out u hu).2.2.2; go_simp <;> with_reducible rfl
  simp only [Act.put, List.setIfInBounds_toArray, List.set_cons_zero, List.set_cons_succ]
  refine takeU 8 (v := ?_) rfl (by kernel_rfl) (by kernel_rfl) (fun _ _ _ h => h) rfl (fun u hu => ?_) HB2.out ?_
  rotate_left
  · have k0 := (KK.out u hu).1; have k1 := (KK.out u hu).2.1; have k2 := (KK.out u hu).2.2.1; have k3 := (KK.out u hu).2.2.2; go_simp <;> with_reducible rfl
  simp only [Act.put, List.setIfInBounds_toArray, List.set_cons_zero, List.set_cons_succ]
  refine takeU 9 (v := ?_) rfl (by kernel_rfl) (by kernel_rfl) (fun _ _ _ h => h) rfl (fun u hu => ?_) HB2.out ?_
  rotate_left
  · have k0 := (KK.out u hu).1; have k1 := (KK.out u hu).2.1; have k2 := (KK.out u hu).2.2.1; have k3 := (KK.out u hu).2.2.2; go_simp <;> with_reducible rfl
  simp only [Act.put, List.setIfInBounds_toArray, List.set_cons_zero, List.set_cons_succ]
  refine takeU 10 (v := ?_) rfl (by kernel_rfl) (by kernel_rfl) (fun _ _ _ h => h) rfl (fun u hu => ?_) HB2.out ?_
  rotate_left
  · have k0 := (KK.out u hu).1; have k1 := (KK.out u hu).2.1; have k2 := (KK.out u hu).2.2.1; have k3 := (KK.out u hu).2.2.2; go_simp <;> with_reducible rfl
  simp only [Act.put, List.setIfInBounds_toArray, List.set_cons_zero, List.set_cons_succ]
  refine oneU 5 (by kernel_rfl) ?_
  refine callU 5 rfl (by kernel_rfl) rfl 15 _ _ rfl #[.pointer (some ⟨b, 0, none⟩), .int .i64 f, .int .i64 n] (by simp [Act.eval]) (enters_of Try.func15 (by kernel_rfl) rfl) (fun v w' => v = .int .i64 (D.cutX f n).2 ∧ Hid (IsDisk w' b g cap (D.cutX f n).1 ∧ Chg (fun k => k = b ∨ k = g) w2 w')) ((cutA HP.out HOK.out f n).mono fun e w' ⟨h1, h2, h3⟩ => ⟨_, h1, rfl, h2, h3⟩) ?_
  rintro v3 w3 ⟨rfl, h3⟩
  have HS3 : Hid (w3.heap[bb]? = _) := chg_blk h3.out.2 (by have := HZ2.out; omega) (by rintro (e | e) <;> omega) HB2.out
  obtain ⟨g3, c3, hr3⟩ := H2.out.left h3.out.1 h3.out.2
  have HR3 := Lib.hid hr3
  have HCV3 := Lib.hid (HCV0.out.below (by have := hr3.below; rw [hr3.le] at this; exact this))
  have hz3 : bb < w3.heap.size := by have := h3.out.2.size; have := HZ2.out; omega
  clear hr3
  refine ⟨HS3.out, ?_⟩
  simp only [Act.put, List.setIfInBounds_toArray, List.set_cons_zero, List.set_cons_succ]
  refine oneU 11 (by kernel_rfl) ?_
  refine callU 11 rfl (by kernel_rfl) rfl 27 _ _ rfl #[.pointer (some ⟨r, 0, none⟩), .int .i64 f, .int .i64 n] (by simp [Act.eval]) (enters_of Try.func27 (by kernel_rfl) rfl) (fun v w' => v = .int .i64 (D.cutX f n).2 ∧ Hid ((∃ g' cap', IsR B w0 w' r g' cap' (D.cutX f n).1) ∧ Chg (fun k => k = r) w3 w')) ((rcutA HR3.out HOK.out f n).mono fun e w' ⟨h1, h2, h3⟩ => ⟨_, h1, rfl, h2, h3⟩) ?_
  rintro v4 w4 ⟨rfl, h4⟩
  have HS4 : Hid (w4.heap[bb]? = _) := chg_blk h4.out.2 hz3 (by intro e; omega) HS3.out
  refine ⟨HS4.out, ?_⟩
  simp only [Act.put, List.setIfInBounds_toArray, List.set_cons_zero, List.set_cons_succ]
  refine takeU 12 (v := ?_) rfl (by kernel_rfl) (by kernel_rfl) (fun _ _ _ h => h) rfl (fun u hu => ?_) HS4.out ?_
  rotate_left
  · skip; go_simp <;> with_reducible rfl
  simp only [Act.put, List.setIfInBounds_toArray, List.set_cons_zero, List.set_cons_succ]
  refine oneU 13 (by kernel_rfl) ?_
  refine endU (v := ?_) 13 rfl (by kernel_rfl) (by kernel_rfl) rfl ?_ ?_
  rotate_left
  · go_simp <;> with_reducible rfl
  simp only [Act.put, List.setIfInBounds_toArray, List.set_cons_zero, List.set_cons_succ]
  have R := Lib.hid (H2.out.both h3.out.1 h3.out.2 HR3.out h4.out.1 h4.out.2)
  clear h3 h4 HS3 HS4 HB2 HP HR3
  go_wp2_with fail
  go_ret
  exact ⟨rfl, R.out.1, (Chg.of_below (Of b g r) HBW2.out).trans R.out.2⟩
set_option maxRecDepth 100000 in
set_option maxHeartbeats 1600000 in
theorem plays5 (h : Duo B w0 w b g r D) (hok : DOk D) (on f n : Int) (s : ByteArray) (cv : Value) (css : List (List Int)) (hcv : Rss w0 cv css) (hbel : Below w0.heap.size w0 w) (hs : s.size ≤ 1048576) (hcl : css.length ≤ 1048576) (hcm : ∀ i, (css.getD i []).length ≤ 1048576) (hn : n ≤ 9223372036854775807)
    (hm : ∀ f, f < D.l.length → (D.l.getD f Fl.zero).ws.length < 1099511627776) :
    Calls Try.prog 10 #[.pointer (some ⟨b, 0, none⟩), .pointer (some ⟨r, 0, none⟩), .agg #[.int .i64 on, .int .i64 5, .int .i64 f, .int .i64 n, .string s, cv]] w fun e w' => e = .returned (.bool true) ∧ Duo B w0 w' b g r (D.crashX css).1 ∧ Chg (Of b g r) w w' := by
  obtain ⟨q, qc, rfl, _⟩ := id hcv
  obtain ⟨m, hmm⟩ : ∃ m, m = css.length := ⟨_, rfl⟩
  rw [← hmm] at hcv ⊢
  obtain ⟨W, hW⟩ : ∃ W, W = w.alloc (.cells #[.int .i64 on, .int .i64 5, .int .i64 f, .int .i64 n, .string s, .slice q m qc] 36) := ⟨_, rfl⟩
  have hbW : Below w.heap.size w W := by rw [hW]; exact (Below.refl _ _).alloc (Nat.le_refl _) _
  have hblk : W.heap[w.heap.size]? = some (.cells #[.int .i64 on, .int .i64 5, .int .i64 f, .int .i64 n, .string s, .slice q m qc] 36 (0, 0)) := by rw [hW]; exact heap_alloc_new w _
  have hlt := h.lt
  have H := Lib.hid (h.grow hbW)
  have HCV := Lib.hid (hcv.below (hbel.trans (hbW.mono hbel.size)))
  have HCV0 := Lib.hid hcv
  have HOK := Lib.hid hok
  have HM := Lib.hid hm
  have HCM := Lib.hid hcm
  have HBLK := Lib.hid hblk
  have HBW := Lib.hid hbW
  have HWZ : Hid (W.heap.size = w.heap.size + 1) := by unfold Hid; rw [hW]; simp
  have HW := Lib.hid hW
  obtain ⟨bb, hbb⟩ : ∃ bb, bb = w.heap.size := ⟨_, rfl⟩
  rw [← hbb] at hlt HBLK HWZ
  have KK : Hid (∀ u : World, u.heap[bb]? = some (.cells #[.int .i64 on, .int .i64 5, .int .i64 f, .int .i64 n, .string s, .slice q m qc] 36 (0, 0)) → u.cell? ⟨bb, 2, none⟩ = some (.int .i64 f) ∧ u.cell? ⟨bb, 3, none⟩ = some (.int .i64 n) ∧ u.cell? ⟨bb, 4, none⟩ = some (.string s) ∧ u.cell? ⟨bb, 5, none⟩ = some (.slice q m qc)) := fun u hu =>
    ⟨cell_of_row u bb 2 _ _ _ hu, cell_of_row u bb 3 _ _ _ hu, cell_of_row u bb 4 _ _ _ hu, cell_of_row u bb 5 _ _ _ hu⟩
  have HBB := Lib.hid hbb
  clear h hok hcv hmm hbW hblk hm hcm hW hbel hbb
  go_enter Try.func10, Try.ntmps10
  go_wp2_with fail
  rw [← HW.out, ← HBB.out]
  have HB2 : Hid (W.drew.heap[bb]? = some (.cells #[.int .i64 on, .int .i64 5, .int .i64 f, .int .i64 n, .string s, .slice q m qc] 36 (0, 0))) := HBLK.out
  refine wp_region_U 9 (fun u => u.heap[bb]? = some (.cells #[.int .i64 on, .int .i64 5, .int .i64 f, .int .i64 n, .string s, .slice q m qc] 36 (0, 0))) (by kernel_rfl) ?_
  change wpAnyU _ _ _ _ _ _ 10 (Array.replicate 10 false) _ _
  have H2 := Lib.hid (H.out.grow ((Below.refl W.heap.size W).drew))
  have HCV2 := Lib.hid (HCV.out.below ((Below.refl W.heap.size W).drew))
  have HBW2 := Lib.hid (HBW.out.trans ((Below.refl W.heap.size W).drew.mono HBW.out.size))
  have hz2 : W.drew.heap.size = bb + 1 := HWZ.out
  obtain ⟨w2, hw2⟩ : ∃ w2, w2 = W.drew := ⟨_, rfl⟩
  rw [← hw2]
  rw [← hw2] at HB2 H2 HCV2 HBW2 hz2
  have HZ2 := Lib.hid hz2
  clear hw2 hz2
  obtain ⟨cap, hp⟩ := H2.out.p
  have HP := Lib.hid hp
  clear hp
  refine takeU 0 (v := ?_) rfl (by kernel_rfl) (by kernel_rfl) (fun _ _ _ h => h) rfl (fun u hu => ?_) HB2.out ?_
  rotate_left
  · have k0 := (KK.out u hu).1; have k1 := (KK.out u hu).2.1; have k2 := (KK.out u hu).2.2.1; have k3 := (KK.out u hu).2.2.2; go_simp <;> with_reducible rfl
  simp only [Act.put, List.setIfInBounds_toArray, List.set_cons_zero, List.set_cons_succ]
  refine takeU 1 (v := ?_) rfl (by kernel_rfl) (by kernel_rfl) (fun _ _ _ h => h) rfl (fun u hu => ?_) HB2.out ?_
  rotate_left
  · have k0 := (KK.out u hu).1; have k1 := (KK.out u hu).2.1; have k2 := (KK.out u hu).2.2.1; have k3 := (KK.out u hu).2.2.2; go_simp <;> with_reducible rfl
  simp only [Act.put, List.setIfInBounds_toArray, List.set_cons_zero, List.set_cons_succ]
  refine takeU 2 (v := ?_) rfl (by kernel_rfl) (by kernel_rfl) (fun _ _ _ h => h) rfl (fun u hu => ?_) HB2.out ?_
  rotate_left
  · have k0 := (KK.out u hu).1; have k1 := (KK.out u hu).2.1; have k2 := (KK.out u hu).2.2.1; have k3 := (KK.out u hu).2.2.2; go_simp <;> with_reducible rfl
  simp only [Act.put, List.setIfInBounds_toArray, List.set_cons_zero, List.set_cons_succ]
  refine takeU 4 (v := ?_) rfl (by kernel_rfl) (by kernel_rfl) (fun _ _ _ h => h) rfl (fun u hu => ?_) HB2.out ?_
  rotate_left
  · have k0 := (KK.out u hu).1; have k1 := (KK.out u hu).2.1; have k2 := (KK.out u hu).2.2.1; have k3 := (KK.out u hu).2.2.2; go_simp <;> with_reducible rfl
  simp only [Act.put, List.setIfInBounds_toArray, List.set_cons_zero, List.set_cons_succ]
  refine takeU 5 (v := ?_) rfl (by kernel_rfl) (by kernel_rfl) (fun _ _ _ h => h) rfl (fun u hu => ?_) HB2.out ?_
  rotate_left
  · have k0 := (KK.out u hu).1; have k1 := (KK.out u hu).2.1; have k2 := (KK.out u hu).2.2.1; have k3 := (KK.out u hu).2.2.2; go_simp <;> with_reducible rfl
  simp only [Act.put, List.setIfInBounds_toArray, List.set_cons_zero, List.set_cons_succ]
  refine takeU 6 (v := ?_) rfl (by kernel_rfl) (by kernel_rfl) (fun _ _ _ h => h) rfl (fun u hu => ?_) HB2.out ?_
  rotate_left
  · have k0 := (KK.out u hu).1; have k1 := (KK.out u hu).2.1; have k2 := (KK.out u hu).2.2.1; have k3 := (KK.out u hu).2.2.2; go_simp <;> with_reducible rfl
  simp only [Act.put, List.setIfInBounds_toArray, List.set_cons_zero, List.set_cons_succ]
  refine oneU 3 (by kernel_rfl) ?_
  refine callU 3 rfl (by kernel_rfl) rfl 18 _ _ rfl #[.pointer (some ⟨b, 0, none⟩), .slice q m qc] (by simp [Act.eval]) (enters_of Try.func18 (by kernel_rfl) rfl) (fun v w' => v = .int .i64 (D.crashX css).2 ∧ Hid (IsDisk w' b g cap (D.crashX css).1 ∧ Chg (fun k => k = b ∨ k = g) w2 w')) ((crashA HP.out HOK.out _ css HCV2.out (fun i => by have := HCM.out i; omega)).mono fun e w' ⟨h1, h2, h3⟩ => ⟨_, h1, rfl, h2, h3⟩) ?_
  rintro v3 w3 ⟨rfl, h3⟩
  have HS3 : Hid (w3.heap[bb]? = _) := chg_blk h3.out.2 (by have := HZ2.out; omega) (by rintro (e | e) <;> omega) HB2.out
  obtain ⟨g3, c3, hr3⟩ := H2.out.left h3.out.1 h3.out.2
  have HR3 := Lib.hid hr3
  have HCV3 := Lib.hid (HCV0.out.below (by have := hr3.below; rw [hr3.le] at this; exact this))
  have hz3 : bb < w3.heap.size := by have := h3.out.2.size; have := HZ2.out; omega
  clear hr3
  refine ⟨HS3.out, ?_⟩
  simp only [Act.put, List.setIfInBounds_toArray, List.set_cons_zero, List.set_cons_succ]
  refine oneU 7 (by kernel_rfl) ?_
  refine callU 7 rfl (by kernel_rfl) rfl 31 _ _ rfl #[.pointer (some ⟨r, 0, none⟩), .slice q m qc] (by simp [Act.eval]) (enters_of Try.func31 (by kernel_rfl) rfl) (fun v w' => v = .int .i64 (D.crashX css).2 ∧ Hid ((∃ g' cap', IsR B w0 w' r g' cap' (D.crashX css).1) ∧ Chg (fun k => k = r) w3 w')) ((rcrashA HR3.out HOK.out _ css HCV3.out (fun i => by have := HCM.out i; omega)).mono fun e w' ⟨h1, h2, h3⟩ => ⟨_, h1, rfl, h2, h3⟩) ?_
  rintro v4 w4 ⟨rfl, h4⟩
  have HS4 : Hid (w4.heap[bb]? = _) := chg_blk h4.out.2 hz3 (by intro e; omega) HS3.out
  refine ⟨HS4.out, ?_⟩
  simp only [Act.put, List.setIfInBounds_toArray, List.set_cons_zero, List.set_cons_succ]
  refine takeU 8 (v := ?_) rfl (by kernel_rfl) (by kernel_rfl) (fun _ _ _ h => h) rfl (fun u hu => ?_) HS4.out ?_
  rotate_left
  · skip; go_simp <;> with_reducible rfl
  simp only [Act.put, List.setIfInBounds_toArray, List.set_cons_zero, List.set_cons_succ]
  refine oneU 9 (by kernel_rfl) ?_
  refine endU (v := ?_) 9 rfl (by kernel_rfl) (by kernel_rfl) rfl ?_ ?_
  rotate_left
  · go_simp <;> with_reducible rfl
  simp only [Act.put, List.setIfInBounds_toArray, List.set_cons_zero, List.set_cons_succ]
  have R := Lib.hid (H2.out.both h3.out.1 h3.out.2 HR3.out h4.out.1 h4.out.2)
  clear h3 h4 HS3 HS4 HB2 HP HR3
  go_wp2_with fail
  go_ret
  exact ⟨rfl, R.out.1, (Chg.of_below (Of b g r) HBW2.out).trans R.out.2⟩
end
end Go.Proofs.Ytennhmnmoamleaa
