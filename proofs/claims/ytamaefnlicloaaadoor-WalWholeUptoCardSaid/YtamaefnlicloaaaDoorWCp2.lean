/- The log's Checkpoint where the disk lives: the whole call. -/
import Derived.Test.YtamaefnlicloaaaDoorWCp
namespace Go.Proofs.YtamaefnlicloaaaDoor
set_option linter.unusedVariables false
set_option maxRecDepth 100000
open Go.RowKit
def four (D1 D2 D3 D4 : Dk) : Nat → Dk
  | 0 => D1
  | 1 => D2
  | 2 => D3
  | _ => D4
section
variable {S : Nat → Prop} {w w' : World} {lb b g cap : Nat} {L : Lg} {D : Dk}
set_option maxHeartbeats 800000 in
theorem checkpointLong (h : IsLog w lb b L) (s : ByteArray) (hdl : L.dead = false) (hs : 16384 < s.size) :
    Calls Tryd.prog 25 #[.pointer (some ⟨lb, 0, none⟩), .string s] w fun e w' => e = .returned (.int .i64 171) ∧ Below w.heap.size w w' := by
  have c5 := h.c5
  have hlt := h.lt
  rw [hdl] at c5
  clear h hdl
  go_enter Tryd.func25, Tryd.ntmps25
  go_wp2_with fail
  go_ret
  exact ⟨rfl, (Below.refl _ _).alloc (Nat.le_refl _) _⟩
set_option maxHeartbeats 3200000 in
theorem checkpointOk (h : IsLog w lb b L) (hd : IsDisk w b g cap D) (hok : DOk D) (s : ByteArray) (hdl : L.dead = false) (hs : s.size ≤ 16384) (hg : L.gen < 1099511627776) (hf : L.first ≤ 1048576) (hcn : L.counts ≤ 1048576)
    (hm : ∀ f, f < D.l.length → (D.l.getD f Fl.zero).ws.length < 1099511627776) (o : Nat) (ho : 2 * (L.first : Int) + 1 - (L.counts : Int) = (o : Nat)) (D1 D2 D3 D4 : Dk)
    (e1 : D.writeX (o : Nat) (recS (L.gen + 1) s) = (D1, 0)) (e2 : D1.syncX (o : Nat) = (D2, 0)) (e3 : D2.syncX (L.counts : Nat) = (D3, 0)) (e4 : D3.cutX (L.counts : Nat) 0 = (D4, 0)) (k1 : DOk D1) (k2 : DOk D2) (k3 : DOk D3) :
    Calls Tryd.prog 25 #[.pointer (some ⟨lb, 0, none⟩), .string s] w fun e w' => e = .returned (.int .i64 0) ∧ IsLog w' lb b { L with counts := o, gen := L.gen + 1, n := 0 } ∧ IsDisk w' b g cap D4 ∧ Chg (fun k => k = lb ∨ k = b ∨ k = g) w w' := by
  obtain ⟨bx, hbx⟩ : ∃ bx, bx = w.heap.size := ⟨_, rfl⟩
  obtain ⟨W0, hW0⟩ : ∃ W, W = w.alloc (.cells #[.pointer (some ⟨lb, 0, none⟩)] 36) := ⟨_, rfl⟩
  have hb0 : Below w.heap.size w W0 := by rw [hW0]; exact (Below.refl _ _).alloc (Nat.le_refl _) _
  have hl0 := h.below hb0
  have hd0 := hd.below hb0
  have hx0 : BoxAt W0 bx lb := by unfold BoxAt; rw [hW0, hbx]; simp
  have hbz : bx < W0.heap.size := by rw [hW0, hbx]; simp
  have hlt := h.lt
  have hdlt := hd.lt
  have hglt := hd.fs.lt
  have HNE := Lib.hid (h.ne hd)
  have HBX : Hid (bx ≠ lb ∧ bx ≠ b ∧ bx ≠ g) := by unfold Hid; rw [hbx]; omega
  have c5 := h.c5
  have c3 := h.c3
  rw [hdl] at c5
  have HL0 := Lib.hid hl0
  have HX0 := Lib.hid hx0
  have HD0 := Lib.hid hd0
  have HB0 := Lib.hid hb0
  have HLT := Lib.hid hlt
  have HBZ := Lib.hid hbz
  have HW := Lib.hid (fun (w1 : World) (hb : Below W0.heap.size W0 w1) => writeLOk (hl0.below hb) (hd0.below hb) hok o (L.gen + 1) s (by omega) (by omega) hs hm (by rw [e1]))
  rw [e1] at HW
  have K1 := Lib.hid (fun (wr : World) (hl : IsLog wr lb b L) (hx : BoxAt wr bx lb) (hz : bx < wr.heap.size) (hd : IsDisk wr b g cap D1) => cp1W hl hx ⟨HBX.out.2.1, HBX.out.2.2, hz⟩ hd k1 hf hcn (by rw [ho, e2]))
  rw [ho, e2] at K1
  have K2 := Lib.hid (fun (wr : World) (hl : IsLog wr lb b L) (hx : BoxAt wr bx lb) (hz : bx < wr.heap.size) (hd : IsDisk wr b g cap D2) => cp2W hl hx ⟨HBX.out.2.1, HBX.out.2.2, hz⟩ hd k2 hf hcn (by rw [e3]))
  rw [e3] at K2
  have K3 := Lib.hid (fun (wr : World) (hl : IsLog wr lb b L) (hx : BoxAt wr bx lb) (hz : bx < wr.heap.size) (hd : IsDisk wr b g cap D3) => cp3W hl hx ⟨HBX.out.2.1, HBX.out.2.2, hz⟩ hd k3 hf hcn (by rw [e4]))
  rw [e4] at K3
  have HO := Lib.hid (fun (wr : World) (hl : IsLog wr lb b L) => otherW hl hf hcn)
  rw [ho] at HO
  have HW0 := Lib.hid hW0
  have HBXE := Lib.hid hbx
  have HG := Lib.hid hg
  have hgi : ¬ (1099511627776 : Int) ≤ (L.gen : Int) := by omega
  clear hg
  clear hbx h hd hok hdl hl0 hd0 hx0 hbz hb0 e1 e2 e3 e4 k1 k2 k3 hm ho hdlt hglt hf hcn hW0
  go_enter Tryd.func25, Tryd.ntmps25
  go_wp2_with fail
  rw [← HW0.out, ← HBXE.out]
  have c3' := 0
  clear c3' c3 c5
  refine wp_region_U 10 (fun u => u.cell? ⟨bx, 0, none⟩ = some (.pointer (some ⟨lb, 0, none⟩)) ∧ u.cell? ⟨lb, 3, none⟩ = some (.int .i64 (L.gen : Nat))) (by kernel_rfl) ?_
  change wpAnyU _ _ _ _ _ _ 11 (Array.replicate 11 false) _ _
  obtain ⟨w2, hw2⟩ : ∃ w2, w2 = W0.drew := ⟨_, rfl⟩
  rw [← hw2]
  have HL2 : Hid (IsLog w2 lb b L) := by unfold Hid; rw [hw2]; exact HL0.out.below (Below.refl _ _).drew
  have HX2 : Hid (BoxAt w2 bx lb) := by unfold Hid; rw [hw2]; exact HX0.out
  have HB2 : Hid (Below W0.heap.size W0 w2) := by unfold Hid; rw [hw2]; exact (Below.refl _ _).drew
  clear hw2
  have HS : Hid ((fun u => u.cell? ⟨bx, 0, none⟩ = some (.pointer (some ⟨lb, 0, none⟩)) ∧ u.cell? ⟨lb, 3, none⟩ = some (.int .i64 (L.gen : Nat))) w2) := ⟨HX2.out, HL2.out.c3⟩
  refine takeU 0 (v := ?_) rfl (by kernel_rfl) (by kernel_rfl) (fun _ _ _ h => h) rfl (fun u hu => ?_) HS.out ?_
  rotate_left
  · obtain ⟨q0, q1⟩ := hu; go_simp <;> with_reducible rfl
  simp only [Act.put, List.setIfInBounds_toArray, List.set_cons_zero, List.set_cons_succ]
  refine takeU 1 (v := ?_) rfl (by kernel_rfl) (by kernel_rfl) (fun _ _ _ h => h) rfl (fun u hu => ?_) HS.out ?_
  rotate_left
  · obtain ⟨q0, q1⟩ := hu; go_simp <;> with_reducible rfl
  simp only [Act.put, List.setIfInBounds_toArray, List.set_cons_zero, List.set_cons_succ]
  refine takeU 3 (v := ?_) rfl (by kernel_rfl) (by kernel_rfl) (fun _ _ _ h => h) rfl (fun u hu => ?_) HS.out ?_
  rotate_left
  · obtain ⟨q0, q1⟩ := hu; go_simp <;> with_reducible rfl
  simp only [Act.put, List.setIfInBounds_toArray, List.set_cons_zero, List.set_cons_succ]
  refine takeU 4 (v := ?_) rfl (by kernel_rfl) (by kernel_rfl) (fun _ _ _ h => h) rfl (fun u hu => ?_) HS.out ?_
  rotate_left
  · obtain ⟨q0, q1⟩ := hu; go_simp <;> with_reducible rfl
  simp only [Act.put, List.setIfInBounds_toArray, List.set_cons_zero, List.set_cons_succ]
  refine takeU 5 (v := ?_) rfl (by kernel_rfl) (by kernel_rfl) (fun _ _ _ h => h) rfl (fun u hu => ?_) HS.out ?_
  rotate_left
  · obtain ⟨q0, q1⟩ := hu; go_simp <;> with_reducible rfl
  simp only [Act.put, List.setIfInBounds_toArray, List.set_cons_zero, List.set_cons_succ]
  refine takeU 6 (v := ?_) rfl (by kernel_rfl) (by kernel_rfl) (fun _ _ _ h => h) rfl (fun u hu => ?_) HS.out ?_
  rotate_left
  · obtain ⟨q0, q1⟩ := hu; go_simp <;> with_reducible rfl
  simp only [Act.put, List.setIfInBounds_toArray, List.set_cons_zero, List.set_cons_succ]
  refine takeU 7 (v := ?_) rfl (by kernel_rfl) (by kernel_rfl) (fun _ _ _ h => h) rfl (fun u hu => ?_) HS.out ?_
  rotate_left
  · obtain ⟨q0, q1⟩ := hu; go_simp <;> with_reducible rfl
  simp only [Act.put, List.setIfInBounds_toArray, List.set_cons_zero, List.set_cons_succ]
  refine takeU 8 (v := ?_) rfl (by kernel_rfl) (by kernel_rfl) (fun _ _ _ h => h) rfl (fun u hu => ?_) HS.out ?_
  rotate_left
  · obtain ⟨q0, q1⟩ := hu; go_simp <;> with_reducible rfl
  simp only [Act.put, List.setIfInBounds_toArray, List.set_cons_zero, List.set_cons_succ]
  refine oneU 2 (by kernel_rfl) ?_
  refine callU 2 rfl (by kernel_rfl) rfl 48 _ _ rfl #[.pointer (some ⟨lb, 0, none⟩)] (by simp [Act.eval]) (enters_of Tryd.func48 (by kernel_rfl) rfl) (fun v w' => v = .int .i64 (o : Nat) ∧ Below w2.heap.size w2 w') ((HO.out _ HL2.out).mono fun e w' ⟨h1, h2⟩ => ⟨_, h1, rfl, h2⟩) ?_
  rintro v w3 ⟨rfl, hb3⟩
  have HL3 := Lib.hid (HL2.out.below hb3)
  have HX3 : Hid (BoxAt w3 bx lb) := hb3.cell (block_lt_of_cell HX2.out) |>.trans HX2.out
  have HB3 := Lib.hid (HB2.out.trans (hb3.mono HB2.out.size))
  clear hb3
  refine ⟨⟨HX3.out, HL3.out.c3⟩, ?_⟩
  simp only [Act.put, List.setIfInBounds_toArray, List.set_cons_zero, List.set_cons_succ]
  refine oneU 9 (by kernel_rfl) ?_
  refine callU 9 rfl (by kernel_rfl) rfl 41 _ _ rfl #[.pointer (some ⟨lb, 0, none⟩), .int .i64 (o : Nat), .int .i64 ((L.gen + 1 : Nat) : Int), .string s] (by simp [Act.eval]; exact IntWalk.i64_in _ (by have := HG.out; omega)) (enters_of Tryd.func41 (by kernel_rfl) rfl) (fun v w' => v = .nilIface ∧ Hid (IsDisk w' b g cap D1 ∧ Chg (fun k => k = b ∨ k = g) w3 w')) ((HW.out _ HB3.out).mono fun e w' ⟨h1, h2, h3⟩ => ⟨_, h1, rfl, h2, h3⟩) ?_
  rintro v w4 ⟨rfl, hK⟩
  have HD4 := Lib.hid hK.out.1
  have HC4 := Lib.hid ((Chg.of_below (fun k => k = b ∨ k = g) HB3.out).trans hK.out.2)
  have HL4 := Lib.hid (HL0.out.keep HC4.out (fun e => by have := HNE.out; omega))
  have HX4 : Hid (BoxAt w4 bx lb) := HX0.out.keep HC4.out (fun e => by have := HBX.out; omega)
  refine ⟨⟨HX4.out, HL4.out.c3⟩, ?_⟩
  simp only [Act.put, List.setIfInBounds_toArray, List.set_cons_zero, List.set_cons_succ]
  refine oneU 10 (by kernel_rfl) ?_
  refine endU (v := ?_) 10 rfl (by kernel_rfl) (by kernel_rfl) rfl ?_ ?_
  rotate_left
  · go_simp <;> with_reducible rfl
  simp only [Act.put, List.setIfInBounds_toArray, List.set_cons_zero, List.set_cons_succ]
  clear HS HW HL2 HX2 HB2 HL3 HX3 HB3
  go_wp2_with fail
  obtain ⟨fb, hfb⟩ : ∃ fb, fb = w4.heap.size := ⟨_, rfl⟩
  obtain ⟨W5, hW5⟩ : ∃ W, W = w4.alloc (.cells #[.func (.func 52) #[] #[.pointer (some ⟨bx, 0, none⟩)], .func (.func 53) #[] #[.pointer (some ⟨bx, 0, none⟩)], .func (.func 54) #[] #[.pointer (some ⟨bx, 0, none⟩)]] 97) := ⟨_, rfl⟩
  rw [← hW5, ← hfb]
  have F0 : Hid (W5.cell? ⟨fb, 0, none⟩ = some (.func (.func 52) #[] #[.pointer (some ⟨bx, 0, none⟩)])) := by unfold Hid; rw [hW5, hfb]; simp
  have F1 : Hid (W5.cell? ⟨fb, 1, none⟩ = some (.func (.func 53) #[] #[.pointer (some ⟨bx, 0, none⟩)])) := by unfold Hid; rw [hW5, hfb]; simp
  have F2 : Hid (W5.cell? ⟨fb, 2, none⟩ = some (.func (.func 54) #[] #[.pointer (some ⟨bx, 0, none⟩)])) := by unfold Hid; rw [hW5, hfb]; simp
  have hb5 : Below w4.heap.size w4 W5 := by rw [hW5]; exact (Below.refl _ _).alloc (Nat.le_refl _) _
  have HFB : Hid (fb ≠ b ∧ fb ≠ g) := by unfold Hid; have := HD4.out.lt; have := HD4.out.fs.lt; omega
  have HD5 := Lib.hid (HD4.out.below hb5)
  have HC5 := Lib.hid (HC4.out.trans (Chg.of_below _ hb5))
  have HL5 := Lib.hid (HL4.out.below hb5)
  have HX5 : Hid (BoxAt W5 bx lb) := hb5.cell (block_lt_of_cell HX4.out) |>.trans HX4.out
  have HZ5 : Hid (bx < W5.heap.size) := Nat.lt_of_lt_of_le HBZ.out HC5.out.size
  clear hb5 hW5 hfb HD4 HC4 HL4 HX4
  go_loopw [5, 39] (fun v5 v39 wr => ∃ i : Nat, i ≤ 3 ∧ v39 = .int .i64 (i : Nat) ∧ v5 = .nilIface ∧ IsDisk wr b g cap (four D1 D2 D3 D4 i) ∧ Chg (fun k => k = b ∨ k = g) W5 wr) (fun _ v _ => (3 - intOf v).toNat)
  case atStart => exact ⟨0, by omega, rfl, rfl, HD5.out, Chg.refl _ _⟩
  case round =>
    obtain ⟨i, hi, rfl, rfl, hd, hc⟩ := hrel
    have HDr := Lib.hid hd
    have HCr := Lib.hid hc
    have HLr := Lib.hid (HL5.out.keep hc (fun e => by have := HNE.out; omega))
    have HXr : Hid (BoxAt wr bx lb) := HX5.out.keep hc (fun e => by have := HBX.out; omega)
    have HZr : Hid (bx < wr.heap.size) := Nat.lt_of_lt_of_le HZ5.out hc.size
    clear hd hc
    rcases i with _ | _ | _ | i
    · have f := HCr.out.cell (fun e => by have := HFB.out; simp at e; omega) F0.out
      go_wp2_with fail
      refine (K1.out wr HLr.out HXr.out HZr.out HDr.out).mono ?_
      rintro e w6 ⟨rfl, hd, hc⟩
      have HD6 := Lib.hid hd
      have HC6 := Lib.hid (HCr.out.trans hc)
      clear hd hc f
      go_wp2_with fail
      exact ⟨⟨1, by omega, rfl, rfl, HD6.out, HC6.out⟩, by simp [intOf]⟩
    · have f := HCr.out.cell (fun e => by have := HFB.out; simp at e; omega) F1.out
      go_wp2_with fail
      refine (K2.out wr HLr.out HXr.out HZr.out HDr.out).mono ?_
      rintro e w6 ⟨rfl, hd, hc⟩
      have HD6 := Lib.hid hd
      have HC6 := Lib.hid (HCr.out.trans hc)
      clear hd hc f
      go_wp2_with fail
      exact ⟨⟨2, by omega, rfl, rfl, HD6.out, HC6.out⟩, by simp [intOf]⟩
    · have f := HCr.out.cell (fun e => by have := HFB.out; simp at e; omega) F2.out
      go_wp2_with fail
      refine (K3.out wr HLr.out HXr.out HZr.out HDr.out).mono ?_
      rintro e w6 ⟨rfl, hd, hc⟩
      have HD6 := Lib.hid hd
      have HC6 := Lib.hid (HCr.out.trans hc)
      clear hd hc f
      go_wp2_with fail
      exact ⟨⟨3, by omega, rfl, rfl, HD6.out, HC6.out⟩, by simp [intOf]⟩
    · obtain rfl : i = 0 := by omega
      have x0 : wr.cell? ⟨bx, 0, none⟩ = some (.pointer (some ⟨lb, 0, none⟩)) := HXr.out
      go_wp2_with fail
      refine (toldOk _ _).mono ?_
      rintro e w6 ⟨rfl, rfl⟩
      go_wp2_with fail
      clear x0
      refine wp_region_U 18 (fun u => u.cell? ⟨bx, 0, none⟩ = some (.pointer (some ⟨lb, 0, none⟩))) (by kernel_rfl) ?_
      change wpAnyU _ _ _ _ _ _ 19 (Array.replicate 19 false) _ _
      obtain ⟨w7, hw7⟩ : ∃ w2, w2 = w6.drew := ⟨_, rfl⟩
      rw [← hw7]
      have hb7 : Below w6.heap.size w6 w7 := by rw [hw7]; exact (Below.refl _ _).drew
      have HL7 := Lib.hid (HLr.out.below hb7)
      have HX7 : Hid (BoxAt w7 bx lb) := by unfold Hid; rw [hw7]; exact HXr.out
      have HD7 := Lib.hid (HDr.out.below hb7)
      have HC7 : Hid (Chg (fun k => k = lb ∨ k = b ∨ k = g) w w7) := (((Chg.of_below _ HB0.out).trans ((HC5.out.trans HCr.out).trans (Chg.of_below _ hb7)))).mono (fun k _ h => .inr h)
      clear hw7 hb7
      refine takeU 0 (v := ?_) rfl (by kernel_rfl) (by kernel_rfl) (fun _ _ _ h => h) rfl (fun u hu => ?_) HX7.out ?_
      rotate_left
      · have q0 := hu; go_simp <;> with_reducible rfl
      simp only [Act.put, List.setIfInBounds_toArray, List.set_cons_zero, List.set_cons_succ]
      refine takeU 1 (v := ?_) rfl (by kernel_rfl) (by kernel_rfl) (fun _ _ _ h => h) rfl (fun u hu => ?_) HX7.out ?_
      rotate_left
      · have q0 := hu; go_simp <;> with_reducible rfl
      simp only [Act.put, List.setIfInBounds_toArray, List.set_cons_zero, List.set_cons_succ]
      refine takeU 2 (v := ?_) rfl (by kernel_rfl) (by kernel_rfl) (fun _ _ _ h => h) rfl (fun u hu => ?_) HX7.out ?_
      rotate_left
      · have q0 := hu; go_simp <;> with_reducible rfl
      simp only [Act.put, List.setIfInBounds_toArray, List.set_cons_zero, List.set_cons_succ]
      refine takeU 3 (v := ?_) rfl (by kernel_rfl) (by kernel_rfl) (fun _ _ _ h => h) rfl (fun u hu => ?_) HX7.out ?_
      rotate_left
      · have q0 := hu; go_simp <;> with_reducible rfl
      simp only [Act.put, List.setIfInBounds_toArray, List.set_cons_zero, List.set_cons_succ]
      refine takeU 5 (v := ?_) rfl (by kernel_rfl) (by kernel_rfl) (fun _ _ _ h => h) rfl (fun u hu => ?_) HX7.out ?_
      rotate_left
      · have q0 := hu; go_simp <;> with_reducible rfl
      simp only [Act.put, List.setIfInBounds_toArray, List.set_cons_zero, List.set_cons_succ]
      refine takeU 6 (v := ?_) rfl (by kernel_rfl) (by kernel_rfl) (fun _ _ _ h => h) rfl (fun u hu => ?_) HX7.out ?_
      rotate_left
      · have q0 := hu; go_simp <;> with_reducible rfl
      simp only [Act.put, List.setIfInBounds_toArray, List.set_cons_zero, List.set_cons_succ]
      refine takeU 7 (v := ?_) rfl (by kernel_rfl) (by kernel_rfl) (fun _ _ _ h => h) rfl (fun u hu => ?_) HX7.out ?_
      rotate_left
      · have q0 := hu; go_simp <;> with_reducible rfl
      simp only [Act.put, List.setIfInBounds_toArray, List.set_cons_zero, List.set_cons_succ]
      refine twoU 4 8 (by kernel_rfl) ?_ ?_
      · refine callU 4 rfl (by kernel_rfl) rfl 48 _ _ rfl #[.pointer (some ⟨lb, 0, none⟩)] (by simp [Act.eval]) (enters_of Tryd.func48 (by kernel_rfl) rfl) (fun v w' => v = .int .i64 (o : Nat) ∧ Below w7.heap.size w7 w') ((HO.out _ HL7.out).mono fun e w' ⟨h1, h2⟩ => ⟨_, h1, rfl, h2⟩) ?_
        rintro v w8 ⟨rfl, hb⟩
        have HL8 := Lib.hid (HL7.out.below hb)
        have HX8 : Hid (BoxAt w8 bx lb) := hb.cell (block_lt_of_cell HX7.out) |>.trans HX7.out
        have HD8 := Lib.hid (HD7.out.below hb)
        have HC8 := Lib.hid (HC7.out.trans (Chg.of_below _ hb))
        clear hb
        refine ⟨HX8.out, ?_⟩
        simp only [Act.put, List.setIfInBounds_toArray, List.set_cons_zero, List.set_cons_succ]
        refine oneU 8 (by kernel_rfl) ?_
        refine someU 8 rfl (by kernel_rfl) ?_
        have c := HL8.out.c3
        refine step_runW rfl (.int .i64 (L.gen : Nat)) w8 (by go_simp) ?_
        clear c
        refine ⟨HX8.out, ?_⟩
        simp only [Act.put, List.setIfInBounds_toArray, List.set_cons_zero, List.set_cons_succ]
        refine takeU 9 (v := ?_) rfl (by kernel_rfl) (by kernel_rfl) (fun _ _ _ h => h) rfl (fun u hu => ?_) HX8.out ?_
        rotate_left
        · skip; go_simp <;> with_reducible rfl
        simp only [Act.put, List.setIfInBounds_toArray, List.set_cons_zero, List.set_cons_succ]
        refine takeU 10 (v := ?_) rfl (by kernel_rfl) (by kernel_rfl) (fun _ _ _ h => h) rfl (fun u hu => ?_) HX8.out ?_
        rotate_left
        · skip; go_simp <;> with_reducible rfl
        simp only [Act.put, List.setIfInBounds_toArray, List.set_cons_zero, List.set_cons_succ]
        refine takeU 11 (v := ?_) rfl (by kernel_rfl) (by kernel_rfl) (fun _ _ _ h => h) rfl (fun u hu => ?_) HX8.out ?_
        rotate_left
        · skip; go_simp <;> with_reducible rfl
        simp only [Act.put, List.setIfInBounds_toArray, List.set_cons_zero, List.set_cons_succ]
        refine oneU 12 (by kernel_rfl) ?_
        refine someU 12 rfl (by kernel_rfl) ?_
        have c := (HL8.out).c2
        have f := (HL8.out).free 2
        refine step_skipW rfl (w8.setCell ⟨lb, 2, none⟩ (.int .i64 (o : Nat))) (by go_simp) ?_
        clear c f
        obtain ⟨wa, hwa⟩ : ∃ wa, wa = w8.setCell ⟨lb, 2, none⟩ (.int .i64 (o : Nat)) := ⟨_, rfl⟩
        have HLa : Hid (IsLog wa lb b { L with counts := o }) := by unfold Hid; rw [hwa]; exact (HL8.out).setCounts o
        have HCa : Hid (Chg (fun k => k = lb) w8 wa) := by unfold Hid; rw [hwa]; exact Chg.setCell (fun k => k = lb) _ rfl _
        have HXa : Hid (BoxAt wa bx lb) := (HX8.out).keep HCa.out HBX.out.1
        rw [← hwa]
        clear hwa
        refine ⟨HXa.out, ?_⟩
        simp only [Act.put]
        refine takeU 13 (v := ?_) rfl (by kernel_rfl) (by kernel_rfl) (fun _ _ _ h => h) rfl (fun u hu => ?_) HXa.out ?_
        rotate_left
        · skip; go_simp <;> with_reducible rfl
        simp only [Act.put, List.setIfInBounds_toArray, List.set_cons_zero, List.set_cons_succ]
        refine takeU 14 (v := ?_) rfl (by kernel_rfl) (by kernel_rfl) (fun _ _ _ h => h) rfl (fun u hu => ?_) HXa.out ?_
        rotate_left
        · skip; go_simp <;> with_reducible rfl
        simp only [Act.put, List.setIfInBounds_toArray, List.set_cons_zero, List.set_cons_succ]
        refine oneU 15 (by kernel_rfl) ?_
        refine someU 15 rfl (by kernel_rfl) ?_
        have c := HLa.out.c3
        have f := HLa.out.free 3
        have ew : IntKind.i64.wrap ((L.gen : Int) + 1) = (L.gen : Int) + 1 := IntWalk.i64_in _ (by have := HG.out; omega)
        refine step_skipW rfl (wa.setCell ⟨lb, 3, none⟩ (.int .i64 ((L.gen + 1 : Nat) : Int))) (by go_simp) ?_
        clear c f ew
        obtain ⟨wb, hwb⟩ : ∃ wb, wb = wa.setCell ⟨lb, 3, none⟩ (.int .i64 ((L.gen + 1 : Nat) : Int)) := ⟨_, rfl⟩
        have HLb : Hid (IsLog wb lb b { L with counts := o, gen := L.gen + 1 }) := by unfold Hid; rw [hwb]; exact HLa.out.setGen (L.gen + 1)
        have HCb : Hid (Chg (fun k => k = lb) wa wb) := by unfold Hid; rw [hwb]; exact Chg.setCell (fun k => k = lb) _ rfl _
        have HXb : Hid (BoxAt wb bx lb) := HXa.out.keep HCb.out HBX.out.1
        rw [← hwb]
        clear hwb
        refine ⟨HXb.out, ?_⟩
        simp only [Act.put]
        refine takeU 16 (v := ?_) rfl (by kernel_rfl) (by kernel_rfl) (fun _ _ _ h => h) rfl (fun u hu => ?_) HXb.out ?_
        rotate_left
        · skip; go_simp <;> with_reducible rfl
        simp only [Act.put, List.setIfInBounds_toArray, List.set_cons_zero, List.set_cons_succ]
        refine takeU 17 (v := ?_) rfl (by kernel_rfl) (by kernel_rfl) (fun _ _ _ h => h) rfl (fun u hu => ?_) HXb.out ?_
        rotate_left
        · skip; go_simp <;> with_reducible rfl
        simp only [Act.put, List.setIfInBounds_toArray, List.set_cons_zero, List.set_cons_succ]
        refine oneU 18 (by kernel_rfl) ?_
        refine lastU 18 rfl (by kernel_rfl) (by kernel_rfl) ?_
        have c := HLb.out.c4
        have f := HLb.out.free 4
        refine step_skipW rfl (wb.setCell ⟨lb, 4, none⟩ (.int .i64 ((0 : Nat) : Int))) (by go_simp) ?_
        clear c f
        have HLc := Lib.hid (HLb.out.setN 0)
        have HCc := Lib.hid ((HCa.out.trans HCb.out).trans (Chg.setCell (fun k => k = lb) wb (j := 4) rfl (.int .i64 ((0 : Nat) : Int))))
        simp only [Act.put]
        go_wp2_with fail
        go_ret
        refine ⟨rfl, HLc.out, (HD8.out).log (HL8.out) HCc.out, (HC8.out).trans (HCc.out.mono fun k _ h => .inl h)⟩
      · refine someU 8 rfl (by kernel_rfl) ?_
        have c := HL7.out.c3
        refine step_runW rfl (.int .i64 (L.gen : Nat)) w7 (by go_simp) ?_
        clear c
        refine ⟨HX7.out, ?_⟩
        simp only [Act.put, List.setIfInBounds_toArray, List.set_cons_zero, List.set_cons_succ]
        refine takeU 9 (v := ?_) rfl (by kernel_rfl) (by kernel_rfl) (fun _ _ _ h => h) rfl (fun u hu => ?_) HX7.out ?_
        rotate_left
        · skip; go_simp <;> with_reducible rfl
        simp only [Act.put, List.setIfInBounds_toArray, List.set_cons_zero, List.set_cons_succ]
        refine oneU 4 (by kernel_rfl) ?_
        refine callU 4 rfl (by kernel_rfl) rfl 48 _ _ rfl #[.pointer (some ⟨lb, 0, none⟩)] (by simp [Act.eval]) (enters_of Tryd.func48 (by kernel_rfl) rfl) (fun v w' => v = .int .i64 (o : Nat) ∧ Below w7.heap.size w7 w') ((HO.out _ HL7.out).mono fun e w' ⟨h1, h2⟩ => ⟨_, h1, rfl, h2⟩) ?_
        rintro v w8 ⟨rfl, hb⟩
        have HL8 := Lib.hid (HL7.out.below hb)
        have HX8 : Hid (BoxAt w8 bx lb) := hb.cell (block_lt_of_cell HX7.out) |>.trans HX7.out
        have HD8 := Lib.hid (HD7.out.below hb)
        have HC8 := Lib.hid (HC7.out.trans (Chg.of_below _ hb))
        clear hb
        refine ⟨HX8.out, ?_⟩
        simp only [Act.put, List.setIfInBounds_toArray, List.set_cons_zero, List.set_cons_succ]
        refine takeU 10 (v := ?_) rfl (by kernel_rfl) (by kernel_rfl) (fun _ _ _ h => h) rfl (fun u hu => ?_) HX8.out ?_
        rotate_left
        · skip; go_simp <;> with_reducible rfl
        simp only [Act.put, List.setIfInBounds_toArray, List.set_cons_zero, List.set_cons_succ]
        refine takeU 11 (v := ?_) rfl (by kernel_rfl) (by kernel_rfl) (fun _ _ _ h => h) rfl (fun u hu => ?_) HX8.out ?_
        rotate_left
        · skip; go_simp <;> with_reducible rfl
        simp only [Act.put, List.setIfInBounds_toArray, List.set_cons_zero, List.set_cons_succ]
        refine oneU 12 (by kernel_rfl) ?_
        refine someU 12 rfl (by kernel_rfl) ?_
        have c := (HL8.out).c2
        have f := (HL8.out).free 2
        refine step_skipW rfl (w8.setCell ⟨lb, 2, none⟩ (.int .i64 (o : Nat))) (by go_simp) ?_
        clear c f
        obtain ⟨wa, hwa⟩ : ∃ wa, wa = w8.setCell ⟨lb, 2, none⟩ (.int .i64 (o : Nat)) := ⟨_, rfl⟩
        have HLa : Hid (IsLog wa lb b { L with counts := o }) := by unfold Hid; rw [hwa]; exact (HL8.out).setCounts o
        have HCa : Hid (Chg (fun k => k = lb) w8 wa) := by unfold Hid; rw [hwa]; exact Chg.setCell (fun k => k = lb) _ rfl _
        have HXa : Hid (BoxAt wa bx lb) := (HX8.out).keep HCa.out HBX.out.1
        rw [← hwa]
        clear hwa
        refine ⟨HXa.out, ?_⟩
        simp only [Act.put]
        refine takeU 13 (v := ?_) rfl (by kernel_rfl) (by kernel_rfl) (fun _ _ _ h => h) rfl (fun u hu => ?_) HXa.out ?_
        rotate_left
        · skip; go_simp <;> with_reducible rfl
        simp only [Act.put, List.setIfInBounds_toArray, List.set_cons_zero, List.set_cons_succ]
        refine takeU 14 (v := ?_) rfl (by kernel_rfl) (by kernel_rfl) (fun _ _ _ h => h) rfl (fun u hu => ?_) HXa.out ?_
        rotate_left
        · skip; go_simp <;> with_reducible rfl
        simp only [Act.put, List.setIfInBounds_toArray, List.set_cons_zero, List.set_cons_succ]
        refine oneU 15 (by kernel_rfl) ?_
        refine someU 15 rfl (by kernel_rfl) ?_
        have c := HLa.out.c3
        have f := HLa.out.free 3
        have ew : IntKind.i64.wrap ((L.gen : Int) + 1) = (L.gen : Int) + 1 := IntWalk.i64_in _ (by have := HG.out; omega)
        refine step_skipW rfl (wa.setCell ⟨lb, 3, none⟩ (.int .i64 ((L.gen + 1 : Nat) : Int))) (by go_simp) ?_
        clear c f ew
        obtain ⟨wb, hwb⟩ : ∃ wb, wb = wa.setCell ⟨lb, 3, none⟩ (.int .i64 ((L.gen + 1 : Nat) : Int)) := ⟨_, rfl⟩
        have HLb : Hid (IsLog wb lb b { L with counts := o, gen := L.gen + 1 }) := by unfold Hid; rw [hwb]; exact HLa.out.setGen (L.gen + 1)
        have HCb : Hid (Chg (fun k => k = lb) wa wb) := by unfold Hid; rw [hwb]; exact Chg.setCell (fun k => k = lb) _ rfl _
        have HXb : Hid (BoxAt wb bx lb) := HXa.out.keep HCb.out HBX.out.1
        rw [← hwb]
        clear hwb
        refine ⟨HXb.out, ?_⟩
        simp only [Act.put]
        refine takeU 16 (v := ?_) rfl (by kernel_rfl) (by kernel_rfl) (fun _ _ _ h => h) rfl (fun u hu => ?_) HXb.out ?_
        rotate_left
        · skip; go_simp <;> with_reducible rfl
        simp only [Act.put, List.setIfInBounds_toArray, List.set_cons_zero, List.set_cons_succ]
        refine takeU 17 (v := ?_) rfl (by kernel_rfl) (by kernel_rfl) (fun _ _ _ h => h) rfl (fun u hu => ?_) HXb.out ?_
        rotate_left
        · skip; go_simp <;> with_reducible rfl
        simp only [Act.put, List.setIfInBounds_toArray, List.set_cons_zero, List.set_cons_succ]
        refine oneU 18 (by kernel_rfl) ?_
        refine lastU 18 rfl (by kernel_rfl) (by kernel_rfl) ?_
        have c := HLb.out.c4
        have f := HLb.out.free 4
        refine step_skipW rfl (wb.setCell ⟨lb, 4, none⟩ (.int .i64 ((0 : Nat) : Int))) (by go_simp) ?_
        clear c f
        have HLc := Lib.hid (HLb.out.setN 0)
        have HCc := Lib.hid ((HCa.out.trans HCb.out).trans (Chg.setCell (fun k => k = lb) wb (j := 4) rfl (.int .i64 ((0 : Nat) : Int))))
        simp only [Act.put]
        go_wp2_with fail
        go_ret
        refine ⟨rfl, HLc.out, (HD8.out).log (HL8.out) HCc.out, (HC8.out).trans (HCc.out.mono fun k _ h => .inl h)⟩
end
end Go.Proofs.YtamaefnlicloaaaDoor
