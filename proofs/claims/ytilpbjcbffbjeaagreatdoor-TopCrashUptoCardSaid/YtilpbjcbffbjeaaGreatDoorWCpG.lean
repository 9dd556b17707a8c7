/- The log's Checkpoint where the power goes in it. -/
import Derived.Test.YtilpbjcbffbjeaaGreatDoorPkI
import Derived.Test.YtilpbjcbffbjeaaGreatDoorPkH
namespace Go.Proofs.YtilpbjcbffbjeaaGreatDoor
set_option linter.unusedVariables false
set_option maxRecDepth 100000
open Go.RowKit
set_option linter.unusedSectionVars false
variable [Avoid]
section
variable {S : Nat → Prop} {w w' : World} {lb b g cap bx : Nat} {L : Lg} {D : Dk}
set_option maxHeartbeats 1600000 in
theorem cp1G (h : IsLog w lb b L) (hx : BoxAt w bx lb) (hbx : bx ≠ b ∧ bx ≠ g ∧ bx < w.heap.size) (hd : IsDisk w b g cap D) (hok : DOk D) (hf : L.first ≤ 1048576) (hcn : L.counts ≤ 1048576) (hr : (D.syncX (2 * (L.first : Int) + 1 - (L.counts : Int))).2 = 2) :
    Calls Tryz.prog 103 #[.pointer (some ⟨bx, 0, none⟩)] w fun e w' => ∃ t, e = .returned (GErr t) ∧ IsDisk w' b g cap (D.syncX (2 * (L.first : Int) + 1 - (L.counts : Int))).1 ∧ Chg (fun k => k = b ∨ k = g) w w' := by
  have HL := Lib.hid h
  have HX := Lib.hid hx
  have HD0 := Lib.hid hd
  have HBX := Lib.hid hbx
  have HW := Lib.hid (fun (w1 : World) (hb : Below w.heap.size w w1) => syncA (hd.below hb) hok (2 * (L.first : Int) + 1 - (L.counts : Int)))
  rw [hr] at HW
  clear h hx hd hok hr hbx
  go_enter Tryz.func103, Tryz.ntmps103
  go_wp2_with fail
  refine wp_region_U 8 (fun u => u.cell? ⟨bx, 0, none⟩ = some (.pointer (some ⟨lb, 0, none⟩)) ∧ u.cell? ⟨lb, 0, none⟩ = some (.pointer (some ⟨b, 0, none⟩))) (by kernel_rfl) ?_
  change wpAnyU _ _ _ _ _ _ 9 (Array.replicate 9 false) _ _
  obtain ⟨w2, hw2⟩ : ∃ w2, w2 = w.drew := ⟨_, rfl⟩
  rw [← hw2]
  have HL2 : Hid (IsLog w2 lb b L) := by unfold Hid; rw [hw2]; exact HL.out.below (Below.refl _ _).drew
  have HX2 : Hid (BoxAt w2 bx lb) := by unfold Hid; rw [hw2]; exact HX.out
  have HB2 : Hid (Below w.heap.size w w2) := by unfold Hid; rw [hw2]; exact (Below.refl _ _).drew
  clear hw2
  have HS : Hid ((fun u => u.cell? ⟨bx, 0, none⟩ = some (.pointer (some ⟨lb, 0, none⟩)) ∧ u.cell? ⟨lb, 0, none⟩ = some (.pointer (some ⟨b, 0, none⟩))) w2) := ⟨HX2.out, HL2.out.c0⟩
  refine takeU 0 (v := ?_) rfl (by kernel_rfl) (by kernel_rfl) (fun _ _ _ h => h) rfl (fun u hu => ?_) HS.out ?_
  rotate_left
  · obtain ⟨q0, q1⟩ := hu; go_simp <;> with_reducible rfl
  simp only [Act.put, List.setIfInBounds_toArray, List.set_cons_zero, List.set_cons_succ]
  refine takeU 1 (v := ?_) rfl (by kernel_rfl) (by kernel_rfl) (fun _ _ _ h => h) rfl (fun u hu => ?_) HS.out ?_
  rotate_left
  · obtain ⟨q0, q1⟩ := hu; go_simp <;> with_reducible rfl
  simp only [Act.put, List.setIfInBounds_toArray, List.set_cons_zero, List.set_cons_succ]
  refine takeU 2 (v := ?_) rfl (by kernel_rfl) (by kernel_rfl) (fun _ _ _ h => h) rfl (fun u hu => ?_) HS.out ?_
  rotate_left
  · obtain ⟨q0, q1⟩ := hu; go_simp <;> with_reducible rfl
  simp only [Act.put, List.setIfInBounds_toArray, List.set_cons_zero, List.set_cons_succ]
  refine takeU 3 (v := ?_) rfl (by kernel_rfl) (by kernel_rfl) (fun _ _ _ h => h) rfl (fun u hu => ?_) HS.out ?_
  rotate_left
  · obtain ⟨q0, q1⟩ := hu; go_simp <;> with_reducible rfl
  simp only [Act.put, List.setIfInBounds_toArray, List.set_cons_zero, List.set_cons_succ]
  refine takeU 4 (v := ?_) rfl (by kernel_rfl) (by kernel_rfl) (fun _ _ _ h => h) rfl (fun u hu => ?_) HS.out ?_
  rotate_left
  · obtain ⟨q0, q1⟩ := hu; go_simp <;> with_reducible rfl
  simp only [Act.put, List.setIfInBounds_toArray, List.set_cons_zero, List.set_cons_succ]
  refine oneU 5 (by kernel_rfl) ?_
  refine callU 5 rfl (by kernel_rfl) rfl 102 _ _ rfl #[.pointer (some ⟨lb, 0, none⟩)] (by simp [Act.eval]) (enters_of Tryz.func102 (by kernel_rfl) rfl) (fun v w' => v = .int .i64 (2 * (L.first : Int) + 1 - (L.counts : Int)) ∧ Below w2.heap.size w2 w') ((otherW HL2.out hf hcn).mono fun e w' ⟨h1, h2⟩ => ⟨_, h1, rfl, h2⟩) ?_
  rintro v w3 ⟨rfl, hb3⟩
  have HL3 := Lib.hid (HL2.out.below hb3)
  have HX3 : Hid (BoxAt w3 bx lb) := hb3.cell (block_lt_of_cell HX2.out) |>.trans HX2.out
  have HB3 := Lib.hid (HB2.out.trans (hb3.mono HB2.out.size))
  clear hb3
  refine ⟨⟨HX3.out, HL3.out.c0⟩, ?_⟩
  simp only [Act.put, List.setIfInBounds_toArray, List.set_cons_zero, List.set_cons_succ]
  refine oneU 6 (by kernel_rfl) ?_
  refine callU 6 rfl (by kernel_rfl) rfl 53 _ _ rfl #[.pointer (some ⟨b, 0, none⟩), .int .i64 (2 * (L.first : Int) + 1 - (L.counts : Int))] (by simp [Act.eval]) (enters_of Tryz.func53 (by kernel_rfl) rfl) (fun v w' => v = .int .i64 2 ∧ Hid (IsDisk w' b g cap (D.syncX (2 * (L.first : Int) + 1 - (L.counts : Int))).1 ∧ Chg (fun k => k = b ∨ k = g) w3 w')) ((HW.out _ HB3.out).mono fun e w' ⟨h1, h2, h3⟩ => ⟨_, h1, rfl, h2, h3⟩) ?_
  rintro v w4 ⟨rfl, hK⟩
  have HD4 := Lib.hid hK.out.1
  have HC4 := Lib.hid ((Chg.of_below (fun k => k = b ∨ k = g) HB3.out).trans hK.out.2)
  have HL4 := Lib.hid (HL.out.keep HC4.out (fun e => by have := HL.out.ne HD0.out; omega))
  have HX4 : Hid (BoxAt w4 bx lb) := HX.out.keep HC4.out (fun e => by have := HBX.out; omega)
  refine ⟨⟨HX4.out, HL4.out.c0⟩, ?_⟩
  simp only [Act.put, List.setIfInBounds_toArray, List.set_cons_zero, List.set_cons_succ]
  refine oneU 7 (by kernel_rfl) ?_
  refine callU 7 rfl (by kernel_rfl) rfl 85 _ _ rfl #[.string ⟨#[97, 32, 115, 121, 110, 99]⟩, .int .i64 2] (by simp [Act.eval]) (enters_of Tryz.func85 (by kernel_rfl) rfl) (fun v w' => (∃ t, v = GErr t) ∧ w' = w4) ((stepGone _ (by decide) w4).mono fun e w' ⟨t, h1, h2⟩ => ⟨_, h1, ⟨t, rfl⟩, h2⟩) ?_
  rintro v w5 ⟨⟨t, rfl⟩, rfl⟩
  refine ⟨⟨HX4.out, HL4.out.c0⟩, ?_⟩
  simp only [Act.put, List.setIfInBounds_toArray, List.set_cons_zero, List.set_cons_succ]
  refine oneU 8 (by kernel_rfl) ?_
  refine endU (v := ?_) 8 rfl (by kernel_rfl) (by kernel_rfl) rfl ?_ ?_
  rotate_left
  · go_simp <;> with_reducible rfl
  simp only [Act.put, List.setIfInBounds_toArray, List.set_cons_zero, List.set_cons_succ]
  go_wp2_with fail
  go_ret
  first | exact ⟨t, rfl, HD4.out, HC4.out⟩ | exact ⟨⟨t, rfl⟩, HD4.out, HC4.out⟩
set_option maxHeartbeats 1600000 in
theorem cp2G (h : IsLog w lb b L) (hx : BoxAt w bx lb) (hbx : bx ≠ b ∧ bx ≠ g ∧ bx < w.heap.size) (hd : IsDisk w b g cap D) (hok : DOk D) (hf : L.first ≤ 1048576) (hcn : L.counts ≤ 1048576) (hr : (D.syncX (L.counts : Nat)).2 = 2) :
    Calls Tryz.prog 104 #[.pointer (some ⟨bx, 0, none⟩)] w fun e w' => ∃ t, e = .returned (GErr t) ∧ IsDisk w' b g cap (D.syncX (L.counts : Nat)).1 ∧ Chg (fun k => k = b ∨ k = g) w w' := by
  have HL := Lib.hid h
  have HX := Lib.hid hx
  have HD0 := Lib.hid hd
  have HBX := Lib.hid hbx
  have HW := Lib.hid (fun (w1 : World) (hb : Below w.heap.size w w1) => syncA (hd.below hb) hok (L.counts : Nat))
  rw [hr] at HW
  clear h hx hd hok hr hbx
  go_enter Tryz.func104, Tryz.ntmps104
  go_wp2_with fail
  refine wp_region_U 10 (fun u => u.cell? ⟨bx, 0, none⟩ = some (.pointer (some ⟨lb, 0, none⟩)) ∧ u.cell? ⟨lb, 0, none⟩ = some (.pointer (some ⟨b, 0, none⟩)) ∧ u.cell? ⟨lb, 2, none⟩ = some (.int .i64 (L.counts : Nat))) (by kernel_rfl) ?_
  change wpAnyU _ _ _ _ _ _ 11 (Array.replicate 11 false) _ _
  obtain ⟨w2, hw2⟩ : ∃ w2, w2 = w.drew := ⟨_, rfl⟩
  rw [← hw2]
  have HL2 : Hid (IsLog w2 lb b L) := by unfold Hid; rw [hw2]; exact HL.out.below (Below.refl _ _).drew
  have HX2 : Hid (BoxAt w2 bx lb) := by unfold Hid; rw [hw2]; exact HX.out
  have HB2 : Hid (Below w.heap.size w w2) := by unfold Hid; rw [hw2]; exact (Below.refl _ _).drew
  clear hw2
  have HS : Hid ((fun u => u.cell? ⟨bx, 0, none⟩ = some (.pointer (some ⟨lb, 0, none⟩)) ∧ u.cell? ⟨lb, 0, none⟩ = some (.pointer (some ⟨b, 0, none⟩)) ∧ u.cell? ⟨lb, 2, none⟩ = some (.int .i64 (L.counts : Nat))) w2) := ⟨HX2.out, HL2.out.c0, HL2.out.c2⟩
  refine takeU 0 (v := ?_) rfl (by kernel_rfl) (by kernel_rfl) (fun _ _ _ h => h) rfl (fun u hu => ?_) HS.out ?_
  rotate_left
  · obtain ⟨q0, q1, q2⟩ := hu; go_simp <;> with_reducible rfl
  simp only [Act.put, List.setIfInBounds_toArray, List.set_cons_zero, List.set_cons_succ]
  refine takeU 1 (v := ?_) rfl (by kernel_rfl) (by kernel_rfl) (fun _ _ _ h => h) rfl (fun u hu => ?_) HS.out ?_
  rotate_left
  · obtain ⟨q0, q1, q2⟩ := hu; go_simp <;> with_reducible rfl
  simp only [Act.put, List.setIfInBounds_toArray, List.set_cons_zero, List.set_cons_succ]
  refine takeU 2 (v := ?_) rfl (by kernel_rfl) (by kernel_rfl) (fun _ _ _ h => h) rfl (fun u hu => ?_) HS.out ?_
  rotate_left
  · obtain ⟨q0, q1, q2⟩ := hu; go_simp <;> with_reducible rfl
  simp only [Act.put, List.setIfInBounds_toArray, List.set_cons_zero, List.set_cons_succ]
  refine takeU 3 (v := ?_) rfl (by kernel_rfl) (by kernel_rfl) (fun _ _ _ h => h) rfl (fun u hu => ?_) HS.out ?_
  rotate_left
  · obtain ⟨q0, q1, q2⟩ := hu; go_simp <;> with_reducible rfl
  simp only [Act.put, List.setIfInBounds_toArray, List.set_cons_zero, List.set_cons_succ]
  refine takeU 4 (v := ?_) rfl (by kernel_rfl) (by kernel_rfl) (fun _ _ _ h => h) rfl (fun u hu => ?_) HS.out ?_
  rotate_left
  · obtain ⟨q0, q1, q2⟩ := hu; go_simp <;> with_reducible rfl
  simp only [Act.put, List.setIfInBounds_toArray, List.set_cons_zero, List.set_cons_succ]
  refine takeU 5 (v := ?_) rfl (by kernel_rfl) (by kernel_rfl) (fun _ _ _ h => h) rfl (fun u hu => ?_) HS.out ?_
  rotate_left
  · obtain ⟨q0, q1, q2⟩ := hu; go_simp <;> with_reducible rfl
  simp only [Act.put, List.setIfInBounds_toArray, List.set_cons_zero, List.set_cons_succ]
  refine takeU 6 (v := ?_) rfl (by kernel_rfl) (by kernel_rfl) (fun _ _ _ h => h) rfl (fun u hu => ?_) HS.out ?_
  rotate_left
  · obtain ⟨q0, q1, q2⟩ := hu; go_simp <;> with_reducible rfl
  simp only [Act.put, List.setIfInBounds_toArray, List.set_cons_zero, List.set_cons_succ]
  refine takeU 7 (v := ?_) rfl (by kernel_rfl) (by kernel_rfl) (fun _ _ _ h => h) rfl (fun u hu => ?_) HS.out ?_
  rotate_left
  · obtain ⟨q0, q1, q2⟩ := hu; go_simp <;> with_reducible rfl
  simp only [Act.put, List.setIfInBounds_toArray, List.set_cons_zero, List.set_cons_succ]
  refine oneU 8 (by kernel_rfl) ?_
  refine callU 8 rfl (by kernel_rfl) rfl 53 _ _ rfl #[.pointer (some ⟨b, 0, none⟩), .int .i64 (L.counts : Nat)] (by simp [Act.eval]) (enters_of Tryz.func53 (by kernel_rfl) rfl) (fun v w' => v = .int .i64 2 ∧ Hid (IsDisk w' b g cap (D.syncX (L.counts : Nat)).1 ∧ Chg (fun k => k = b ∨ k = g) w2 w')) ((HW.out _ HB2.out).mono fun e w' ⟨h1, h2, h3⟩ => ⟨_, h1, rfl, h2, h3⟩) ?_
  rintro v w4 ⟨rfl, hK⟩
  have HD4 := Lib.hid hK.out.1
  have HC4 := Lib.hid ((Chg.of_below (fun k => k = b ∨ k = g) HB2.out).trans hK.out.2)
  have HL4 := Lib.hid (HL.out.keep HC4.out (fun e => by have := HL.out.ne HD0.out; omega))
  have HX4 : Hid (BoxAt w4 bx lb) := HX.out.keep HC4.out (fun e => by have := HBX.out; omega)
  refine ⟨⟨HX4.out, HL4.out.c0, HL4.out.c2⟩, ?_⟩
  simp only [Act.put, List.setIfInBounds_toArray, List.set_cons_zero, List.set_cons_succ]
  refine oneU 9 (by kernel_rfl) ?_
  refine callU 9 rfl (by kernel_rfl) rfl 85 _ _ rfl #[.string ⟨#[97, 32, 115, 121, 110, 99]⟩, .int .i64 2] (by simp [Act.eval]) (enters_of Tryz.func85 (by kernel_rfl) rfl) (fun v w' => (∃ t, v = GErr t) ∧ w' = w4) ((stepGone _ (by decide) w4).mono fun e w' ⟨t, h1, h2⟩ => ⟨_, h1, ⟨t, rfl⟩, h2⟩) ?_
  rintro v w5 ⟨⟨t, rfl⟩, rfl⟩
  refine ⟨⟨HX4.out, HL4.out.c0, HL4.out.c2⟩, ?_⟩
  simp only [Act.put, List.setIfInBounds_toArray, List.set_cons_zero, List.set_cons_succ]
  refine oneU 10 (by kernel_rfl) ?_
  refine endU (v := ?_) 10 rfl (by kernel_rfl) (by kernel_rfl) rfl ?_ ?_
  rotate_left
  · go_simp <;> with_reducible rfl
  simp only [Act.put, List.setIfInBounds_toArray, List.set_cons_zero, List.set_cons_succ]
  go_wp2_with fail
  go_ret
  first | exact ⟨t, rfl, HD4.out, HC4.out⟩ | exact ⟨⟨t, rfl⟩, HD4.out, HC4.out⟩
set_option maxHeartbeats 1600000 in
theorem cp3G (h : IsLog w lb b L) (hx : BoxAt w bx lb) (hbx : bx ≠ b ∧ bx ≠ g ∧ bx < w.heap.size) (hd : IsDisk w b g cap D) (hok : DOk D) (hf : L.first ≤ 1048576) (hcn : L.counts ≤ 1048576) (hr : (D.cutX (L.counts : Nat) 0).2 = 2) :
    Calls Tryz.prog 105 #[.pointer (some ⟨bx, 0, none⟩)] w fun e w' => ∃ t, e = .returned (GErr t) ∧ IsDisk w' b g cap (D.cutX (L.counts : Nat) 0).1 ∧ Chg (fun k => k = b ∨ k = g) w w' := by
  have HL := Lib.hid h
  have HX := Lib.hid hx
  have HD0 := Lib.hid hd
  have HBX := Lib.hid hbx
  have HW := Lib.hid (fun (w1 : World) (hb : Below w.heap.size w w1) => cutA (hd.below hb) hok (L.counts : Nat) 0)
  rw [hr] at HW
  clear h hx hd hok hr hbx
  go_enter Tryz.func105, Tryz.ntmps105
  go_wp2_with fail
  refine wp_region_U 10 (fun u => u.cell? ⟨bx, 0, none⟩ = some (.pointer (some ⟨lb, 0, none⟩)) ∧ u.cell? ⟨lb, 0, none⟩ = some (.pointer (some ⟨b, 0, none⟩)) ∧ u.cell? ⟨lb, 2, none⟩ = some (.int .i64 (L.counts : Nat))) (by kernel_rfl) ?_
  change wpAnyU _ _ _ _ _ _ 11 (Array.replicate 11 false) _ _
  obtain ⟨w2, hw2⟩ : ∃ w2, w2 = w.drew := ⟨_, rfl⟩
  rw [← hw2]
  have HL2 : Hid (IsLog w2 lb b L) := by unfold Hid; rw [hw2]; exact HL.out.below (Below.refl _ _).drew
  have HX2 : Hid (BoxAt w2 bx lb) := by unfold Hid; rw [hw2]; exact HX.out
  have HB2 : Hid (Below w.heap.size w w2) := by unfold Hid; rw [hw2]; exact (Below.refl _ _).drew
  clear hw2
  have HS : Hid ((fun u => u.cell? ⟨bx, 0, none⟩ = some (.pointer (some ⟨lb, 0, none⟩)) ∧ u.cell? ⟨lb, 0, none⟩ = some (.pointer (some ⟨b, 0, none⟩)) ∧ u.cell? ⟨lb, 2, none⟩ = some (.int .i64 (L.counts : Nat))) w2) := ⟨HX2.out, HL2.out.c0, HL2.out.c2⟩
  refine takeU 0 (v := ?_) rfl (by kernel_rfl) (by kernel_rfl) (fun _ _ _ h => h) rfl (fun u hu => ?_) HS.out ?_
  rotate_left
  · obtain ⟨q0, q1, q2⟩ := hu; go_simp <;> with_reducible rfl
  simp only [Act.put, List.setIfInBounds_toArray, List.set_cons_zero, List.set_cons_succ]
  refine takeU 1 (v := ?_) rfl (by kernel_rfl) (by kernel_rfl) (fun _ _ _ h => h) rfl (fun u hu => ?_) HS.out ?_
  rotate_left
  · obtain ⟨q0, q1, q2⟩ := hu; go_simp <;> with_reducible rfl
  simp only [Act.put, List.setIfInBounds_toArray, List.set_cons_zero, List.set_cons_succ]
  refine takeU 2 (v := ?_) rfl (by kernel_rfl) (by kernel_rfl) (fun _ _ _ h => h) rfl (fun u hu => ?_) HS.out ?_
  rotate_left
  · obtain ⟨q0, q1, q2⟩ := hu; go_simp <;> with_reducible rfl
  simp only [Act.put, List.setIfInBounds_toArray, List.set_cons_zero, List.set_cons_succ]
  refine takeU 3 (v := ?_) rfl (by kernel_rfl) (by kernel_rfl) (fun _ _ _ h => h) rfl (fun u hu => ?_) HS.out ?_
  rotate_left
  · obtain ⟨q0, q1, q2⟩ := hu; go_simp <;> with_reducible rfl
  simp only [Act.put, List.setIfInBounds_toArray, List.set_cons_zero, List.set_cons_succ]
  refine takeU 4 (v := ?_) rfl (by kernel_rfl) (by kernel_rfl) (fun _ _ _ h => h) rfl (fun u hu => ?_) HS.out ?_
  rotate_left
  · obtain ⟨q0, q1, q2⟩ := hu; go_simp <;> with_reducible rfl
  simp only [Act.put, List.setIfInBounds_toArray, List.set_cons_zero, List.set_cons_succ]
  refine takeU 5 (v := ?_) rfl (by kernel_rfl) (by kernel_rfl) (fun _ _ _ h => h) rfl (fun u hu => ?_) HS.out ?_
  rotate_left
  · obtain ⟨q0, q1, q2⟩ := hu; go_simp <;> with_reducible rfl
  simp only [Act.put, List.setIfInBounds_toArray, List.set_cons_zero, List.set_cons_succ]
  refine takeU 6 (v := ?_) rfl (by kernel_rfl) (by kernel_rfl) (fun _ _ _ h => h) rfl (fun u hu => ?_) HS.out ?_
  rotate_left
  · obtain ⟨q0, q1, q2⟩ := hu; go_simp <;> with_reducible rfl
  simp only [Act.put, List.setIfInBounds_toArray, List.set_cons_zero, List.set_cons_succ]
  refine takeU 7 (v := ?_) rfl (by kernel_rfl) (by kernel_rfl) (fun _ _ _ h => h) rfl (fun u hu => ?_) HS.out ?_
  rotate_left
  · obtain ⟨q0, q1, q2⟩ := hu; go_simp <;> with_reducible rfl
  simp only [Act.put, List.setIfInBounds_toArray, List.set_cons_zero, List.set_cons_succ]
  refine oneU 8 (by kernel_rfl) ?_
  refine callU 8 rfl (by kernel_rfl) rfl 56 _ _ rfl #[.pointer (some ⟨b, 0, none⟩), .int .i64 (L.counts : Nat), .int .i64 0] (by simp [Act.eval]) (enters_of Tryz.func56 (by kernel_rfl) rfl) (fun v w' => v = .int .i64 2 ∧ Hid (IsDisk w' b g cap (D.cutX (L.counts : Nat) 0).1 ∧ Chg (fun k => k = b ∨ k = g) w2 w')) ((HW.out _ HB2.out).mono fun e w' ⟨h1, h2, h3⟩ => ⟨_, h1, rfl, h2, h3⟩) ?_
  rintro v w4 ⟨rfl, hK⟩
  have HD4 := Lib.hid hK.out.1
  have HC4 := Lib.hid ((Chg.of_below (fun k => k = b ∨ k = g) HB2.out).trans hK.out.2)
  have HL4 := Lib.hid (HL.out.keep HC4.out (fun e => by have := HL.out.ne HD0.out; omega))
  have HX4 : Hid (BoxAt w4 bx lb) := HX.out.keep HC4.out (fun e => by have := HBX.out; omega)
  refine ⟨⟨HX4.out, HL4.out.c0, HL4.out.c2⟩, ?_⟩
  simp only [Act.put, List.setIfInBounds_toArray, List.set_cons_zero, List.set_cons_succ]
  refine oneU 9 (by kernel_rfl) ?_
  refine callU 9 rfl (by kernel_rfl) rfl 85 _ _ rfl #[.string ⟨#[97, 32, 99, 117, 116]⟩, .int .i64 2] (by simp [Act.eval]) (enters_of Tryz.func85 (by kernel_rfl) rfl) (fun v w' => (∃ t, v = GErr t) ∧ w' = w4) ((stepGone _ (by decide) w4).mono fun e w' ⟨t, h1, h2⟩ => ⟨_, h1, ⟨t, rfl⟩, h2⟩) ?_
  rintro v w5 ⟨⟨t, rfl⟩, rfl⟩
  refine ⟨⟨HX4.out, HL4.out.c0, HL4.out.c2⟩, ?_⟩
  simp only [Act.put, List.setIfInBounds_toArray, List.set_cons_zero, List.set_cons_succ]
  refine oneU 10 (by kernel_rfl) ?_
  refine endU (v := ?_) 10 rfl (by kernel_rfl) (by kernel_rfl) rfl ?_ ?_
  rotate_left
  · go_simp <;> with_reducible rfl
  simp only [Act.put, List.setIfInBounds_toArray, List.set_cons_zero, List.set_cons_succ]
  go_wp2_with fail
  go_ret
  first | exact ⟨t, rfl, HD4.out, HC4.out⟩ | exact ⟨⟨t, rfl⟩, HD4.out, HC4.out⟩
theorem gErrNil (t : ByteArray) (w : World) : (binOp .eql 103 (GErr t) .nilIface).run Tryz.prog w = .ok (.bool false) w := by kernel_rfl
set_option maxHeartbeats 3200000 in
theorem checkpointGone0 (h : IsLog w lb b L) (hd : IsDisk w b g cap D) (hok : DOk D) (s : ByteArray) (hdl : L.dead = false) (hs : s.size ≤ 16384) (hg : L.gen < 1099511627776) (hf : L.first ≤ 1048576) (hcn : L.counts ≤ 1048576)
    (hm : ∀ f, f < D.l.length → (D.l.getD f Fl.zero).ws.length < 1099511627776) (o : Nat) (ho : 2 * (L.first : Int) + 1 - (L.counts : Int) = (o : Nat)) (D1 : Dk)
    (e1 : D.writeX (o : Nat) (recS (L.gen + 1) s) = (D1, 2)) :
    Calls Tryz.prog 78 #[.pointer (some ⟨lb, 0, none⟩), .string s] w fun e w' => e = .returned (.int .i64 2) ∧ IsLog w' lb b { L with dead := true } ∧ IsDisk w' b g cap D1 ∧ Chg (fun k => k = lb ∨ k = b ∨ k = g) w w' := by
  obtain ⟨bx, hbx⟩ : ∃ bx, bx = w.heap.size := ⟨_, rfl⟩
  obtain ⟨W0, hW0⟩ : ∃ W, W = w.alloc (.cells #[.pointer (some ⟨lb, 0, none⟩)] 69) := ⟨_, rfl⟩
  have hb0 : Below w.heap.size w W0 := by rw [hW0]; exact (Below.refl _ _).alloc (Nat.le_refl _) _
  have hl0 := h.below hb0
  have hd0 := hd.below hb0
  have hx0 : BoxAt W0 bx lb := by unfold BoxAt; rw [hW0, hbx]; simp
  have hbz : bx < W0.heap.size := by rw [hW0, hbx]; simp
  have hlt := h.lt
  have hdlt := hd.lt
  have hglt := hd.fs.lt
  have HNE := Lib.hid (h.ne hd)
  have HBX : Hid (bx ≠ lb ∧ bx ≠ b ∧ bx ≠ g) := by unfold Hid; rw [hbx]; omega
  have c5 := h.c5
  have c3 := h.c3
  rw [hdl] at c5
  have HL0 := Lib.hid hl0
  have HX0 := Lib.hid hx0
  have HD0 := Lib.hid hd0
  have HB0 := Lib.hid hb0
  have HLT := Lib.hid hlt
  have HBZ := Lib.hid hbz
  have HW := Lib.hid (fun (w1 : World) (hb : Below W0.heap.size W0 w1) => writeLGone (hl0.below hb) (hd0.below hb) hok o (L.gen + 1) s (by omega) (by omega) hs hm (by rw [e1]))
  rw [e1] at HW
  have HO := Lib.hid (fun (wr : World) (hl : IsLog wr lb b L) => otherW hl hf hcn)
  rw [ho] at HO
  have HW0 := Lib.hid hW0
  have HBXE := Lib.hid hbx
  have HG := Lib.hid hg
  have hgi : ¬ (1099511627776 : Int) ≤ (L.gen : Int) := by omega
  clear hg
  clear hbx h hd hok hdl hl0 hd0 hx0 hbz hb0 e1 hm ho hdlt hglt hf hcn hW0
  go_enter Tryz.func78, Tryz.ntmps78
  go_wp2_with fail
  rw [← HW0.out, ← HBXE.out]
  have c3' := 0
  clear c3' c3 c5
  refine wp_region_U 10 (fun u => u.cell? ⟨bx, 0, none⟩ = some (.pointer (some ⟨lb, 0, none⟩)) ∧ u.cell? ⟨lb, 3, none⟩ = some (.int .i64 (L.gen : Nat))) (by kernel_rfl) ?_
  change wpAnyU _ _ _ _ _ _ 11 (Array.replicate 11 false) _ _
  obtain ⟨w2, hw2⟩ : ∃ w2, w2 = W0.drew := ⟨_, rfl⟩
  rw [← hw2]
  have HL2 : Hid (IsLog w2 lb b L) := by unfold Hid; rw [hw2]; exact HL0.out.below (Below.refl _ _).drew
  have HX2 : Hid (BoxAt w2 bx lb) := by unfold Hid; rw [hw2]; exact HX0.out
  have HB2 : Hid (Below W0.heap.size W0 w2) := by unfold Hid; rw [hw2]; exact (Below.refl _ _).drew
  clear hw2
  have HS : Hid ((fun u => u.cell? ⟨bx, 0, none⟩ = some (.pointer (some ⟨lb, 0, none⟩)) ∧ u.cell? ⟨lb, 3, none⟩ = some (.int .i64 (L.gen : Nat))) w2) := ⟨HX2.out, HL2.out.c3⟩
  refine takeU 0 (v := ?_) rfl (by kernel_rfl) (by kernel_rfl) (fun _ _ _ h => h) rfl (fun u hu => ?_) HS.out ?_
  rotate_left
  · obtain ⟨q0, q1⟩ := hu; go_simp <;> with_reducible rfl
  simp only [Act.put, List.setIfInBounds_toArray, List.set_cons_zero, List.set_cons_succ]
  refine takeU 1 (v := ?_) rfl (by kernel_rfl) (by kernel_rfl) (fun _ _ _ h => h) rfl (fun u hu => ?_) HS.out ?_
  rotate_left
  · obtain ⟨q0, q1⟩ := hu; go_simp <;> with_reducible rfl
  simp only [Act.put, List.setIfInBounds_toArray, List.set_cons_zero, List.set_cons_succ]
  refine takeU 3 (v := ?_) rfl (by kernel_rfl) (by kernel_rfl) (fun _ _ _ h => h) rfl (fun u hu => ?_) HS.out ?_
  rotate_left
  · obtain ⟨q0, q1⟩ := hu; go_simp <;> with_reducible rfl
  simp only [Act.put, List.setIfInBounds_toArray, List.set_cons_zero, List.set_cons_succ]
  refine takeU 4 (v := ?_) rfl (by kernel_rfl) (by kernel_rfl) (fun _ _ _ h => h) rfl (fun u hu => ?_) HS.out ?_
  rotate_left
  · obtain ⟨q0, q1⟩ := hu; go_simp <;> with_reducible rfl
  simp only [Act.put, List.setIfInBounds_toArray, List.set_cons_zero, List.set_cons_succ]
  refine takeU 5 (v := ?_) rfl (by kernel_rfl) (by kernel_rfl) (fun _ _ _ h => h) rfl (fun u hu => ?_) HS.out ?_
  rotate_left
  · obtain ⟨q0, q1⟩ := hu; go_simp <;> with_reducible rfl
  simp only [Act.put, List.setIfInBounds_toArray, List.set_cons_zero, List.set_cons_succ]
  refine takeU 6 (v := ?_) rfl (by kernel_rfl) (by kernel_rfl) (fun _ _ _ h => h) rfl (fun u hu => ?_) HS.out ?_
  rotate_left
  · obtain ⟨q0, q1⟩ := hu; go_simp <;> with_reducible rfl
  simp only [Act.put, List.setIfInBounds_toArray, List.set_cons_zero, List.set_cons_succ]
  refine takeU 7 (v := ?_) rfl (by kernel_rfl) (by kernel_rfl) (fun _ _ _ h => h) rfl (fun u hu => ?_) HS.out ?_
  rotate_left
  · obtain ⟨q0, q1⟩ := hu; go_simp <;> with_reducible rfl
  simp only [Act.put, List.setIfInBounds_toArray, List.set_cons_zero, List.set_cons_succ]
  refine takeU 8 (v := ?_) rfl (by kernel_rfl) (by kernel_rfl) (fun _ _ _ h => h) rfl (fun u hu => ?_) HS.out ?_
  rotate_left
  · obtain ⟨q0, q1⟩ := hu; go_simp <;> with_reducible rfl
  simp only [Act.put, List.setIfInBounds_toArray, List.set_cons_zero, List.set_cons_succ]
  refine oneU 2 (by kernel_rfl) ?_
  refine callU 2 rfl (by kernel_rfl) rfl 102 _ _ rfl #[.pointer (some ⟨lb, 0, none⟩)] (by simp [Act.eval]) (enters_of Tryz.func102 (by kernel_rfl) rfl) (fun v w' => v = .int .i64 (o : Nat) ∧ Below w2.heap.size w2 w') ((HO.out _ HL2.out).mono fun e w' ⟨h1, h2⟩ => ⟨_, h1, rfl, h2⟩) ?_
  rintro v w3 ⟨rfl, hb3⟩
  have HL3 := Lib.hid (HL2.out.below hb3)
  have HX3 : Hid (BoxAt w3 bx lb) := hb3.cell (block_lt_of_cell HX2.out) |>.trans HX2.out
  have HB3 := Lib.hid (HB2.out.trans (hb3.mono HB2.out.size))
  clear hb3
  refine ⟨⟨HX3.out, HL3.out.c3⟩, ?_⟩
  simp only [Act.put, List.setIfInBounds_toArray, List.set_cons_zero, List.set_cons_succ]
  refine oneU 9 (by kernel_rfl) ?_
  refine callU 9 rfl (by kernel_rfl) rfl 84 _ _ rfl #[.pointer (some ⟨lb, 0, none⟩), .int .i64 (o : Nat), .int .i64 ((L.gen + 1 : Nat) : Int), .string s] (by simp [Act.eval]; exact IntWalk.i64_in _ (by have := HG.out; omega)) (enters_of Tryz.func84 (by kernel_rfl) rfl) (fun v w' => (∃ t, v = GErr t) ∧ Hid (IsDisk w' b g cap D1 ∧ Chg (fun k => k = b ∨ k = g) w3 w')) ((HW.out _ HB3.out).mono fun e w' ⟨t, h1, h2, h3⟩ => ⟨_, h1, ⟨t, rfl⟩, h2, h3⟩) ?_
  rintro v w4 ⟨⟨t, rfl⟩, hK⟩
  have HD4 := Lib.hid hK.out.1
  have HC4 := Lib.hid ((Chg.of_below (fun k => k = b ∨ k = g) HB3.out).trans hK.out.2)
  have HL4 := Lib.hid (HL0.out.keep HC4.out (fun e => by have := HNE.out; omega))
  have HX4 : Hid (BoxAt w4 bx lb) := HX0.out.keep HC4.out (fun e => by have := HBX.out; omega)
  refine ⟨⟨HX4.out, HL4.out.c3⟩, ?_⟩
  simp only [Act.put, List.setIfInBounds_toArray, List.set_cons_zero, List.set_cons_succ]
  refine oneU 10 (by kernel_rfl) ?_
  refine endU (v := ?_) 10 rfl (by kernel_rfl) (by kernel_rfl) rfl ?_ ?_
  rotate_left
  · go_simp <;> with_reducible rfl
  simp only [Act.put, List.setIfInBounds_toArray, List.set_cons_zero, List.set_cons_succ]
  clear HS HW HL2 HX2 HB2 HL3 HX3 HB3
  go_wp2_with fail
  obtain ⟨fb, hfb⟩ : ∃ fb, fb = w4.heap.size := ⟨_, rfl⟩
  obtain ⟨W5, hW5⟩ : ∃ W, W = w4.alloc (.cells #[.func (.func 103) #[] #[.pointer (some ⟨bx, 0, none⟩)], .func (.func 104) #[] #[.pointer (some ⟨bx, 0, none⟩)], .func (.func 105) #[] #[.pointer (some ⟨bx, 0, none⟩)]] 166) := ⟨_, rfl⟩
  rw [← hW5, ← hfb]
  have F0 : Hid (W5.cell? ⟨fb, 0, none⟩ = some (.func (.func 103) #[] #[.pointer (some ⟨bx, 0, none⟩)])) := by unfold Hid; rw [hW5, hfb]; simp
  have F1 : Hid (W5.cell? ⟨fb, 1, none⟩ = some (.func (.func 104) #[] #[.pointer (some ⟨bx, 0, none⟩)])) := by unfold Hid; rw [hW5, hfb]; simp
  have F2 : Hid (W5.cell? ⟨fb, 2, none⟩ = some (.func (.func 105) #[] #[.pointer (some ⟨bx, 0, none⟩)])) := by unfold Hid; rw [hW5, hfb]; simp
  have hb5 : Below w4.heap.size w4 W5 := by rw [hW5]; exact (Below.refl _ _).alloc (Nat.le_refl _) _
  have HFB : Hid (fb ≠ b ∧ fb ≠ g) := by unfold Hid; have := HD4.out.lt; have := HD4.out.fs.lt; omega
  have HD5 := Lib.hid (HD4.out.below hb5)
  have HC5 := Lib.hid (HC4.out.trans (Chg.of_below _ hb5))
  have HL5 := Lib.hid (HL4.out.below hb5)
  have HX5 : Hid (BoxAt W5 bx lb) := hb5.cell (block_lt_of_cell HX4.out) |>.trans HX4.out
  have HZ5 : Hid (bx < W5.heap.size) := Nat.lt_of_lt_of_le HBZ.out HC5.out.size
  have qE := gErrNil
  unfold GErr at qE
  clear hb5 hW5 hfb HD4 HC4 HL4 HX4
  go_loopw [5, 39] (fun v5 v39 wr => ((v39 = .int .i64 0 ∧ (∃ t, v5 = GErr t) ∧ IsDisk wr b g cap D1) ∨ (v39 = .int .i64 1 ∧ (∃ t, v5 = GErr t) ∧ IsDisk wr b g cap D1) ∨ (v39 = .int .i64 2 ∧ (∃ t, v5 = GErr t) ∧ IsDisk wr b g cap D1) ∨ (v39 = .int .i64 3 ∧ (∃ t, v5 = GErr t) ∧ IsDisk wr b g cap D1)) ∧ Chg (fun k => k = b ∨ k = g) W5 wr) (fun _ v _ => (3 - intOf v).toNat)
  case atStart => exact ⟨.inl ⟨rfl, ⟨t, rfl⟩, HD5.out⟩, Chg.refl _ _⟩
  case round =>
    obtain ⟨hr, hc⟩ := hrel
    have HCr := Lib.hid hc
    have HLr := Lib.hid (HL5.out.keep hc (fun e => by have := HNE.out; omega))
    have HXr : Hid (BoxAt wr bx lb) := HX5.out.keep hc (fun e => by have := HBX.out; omega)
    have HZr : Hid (bx < wr.heap.size) := Nat.lt_of_lt_of_le HZ5.out hc.size
    clear hc
    rcases hr with ⟨rfl, ⟨t, rfl⟩, hd⟩ | ⟨rfl, ⟨t, rfl⟩, hd⟩ | ⟨rfl, ⟨t, rfl⟩, hd⟩ | ⟨rfl, ⟨t, rfl⟩, hd⟩
    · have HDr := Lib.hid hd
      clear hd
      have f := HCr.out.cell (fun e => by have := HFB.out; simp at e; omega) F0.out
      unfold GErr
      go_wp2_with fail
      exact ⟨⟨.inr (.inl ⟨rfl, ⟨t, rfl⟩, HDr.out⟩), HCr.out⟩, by simp [intOf]⟩
    · have HDr := Lib.hid hd
      clear hd
      have f := HCr.out.cell (fun e => by have := HFB.out; simp at e; omega) F1.out
      unfold GErr
      go_wp2_with fail
      exact ⟨⟨.inr (.inr (.inl ⟨rfl, ⟨t, rfl⟩, HDr.out⟩)), HCr.out⟩, by simp [intOf]⟩
    · have HDr := Lib.hid hd
      clear hd
      have f := HCr.out.cell (fun e => by have := HFB.out; simp at e; omega) F2.out
      unfold GErr
      go_wp2_with fail
      exact ⟨⟨.inr (.inr (.inr ⟨rfl, ⟨t, rfl⟩, HDr.out⟩)), HCr.out⟩, by simp [intOf]⟩
    · have HDr := Lib.hid hd
      clear hd
      have x0 : wr.cell? ⟨bx, 0, none⟩ = some (.pointer (some ⟨lb, 0, none⟩)) := HXr.out
      have HT := Lib.hid (toldGone HLr.out _ (.inl ⟨t, rfl⟩))
      unfold GErr at HT ⊢
      go_wp2_with fail
      refine HT.out.mono ?_
      rintro e w6 ⟨rfl, hl6, hc6⟩
      have HL6 := Lib.hid hl6
      have HC6 := Lib.hid hc6
      clear hl6 hc6 x0
      go_wp2_with fail
      go_ret
      exact ⟨rfl, HL6.out, HDr.out.log HLr.out HC6.out, (((Chg.of_below _ HB0.out).trans (HC5.out.trans HCr.out)).mono (fun k _ h => .inr h)).trans (HC6.out.mono (fun k _ h => .inl h))⟩
set_option maxHeartbeats 3200000 in
theorem checkpointGone1 (h : IsLog w lb b L) (hd : IsDisk w b g cap D) (hok : DOk D) (s : ByteArray) (hdl : L.dead = false) (hs : s.size ≤ 16384) (hg : L.gen < 1099511627776) (hf : L.first ≤ 1048576) (hcn : L.counts ≤ 1048576)
    (hm : ∀ f, f < D.l.length → (D.l.getD f Fl.zero).ws.length < 1099511627776) (o : Nat) (ho : 2 * (L.first : Int) + 1 - (L.counts : Int) = (o : Nat)) (D1 D2 : Dk)
    (e1 : D.writeX (o : Nat) (recS (L.gen + 1) s) = (D1, 0)) (e2 : D1.syncX (o : Nat) = (D2, 2)) (k1 : DOk D1) :
    Calls Tryz.prog 78 #[.pointer (some ⟨lb, 0, none⟩), .string s] w fun e w' => e = .returned (.int .i64 2) ∧ IsLog w' lb b { L with dead := true } ∧ IsDisk w' b g cap D2 ∧ Chg (fun k => k = lb ∨ k = b ∨ k = g) w w' := by
  obtain ⟨bx, hbx⟩ : ∃ bx, bx = w.heap.size := ⟨_, rfl⟩
  obtain ⟨W0, hW0⟩ : ∃ W, W = w.alloc (.cells #[.pointer (some ⟨lb, 0, none⟩)] 69) := ⟨_, rfl⟩
  have hb0 : Below w.heap.size w W0 := by rw [hW0]; exact (Below.refl _ _).alloc (Nat.le_refl _) _
  have hl0 := h.below hb0
  have hd0 := hd.below hb0
  have hx0 : BoxAt W0 bx lb := by unfold BoxAt; rw [hW0, hbx]; simp
  have hbz : bx < W0.heap.size := by rw [hW0, hbx]; simp
  have hlt := h.lt
  have hdlt := hd.lt
  have hglt := hd.fs.lt
  have HNE := Lib.hid (h.ne hd)
  have HBX : Hid (bx ≠ lb ∧ bx ≠ b ∧ bx ≠ g) := by unfold Hid; rw [hbx]; omega
  have c5 := h.c5
  have c3 := h.c3
  rw [hdl] at c5
  have HL0 := Lib.hid hl0
  have HX0 := Lib.hid hx0
  have HD0 := Lib.hid hd0
  have HB0 := Lib.hid hb0
  have HLT := Lib.hid hlt
  have HBZ := Lib.hid hbz
  have HW := Lib.hid (fun (w1 : World) (hb : Below W0.heap.size W0 w1) => writeLOk (hl0.below hb) (hd0.below hb) hok o (L.gen + 1) s (by omega) (by omega) hs hm (by rw [e1]))
  rw [e1] at HW
  have K1 := Lib.hid (fun (wr : World) (hl : IsLog wr lb b L) (hx : BoxAt wr bx lb) (hz : bx < wr.heap.size) (hd : IsDisk wr b g cap D1) => cp1G hl hx ⟨HBX.out.2.1, HBX.out.2.2, hz⟩ hd k1 hf hcn (by rw [ho, e2]))
  rw [ho, e2] at K1
  have HO := Lib.hid (fun (wr : World) (hl : IsLog wr lb b L) => otherW hl hf hcn)
  rw [ho] at HO
  have HW0 := Lib.hid hW0
  have HBXE := Lib.hid hbx
  have HG := Lib.hid hg
  have hgi : ¬ (1099511627776 : Int) ≤ (L.gen : Int) := by omega
  clear hg
  clear hbx h hd hok hdl hl0 hd0 hx0 hbz hb0 e1 e2 k1 hm ho hdlt hglt hf hcn hW0
  go_enter Tryz.func78, Tryz.ntmps78
  go_wp2_with fail
  rw [← HW0.out, ← HBXE.out]
  have c3' := 0
  clear c3' c3 c5
  refine wp_region_U 10 (fun u => u.cell? ⟨bx, 0, none⟩ = some (.pointer (some ⟨lb, 0, none⟩)) ∧ u.cell? ⟨lb, 3, none⟩ = some (.int .i64 (L.gen : Nat))) (by kernel_rfl) ?_
  change wpAnyU _ _ _ _ _ _ 11 (Array.replicate 11 false) _ _
  obtain ⟨w2, hw2⟩ : ∃ w2, w2 = W0.drew := ⟨_, rfl⟩
  rw [← hw2]
  have HL2 : Hid (IsLog w2 lb b L) := by unfold Hid; rw [hw2]; exact HL0.out.below (Below.refl _ _).drew
  have HX2 : Hid (BoxAt w2 bx lb) := by unfold Hid; rw [hw2]; exact HX0.out
  have HB2 : Hid (Below W0.heap.size W0 w2) := by unfold Hid; rw [hw2]; exact (Below.refl _ _).drew
  clear hw2
  have HS : Hid ((fun u => u.cell? ⟨bx, 0, none⟩ = some (.pointer (some ⟨lb, 0, none⟩)) ∧ u.cell? ⟨lb, 3, none⟩ = some (.int .i64 (L.gen : Nat))) w2) := ⟨HX2.out, HL2.out.c3⟩
  refine takeU 0 (v := ?_) rfl (by kernel_rfl) (by kernel_rfl) (fun _ _ _ h => h) rfl (fun u hu => ?_) HS.out ?_
  rotate_left
  · obtain ⟨q0, q1⟩ := hu; go_simp <;> with_reducible rfl
  simp only [Act.put, List.setIfInBounds_toArray, List.set_cons_zero, List.set_cons_succ]
  refine takeU 1 (v := ?_) rfl (by kernel_rfl) (by kernel_rfl) (fun _ _ _ h => h) rfl (fun u hu => ?_) HS.out ?_
  rotate_left
  · obtain ⟨q0, q1⟩ := hu; go_simp <;> with_reducible rfl
  simp only [Act.put, List.setIfInBounds_toArray, List.set_cons_zero, List.set_cons_succ]
  refine takeU 3 (v := ?_) rfl (by kernel_rfl) (by kernel_rfl) (fun _ _ _ h => h) rfl (fun u hu => ?_) HS.out ?_
  rotate_left
  · obtain ⟨q0, q1⟩ := hu; go_simp <;> with_reducible rfl
  simp only [Act.put, List.setIfInBounds_toArray, List.set_cons_zero, List.set_cons_succ]
  refine takeU 4 (v := ?_) rfl (by kernel_rfl) (by kernel_rfl) (fun _ _ _ h => h) rfl (fun u hu => ?_) HS.out ?_
  rotate_left
  · obtain ⟨q0, q1⟩ := hu; go_simp <;> with_reducible rfl
  simp only [Act.put, List.setIfInBounds_toArray, List.set_cons_zero, List.set_cons_succ]
  refine takeU 5 (v := ?_) rfl (by kernel_rfl) (by kernel_rfl) (fun _ _ _ h => h) rfl (fun u hu => ?_) HS.out ?_
  rotate_left
  · obtain ⟨q0, q1⟩ := hu; go_simp <;> with_reducible rfl
  simp only [Act.put, List.setIfInBounds_toArray, List.set_cons_zero, List.set_cons_succ]
  refine takeU 6 (v := ?_) rfl (by kernel_rfl) (by kernel_rfl) (fun _ _ _ h => h) rfl (fun u hu => ?_) HS.out ?_
  rotate_left
  · obtain ⟨q0, q1⟩ := hu; go_simp <;> with_reducible rfl
  simp only [Act.put, List.setIfInBounds_toArray, List.set_cons_zero, List.set_cons_succ]
  refine takeU 7 (v := ?_) rfl (by kernel_rfl) (by kernel_rfl) (fun _ _ _ h => h) rfl (fun u hu => ?_) HS.out ?_
  rotate_left
  · obtain ⟨q0, q1⟩ := hu; go_simp <;> with_reducible rfl
  simp only [Act.put, List.setIfInBounds_toArray, List.set_cons_zero, List.set_cons_succ]
  refine takeU 8 (v := ?_) rfl (by kernel_rfl) (by kernel_rfl) (fun _ _ _ h => h) rfl (fun u hu => ?_) HS.out ?_
  rotate_left
  · obtain ⟨q0, q1⟩ := hu; go_simp <;> with_reducible rfl
  simp only [Act.put, List.setIfInBounds_toArray, List.set_cons_zero, List.set_cons_succ]
  refine oneU 2 (by kernel_rfl) ?_
  refine callU 2 rfl (by kernel_rfl) rfl 102 _ _ rfl #[.pointer (some ⟨lb, 0, none⟩)] (by simp [Act.eval]) (enters_of Tryz.func102 (by kernel_rfl) rfl) (fun v w' => v = .int .i64 (o : Nat) ∧ Below w2.heap.size w2 w') ((HO.out _ HL2.out).mono fun e w' ⟨h1, h2⟩ => ⟨_, h1, rfl, h2⟩) ?_
  rintro v w3 ⟨rfl, hb3⟩
  have HL3 := Lib.hid (HL2.out.below hb3)
  have HX3 : Hid (BoxAt w3 bx lb) := hb3.cell (block_lt_of_cell HX2.out) |>.trans HX2.out
  have HB3 := Lib.hid (HB2.out.trans (hb3.mono HB2.out.size))
  clear hb3
  refine ⟨⟨HX3.out, HL3.out.c3⟩, ?_⟩
  simp only [Act.put, List.setIfInBounds_toArray, List.set_cons_zero, List.set_cons_succ]
  refine oneU 9 (by kernel_rfl) ?_
  refine callU 9 rfl (by kernel_rfl) rfl 84 _ _ rfl #[.pointer (some ⟨lb, 0, none⟩), .int .i64 (o : Nat), .int .i64 ((L.gen + 1 : Nat) : Int), .string s] (by simp [Act.eval]; exact IntWalk.i64_in _ (by have := HG.out; omega)) (enters_of Tryz.func84 (by kernel_rfl) rfl) (fun v w' => v = .nilIface ∧ Hid (IsDisk w' b g cap D1 ∧ Chg (fun k => k = b ∨ k = g) w3 w')) ((HW.out _ HB3.out).mono fun e w' ⟨h1, h2, h3⟩ => ⟨_, h1, rfl, h2, h3⟩) ?_
  rintro v w4 ⟨rfl, hK⟩
  have HD4 := Lib.hid hK.out.1
  have HC4 := Lib.hid ((Chg.of_below (fun k => k = b ∨ k = g) HB3.out).trans hK.out.2)
  have HL4 := Lib.hid (HL0.out.keep HC4.out (fun e => by have := HNE.out; omega))
  have HX4 : Hid (BoxAt w4 bx lb) := HX0.out.keep HC4.out (fun e => by have := HBX.out; omega)
  refine ⟨⟨HX4.out, HL4.out.c3⟩, ?_⟩
  simp only [Act.put, List.setIfInBounds_toArray, List.set_cons_zero, List.set_cons_succ]
  refine oneU 10 (by kernel_rfl) ?_
  refine endU (v := ?_) 10 rfl (by kernel_rfl) (by kernel_rfl) rfl ?_ ?_
  rotate_left
  · go_simp <;> with_reducible rfl
  simp only [Act.put, List.setIfInBounds_toArray, List.set_cons_zero, List.set_cons_succ]
  clear HS HW HL2 HX2 HB2 HL3 HX3 HB3
  go_wp2_with fail
  obtain ⟨fb, hfb⟩ : ∃ fb, fb = w4.heap.size := ⟨_, rfl⟩
  obtain ⟨W5, hW5⟩ : ∃ W, W = w4.alloc (.cells #[.func (.func 103) #[] #[.pointer (some ⟨bx, 0, none⟩)], .func (.func 104) #[] #[.pointer (some ⟨bx, 0, none⟩)], .func (.func 105) #[] #[.pointer (some ⟨bx, 0, none⟩)]] 166) := ⟨_, rfl⟩
  rw [← hW5, ← hfb]
  have F0 : Hid (W5.cell? ⟨fb, 0, none⟩ = some (.func (.func 103) #[] #[.pointer (some ⟨bx, 0, none⟩)])) := by unfold Hid; rw [hW5, hfb]; simp
  have F1 : Hid (W5.cell? ⟨fb, 1, none⟩ = some (.func (.func 104) #[] #[.pointer (some ⟨bx, 0, none⟩)])) := by unfold Hid; rw [hW5, hfb]; simp
  have F2 : Hid (W5.cell? ⟨fb, 2, none⟩ = some (.func (.func 105) #[] #[.pointer (some ⟨bx, 0, none⟩)])) := by unfold Hid; rw [hW5, hfb]; simp
  have hb5 : Below w4.heap.size w4 W5 := by rw [hW5]; exact (Below.refl _ _).alloc (Nat.le_refl _) _
  have HFB : Hid (fb ≠ b ∧ fb ≠ g) := by unfold Hid; have := HD4.out.lt; have := HD4.out.fs.lt; omega
  have HD5 := Lib.hid (HD4.out.below hb5)
  have HC5 := Lib.hid (HC4.out.trans (Chg.of_below _ hb5))
  have HL5 := Lib.hid (HL4.out.below hb5)
  have HX5 : Hid (BoxAt W5 bx lb) := hb5.cell (block_lt_of_cell HX4.out) |>.trans HX4.out
  have HZ5 : Hid (bx < W5.heap.size) := Nat.lt_of_lt_of_le HBZ.out HC5.out.size
  have qE := gErrNil
  unfold GErr at qE
  clear hb5 hW5 hfb HD4 HC4 HL4 HX4
  go_loopw [5, 39] (fun v5 v39 wr => ((v39 = .int .i64 0 ∧ v5 = .nilIface ∧ IsDisk wr b g cap D1) ∨ (v39 = .int .i64 1 ∧ (∃ t, v5 = GErr t) ∧ IsDisk wr b g cap D2) ∨ (v39 = .int .i64 2 ∧ (∃ t, v5 = GErr t) ∧ IsDisk wr b g cap D2) ∨ (v39 = .int .i64 3 ∧ (∃ t, v5 = GErr t) ∧ IsDisk wr b g cap D2)) ∧ Chg (fun k => k = b ∨ k = g) W5 wr) (fun _ v _ => (3 - intOf v).toNat)
  case atStart => exact ⟨.inl ⟨rfl, rfl, HD5.out⟩, Chg.refl _ _⟩
  case round =>
    obtain ⟨hr, hc⟩ := hrel
    have HCr := Lib.hid hc
    have HLr := Lib.hid (HL5.out.keep hc (fun e => by have := HNE.out; omega))
    have HXr : Hid (BoxAt wr bx lb) := HX5.out.keep hc (fun e => by have := HBX.out; omega)
    have HZr : Hid (bx < wr.heap.size) := Nat.lt_of_lt_of_le HZ5.out hc.size
    clear hc
    rcases hr with ⟨rfl, rfl, hd⟩ | ⟨rfl, ⟨t, rfl⟩, hd⟩ | ⟨rfl, ⟨t, rfl⟩, hd⟩ | ⟨rfl, ⟨t, rfl⟩, hd⟩
    · have HDr := Lib.hid hd
      clear hd
      have f := HCr.out.cell (fun e => by have := HFB.out; simp at e; omega) F0.out
      go_wp2_with fail
      refine (K1.out wr HLr.out HXr.out HZr.out HDr.out).mono ?_
      rintro e w6 ⟨t, rfl, hd, hc⟩
      have HD6 := Lib.hid hd
      have HC6 := Lib.hid (HCr.out.trans hc)
      clear hd hc f
      go_wp2_with fail
      exact ⟨⟨.inr (.inl ⟨rfl, ⟨t, rfl⟩, HD6.out⟩), HC6.out⟩, by simp [intOf]⟩
    · have HDr := Lib.hid hd
      clear hd
      have f := HCr.out.cell (fun e => by have := HFB.out; simp at e; omega) F1.out
      unfold GErr
      go_wp2_with fail
      exact ⟨⟨.inr (.inr (.inl ⟨rfl, ⟨t, rfl⟩, HDr.out⟩)), HCr.out⟩, by simp [intOf]⟩
    · have HDr := Lib.hid hd
      clear hd
      have f := HCr.out.cell (fun e => by have := HFB.out; simp at e; omega) F2.out
      unfold GErr
      go_wp2_with fail
      exact ⟨⟨.inr (.inr (.inr ⟨rfl, ⟨t, rfl⟩, HDr.out⟩)), HCr.out⟩, by simp [intOf]⟩
    · have HDr := Lib.hid hd
      clear hd
      have x0 : wr.cell? ⟨bx, 0, none⟩ = some (.pointer (some ⟨lb, 0, none⟩)) := HXr.out
      have HT := Lib.hid (toldGone HLr.out _ (.inl ⟨t, rfl⟩))
      unfold GErr at HT ⊢
      go_wp2_with fail
      refine HT.out.mono ?_
      rintro e w6 ⟨rfl, hl6, hc6⟩
      have HL6 := Lib.hid hl6
      have HC6 := Lib.hid hc6
      clear hl6 hc6 x0
      go_wp2_with fail
      go_ret
      exact ⟨rfl, HL6.out, HDr.out.log HLr.out HC6.out, (((Chg.of_below _ HB0.out).trans (HC5.out.trans HCr.out)).mono (fun k _ h => .inr h)).trans (HC6.out.mono (fun k _ h => .inl h))⟩
set_option maxHeartbeats 3200000 in
theorem checkpointGone2 (h : IsLog w lb b L) (hd : IsDisk w b g cap D) (hok : DOk D) (s : ByteArray) (hdl : L.dead = false) (hs : s.size ≤ 16384) (hg : L.gen < 1099511627776) (hf : L.first ≤ 1048576) (hcn : L.counts ≤ 1048576)
    (hm : ∀ f, f < D.l.length → (D.l.getD f Fl.zero).ws.length < 1099511627776) (o : Nat) (ho : 2 * (L.first : Int) + 1 - (L.counts : Int) = (o : Nat)) (D1 D2 D3 : Dk)
    (e1 : D.writeX (o : Nat) (recS (L.gen + 1) s) = (D1, 0)) (e2 : D1.syncX (o : Nat) = (D2, 0)) (e3 : D2.syncX (L.counts : Nat) = (D3, 2)) (k1 : DOk D1) (k2 : DOk D2) :
    Calls Tryz.prog 78 #[.pointer (some ⟨lb, 0, none⟩), .string s] w fun e w' => e = .returned (.int .i64 2) ∧ IsLog w' lb b { L with dead := true } ∧ IsDisk w' b g cap D3 ∧ Chg (fun k => k = lb ∨ k = b ∨ k = g) w w' := by
  obtain ⟨bx, hbx⟩ : ∃ bx, bx = w.heap.size := ⟨_, rfl⟩
  obtain ⟨W0, hW0⟩ : ∃ W, W = w.alloc (.cells #[.pointer (some ⟨lb, 0, none⟩)] 69) := ⟨_, rfl⟩
  have hb0 : Below w.heap.size w W0 := by rw [hW0]; exact (Below.refl _ _).alloc (Nat.le_refl _) _
  have hl0 := h.below hb0
  have hd0 := hd.below hb0
  have hx0 : BoxAt W0 bx lb := by unfold BoxAt; rw [hW0, hbx]; simp
  have hbz : bx < W0.heap.size := by rw [hW0, hbx]; simp
  have hlt := h.lt
  have hdlt := hd.lt
  have hglt := hd.fs.lt
  have HNE := Lib.hid (h.ne hd)
  have HBX : Hid (bx ≠ lb ∧ bx ≠ b ∧ bx ≠ g) := by unfold Hid; rw [hbx]; omega
  have c5 := h.c5
  have c3 := h.c3
  rw [hdl] at c5
  have HL0 := Lib.hid hl0
  have HX0 := Lib.hid hx0
  have HD0 := Lib.hid hd0
  have HB0 := Lib.hid hb0
  have HLT := Lib.hid hlt
  have HBZ := Lib.hid hbz
  have HW := Lib.hid (fun (w1 : World) (hb : Below W0.heap.size W0 w1) => writeLOk (hl0.below hb) (hd0.below hb) hok o (L.gen + 1) s (by omega) (by omega) hs hm (by rw [e1]))
  rw [e1] at HW
  have K1 := Lib.hid (fun (wr : World) (hl : IsLog wr lb b L) (hx : BoxAt wr bx lb) (hz : bx < wr.heap.size) (hd : IsDisk wr b g cap D1) => cp1W hl hx ⟨HBX.out.2.1, HBX.out.2.2, hz⟩ hd k1 hf hcn (by rw [ho, e2]))
  rw [ho, e2] at K1
  have K2 := Lib.hid (fun (wr : World) (hl : IsLog wr lb b L) (hx : BoxAt wr bx lb) (hz : bx < wr.heap.size) (hd : IsDisk wr b g cap D2) => cp2G hl hx ⟨HBX.out.2.1, HBX.out.2.2, hz⟩ hd k2 hf hcn (by rw [e3]))
  rw [e3] at K2
  have HO := Lib.hid (fun (wr : World) (hl : IsLog wr lb b L) => otherW hl hf hcn)
  rw [ho] at HO
  have HW0 := Lib.hid hW0
  have HBXE := Lib.hid hbx
  have HG := Lib.hid hg
  have hgi : ¬ (1099511627776 : Int) ≤ (L.gen : Int) := by omega
  clear hg
  clear hbx h hd hok hdl hl0 hd0 hx0 hbz hb0 e1 e2 e3 k1 k2 hm ho hdlt hglt hf hcn hW0
  go_enter Tryz.func78, Tryz.ntmps78
  go_wp2_with fail
  rw [← HW0.out, ← HBXE.out]
  have c3' := 0
  clear c3' c3 c5
  refine wp_region_U 10 (fun u => u.cell? ⟨bx, 0, none⟩ = some (.pointer (some ⟨lb, 0, none⟩)) ∧ u.cell? ⟨lb, 3, none⟩ = some (.int .i64 (L.gen : Nat))) (by kernel_rfl) ?_
  change wpAnyU _ _ _ _ _ _ 11 (Array.replicate 11 false) _ _
  obtain ⟨w2, hw2⟩ : ∃ w2, w2 = W0.drew := ⟨_, rfl⟩
  rw [← hw2]
  have HL2 : Hid (IsLog w2 lb b L) := by unfold Hid; rw [hw2]; exact HL0.out.below (Below.refl _ _).drew
  have HX2 : Hid (BoxAt w2 bx lb) := by unfold Hid; rw [hw2]; exact HX0.out
  have HB2 : Hid (Below W0.heap.size W0 w2) := by unfold Hid; rw [hw2]; exact (Below.refl _ _).drew
  clear hw2
  have HS : Hid ((fun u => u.cell? ⟨bx, 0, none⟩ = some (.pointer (some ⟨lb, 0, none⟩)) ∧ u.cell? ⟨lb, 3, none⟩ = some (.int .i64 (L.gen : Nat))) w2) := ⟨HX2.out, HL2.out.c3⟩
  refine takeU 0 (v := ?_) rfl (by kernel_rfl) (by kernel_rfl) (fun _ _ _ h => h) rfl (fun u hu => ?_) HS.out ?_
  rotate_left
  · obtain ⟨q0, q1⟩ := hu; go_simp <;> with_reducible rfl
  simp only [Act.put, List.setIfInBounds_toArray, List.set_cons_zero, List.set_cons_succ]
  refine takeU 1 (v := ?_) rfl (by kernel_rfl) (by kernel_rfl) (fun _ _ _ h => h) rfl (fun u hu => ?_) HS.out ?_
  rotate_left
  · obtain ⟨q0, q1⟩ := hu; go_simp <;> with_reducible rfl
  simp only [Act.put, List.setIfInBounds_toArray, List.set_cons_zero, List.set_cons_succ]
  refine takeU 3 (v := ?_) rfl (by kernel_rfl) (by kernel_rfl) (fun _ _ _ h => h) rfl (fun u hu => ?_) HS.out ?_
  rotate_left
  · obtain ⟨q0, q1⟩ := hu; go_simp <;> with_reducible rfl
  simp only [Act.put, List.setIfInBounds_toArray, List.set_cons_zero, List.set_cons_succ]
  refine takeU 4 (v := ?_) rfl (by kernel_rfl) (by kernel_rfl) (fun _ _ _ h => h) rfl (fun u hu => ?_) HS.out ?_
  rotate_left
  · obtain ⟨q0, q1⟩ := hu; go_simp <;> with_reducible rfl
  simp only [Act.put, List.setIfInBounds_toArray, List.set_cons_zero, List.set_cons_succ]
  refine takeU 5 (v := ?_) rfl (by kernel_rfl) (by kernel_rfl) (fun _ _ _ h => h) rfl (fun u hu => ?_) HS.out ?_
  rotate_left
  · obtain ⟨q0, q1⟩ := hu; go_simp <;> with_reducible rfl
  simp only [Act.put, List.setIfInBounds_toArray, List.set_cons_zero, List.set_cons_succ]
  refine takeU 6 (v := ?_) rfl (by kernel_rfl) (by kernel_rfl) (fun _ _ _ h => h) rfl (fun u hu => ?_) HS.out ?_
  rotate_left
  · obtain ⟨q0, q1⟩ := hu; go_simp <;> with_reducible rfl
  simp only [Act.put, List.setIfInBounds_toArray, List.set_cons_zero, List.set_cons_succ]
  refine takeU 7 (v := ?_) rfl (by kernel_rfl) (by kernel_rfl) (fun _ _ _ h => h) rfl (fun u hu => ?_) HS.out ?_
  rotate_left
  · obtain ⟨q0, q1⟩ := hu; go_simp <;> with_reducible rfl
  simp only [Act.put, List.setIfInBounds_toArray, List.set_cons_zero, List.set_cons_succ]
  refine takeU 8 (v := ?_) rfl (by kernel_rfl) (by kernel_rfl) (fun _ _ _ h => h) rfl (fun u hu => ?_) HS.out ?_
  rotate_left
  · obtain ⟨q0, q1⟩ := hu; go_simp <;> with_reducible rfl
  simp only [Act.put, List.setIfInBounds_toArray, List.set_cons_zero, List.set_cons_succ]
  refine oneU 2 (by kernel_rfl) ?_
  refine callU 2 rfl (by kernel_rfl) rfl 102 _ _ rfl #[.pointer (some ⟨lb, 0, none⟩)] (by simp [Act.eval]) (enters_of Tryz.func102 (by kernel_rfl) rfl) (fun v w' => v = .int .i64 (o : Nat) ∧ Below w2.heap.size w2 w') ((HO.out _ HL2.out).mono fun e w' ⟨h1, h2⟩ => ⟨_, h1, rfl, h2⟩) ?_
  rintro v w3 ⟨rfl, hb3⟩
  have HL3 := Lib.hid (HL2.out.below hb3)
  have HX3 : Hid (BoxAt w3 bx lb) := hb3.cell (block_lt_of_cell HX2.out) |>.trans HX2.out
  have HB3 := Lib.hid (HB2.out.trans (hb3.mono HB2.out.size))
  clear hb3
  refine ⟨⟨HX3.out, HL3.out.c3⟩, ?_⟩
  simp only [Act.put, List.setIfInBounds_toArray, List.set_cons_zero, List.set_cons_succ]
  refine oneU 9 (by kernel_rfl) ?_
  refine callU 9 rfl (by kernel_rfl) rfl 84 _ _ rfl #[.pointer (some ⟨lb, 0, none⟩), .int .i64 (o : Nat), .int .i64 ((L.gen + 1 : Nat) : Int), .string s] (by simp [Act.eval]; exact IntWalk.i64_in _ (by have := HG.out; omega)) (enters_of Tryz.func84 (by kernel_rfl) rfl) (fun v w' => v = .nilIface ∧ Hid (IsDisk w' b g cap D1 ∧ Chg (fun k => k = b ∨ k = g) w3 w')) ((HW.out _ HB3.out).mono fun e w' ⟨h1, h2, h3⟩ => ⟨_, h1, rfl, h2, h3⟩) ?_
  rintro v w4 ⟨rfl, hK⟩
  have HD4 := Lib.hid hK.out.1
  have HC4 := Lib.hid ((Chg.of_below (fun k => k = b ∨ k = g) HB3.out).trans hK.out.2)
  have HL4 := Lib.hid (HL0.out.keep HC4.out (fun e => by have := HNE.out; omega))
  have HX4 : Hid (BoxAt w4 bx lb) := HX0.out.keep HC4.out (fun e => by have := HBX.out; omega)
  refine ⟨⟨HX4.out, HL4.out.c3⟩, ?_⟩
  simp only [Act.put, List.setIfInBounds_toArray, List.set_cons_zero, List.set_cons_succ]
  refine oneU 10 (by kernel_rfl) ?_
  refine endU (v := ?_) 10 rfl (by kernel_rfl) (by kernel_rfl) rfl ?_ ?_
  rotate_left
  · go_simp <;> with_reducible rfl
  simp only [Act.put, List.setIfInBounds_toArray, List.set_cons_zero, List.set_cons_succ]
  clear HS HW HL2 HX2 HB2 HL3 HX3 HB3
  go_wp2_with fail
  obtain ⟨fb, hfb⟩ : ∃ fb, fb = w4.heap.size := ⟨_, rfl⟩
  obtain ⟨W5, hW5⟩ : ∃ W, W = w4.alloc (.cells #[.func (.func 103) #[] #[.pointer (some ⟨bx, 0, none⟩)], .func (.func 104) #[] #[.pointer (some ⟨bx, 0, none⟩)], .func (.func 105) #[] #[.pointer (some ⟨bx, 0, none⟩)]] 166) := ⟨_, rfl⟩
  rw [← hW5, ← hfb]
  have F0 : Hid (W5.cell? ⟨fb, 0, none⟩ = some (.func (.func 103) #[] #[.pointer (some ⟨bx, 0, none⟩)])) := by unfold Hid; rw [hW5, hfb]; simp
  have F1 : Hid (W5.cell? ⟨fb, 1, none⟩ = some (.func (.func 104) #[] #[.pointer (some ⟨bx, 0, none⟩)])) := by unfold Hid; rw [hW5, hfb]; simp
  have F2 : Hid (W5.cell? ⟨fb, 2, none⟩ = some (.func (.func 105) #[] #[.pointer (some ⟨bx, 0, none⟩)])) := by unfold Hid; rw [hW5, hfb]; simp
  have hb5 : Below w4.heap.size w4 W5 := by rw [hW5]; exact (Below.refl _ _).alloc (Nat.le_refl _) _
  have HFB : Hid (fb ≠ b ∧ fb ≠ g) := by unfold Hid; have := HD4.out.lt; have := HD4.out.fs.lt; omega
  have HD5 := Lib.hid (HD4.out.below hb5)
  have HC5 := Lib.hid (HC4.out.trans (Chg.of_below _ hb5))
  have HL5 := Lib.hid (HL4.out.below hb5)
  have HX5 : Hid (BoxAt W5 bx lb) := hb5.cell (block_lt_of_cell HX4.out) |>.trans HX4.out
  have HZ5 : Hid (bx < W5.heap.size) := Nat.lt_of_lt_of_le HBZ.out HC5.out.size
  have qE := gErrNil
  unfold GErr at qE
  clear hb5 hW5 hfb HD4 HC4 HL4 HX4
  go_loopw [5, 39] (fun v5 v39 wr => ((v39 = .int .i64 0 ∧ v5 = .nilIface ∧ IsDisk wr b g cap D1) ∨ (v39 = .int .i64 1 ∧ v5 = .nilIface ∧ IsDisk wr b g cap D2) ∨ (v39 = .int .i64 2 ∧ (∃ t, v5 = GErr t) ∧ IsDisk wr b g cap D3) ∨ (v39 = .int .i64 3 ∧ (∃ t, v5 = GErr t) ∧ IsDisk wr b g cap D3)) ∧ Chg (fun k => k = b ∨ k = g) W5 wr) (fun _ v _ => (3 - intOf v).toNat)
  case atStart => exact ⟨.inl ⟨rfl, rfl, HD5.out⟩, Chg.refl _ _⟩
  case round =>
    obtain ⟨hr, hc⟩ := hrel
    have HCr := Lib.hid hc
    have HLr := Lib.hid (HL5.out.keep hc (fun e => by have := HNE.out; omega))
    have HXr : Hid (BoxAt wr bx lb) := HX5.out.keep hc (fun e => by have := HBX.out; omega)
    have HZr : Hid (bx < wr.heap.size) := Nat.lt_of_lt_of_le HZ5.out hc.size
    clear hc
    rcases hr with ⟨rfl, rfl, hd⟩ | ⟨rfl, rfl, hd⟩ | ⟨rfl, ⟨t, rfl⟩, hd⟩ | ⟨rfl, ⟨t, rfl⟩, hd⟩
    · have HDr := Lib.hid hd
      clear hd
      have f := HCr.out.cell (fun e => by have := HFB.out; simp at e; omega) F0.out
      go_wp2_with fail
      refine (K1.out wr HLr.out HXr.out HZr.out HDr.out).mono ?_
      rintro e w6 ⟨rfl, hd, hc⟩
      have HD6 := Lib.hid hd
      have HC6 := Lib.hid (HCr.out.trans hc)
      clear hd hc f
      go_wp2_with fail
      exact ⟨⟨.inr (.inl ⟨rfl, rfl, HD6.out⟩), HC6.out⟩, by simp [intOf]⟩
    · have HDr := Lib.hid hd
      clear hd
      have f := HCr.out.cell (fun e => by have := HFB.out; simp at e; omega) F1.out
      go_wp2_with fail
      refine (K2.out wr HLr.out HXr.out HZr.out HDr.out).mono ?_
      rintro e w6 ⟨t, rfl, hd, hc⟩
      have HD6 := Lib.hid hd
      have HC6 := Lib.hid (HCr.out.trans hc)
      clear hd hc f
      go_wp2_with fail
      exact ⟨⟨.inr (.inr (.inl ⟨rfl, ⟨t, rfl⟩, HD6.out⟩)), HC6.out⟩, by simp [intOf]⟩
    · have HDr := Lib.hid hd
      clear hd
      have f := HCr.out.cell (fun e => by have := HFB.out; simp at e; omega) F2.out
      unfold GErr
      go_wp2_with fail
      exact ⟨⟨.inr (.inr (.inr ⟨rfl, ⟨t, rfl⟩, HDr.out⟩)), HCr.out⟩, by simp [intOf]⟩
    · have HDr := Lib.hid hd
      clear hd
      have x0 : wr.cell? ⟨bx, 0, none⟩ = some (.pointer (some ⟨lb, 0, none⟩)) := HXr.out
      have HT := Lib.hid (toldGone HLr.out _ (.inl ⟨t, rfl⟩))
      unfold GErr at HT ⊢
      go_wp2_with fail
      refine HT.out.mono ?_
      rintro e w6 ⟨rfl, hl6, hc6⟩
      have HL6 := Lib.hid hl6
      have HC6 := Lib.hid hc6
      clear hl6 hc6 x0
      go_wp2_with fail
      go_ret
      exact ⟨rfl, HL6.out, HDr.out.log HLr.out HC6.out, (((Chg.of_below _ HB0.out).trans (HC5.out.trans HCr.out)).mono (fun k _ h => .inr h)).trans (HC6.out.mono (fun k _ h => .inl h))⟩
set_option maxHeartbeats 3200000 in
theorem checkpointGone3 (h : IsLog w lb b L) (hd : IsDisk w b g cap D) (hok : DOk D) (s : ByteArray) (hdl : L.dead = false) (hs : s.size ≤ 16384) (hg : L.gen < 1099511627776) (hf : L.first ≤ 1048576) (hcn : L.counts ≤ 1048576)
    (hm : ∀ f, f < D.l.length → (D.l.getD f Fl.zero).ws.length < 1099511627776) (o : Nat) (ho : 2 * (L.first : Int) + 1 - (L.counts : Int) = (o : Nat)) (D1 D2 D3 D4 : Dk)
    (e1 : D.writeX (o : Nat) (recS (L.gen + 1) s) = (D1, 0)) (e2 : D1.syncX (o : Nat) = (D2, 0)) (e3 : D2.syncX (L.counts : Nat) = (D3, 0)) (e4 : D3.cutX (L.counts : Nat) 0 = (D4, 2)) (k1 : DOk D1) (k2 : DOk D2) (k3 : DOk D3) :
    Calls Tryz.prog 78 #[.pointer (some ⟨lb, 0, none⟩), .string s] w fun e w' => e = .returned (.int .i64 2) ∧ IsLog w' lb b { L with dead := true } ∧ IsDisk w' b g cap D4 ∧ Chg (fun k => k = lb ∨ k = b ∨ k = g) w w' := by
  obtain ⟨bx, hbx⟩ : ∃ bx, bx = w.heap.size := ⟨_, rfl⟩
  obtain ⟨W0, hW0⟩ : ∃ W, W = w.alloc (.cells #[.pointer (some ⟨lb, 0, none⟩)] 69) := ⟨_, rfl⟩
  have hb0 : Below w.heap.size w W0 := by rw [hW0]; exact (Below.refl _ _).alloc (Nat.le_refl _) _
  have hl0 := h.below hb0
  have hd0 := hd.below hb0
  have hx0 : BoxAt W0 bx lb := by unfold BoxAt; rw [hW0, hbx]; simp
  have hbz : bx < W0.heap.size := by rw [hW0, hbx]; simp
  have hlt := h.lt
  have hdlt := hd.lt
  have hglt := hd.fs.lt
  have HNE := Lib.hid (h.ne hd)
  have HBX : Hid (bx ≠ lb ∧ bx ≠ b ∧ bx ≠ g) := by unfold Hid; rw [hbx]; omega
  have c5 := h.c5
  have c3 := h.c3
  rw [hdl] at c5
  have HL0 := Lib.hid hl0
  have HX0 := Lib.hid hx0
  have HD0 := Lib.hid hd0
  have HB0 := Lib.hid hb0
  have HLT := Lib.hid hlt
  have HBZ := Lib.hid hbz
  have HW := Lib.hid (fun (w1 : World) (hb : Below W0.heap.size W0 w1) => writeLOk (hl0.below hb) (hd0.below hb) hok o (L.gen + 1) s (by omega) (by omega) hs hm (by rw [e1]))
  rw [e1] at HW
  have K1 := Lib.hid (fun (wr : World) (hl : IsLog wr lb b L) (hx : BoxAt wr bx lb) (hz : bx < wr.heap.size) (hd : IsDisk wr b g cap D1) => cp1W hl hx ⟨HBX.out.2.1, HBX.out.2.2, hz⟩ hd k1 hf hcn (by rw [ho, e2]))
  rw [ho, e2] at K1
  have K2 := Lib.hid (fun (wr : World) (hl : IsLog wr lb b L) (hx : BoxAt wr bx lb) (hz : bx < wr.heap.size) (hd : IsDisk wr b g cap D2) => cp2W hl hx ⟨HBX.out.2.1, HBX.out.2.2, hz⟩ hd k2 hf hcn (by rw [e3]))
  rw [e3] at K2
  have K3 := Lib.hid (fun (wr : World) (hl : IsLog wr lb b L) (hx : BoxAt wr bx lb) (hz : bx < wr.heap.size) (hd : IsDisk wr b g cap D3) => cp3G hl hx ⟨HBX.out.2.1, HBX.out.2.2, hz⟩ hd k3 hf hcn (by rw [e4]))
  rw [e4] at K3
  have HO := Lib.hid (fun (wr : World) (hl : IsLog wr lb b L) => otherW hl hf hcn)
  rw [ho] at HO
  have HW0 := Lib.hid hW0
  have HBXE := Lib.hid hbx
  have HG := Lib.hid hg
  have hgi : ¬ (1099511627776 : Int) ≤ (L.gen : Int) := by omega
  clear hg
  clear hbx h hd hok hdl hl0 hd0 hx0 hbz hb0 e1 e2 e3 e4 k1 k2 k3 hm ho hdlt hglt hf hcn hW0
  go_enter Tryz.func78, Tryz.ntmps78
  go_wp2_with fail
  rw [← HW0.out, ← HBXE.out]
  have c3' := 0
  clear c3' c3 c5
  refine wp_region_U 10 (fun u => u.cell? ⟨bx, 0, none⟩ = some (.pointer (some ⟨lb, 0, none⟩)) ∧ u.cell? ⟨lb, 3, none⟩ = some (.int .i64 (L.gen : Nat))) (by kernel_rfl) ?_
  change wpAnyU _ _ _ _ _ _ 11 (Array.replicate 11 false) _ _
  obtain ⟨w2, hw2⟩ : ∃ w2, w2 = W0.drew := ⟨_, rfl⟩
  rw [← hw2]
  have HL2 : Hid (IsLog w2 lb b L) := by unfold Hid; rw [hw2]; exact HL0.out.below (Below.refl _ _).drew
  have HX2 : Hid (BoxAt w2 bx lb) := by unfold Hid; rw [hw2]; exact HX0.out
  have HB2 : Hid (Below W0.heap.size W0 w2) := by unfold Hid; rw [hw2]; exact (Below.refl _ _).drew
  clear hw2
  have HS : Hid ((fun u => u.cell? ⟨bx, 0, none⟩ = some (.pointer (some ⟨lb, 0, none⟩)) ∧ u.cell? ⟨lb, 3, none⟩ = some (.int .i64 (L.gen : Nat))) w2) := ⟨HX2.out, HL2.out.c3⟩
  refine takeU 0 (v := ?_) rfl (by kernel_rfl) (by kernel_rfl) (fun _ _ _ h => h) rfl (fun u hu => ?_) HS.out ?_
  rotate_left
  · obtain ⟨q0, q1⟩ := hu; go_simp <;> with_reducible rfl
  simp only [Act.put, List.setIfInBounds_toArray, List.set_cons_zero, List.set_cons_succ]
  refine takeU 1 (v := ?_) rfl (by kernel_rfl) (by kernel_rfl) (fun _ _ _ h => h) rfl (fun u hu => ?_) HS.out ?_
  rotate_left
  · obtain ⟨q0, q1⟩ := hu; go_simp <;> with_reducible rfl
  simp only [Act.put, List.setIfInBounds_toArray, List.set_cons_zero, List.set_cons_succ]
  refine takeU 3 (v := ?_) rfl (by kernel_rfl) (by kernel_rfl) (fun _ _ _ h => h) rfl (fun u hu => ?_) HS.out ?_
  rotate_left
  · obtain ⟨q0, q1⟩ := hu; go_simp <;> with_reducible rfl
  simp only [Act.put, List.setIfInBounds_toArray, List.set_cons_zero, List.set_cons_succ]
  refine takeU 4 (v := ?_) rfl (by kernel_rfl) (by kernel_rfl) (fun _ _ _ h => h) rfl (fun u hu => ?_) HS.out ?_
  rotate_left
  · obtain ⟨q0, q1⟩ := hu; go_simp <;> with_reducible rfl
  simp only [Act.put, List.setIfInBounds_toArray, List.set_cons_zero, List.set_cons_succ]
  refine takeU 5 (v := ?_) rfl (by kernel_rfl) (by kernel_rfl) (fun _ _ _ h => h) rfl (fun u hu => ?_) HS.out ?_
  rotate_left
  · obtain ⟨q0, q1⟩ := hu; go_simp <;> with_reducible rfl
  simp only [Act.put, List.setIfInBounds_toArray, List.set_cons_zero, List.set_cons_succ]
  refine takeU 6 (v := ?_) rfl (by kernel_rfl) (by kernel_rfl) (fun _ _ _ h => h) rfl (fun u hu => ?_) HS.out ?_
  rotate_left
  · obtain ⟨q0, q1⟩ := hu; go_simp <;> with_reducible rfl
  simp only [Act.put, List.setIfInBounds_toArray, List.set_cons_zero, List.set_cons_succ]
  refine takeU 7 (v := ?_) rfl (by kernel_rfl) (by kernel_rfl) (fun _ _ _ h => h) rfl (fun u hu => ?_) HS.out ?_
  rotate_left
  · obtain ⟨q0, q1⟩ := hu; go_simp <;> with_reducible rfl
  simp only [Act.put, List.setIfInBounds_toArray, List.set_cons_zero, List.set_cons_succ]
  refine takeU 8 (v := ?_) rfl (by kernel_rfl) (by kernel_rfl) (fun _ _ _ h => h) rfl (fun u hu => ?_) HS.out ?_
  rotate_left
  · obtain ⟨q0, q1⟩ := hu; go_simp <;> with_reducible rfl
  simp only [Act.put, List.setIfInBounds_toArray, List.set_cons_zero, List.set_cons_succ]
  refine oneU 2 (by kernel_rfl) ?_
  refine callU 2 rfl (by kernel_rfl) rfl 102 _ _ rfl #[.pointer (some ⟨lb, 0, none⟩)] (by simp [Act.eval]) (enters_of Tryz.func102 (by kernel_rfl) rfl) (fun v w' => v = .int .i64 (o : Nat) ∧ Below w2.heap.size w2 w') ((HO.out _ HL2.out).mono fun e w' ⟨h1, h2⟩ => ⟨_, h1, rfl, h2⟩) ?_
  rintro v w3 ⟨rfl, hb3⟩
  have HL3 := Lib.hid (HL2.out.below hb3)
  have HX3 : Hid (BoxAt w3 bx lb) := hb3.cell (block_lt_of_cell HX2.out) |>.trans HX2.out
  have HB3 := Lib.hid (HB2.out.trans (hb3.mono HB2.out.size))
  clear hb3
  refine ⟨⟨HX3.out, HL3.out.c3⟩, ?_⟩
  simp only [Act.put, List.setIfInBounds_toArray, List.set_cons_zero, List.set_cons_succ]
  refine oneU 9 (by kernel_rfl) ?_
  refine callU 9 rfl (by kernel_rfl) rfl 84 _ _ rfl #[.pointer (some ⟨lb, 0, none⟩), .int .i64 (o : Nat), .int .i64 ((L.gen + 1 : Nat) : Int), .string s] (by simp [Act.eval]; exact IntWalk.i64_in _ (by have := HG.out; omega)) (enters_of Tryz.func84 (by kernel_rfl) rfl) (fun v w' => v = .nilIface ∧ Hid (IsDisk w' b g cap D1 ∧ Chg (fun k => k = b ∨ k = g) w3 w')) ((HW.out _ HB3.out).mono fun e w' ⟨h1, h2, h3⟩ => ⟨_, h1, rfl, h2, h3⟩) ?_
  rintro v w4 ⟨rfl, hK⟩
  have HD4 := Lib.hid hK.out.1
  have HC4 := Lib.hid ((Chg.of_below (fun k => k = b ∨ k = g) HB3.out).trans hK.out.2)
  have HL4 := Lib.hid (HL0.out.keep HC4.out (fun e => by have := HNE.out; omega))
  have HX4 : Hid (BoxAt w4 bx lb) := HX0.out.keep HC4.out (fun e => by have := HBX.out; omega)
  refine ⟨⟨HX4.out, HL4.out.c3⟩, ?_⟩
  simp only [Act.put, List.setIfInBounds_toArray, List.set_cons_zero, List.set_cons_succ]
  refine oneU 10 (by kernel_rfl) ?_
  refine endU (v := ?_) 10 rfl (by kernel_rfl) (by kernel_rfl) rfl ?_ ?_
  rotate_left
  · go_simp <;> with_reducible rfl
  simp only [Act.put, List.setIfInBounds_toArray, List.set_cons_zero, List.set_cons_succ]
  clear HS HW HL2 HX2 HB2 HL3 HX3 HB3
  go_wp2_with fail
  obtain ⟨fb, hfb⟩ : ∃ fb, fb = w4.heap.size := ⟨_, rfl⟩
  obtain ⟨W5, hW5⟩ : ∃ W, W = w4.alloc (.cells #[.func (.func 103) #[] #[.pointer (some ⟨bx, 0, none⟩)], .func (.func 104) #[] #[.pointer (some ⟨bx, 0, none⟩)], .func (.func 105) #[] #[.pointer (some ⟨bx, 0, none⟩)]] 166) := ⟨_, rfl⟩
  rw [← hW5, ← hfb]
  have F0 : Hid (W5.cell? ⟨fb, 0, none⟩ = some (.func (.func 103) #[] #[.pointer (some ⟨bx, 0, none⟩)])) := by unfold Hid; rw [hW5, hfb]; simp
  have F1 : Hid (W5.cell? ⟨fb, 1, none⟩ = some (.func (.func 104) #[] #[.pointer (some ⟨bx, 0, none⟩)])) := by unfold Hid; rw [hW5, hfb]; simp
  have F2 : Hid (W5.cell? ⟨fb, 2, none⟩ = some (.func (.func 105) #[] #[.pointer (some ⟨bx, 0, none⟩)])) := by unfold Hid; rw [hW5, hfb]; simp
  have hb5 : Below w4.heap.size w4 W5 := by rw [hW5]; exact (Below.refl _ _).alloc (Nat.le_refl _) _
  have HFB : Hid (fb ≠ b ∧ fb ≠ g) := by unfold Hid; have := HD4.out.lt; have := HD4.out.fs.lt; omega
  have HD5 := Lib.hid (HD4.out.below hb5)
  have HC5 := Lib.hid (HC4.out.trans (Chg.of_below _ hb5))
  have HL5 := Lib.hid (HL4.out.below hb5)
  have HX5 : Hid (BoxAt W5 bx lb) := hb5.cell (block_lt_of_cell HX4.out) |>.trans HX4.out
  have HZ5 : Hid (bx < W5.heap.size) := Nat.lt_of_lt_of_le HBZ.out HC5.out.size
  have qE := gErrNil
  unfold GErr at qE
  clear hb5 hW5 hfb HD4 HC4 HL4 HX4
  go_loopw [5, 39] (fun v5 v39 wr => ((v39 = .int .i64 0 ∧ v5 = .nilIface ∧ IsDisk wr b g cap D1) ∨ (v39 = .int .i64 1 ∧ v5 = .nilIface ∧ IsDisk wr b g cap D2) ∨ (v39 = .int .i64 2 ∧ v5 = .nilIface ∧ IsDisk wr b g cap D3) ∨ (v39 = .int .i64 3 ∧ (∃ t, v5 = GErr t) ∧ IsDisk wr b g cap D4)) ∧ Chg (fun k => k = b ∨ k = g) W5 wr) (fun _ v _ => (3 - intOf v).toNat)
  case atStart => exact ⟨.inl ⟨rfl, rfl, HD5.out⟩, Chg.refl _ _⟩
  case round =>
    obtain ⟨hr, hc⟩ := hrel
    have HCr := Lib.hid hc
    have HLr := Lib.hid (HL5.out.keep hc (fun e => by have := HNE.out; omega))
    have HXr : Hid (BoxAt wr bx lb) := HX5.out.keep hc (fun e => by have := HBX.out; omega)
    have HZr : Hid (bx < wr.heap.size) := Nat.lt_of_lt_of_le HZ5.out hc.size
    clear hc
    rcases hr with ⟨rfl, rfl, hd⟩ | ⟨rfl, rfl, hd⟩ | ⟨rfl, rfl, hd⟩ | ⟨rfl, ⟨t, rfl⟩, hd⟩
    · have HDr := Lib.hid hd
      clear hd
      have f := HCr.out.cell (fun e => by have := HFB.out; simp at e; omega) F0.out
      go_wp2_with fail
      refine (K1.out wr HLr.out HXr.out HZr.out HDr.out).mono ?_
      rintro e w6 ⟨rfl, hd, hc⟩
      have HD6 := Lib.hid hd
      have HC6 := Lib.hid (HCr.out.trans hc)
      clear hd hc f
      go_wp2_with fail
      exact ⟨⟨.inr (.inl ⟨rfl, rfl, HD6.out⟩), HC6.out⟩, by simp [intOf]⟩
    · have HDr := Lib.hid hd
      clear hd
      have f := HCr.out.cell (fun e => by have := HFB.out; simp at e; omega) F1.out
      go_wp2_with fail
      refine (K2.out wr HLr.out HXr.out HZr.out HDr.out).mono ?_
      rintro e w6 ⟨rfl, hd, hc⟩
      have HD6 := Lib.hid hd
      have HC6 := Lib.hid (HCr.out.trans hc)
      clear hd hc f
      go_wp2_with fail
      exact ⟨⟨.inr (.inr (.inl ⟨rfl, rfl, HD6.out⟩)), HC6.out⟩, by simp [intOf]⟩
    · have HDr := Lib.hid hd
      clear hd
      have f := HCr.out.cell (fun e => by have := HFB.out; simp at e; omega) F2.out
      go_wp2_with fail
      refine (K3.out wr HLr.out HXr.out HZr.out HDr.out).mono ?_
      rintro e w6 ⟨t, rfl, hd, hc⟩
      have HD6 := Lib.hid hd
      have HC6 := Lib.hid (HCr.out.trans hc)
      clear hd hc f
      go_wp2_with fail
      exact ⟨⟨.inr (.inr (.inr ⟨rfl, ⟨t, rfl⟩, HD6.out⟩)), HC6.out⟩, by simp [intOf]⟩
    · have HDr := Lib.hid hd
      clear hd
      have x0 : wr.cell? ⟨bx, 0, none⟩ = some (.pointer (some ⟨lb, 0, none⟩)) := HXr.out
      have HT := Lib.hid (toldGone HLr.out _ (.inl ⟨t, rfl⟩))
      unfold GErr at HT ⊢
      go_wp2_with fail
      refine HT.out.mono ?_
      rintro e w6 ⟨rfl, hl6, hc6⟩
      have HL6 := Lib.hid hl6
      have HC6 := Lib.hid hc6
      clear hl6 hc6 x0
      go_wp2_with fail
      go_ret
      exact ⟨rfl, HL6.out, HDr.out.log HLr.out HC6.out, (((Chg.of_below _ HB0.out).trans (HC5.out.trans HCr.out)).mono (fun k _ h => .inr h)).trans (HC6.out.mono (fun k _ h => .inl h))⟩
end
end Go.Proofs.YtilpbjcbffbjeaaGreatDoor
