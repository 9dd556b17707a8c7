/- The log's Checkpoint where the disk lives.
   The log's Checkpoint where the disk lives: the whole call.
   A log over a disk, both of the call's own: each call in one line. -/
import Derived.Test.YtilpbjcbffbjeaaGreatDoorPkG
import Derived.Test.YtilpbjcbffbjeaaGreatDoorPkA
import Derived.Test.YtilpbjcbffbjeaaGreatDoorWOpen
import Derived.Test.YtilpbjcbffbjeaaGreatDoorPkD
namespace Go.Proofs.YtilpbjcbffbjeaaGreatDoor
set_option linter.unusedVariables false
set_option maxRecDepth 100000
open Go.RowKit
set_option linter.unusedSectionVars false
variable [Avoid]
theorem step_runW {P : Program} {ops : Array Oper} {o : Oper} {a : Act} {w : World} {K : Act → World → Prop} {Q : Exit → Act → World → Prop} {E : Prop} (hgd : o.guard = none) (v : Value) (w' : World)
    (hrun : (execOp a.eval o).run P w = .ok (.value v) w') (h : K (a.put o.dst v) w') : if Region.wanted o (yielded ops a.tmps) = true then Oper.wp P o a w K Q else E := by
  have hw : Region.wanted o (yielded ops a.tmps) = true := by simp [Region.wanted, hgd]
  rw [if_pos hw]
  unfold Oper.wp
  rw [hrun]
  exact h
theorem step_skipW {P : Program} {ops : Array Oper} {o : Oper} {a : Act} {w : World} {K : Act → World → Prop} {Q : Exit → Act → World → Prop} {E : Prop} (hgd : o.guard = none) (w' : World)
    (hrun : (execOp a.eval o).run P w = .ok .skip w') (h : K (a.put o.dst undef) w') : if Region.wanted o (yielded ops a.tmps) = true then Oper.wp P o a w K Q else E := by
  have hw : Region.wanted o (yielded ops a.tmps) = true := by simp [Region.wanted, hgd]
  rw [if_pos hw]
  unfold Oper.wp
  rw [hrun]
  exact h
section
variable {S : Nat → Prop} {w w' : World} {lb b g cap bx : Nat} {L : Lg} {D : Dk}
def BoxAt (w : World) (bx lb : Nat) : Prop := w.cell? ⟨bx, 0, none⟩ = some (.pointer (some ⟨lb, 0, none⟩))
theorem BoxAt.keep (h : BoxAt w bx lb) (hc : Chg S w w') (hn : ¬ S bx) : BoxAt w' bx lb := hc.cell hn h
set_option maxHeartbeats 1600000 in
theorem cp1W (h : IsLog w lb b L) (hx : BoxAt w bx lb) (hbx : bx ≠ b ∧ bx ≠ g ∧ bx < w.heap.size) (hd : IsDisk w b g cap D) (hok : DOk D) (hf : L.first ≤ 1048576) (hcn : L.counts ≤ 1048576) (hr : (D.syncX (2 * (L.first : Int) + 1 - (L.counts : Int))).2 = 0) :
    Calls Tryz.prog 103 #[.pointer (some ⟨bx, 0, none⟩)] w fun e w' => e = .returned .nilIface ∧ IsDisk w' b g cap (D.syncX (2 * (L.first : Int) + 1 - (L.counts : Int))).1 ∧ Chg (fun k => k = b ∨ k = g) w w' := by
  have HL := Lib.hid h
  have HX := Lib.hid hx
  have HD0 := Lib.hid hd
  have HBX := Lib.hid hbx
  have HW := Lib.hid (fun (w1 : World) (hb : Below w.heap.size w w1) => syncA (hd.below hb) hok (2 * (L.first : Int) + 1 - (L.counts : Int)))
  rw [hr] at HW
  clear h hx hd hok hr hbx
  go_enter Tryz.func103, Tryz.ntmps103
  go_wp2_with fail
  refine wp_region_U 8 (fun u => u.cell? ⟨bx, 0, none⟩ = some (.pointer (some ⟨lb, 0, none⟩)) ∧ u.cell? ⟨lb, 0, none⟩ = some (.pointer (some ⟨b, 0, none⟩))) (by kernel_rfl) ?_
  change wpAnyU _ _ _ _ _ _ 9 (Array.replicate 9 false) _ _
  obtain ⟨w2, hw2⟩ : ∃ w2, w2 = w.drew := ⟨_, rfl⟩
  rw [← hw2]
  have HL2 : Hid (IsLog w2 lb b L) := by unfold Hid; rw [hw2]; exact HL.out.below (Below.refl _ _).drew
  have HX2 : Hid (BoxAt w2 bx lb) := by unfold Hid; rw [hw2]; exact HX.out
  have HB2 : Hid (Below w.heap.size w w2) := by unfold Hid; rw [hw2]; exact (Below.refl _ _).drew
  clear hw2
  have HS : Hid ((fun u => u.cell? ⟨bx, 0, none⟩ = some (.pointer (some ⟨lb, 0, none⟩)) ∧ u.cell? ⟨lb, 0, none⟩ = some (.pointer (some ⟨b, 0, none⟩))) w2) := ⟨HX2.out, HL2.out.c0⟩
  refine takeU 0 (v := ?_) rfl (by kernel_rfl) (by kernel_rfl) (fun _ _ _ h => h) rfl (fun u hu => ?_) HS.out ?_
  rotate_left
  · obtain ⟨q0, q1⟩ := hu; go_simp <;> with_reducible rfl
  simp only [Act.put, List.setIfInBounds_toArray, List.set_cons_zero, List.set_cons_succ]
  refine takeU 1 (v := ?_) rfl (by kernel_rfl) (by kernel_rfl) (fun _ _ _ h => h) rfl (fun u hu => ?_) HS.out ?_
  rotate_left
  · obtain ⟨q0, q1⟩ := hu; go_simp <;> with_reducible rfl
  simp only [Act.put, List.setIfInBounds_toArray, List.set_cons_zero, List.set_cons_succ]
  refine takeU 2 (v := ?_) rfl (by kernel_rfl) (by kernel_rfl) (fun _ _ _ h => h) rfl (fun u hu => ?_) HS.out ?_
  rotate_left
  · obtain ⟨q0, q1⟩ := hu; go_simp <;> with_reducible rfl
  simp only [Act.put, List.setIfInBounds_toArray, List.set_cons_zero, List.set_cons_succ]
  refine takeU 3 (v := ?_) rfl (by kernel_rfl) (by kernel_rfl) (fun _ _ _ h => h) rfl (fun u hu => ?_) HS.out ?_
  rotate_left
  · obtain ⟨q0, q1⟩ := hu; go_simp <;> with_reducible rfl
  simp only [Act.put, List.setIfInBounds_toArray, List.set_cons_zero, List.set_cons_succ]
  refine takeU 4 (v := ?_) rfl (by kernel_rfl) (by kernel_rfl) (fun _ _ _ h => h) rfl (fun u hu => ?_) HS.out ?_
  rotate_left
  · obtain ⟨q0, q1⟩ := hu; go_simp <;> with_reducible rfl
  simp only [Act.put, List.setIfInBounds_toArray, List.set_cons_zero, List.set_cons_succ]
  refine oneU 5 (by kernel_rfl) ?_
  refine callU 5 rfl (by kernel_rfl) rfl 102 _ _ rfl #[.pointer (some ⟨lb, 0, none⟩)] (by simp [Act.eval]) (enters_of Tryz.func102 (by kernel_rfl) rfl) (fun v w' => v = .int .i64 (2 * (L.first : Int) + 1 - (L.counts : Int)) ∧ Below w2.heap.size w2 w') ((otherW HL2.out hf hcn).mono fun e w' ⟨h1, h2⟩ => ⟨_, h1, rfl, h2⟩) ?_
  rintro v w3 ⟨rfl, hb3⟩
  have HL3 := Lib.hid (HL2.out.below hb3)
  have HX3 : Hid (BoxAt w3 bx lb) := hb3.cell (block_lt_of_cell HX2.out) |>.trans HX2.out
  have HB3 := Lib.hid (HB2.out.trans (hb3.mono HB2.out.size))
  clear hb3
  refine ⟨⟨HX3.out, HL3.out.c0⟩, ?_⟩
  simp only [Act.put, List.setIfInBounds_toArray, List.set_cons_zero, List.set_cons_succ]
  refine oneU 6 (by kernel_rfl) ?_
  refine callU 6 rfl (by kernel_rfl) rfl 53 _ _ rfl #[.pointer (some ⟨b, 0, none⟩), .int .i64 (2 * (L.first : Int) + 1 - (L.counts : Int))] (by simp [Act.eval]) (enters_of Tryz.func53 (by kernel_rfl) rfl) (fun v w' => v = .int .i64 0 ∧ Hid (IsDisk w' b g cap (D.syncX (2 * (L.first : Int) + 1 - (L.counts : Int))).1 ∧ Chg (fun k => k = b ∨ k = g) w3 w')) ((HW.out _ HB3.out).mono fun e w' ⟨h1, h2, h3⟩ => ⟨_, h1, rfl, h2, h3⟩) ?_
  rintro v w4 ⟨rfl, hK⟩
  have HD4 := Lib.hid hK.out.1
  have HC4 := Lib.hid ((Chg.of_below (fun k => k = b ∨ k = g) HB3.out).trans hK.out.2)
  have HL4 := Lib.hid (HL.out.keep HC4.out (fun e => by have := HL.out.ne HD0.out; omega))
  have HX4 : Hid (BoxAt w4 bx lb) := HX.out.keep HC4.out (fun e => by have := HBX.out; omega)
  refine ⟨⟨HX4.out, HL4.out.c0⟩, ?_⟩
  simp only [Act.put, List.setIfInBounds_toArray, List.set_cons_zero, List.set_cons_succ]
  refine oneU 7 (by kernel_rfl) ?_
  refine callU 7 rfl (by kernel_rfl) rfl 85 _ _ rfl #[.string ⟨#[97, 32, 115, 121, 110, 99]⟩, .int .i64 0] (by simp [Act.eval]) (enters_of Tryz.func85 (by kernel_rfl) rfl) (fun v w' => v = .nilIface ∧ w' = w4) ((stepOk _ w4).mono fun e w' ⟨h1, h2⟩ => ⟨_, h1, rfl, h2⟩) ?_
  rintro v w5 ⟨rfl, rfl⟩
  refine ⟨⟨HX4.out, HL4.out.c0⟩, ?_⟩
  simp only [Act.put, List.setIfInBounds_toArray, List.set_cons_zero, List.set_cons_succ]
  refine oneU 8 (by kernel_rfl) ?_
  refine endU (v := ?_) 8 rfl (by kernel_rfl) (by kernel_rfl) rfl ?_ ?_
  rotate_left
  · go_simp <;> with_reducible rfl
  simp only [Act.put, List.setIfInBounds_toArray, List.set_cons_zero, List.set_cons_succ]
  go_wp2_with fail
  go_ret
  exact ⟨rfl, HD4.out, HC4.out⟩
set_option maxHeartbeats 1600000 in
theorem cp2W (h : IsLog w lb b L) (hx : BoxAt w bx lb) (hbx : bx ≠ b ∧ bx ≠ g ∧ bx < w.heap.size) (hd : IsDisk w b g cap D) (hok : DOk D) (hf : L.first ≤ 1048576) (hcn : L.counts ≤ 1048576) (hr : (D.syncX (L.counts : Nat)).2 = 0) :
    Calls Tryz.prog 104 #[.pointer (some ⟨bx, 0, none⟩)] w fun e w' => e = .returned .nilIface ∧ IsDisk w' b g cap (D.syncX (L.counts : Nat)).1 ∧ Chg (fun k => k = b ∨ k = g) w w' := by
  have HL := Lib.hid h
  have HX := Lib.hid hx
  have HD0 := Lib.hid hd
  have HBX := Lib.hid hbx
  have HW := Lib.hid (fun (w1 : World) (hb : Below w.heap.size w w1) => syncA (hd.below hb) hok (L.counts : Nat))
  rw [hr] at HW
  clear h hx hd hok hr hbx
  go_enter Tryz.func104, Tryz.ntmps104
  go_wp2_with fail
  refine wp_region_U 10 (fun u => u.cell? ⟨bx, 0, none⟩ = some (.pointer (some ⟨lb, 0, none⟩)) ∧ u.cell? ⟨lb, 0, none⟩ = some (.pointer (some ⟨b, 0, none⟩)) ∧ u.cell? ⟨lb, 2, none⟩ = some (.int .i64 (L.counts : Nat))) (by kernel_rfl) ?_
  change wpAnyU _ _ _ _ _ _ 11 (Array.replicate 11 false) _ _
  obtain ⟨w2, hw2⟩ : ∃ w2, w2 = w.drew := ⟨_, rfl⟩
  rw [← hw2]
  have HL2 : Hid (IsLog w2 lb b L) := by unfold Hid; rw [hw2]; exact HL.out.below (Below.refl _ _).drew
  have HX2 : Hid (BoxAt w2 bx lb) := by unfold Hid; rw [hw2]; exact HX.out
  have HB2 : Hid (Below w.heap.size w w2) := by unfold Hid; rw [hw2]; exact (Below.refl _ _).drew
  clear hw2
  have HS : Hid ((fun u => u.cell? ⟨bx, 0, none⟩ = some (.pointer (some ⟨lb, 0, none⟩)) ∧ u.cell? ⟨lb, 0, none⟩ = some (.pointer (some ⟨b, 0, none⟩)) ∧ u.cell? ⟨lb, 2, none⟩ = some (.int .i64 (L.counts : Nat))) w2) := ⟨HX2.out, HL2.out.c0, HL2.out.c2⟩
  refine takeU 0 (v := ?_) rfl (by kernel_rfl) (by kernel_rfl) (fun _ _ _ h => h) rfl (fun u hu => ?_) HS.out ?_
  rotate_left
  · obtain ⟨q0, q1, q2⟩ := hu; go_simp <;> with_reducible rfl
  simp only [Act.put, List.setIfInBounds_toArray, List.set_cons_zero, List.set_cons_succ]
  refine takeU 1 (v := ?_) rfl (by kernel_rfl) (by kernel_rfl) (fun _ _ _ h => h) rfl (fun u hu => ?_) HS.out ?_
  rotate_left
  · obtain ⟨q0, q1, q2⟩ := hu; go_simp <;> with_reducible rfl
  simp only [Act.put, List.setIfInBounds_toArray, List.set_cons_zero, List.set_cons_succ]
  refine takeU 2 (v := ?_) rfl (by kernel_rfl) (by kernel_rfl) (fun _ _ _ h => h) rfl (fun u hu => ?_) HS.out ?_
  rotate_left
  · obtain ⟨q0, q1, q2⟩ := hu; go_simp <;> with_reducible rfl
  simp only [Act.put, List.setIfInBounds_toArray, List.set_cons_zero, List.set_cons_succ]
  refine takeU 3 (v := ?_) rfl (by kernel_rfl) (by kernel_rfl) (fun _ _ _ h => h) rfl (fun u hu => ?_) HS.out ?_
  rotate_left
  · obtain ⟨q0, q1, q2⟩ := hu; go_simp <;> with_reducible rfl
  simp only [Act.put, List.setIfInBounds_toArray, List.set_cons_zero, List.set_cons_succ]
  refine takeU 4 (v := ?_) rfl (by kernel_rfl) (by kernel_rfl) (fun _ _ _ h => h) rfl (fun u hu => ?_) HS.out ?_
  rotate_left
  · obtain ⟨q0, q1, q2⟩ := hu; go_simp <;> with_reducible rfl
  simp only [Act.put, List.setIfInBounds_toArray, List.set_cons_zero, List.set_cons_succ]
  refine takeU 5 (v := ?_) rfl (by kernel_rfl) (by kernel_rfl) (fun _ _ _ h => h) rfl (fun u hu => ?_) HS.out ?_
  rotate_left
  · obtain ⟨q0, q1, q2⟩ := hu; go_simp <;> with_reducible rfl
  simp only [Act.put, List.setIfInBounds_toArray, List.set_cons_zero, List.set_cons_succ]
  refine takeU 6 (v := ?_) rfl (by kernel_rfl) (by kernel_rfl) (fun _ _ _ h => h) rfl (fun u hu => ?_) HS.out ?_
  rotate_left
  · obtain ⟨q0, q1, q2⟩ := hu; go_simp <;> with_reducible rfl
  simp only [Act.put, List.setIfInBounds_toArray, List.set_cons_zero, List.set_cons_succ]
  refine takeU 7 (v := ?_) rfl (by kernel_rfl) (by kernel_rfl) (fun _ _ _ h => h) rfl (fun u hu => ?_) HS.out ?_
  rotate_left
  · obtain ⟨q0, q1, q2⟩ := hu; go_simp <;> with_reducible rfl
  simp only [Act.put, List.setIfInBounds_toArray, List.set_cons_zero, List.set_cons_succ]
  refine oneU 8 (by kernel_rfl) ?_
  refine callU 8 rfl (by kernel_rfl) rfl 53 _ _ rfl #[.pointer (some ⟨b, 0, none⟩), .int .i64 (L.counts : Nat)] (by simp [Act.eval]) (enters_of Tryz.func53 (by kernel_rfl) rfl) (fun v w' => v = .int .i64 0 ∧ Hid (IsDisk w' b g cap (D.syncX (L.counts : Nat)).1 ∧ Chg (fun k => k = b ∨ k = g) w2 w')) ((HW.out _ HB2.out).mono fun e w' ⟨h1, h2, h3⟩ => ⟨_, h1, rfl, h2, h3⟩) ?_
  rintro v w4 ⟨rfl, hK⟩
  have HD4 := Lib.hid hK.out.1
  have HC4 := Lib.hid ((Chg.of_below (fun k => k = b ∨ k = g) HB2.out).trans hK.out.2)
  have HL4 := Lib.hid (HL.out.keep HC4.out (fun e => by have := HL.out.ne HD0.out; omega))
  have HX4 : Hid (BoxAt w4 bx lb) := HX.out.keep HC4.out (fun e => by have := HBX.out; omega)
  refine ⟨⟨HX4.out, HL4.out.c0, HL4.out.c2⟩, ?_⟩
  simp only [Act.put, List.setIfInBounds_toArray, List.set_cons_zero, List.set_cons_succ]
  refine oneU 9 (by kernel_rfl) ?_
  refine callU 9 rfl (by kernel_rfl) rfl 85 _ _ rfl #[.string ⟨#[97, 32, 115, 121, 110, 99]⟩, .int .i64 0] (by simp [Act.eval]) (enters_of Tryz.func85 (by kernel_rfl) rfl) (fun v w' => v = .nilIface ∧ w' = w4) ((stepOk _ w4).mono fun e w' ⟨h1, h2⟩ => ⟨_, h1, rfl, h2⟩) ?_
  rintro v w5 ⟨rfl, rfl⟩
  refine ⟨⟨HX4.out, HL4.out.c0, HL4.out.c2⟩, ?_⟩
  simp only [Act.put, List.setIfInBounds_toArray, List.set_cons_zero, List.set_cons_succ]
  refine oneU 10 (by kernel_rfl) ?_
  refine endU (v := ?_) 10 rfl (by kernel_rfl) (by kernel_rfl) rfl ?_ ?_
  rotate_left
  · go_simp <;> with_reducible rfl
  simp only [Act.put, List.setIfInBounds_toArray, List.set_cons_zero, List.set_cons_succ]
  go_wp2_with fail
  go_ret
  exact ⟨rfl, HD4.out, HC4.out⟩
set_option maxHeartbeats 1600000 in
theorem cp3W (h : IsLog w lb b L) (hx : BoxAt w bx lb) (hbx : bx ≠ b ∧ bx ≠ g ∧ bx < w.heap.size) (hd : IsDisk w b g cap D) (hok : DOk D) (hf : L.first ≤ 1048576) (hcn : L.counts ≤ 1048576) (hr : (D.cutX (L.counts : Nat) 0).2 = 0) :
    Calls Tryz.prog 105 #[.pointer (some ⟨bx, 0, none⟩)] w fun e w' => e = .returned .nilIface ∧ IsDisk w' b g cap (D.cutX (L.counts : Nat) 0).1 ∧ Chg (fun k => k = b ∨ k = g) w w' := by
  have HL := Lib.hid h
  have HX := Lib.hid hx
  have HD0 := Lib.hid hd
  have HBX := Lib.hid hbx
  have HW := Lib.hid (fun (w1 : World) (hb : Below w.heap.size w w1) => cutA (hd.below hb) hok (L.counts : Nat) 0)
  rw [hr] at HW
  clear h hx hd hok hr hbx
  go_enter Tryz.func105, Tryz.ntmps105
  go_wp2_with fail
  refine wp_region_U 10 (fun u => u.cell? ⟨bx, 0, none⟩ = some (.pointer (some ⟨lb, 0, none⟩)) ∧ u.cell? ⟨lb, 0, none⟩ = some (.pointer (some ⟨b, 0, none⟩)) ∧ u.cell? ⟨lb, 2, none⟩ = some (.int .i64 (L.counts : Nat))) (by kernel_rfl) ?_
  change wpAnyU _ _ _ _ _ _ 11 (Array.replicate 11 false) _ _
  obtain ⟨w2, hw2⟩ : ∃ w2, w2 = w.drew := ⟨_, rfl⟩
  rw [← hw2]
  have HL2 : Hid (IsLog w2 lb b L) := by unfold Hid; rw [hw2]; exact HL.out.below (Below.refl _ _).drew
  have HX2 : Hid (BoxAt w2 bx lb) := by unfold Hid; rw [hw2]; exact HX.out
  have HB2 : Hid (Below w.heap.size w w2) := by unfold Hid; rw [hw2]; exact (Below.refl _ _).drew
  clear hw2
  have HS : Hid ((fun u => u.cell? ⟨bx, 0, none⟩ = some (.pointer (some ⟨lb, 0, none⟩)) ∧ u.cell? ⟨lb, 0, none⟩ = some (.pointer (some ⟨b, 0, none⟩)) ∧ u.cell? ⟨lb, 2, none⟩ = some (.int .i64 (L.counts : Nat))) w2) := ⟨HX2.out, HL2.out.c0, HL2.out.c2⟩
  refine takeU 0 (v := ?_) rfl (by kernel_rfl) (by kernel_rfl) (fun _ _ _ h => h) rfl (fun u hu => ?_) HS.out ?_
  rotate_left
  · obtain ⟨q0, q1, q2⟩ := hu; go_simp <;> with_reducible rfl
  simp only [Act.put, List.setIfInBounds_toArray, List.set_cons_zero, List.set_cons_succ]
  refine takeU 1 (v := ?_) rfl (by kernel_rfl) (by kernel_rfl) (fun _ _ _ h => h) rfl (fun u hu => ?_) HS.out ?_
  rotate_left
  · obtain ⟨q0, q1, q2⟩ := hu; go_simp <;> with_reducible rfl
  simp only [Act.put, List.setIfInBounds_toArray, List.set_cons_zero, List.set_cons_succ]
  refine takeU 2 (v := ?_) rfl (by kernel_rfl) (by kernel_rfl) (fun _ _ _ h => h) rfl (fun u hu => ?_) HS.out ?_
  rotate_left
  · obtain ⟨q0, q1, q2⟩ := hu; go_simp <;> with_reducible rfl
  simp only [Act.put, List.setIfInBounds_toArray, List.set_cons_zero, List.set_cons_succ]
  refine takeU 3 (v := ?_) rfl (by kernel_rfl) (by kernel_rfl) (fun _ _ _ h => h) rfl (fun u hu => ?_) HS.out ?_
  rotate_left
  · obtain ⟨q0, q1, q2⟩ := hu; go_simp <;> with_reducible rfl
  simp only [Act.put, List.setIfInBounds_toArray, List.set_cons_zero, List.set_cons_succ]
  refine takeU 4 (v := ?_) rfl (by kernel_rfl) (by kernel_rfl) (fun _ _ _ h => h) rfl (fun u hu => ?_) HS.out ?_
  rotate_left
  · obtain ⟨q0, q1, q2⟩ := hu; go_simp <;> with_reducible rfl
  simp only [Act.put, List.setIfInBounds_toArray, List.set_cons_zero, List.set_cons_succ]
  refine takeU 5 (v := ?_) rfl (by kernel_rfl) (by kernel_rfl) (fun _ _ _ h => h) rfl (fun u hu => ?_) HS.out ?_
  rotate_left
  · obtain ⟨q0, q1, q2⟩ := hu; go_simp <;> with_reducible rfl
  simp only [Act.put, List.setIfInBounds_toArray, List.set_cons_zero, List.set_cons_succ]
  refine takeU 6 (v := ?_) rfl (by kernel_rfl) (by kernel_rfl) (fun _ _ _ h => h) rfl (fun u hu => ?_) HS.out ?_
  rotate_left
  · obtain ⟨q0, q1, q2⟩ := hu; go_simp <;> with_reducible rfl
  simp only [Act.put, List.setIfInBounds_toArray, List.set_cons_zero, List.set_cons_succ]
  refine takeU 7 (v := ?_) rfl (by kernel_rfl) (by kernel_rfl) (fun _ _ _ h => h) rfl (fun u hu => ?_) HS.out ?_
  rotate_left
  · obtain ⟨q0, q1, q2⟩ := hu; go_simp <;> with_reducible rfl
  simp only [Act.put, List.setIfInBounds_toArray, List.set_cons_zero, List.set_cons_succ]
  refine oneU 8 (by kernel_rfl) ?_
  refine callU 8 rfl (by kernel_rfl) rfl 56 _ _ rfl #[.pointer (some ⟨b, 0, none⟩), .int .i64 (L.counts : Nat), .int .i64 0] (by simp [Act.eval]) (enters_of Tryz.func56 (by kernel_rfl) rfl) (fun v w' => v = .int .i64 0 ∧ Hid (IsDisk w' b g cap (D.cutX (L.counts : Nat) 0).1 ∧ Chg (fun k => k = b ∨ k = g) w2 w')) ((HW.out _ HB2.out).mono fun e w' ⟨h1, h2, h3⟩ => ⟨_, h1, rfl, h2, h3⟩) ?_
  rintro v w4 ⟨rfl, hK⟩
  have HD4 := Lib.hid hK.out.1
  have HC4 := Lib.hid ((Chg.of_below (fun k => k = b ∨ k = g) HB2.out).trans hK.out.2)
  have HL4 := Lib.hid (HL.out.keep HC4.out (fun e => by have := HL.out.ne HD0.out; omega))
  have HX4 : Hid (BoxAt w4 bx lb) := HX.out.keep HC4.out (fun e => by have := HBX.out; omega)
  refine ⟨⟨HX4.out, HL4.out.c0, HL4.out.c2⟩, ?_⟩
  simp only [Act.put, List.setIfInBounds_toArray, List.set_cons_zero, List.set_cons_succ]
  refine oneU 9 (by kernel_rfl) ?_
  refine callU 9 rfl (by kernel_rfl) rfl 85 _ _ rfl #[.string ⟨#[97, 32, 99, 117, 116]⟩, .int .i64 0] (by simp [Act.eval]) (enters_of Tryz.func85 (by kernel_rfl) rfl) (fun v w' => v = .nilIface ∧ w' = w4) ((stepOk _ w4).mono fun e w' ⟨h1, h2⟩ => ⟨_, h1, rfl, h2⟩) ?_
  rintro v w5 ⟨rfl, rfl⟩
  refine ⟨⟨HX4.out, HL4.out.c0, HL4.out.c2⟩, ?_⟩
  simp only [Act.put, List.setIfInBounds_toArray, List.set_cons_zero, List.set_cons_succ]
  refine oneU 10 (by kernel_rfl) ?_
  refine endU (v := ?_) 10 rfl (by kernel_rfl) (by kernel_rfl) rfl ?_ ?_
  rotate_left
  · go_simp <;> with_reducible rfl
  simp only [Act.put, List.setIfInBounds_toArray, List.set_cons_zero, List.set_cons_succ]
  go_wp2_with fail
  go_ret
  exact ⟨rfl, HD4.out, HC4.out⟩
end
end Go.Proofs.YtilpbjcbffbjeaaGreatDoor
namespace Go.Proofs.YtilpbjcbffbjeaaGreatDoor
set_option linter.unusedVariables false
set_option maxRecDepth 100000
open Go.RowKit
set_option linter.unusedSectionVars false
variable [Avoid]
def four (D1 D2 D3 D4 : Dk) : Nat → Dk
  | 0 => D1
  | 1 => D2
  | 2 => D3
  | _ => D4
section
variable {S : Nat → Prop} {w w' : World} {lb b g cap : Nat} {L : Lg} {D : Dk}
set_option maxHeartbeats 800000 in
theorem checkpointLong (h : IsLog w lb b L) (s : ByteArray) (hdl : L.dead = false) (hs : 16384 < s.size) :
    Calls Tryz.prog 78 #[.pointer (some ⟨lb, 0, none⟩), .string s] w fun e w' => e = .returned (.int .i64 171) ∧ Below w.heap.size w w' := by
  have c5 := h.c5
  have hlt := h.lt
  rw [hdl] at c5
  clear h hdl
  go_enter Tryz.func78, Tryz.ntmps78
  go_wp2_with fail
  go_ret
  exact ⟨rfl, (Below.refl _ _).alloc (Nat.le_refl _) _⟩
set_option maxHeartbeats 3200000 in
theorem checkpointOk (h : IsLog w lb b L) (hd : IsDisk w b g cap D) (hok : DOk D) (s : ByteArray) (hdl : L.dead = false) (hs : s.size ≤ 16384) (hg : L.gen < 1099511627776) (hf : L.first ≤ 1048576) (hcn : L.counts ≤ 1048576)
    (hm : ∀ f, f < D.l.length → (D.l.getD f Fl.zero).ws.length < 1099511627776) (o : Nat) (ho : 2 * (L.first : Int) + 1 - (L.counts : Int) = (o : Nat)) (D1 D2 D3 D4 : Dk)
    (e1 : D.writeX (o : Nat) (recS (L.gen + 1) s) = (D1, 0)) (e2 : D1.syncX (o : Nat) = (D2, 0)) (e3 : D2.syncX (L.counts : Nat) = (D3, 0)) (e4 : D3.cutX (L.counts : Nat) 0 = (D4, 0)) (k1 : DOk D1) (k2 : DOk D2) (k3 : DOk D3) :
    Calls Tryz.prog 78 #[.pointer (some ⟨lb, 0, none⟩), .string s] w fun e w' => e = .returned (.int .i64 0) ∧ IsLog w' lb b { L with counts := o, gen := L.gen + 1, n := 0 } ∧ IsDisk w' b g cap D4 ∧ Chg (fun k => k = lb ∨ k = b ∨ k = g) w w' := by
  obtain ⟨bx, hbx⟩ : ∃ bx, bx = w.heap.size := ⟨_, rfl⟩
  obtain ⟨W0, hW0⟩ : ∃ W, W = w.alloc (.cells #[.pointer (some ⟨lb, 0, none⟩)] 69) := ⟨_, rfl⟩
  have hb0 : Below w.heap.size w W0 := by rw [hW0]; exact (Below.refl _ _).alloc (Nat.le_refl _) _
  have hl0 := h.below hb0
  have hd0 := hd.below hb0
  have hx0 : BoxAt W0 bx lb := by unfold BoxAt; rw [hW0, hbx]; simp
  have hbz : bx < W0.heap.size := by rw [hW0, hbx]; simp
  have hlt := h.lt
  have hdlt := hd.lt
  have hglt := hd.fs.lt
  have HNE := Lib.hid (h.ne hd)
  have HBX : Hid (bx ≠ lb ∧ bx ≠ b ∧ bx ≠ g) := by unfold Hid; rw [hbx]; omega
  have c5 := h.c5
  have c3 := h.c3
  rw [hdl] at c5
  have HL0 := Lib.hid hl0
  have HX0 := Lib.hid hx0
  have HD0 := Lib.hid hd0
  have HB0 := Lib.hid hb0
  have HLT := Lib.hid hlt
  have HBZ := Lib.hid hbz
  have HW := Lib.hid (fun (w1 : World) (hb : Below W0.heap.size W0 w1) => writeLOk (hl0.below hb) (hd0.below hb) hok o (L.gen + 1) s (by omega) (by omega) hs hm (by rw [e1]))
  rw [e1] at HW
  have K1 := Lib.hid (fun (wr : World) (hl : IsLog wr lb b L) (hx : BoxAt wr bx lb) (hz : bx < wr.heap.size) (hd : IsDisk wr b g cap D1) => cp1W hl hx ⟨HBX.out.2.1, HBX.out.2.2, hz⟩ hd k1 hf hcn (by rw [ho, e2]))
  rw [ho, e2] at K1
  have K2 := Lib.hid (fun (wr : World) (hl : IsLog wr lb b L) (hx : BoxAt wr bx lb) (hz : bx < wr.heap.size) (hd : IsDisk wr b g cap D2) => cp2W hl hx ⟨HBX.out.2.1, HBX.out.2.2, hz⟩ hd k2 hf hcn (by rw [e3]))
  rw [e3] at K2
  have K3 := Lib.hid (fun (wr : World) (hl : IsLog wr lb b L) (hx : BoxAt wr bx lb) (hz : bx < wr.heap.size) (hd : IsDisk wr b g cap D3) => cp3W hl hx ⟨HBX.out.2.1, HBX.out.2.2, hz⟩ hd k3 hf hcn (by rw [e4]))
  rw [e4] at K3
  have HO := Lib.hid (fun (wr : World) (hl : IsLog wr lb b L) => otherW hl hf hcn)
  rw [ho] at HO
  have HW0 := Lib.hid hW0
  have HBXE := Lib.hid hbx
  have HG := Lib.hid hg
  have hgi : ¬ (1099511627776 : Int) ≤ (L.gen : Int) := by omega
  clear hg
  clear hbx h hd hok hdl hl0 hd0 hx0 hbz hb0 e1 e2 e3 e4 k1 k2 k3 hm ho hdlt hglt hf hcn hW0
  go_enter Tryz.func78, Tryz.ntmps78
  go_wp2_with fail
  rw [← HW0.out, ← HBXE.out]
  have c3' := 0
  clear c3' c3 c5
  refine wp_region_U 10 (fun u => u.cell? ⟨bx, 0, none⟩ = some (.pointer (some ⟨lb, 0, none⟩)) ∧ u.cell? ⟨lb, 3, none⟩ = some (.int .i64 (L.gen : Nat))) (by kernel_rfl) ?_
  change wpAnyU _ _ _ _ _ _ 11 (Array.replicate 11 false) _ _
  obtain ⟨w2, hw2⟩ : ∃ w2, w2 = W0.drew := ⟨_, rfl⟩
  rw [← hw2]
  have HL2 : Hid (IsLog w2 lb b L) := by unfold Hid; rw [hw2]; exact HL0.out.below (Below.refl _ _).drew
  have HX2 : Hid (BoxAt w2 bx lb) := by unfold Hid; rw [hw2]; exact HX0.out
  have HB2 : Hid (Below W0.heap.size W0 w2) := by unfold Hid; rw [hw2]; exact (Below.refl _ _).drew
  clear hw2
  have HS : Hid ((fun u => u.cell? ⟨bx, 0, none⟩ = some (.pointer (some ⟨lb, 0, none⟩)) ∧ u.cell? ⟨lb, 3, none⟩ = some (.int .i64 (L.gen : Nat))) w2) := ⟨HX2.out, HL2.out.c3⟩
  refine takeU 0 (v := ?_) rfl (by kernel_rfl) (by kernel_rfl) (fun _ _ _ h => h) rfl (fun u hu => ?_) HS.out ?_
  rotate_left
  · obtain ⟨q0, q1⟩ := hu; go_simp <;> with_reducible rfl
  simp only [Act.put, List.setIfInBounds_toArray, List.set_cons_zero, List.set_cons_succ]
  refine takeU 1 (v := ?_) rfl (by kernel_rfl) (by kernel_rfl) (fun _ _ _ h => h) rfl (fun u hu => ?_) HS.out ?_
  rotate_left
  · obtain ⟨q0, q1⟩ := hu; go_simp <;> with_reducible rfl
  simp only [Act.put, List.setIfInBounds_toArray, List.set_cons_zero, List.set_cons_succ]
  refine takeU 3 (v := ?_) rfl (by kernel_rfl) (by kernel_rfl) (fun _ _ _ h => h) rfl (fun u hu => ?_) HS.out ?_
  rotate_left
  · obtain ⟨q0, q1⟩ := hu; go_simp <;> with_reducible rfl
  simp only [Act.put, List.setIfInBounds_toArray, List.set_cons_zero, List.set_cons_succ]
  refine takeU 4 (v := ?_) rfl (by kernel_rfl) (by kernel_rfl) (fun _ _ _ h => h) rfl (fun u hu => ?_) HS.out ?_
  rotate_left
  · obtain ⟨q0, q1⟩ := hu; go_simp <;> with_reducible rfl
  simp only [Act.put, List.setIfInBounds_toArray, List.set_cons_zero, List.set_cons_succ]
  refine takeU 5 (v := ?_) rfl (by kernel_rfl) (by kernel_rfl) (fun _ _ _ h => h) rfl (fun u hu => ?_) HS.out ?_
  rotate_left
  · obtain ⟨q0, q1⟩ := hu; go_simp <;> with_reducible rfl
  simp only [Act.put, List.setIfInBounds_toArray, List.set_cons_zero, List.set_cons_succ]
  refine takeU 6 (v := ?_) rfl (by kernel_rfl) (by kernel_rfl) (fun _ _ _ h => h) rfl (fun u hu => ?_) HS.out ?_
  rotate_left
  · obtain ⟨q0, q1⟩ := hu; go_simp <;> with_reducible rfl
  simp only [Act.put, List.setIfInBounds_toArray, List.set_cons_zero, List.set_cons_succ]
  refine takeU 7 (v := ?_) rfl (by kernel_rfl) (by kernel_rfl) (fun _ _ _ h => h) rfl (fun u hu => ?_) HS.out ?_
  rotate_left
  · obtain ⟨q0, q1⟩ := hu; go_simp <;> with_reducible rfl
  simp only [Act.put, List.setIfInBounds_toArray, List.set_cons_zero, List.set_cons_succ]
  refine takeU 8 (v := ?_) rfl (by kernel_rfl) (by kernel_rfl) (fun _ _ _ h => h) rfl (fun u hu => ?_) HS.out ?_
  rotate_left
  · obtain ⟨q0, q1⟩ := hu; go_simp <;> with_reducible rfl
  simp only [Act.put, List.setIfInBounds_toArray, List.set_cons_zero, List.set_cons_succ]
  refine oneU 2 (by kernel_rfl) ?_
  refine callU 2 rfl (by kernel_rfl) rfl 102 _ _ rfl #[.pointer (some ⟨lb, 0, none⟩)] (by simp [Act.eval]) (enters_of Tryz.func102 (by kernel_rfl) rfl) (fun v w' => v = .int .i64 (o : Nat) ∧ Below w2.heap.size w2 w') ((HO.out _ HL2.out).mono fun e w' ⟨h1, h2⟩ => ⟨_, h1, rfl, h2⟩) ?_
  rintro v w3 ⟨rfl, hb3⟩
  have HL3 := Lib.hid (HL2.out.below hb3)
  have HX3 : Hid (BoxAt w3 bx lb) := hb3.cell (block_lt_of_cell HX2.out) |>.trans HX2.out
  have HB3 := Lib.hid (HB2.out.trans (hb3.mono HB2.out.size))
  clear hb3
  refine ⟨⟨HX3.out, HL3.out.c3⟩, ?_⟩
  simp only [Act.put, List.setIfInBounds_toArray, List.set_cons_zero, List.set_cons_succ]
  refine oneU 9 (by kernel_rfl) ?_
  refine callU 9 rfl (by kernel_rfl) rfl 84 _ _ rfl #[.pointer (some ⟨lb, 0, none⟩), .int .i64 (o : Nat), .int .i64 ((L.gen + 1 : Nat) : Int), .string s] (by simp [Act.eval]; exact IntWalk.i64_in _ (by have := HG.out; omega)) (enters_of Tryz.func84 (by kernel_rfl) rfl) (fun v w' => v = .nilIface ∧ Hid (IsDisk w' b g cap D1 ∧ Chg (fun k => k = b ∨ k = g) w3 w')) ((HW.out _ HB3.out).mono fun e w' ⟨h1, h2, h3⟩ => ⟨_, h1, rfl, h2, h3⟩) ?_
  rintro v w4 ⟨rfl, hK⟩
  have HD4 := Lib.hid hK.out.1
  have HC4 := Lib.hid ((Chg.of_below (fun k => k = b ∨ k = g) HB3.out).trans hK.out.2)
  have HL4 := Lib.hid (HL0.out.keep HC4.out (fun e => by have := HNE.out; omega))
  have HX4 : Hid (BoxAt w4 bx lb) := HX0.out.keep HC4.out (fun e => by have := HBX.out; omega)
  refine ⟨⟨HX4.out, HL4.out.c3⟩, ?_⟩
  simp only [Act.put, List.setIfInBounds_toArray, List.set_cons_zero, List.set_cons_succ]
  refine oneU 10 (by kernel_rfl) ?_
  refine endU (v := ?_) 10 rfl (by kernel_rfl) (by kernel_rfl) rfl ?_ ?_
  rotate_left
  · go_simp <;> with_reducible rfl
  simp only [Act.put, List.setIfInBounds_toArray, List.set_cons_zero, List.set_cons_succ]
  clear HS HW HL2 HX2 HB2 HL3 HX3 HB3
  go_wp2_with fail
  obtain ⟨fb, hfb⟩ : ∃ fb, fb = w4.heap.size := ⟨_, rfl⟩
  obtain ⟨W5, hW5⟩ : ∃ W, W = w4.alloc (.cells #[.func (.func 103) #[] #[.pointer (some ⟨bx, 0, none⟩)], .func (.func 104) #[] #[.pointer (some ⟨bx, 0, none⟩)], .func (.func 105) #[] #[.pointer (some ⟨bx, 0, none⟩)]] 166) := ⟨_, rfl⟩
  rw [← hW5, ← hfb]
  have F0 : Hid (W5.cell? ⟨fb, 0, none⟩ = some (.func (.func 103) #[] #[.pointer (some ⟨bx, 0, none⟩)])) := by unfold Hid; rw [hW5, hfb]; simp
  have F1 : Hid (W5.cell? ⟨fb, 1, none⟩ = some (.func (.func 104) #[] #[.pointer (some ⟨bx, 0, none⟩)])) := by unfold Hid; rw [hW5, hfb]; simp
  have F2 : Hid (W5.cell? ⟨fb, 2, none⟩ = some (.func (.func 105) #[] #[.pointer (some ⟨bx, 0, none⟩)])) := by unfold Hid; rw [hW5, hfb]; simp
  have hb5 : Below w4.heap.size w4 W5 := by rw [hW5]; exact (Below.refl _ _).alloc (Nat.le_refl _) _
  have HFB : Hid (fb ≠ b ∧ fb ≠ g) := by unfold Hid; have := HD4.out.lt; have := HD4.out.fs.lt; omega
  have HD5 := Lib.hid (HD4.out.below hb5)
  have HC5 := Lib.hid (HC4.out.trans (Chg.of_below _ hb5))
  have HL5 := Lib.hid (HL4.out.below hb5)
  have HX5 : Hid (BoxAt W5 bx lb) := hb5.cell (block_lt_of_cell HX4.out) |>.trans HX4.out
  have HZ5 : Hid (bx < W5.heap.size) := Nat.lt_of_lt_of_le HBZ.out HC5.out.size
  clear hb5 hW5 hfb HD4 HC4 HL4 HX4
  go_loopw [5, 39] (fun v5 v39 wr => ∃ i : Nat, i ≤ 3 ∧ v39 = .int .i64 (i : Nat) ∧ v5 = .nilIface ∧ IsDisk wr b g cap (four D1 D2 D3 D4 i) ∧ Chg (fun k => k = b ∨ k = g) W5 wr) (fun _ v _ => (3 - intOf v).toNat)
  case atStart => exact ⟨0, by omega, rfl, rfl, HD5.out, Chg.refl _ _⟩
  case round =>
    obtain ⟨i, hi, rfl, rfl, hd, hc⟩ := hrel
    have HDr := Lib.hid hd
    have HCr := Lib.hid hc
    have HLr := Lib.hid (HL5.out.keep hc (fun e => by have := HNE.out; omega))
    have HXr : Hid (BoxAt wr bx lb) := HX5.out.keep hc (fun e => by have := HBX.out; omega)
    have HZr : Hid (bx < wr.heap.size) := Nat.lt_of_lt_of_le HZ5.out hc.size
    clear hd hc
    rcases i with _ | _ | _ | i
    · have f := HCr.out.cell (fun e => by have := HFB.out; simp at e; omega) F0.out
      go_wp2_with fail
      refine (K1.out wr HLr.out HXr.out HZr.out HDr.out).mono ?_
      rintro e w6 ⟨rfl, hd, hc⟩
      have HD6 := Lib.hid hd
      have HC6 := Lib.hid (HCr.out.trans hc)
      clear hd hc f
      go_wp2_with fail
      exact ⟨⟨1, by omega, rfl, rfl, HD6.out, HC6.out⟩, by simp [intOf]⟩
    · have f := HCr.out.cell (fun e => by have := HFB.out; simp at e; omega) F1.out
      go_wp2_with fail
      refine (K2.out wr HLr.out HXr.out HZr.out HDr.out).mono ?_
      rintro e w6 ⟨rfl, hd, hc⟩
      have HD6 := Lib.hid hd
      have HC6 := Lib.hid (HCr.out.trans hc)
      clear hd hc f
      go_wp2_with fail
      exact ⟨⟨2, by omega, rfl, rfl, HD6.out, HC6.out⟩, by simp [intOf]⟩
    · have f := HCr.out.cell (fun e => by have := HFB.out; simp at e; omega) F2.out
      go_wp2_with fail
      refine (K3.out wr HLr.out HXr.out HZr.out HDr.out).mono ?_
      rintro e w6 ⟨rfl, hd, hc⟩
      have HD6 := Lib.hid hd
      have HC6 := Lib.hid (HCr.out.trans hc)
      clear hd hc f
      go_wp2_with fail
      exact ⟨⟨3, by omega, rfl, rfl, HD6.out, HC6.out⟩, by simp [intOf]⟩
    · obtain rfl : i = 0 := by omega
      have x0 : wr.cell? ⟨bx, 0, none⟩ = some (.pointer (some ⟨lb, 0, none⟩)) := HXr.out
      go_wp2_with fail
      refine (toldOk _ _).mono ?_
      rintro e w6 ⟨rfl, rfl⟩
      go_wp2_with fail
      clear x0
      refine wp_region_U 18 (fun u => u.cell? ⟨bx, 0, none⟩ = some (.pointer (some ⟨lb, 0, none⟩))) (by kernel_rfl) ?_
      change wpAnyU _ _ _ _ _ _ 19 (Array.replicate 19 false) _ _
      obtain ⟨w7, hw7⟩ : ∃ w2, w2 = w6.drew := ⟨_, rfl⟩
      rw [← hw7]
      have hb7 : Below w6.heap.size w6 w7 := by rw [hw7]; exact (Below.refl _ _).drew
      have HL7 := Lib.hid (HLr.out.below hb7)
      have HX7 : Hid (BoxAt w7 bx lb) := by unfold Hid; rw [hw7]; exact HXr.out
      have HD7 := Lib.hid (HDr.out.below hb7)
      have HC7 : Hid (Chg (fun k => k = lb ∨ k = b ∨ k = g) w w7) := (((Chg.of_below _ HB0.out).trans ((HC5.out.trans HCr.out).trans (Chg.of_below _ hb7)))).mono (fun k _ h => .inr h)
      clear hw7 hb7
      refine takeU 0 (v := ?_) rfl (by kernel_rfl) (by kernel_rfl) (fun _ _ _ h => h) rfl (fun u hu => ?_) HX7.out ?_
      rotate_left
      · have q0 := hu; go_simp <;> with_reducible rfl
      simp only [Act.put, List.setIfInBounds_toArray, List.set_cons_zero, List.set_cons_succ]
      refine takeU 1 (v := ?_) rfl (by kernel_rfl) (by kernel_rfl) (fun _ _ _ h => h) rfl (fun u hu => ?_) HX7.out ?_
      rotate_left
      · have q0 := hu; go_simp <;> with_reducible rfl
      simp only [Act.put, List.setIfInBounds_toArray, List.set_cons_zero, List.set_cons_succ]
      refine takeU 2 (v := ?_) rfl (by kernel_rfl) (by kernel_rfl) (fun _ _ _ h => h) rfl (fun u hu => ?_) HX7.out ?_
      rotate_left
      · have q0 := hu; go_simp <;> with_reducible rfl
      simp only [Act.put, List.setIfInBounds_toArray, List.set_cons_zero, List.set_cons_succ]
      refine takeU 3 (v := ?_) rfl (by kernel_rfl) (by kernel_rfl) (fun _ _ _ h => h) rfl (fun u hu => ?_) HX7.out ?_
      rotate_left
      · have q0 := hu; go_simp <;> with_reducible rfl
      simp only [Act.put, List.setIfInBounds_toArray, List.set_cons_zero, List.set_cons_succ]
      refine takeU 5 (v := ?_) rfl (by kernel_rfl) (by kernel_rfl) (fun _ _ _ h => h) rfl (fun u hu => ?_) HX7.out ?_
      rotate_left
      · have q0 := hu; go_simp <;> with_reducible rfl
      simp only [Act.put, List.setIfInBounds_toArray, List.set_cons_zero, List.set_cons_succ]
      refine takeU 6 (v := ?_) rfl (by kernel_rfl) (by kernel_rfl) (fun _ _ _ h => h) rfl (fun u hu => ?_) HX7.out ?_
      rotate_left
      · have q0 := hu; go_simp <;> with_reducible rfl
      simp only [Act.put, List.setIfInBounds_toArray, List.set_cons_zero, List.set_cons_succ]
      refine takeU 7 (v := ?_) rfl (by kernel_rfl) (by kernel_rfl) (fun _ _ _ h => h) rfl (fun u hu => ?_) HX7.out ?_
      rotate_left
      · have q0 := hu; go_simp <;> with_reducible rfl
      simp only [Act.put, List.setIfInBounds_toArray, List.set_cons_zero, List.set_cons_succ]
      refine twoU 4 8 (by kernel_rfl) ?_ ?_
      · refine callU 4 rfl (by kernel_rfl) rfl 102 _ _ rfl #[.pointer (some ⟨lb, 0, none⟩)] (by simp [Act.eval]) (enters_of Tryz.func102 (by kernel_rfl) rfl) (fun v w' => v = .int .i64 (o : Nat) ∧ Below w7.heap.size w7 w') ((HO.out _ HL7.out).mono fun e w' ⟨h1, h2⟩ => ⟨_, h1, rfl, h2⟩) ?_
        rintro v w8 ⟨rfl, hb⟩
        have HL8 := Lib.hid (HL7.out.below hb)
        have HX8 : Hid (BoxAt w8 bx lb) := hb.cell (block_lt_of_cell HX7.out) |>.trans HX7.out
        have HD8 := Lib.hid (HD7.out.below hb)
        have HC8 := Lib.hid (HC7.out.trans (Chg.of_below _ hb))
        clear hb
        refine ⟨HX8.out, ?_⟩
        simp only [Act.put, List.setIfInBounds_toArray, List.set_cons_zero, List.set_cons_succ]
        refine oneU 8 (by kernel_rfl) ?_
        refine someU 8 rfl (by kernel_rfl) ?_
        have c := HL8.out.c3
        refine step_runW rfl (.int .i64 (L.gen : Nat)) w8 (by go_simp) ?_
        clear c
        refine ⟨HX8.out, ?_⟩
        simp only [Act.put, List.setIfInBounds_toArray, List.set_cons_zero, List.set_cons_succ]
        refine takeU 9 (v := ?_) rfl (by kernel_rfl) (by kernel_rfl) (fun _ _ _ h => h) rfl (fun u hu => ?_) HX8.out ?_
        rotate_left
        · skip; go_simp <;> with_reducible rfl
        simp only [Act.put, List.setIfInBounds_toArray, List.set_cons_zero, List.set_cons_succ]
        refine takeU 10 (v := ?_) rfl (by kernel_rfl) (by kernel_rfl) (fun _ _ _ h => h) rfl (fun u hu => ?_) HX8.out ?_
        rotate_left
        · skip; go_simp <;> with_reducible rfl
        simp only [Act.put, List.setIfInBounds_toArray, List.set_cons_zero, List.set_cons_succ]
        refine takeU 11 (v := ?_) rfl (by kernel_rfl) (by kernel_rfl) (fun _ _ _ h => h) rfl (fun u hu => ?_) HX8.out ?_
        rotate_left
        · skip; go_simp <;> with_reducible rfl
        simp only [Act.put, List.setIfInBounds_toArray, List.set_cons_zero, List.set_cons_succ]
        refine oneU 12 (by kernel_rfl) ?_
        refine someU 12 rfl (by kernel_rfl) ?_
        have c := (HL8.out).c2
        have f := (HL8.out).free 2
        refine step_skipW rfl (w8.setCell ⟨lb, 2, none⟩ (.int .i64 (o : Nat))) (by go_simp) ?_
        clear c f
        obtain ⟨wa, hwa⟩ : ∃ wa, wa = w8.setCell ⟨lb, 2, none⟩ (.int .i64 (o : Nat)) := ⟨_, rfl⟩
        have HLa : Hid (IsLog wa lb b { L with counts := o }) := by unfold Hid; rw [hwa]; exact (HL8.out).setCounts o
        have HCa : Hid (Chg (fun k => k = lb) w8 wa) := by unfold Hid; rw [hwa]; exact Chg.setCell (fun k => k = lb) _ rfl _
        have HXa : Hid (BoxAt wa bx lb) := (HX8.out).keep HCa.out HBX.out.1
        rw [← hwa]
        clear hwa
        refine ⟨HXa.out, ?_⟩
        simp only [Act.put]
        refine takeU 13 (v := ?_) rfl (by kernel_rfl) (by kernel_rfl) (fun _ _ _ h => h) rfl (fun u hu => ?_) HXa.out ?_
        rotate_left
        · skip; go_simp <;> with_reducible rfl
        simp only [Act.put, List.setIfInBounds_toArray, List.set_cons_zero, List.set_cons_succ]
        refine takeU 14 (v := ?_) rfl (by kernel_rfl) (by kernel_rfl) (fun _ _ _ h => h) rfl (fun u hu => ?_) HXa.out ?_
        rotate_left
        · skip; go_simp <;> with_reducible rfl
        simp only [Act.put, List.setIfInBounds_toArray, List.set_cons_zero, List.set_cons_succ]
        refine oneU 15 (by kernel_rfl) ?_
        refine someU 15 rfl (by kernel_rfl) ?_
        have c := HLa.out.c3
        have f := HLa.out.free 3
        have ew : IntKind.i64.wrap ((L.gen : Int) + 1) = (L.gen : Int) + 1 := IntWalk.i64_in _ (by have := HG.out; omega)
        refine step_skipW rfl (wa.setCell ⟨lb, 3, none⟩ (.int .i64 ((L.gen + 1 : Nat) : Int))) (by go_simp) ?_
        clear c f ew
        obtain ⟨wb, hwb⟩ : ∃ wb, wb = wa.setCell ⟨lb, 3, none⟩ (.int .i64 ((L.gen + 1 : Nat) : Int)) := ⟨_, rfl⟩
        have HLb : Hid (IsLog wb lb b { L with counts := o, gen := L.gen + 1 }) := by unfold Hid; rw [hwb]; exact HLa.out.setGen (L.gen + 1)
        have HCb : Hid (Chg (fun k => k = lb) wa wb) := by unfold Hid; rw [hwb]; exact Chg.setCell (fun k => k = lb) _ rfl _
        have HXb : Hid (BoxAt wb bx lb) := HXa.out.keep HCb.out HBX.out.1
        rw [← hwb]
        clear hwb
        refine ⟨HXb.out, ?_⟩
        simp only [Act.put]
        refine takeU 16 (v := ?_) rfl (by kernel_rfl) (by kernel_rfl) (fun _ _ _ h => h) rfl (fun u hu => ?_) HXb.out ?_
        rotate_left
        · skip; go_simp <;> with_reducible rfl
        simp only [Act.put, List.setIfInBounds_toArray, List.set_cons_zero, List.set_cons_succ]
        refine takeU 17 (v := ?_) rfl (by kernel_rfl) (by kernel_rfl) (fun _ _ _ h => h) rfl (fun u hu => ?_) HXb.out ?_
        rotate_left
        · skip; go_simp <;> with_reducible rfl
        simp only [Act.put, List.setIfInBounds_toArray, List.set_cons_zero, List.set_cons_succ]
        refine oneU 18 (by kernel_rfl) ?_
        refine lastU 18 rfl (by kernel_rfl) (by kernel_rfl) ?_
        have c := HLb.out.c4
        have f := HLb.out.free 4
        refine step_skipW rfl (wb.setCell ⟨lb, 4, none⟩ (.int .i64 ((0 : Nat) : Int))) (by go_simp) ?_
        clear c f
        have HLc := Lib.hid (HLb.out.setN 0)
        have HCc := Lib.hid ((HCa.out.trans HCb.out).trans (Chg.setCell (fun k => k = lb) wb (j := 4) rfl (.int .i64 ((0 : Nat) : Int))))
        simp only [Act.put]
        go_wp2_with fail
        go_ret
        refine ⟨rfl, HLc.out, (HD8.out).log (HL8.out) HCc.out, (HC8.out).trans (HCc.out.mono fun k _ h => .inl h)⟩
      · refine someU 8 rfl (by kernel_rfl) ?_
        have c := HL7.out.c3
        refine step_runW rfl (.int .i64 (L.gen : Nat)) w7 (by go_simp) ?_
        clear c
        refine ⟨HX7.out, ?_⟩
        simp only [Act.put, List.setIfInBounds_toArray, List.set_cons_zero, List.set_cons_succ]
        refine takeU 9 (v := ?_) rfl (by kernel_rfl) (by kernel_rfl) (fun _ _ _ h => h) rfl (fun u hu => ?_) HX7.out ?_
        rotate_left
        · skip; go_simp <;> with_reducible rfl
        simp only [Act.put, List.setIfInBounds_toArray, List.set_cons_zero, List.set_cons_succ]
        refine oneU 4 (by kernel_rfl) ?_
        refine callU 4 rfl (by kernel_rfl) rfl 102 _ _ rfl #[.pointer (some ⟨lb, 0, none⟩)] (by simp [Act.eval]) (enters_of Tryz.func102 (by kernel_rfl) rfl) (fun v w' => v = .int .i64 (o : Nat) ∧ Below w7.heap.size w7 w') ((HO.out _ HL7.out).mono fun e w' ⟨h1, h2⟩ => ⟨_, h1, rfl, h2⟩) ?_
        rintro v w8 ⟨rfl, hb⟩
        have HL8 := Lib.hid (HL7.out.below hb)
        have HX8 : Hid (BoxAt w8 bx lb) := hb.cell (block_lt_of_cell HX7.out) |>.trans HX7.out
        have HD8 := Lib.hid (HD7.out.below hb)
        have HC8 := Lib.hid (HC7.out.trans (Chg.of_below _ hb))
        clear hb
        refine ⟨HX8.out, ?_⟩
        simp only [Act.put, List.setIfInBounds_toArray, List.set_cons_zero, List.set_cons_succ]
        refine takeU 10 (v := ?_) rfl (by kernel_rfl) (by kernel_rfl) (fun _ _ _ h => h) rfl (fun u hu => ?_) HX8.out ?_
        rotate_left
        · skip; go_simp <;> with_reducible rfl
        simp only [Act.put, List.setIfInBounds_toArray, List.set_cons_zero, List.set_cons_succ]
        refine takeU 11 (v := ?_) rfl (by kernel_rfl) (by kernel_rfl) (fun _ _ _ h => h) rfl (fun u hu => ?_) HX8.out ?_
        rotate_left
        · skip; go_simp <;> with_reducible rfl
        simp only [Act.put, List.setIfInBounds_toArray, List.set_cons_zero, List.set_cons_succ]
        refine oneU 12 (by kernel_rfl) ?_
        refine someU 12 rfl (by kernel_rfl) ?_
        have c := (HL8.out).c2
        have f := (HL8.out).free 2
        refine step_skipW rfl (w8.setCell ⟨lb, 2, none⟩ (.int .i64 (o : Nat))) (by go_simp) ?_
        clear c f
        obtain ⟨wa, hwa⟩ : ∃ wa, wa = w8.setCell ⟨lb, 2, none⟩ (.int .i64 (o : Nat)) := ⟨_, rfl⟩
        have HLa : Hid (IsLog wa lb b { L with counts := o }) := by unfold Hid; rw [hwa]; exact (HL8.out).setCounts o
        have HCa : Hid (Chg (fun k => k = lb) w8 wa) := by unfold Hid; rw [hwa]; exact Chg.setCell (fun k => k = lb) _ rfl _
        have HXa : Hid (BoxAt wa bx lb) := (HX8.out).keep HCa.out HBX.out.1
        rw [← hwa]
        clear hwa
        refine ⟨HXa.out, ?_⟩
        simp only [Act.put]
        refine takeU 13 (v := ?_) rfl (by kernel_rfl) (by kernel_rfl) (fun _ _ _ h => h) rfl (fun u hu => ?_) HXa.out ?_
        rotate_left
        · skip; go_simp <;> with_reducible rfl
        simp only [Act.put, List.setIfInBounds_toArray, List.set_cons_zero, List.set_cons_succ]
        refine takeU 14 (v := ?_) rfl (by kernel_rfl) (by kernel_rfl) (fun _ _ _ h => h) rfl (fun u hu => ?_) HXa.out ?_
        rotate_left
        · skip; go_simp <;> with_reducible rfl
        simp only [Act.put, List.setIfInBounds_toArray, List.set_cons_zero, List.set_cons_succ]
        refine oneU 15 (by kernel_rfl) ?_
        refine someU 15 rfl (by kernel_rfl) ?_
        have c := HLa.out.c3
        have f := HLa.out.free 3
        have ew : IntKind.i64.wrap ((L.gen : Int) + 1) = (L.gen : Int) + 1 := IntWalk.i64_in _ (by have := HG.out; omega)
        refine step_skipW rfl (wa.setCell ⟨lb, 3, none⟩ (.int .i64 ((L.gen + 1 : Nat) : Int))) (by go_simp) ?_
        clear c f ew
        obtain ⟨wb, hwb⟩ : ∃ wb, wb = wa.setCell ⟨lb, 3, none⟩ (.int .i64 ((L.gen + 1 : Nat) : Int)) := ⟨_, rfl⟩
        have HLb : Hid (IsLog wb lb b { L with counts := o, gen := L.gen + 1 }) := by unfold Hid; rw [hwb]; exact HLa.out.setGen (L.gen + 1)
        have HCb : Hid (Chg (fun k => k = lb) wa wb) := by unfold Hid; rw [hwb]; exact Chg.setCell (fun k => k = lb) _ rfl _
        have HXb : Hid (BoxAt wb bx lb) := HXa.out.keep HCb.out HBX.out.1
        rw [← hwb]
        clear hwb
        refine ⟨HXb.out, ?_⟩
        simp only [Act.put]
        refine takeU 16 (v := ?_) rfl (by kernel_rfl) (by kernel_rfl) (fun _ _ _ h => h) rfl (fun u hu => ?_) HXb.out ?_
        rotate_left
        · skip; go_simp <;> with_reducible rfl
        simp only [Act.put, List.setIfInBounds_toArray, List.set_cons_zero, List.set_cons_succ]
        refine takeU 17 (v := ?_) rfl (by kernel_rfl) (by kernel_rfl) (fun _ _ _ h => h) rfl (fun u hu => ?_) HXb.out ?_
        rotate_left
        · skip; go_simp <;> with_reducible rfl
        simp only [Act.put, List.setIfInBounds_toArray, List.set_cons_zero, List.set_cons_succ]
        refine oneU 18 (by kernel_rfl) ?_
        refine lastU 18 rfl (by kernel_rfl) (by kernel_rfl) ?_
        have c := HLb.out.c4
        have f := HLb.out.free 4
        refine step_skipW rfl (wb.setCell ⟨lb, 4, none⟩ (.int .i64 ((0 : Nat) : Int))) (by go_simp) ?_
        clear c f
        have HLc := Lib.hid (HLb.out.setN 0)
        have HCc := Lib.hid ((HCa.out.trans HCb.out).trans (Chg.setCell (fun k => k = lb) wb (j := 4) rfl (.int .i64 ((0 : Nat) : Int))))
        simp only [Act.put]
        go_wp2_with fail
        go_ret
        refine ⟨rfl, HLc.out, (HD8.out).log (HL8.out) HCc.out, (HC8.out).trans (HCc.out.mono fun k _ h => .inl h)⟩
end
end Go.Proofs.YtilpbjcbffbjeaaGreatDoor
namespace Go.Proofs.YtilpbjcbffbjeaaGreatDoor
set_option linter.unusedVariables false
set_option maxRecDepth 100000
open Go.RowKit
set_option linter.unusedSectionVars false
variable [Avoid]
structure LAt (B : Nat) (w0 : World) (b g cap lb : Nat) (D : Dk) (L : Lg) (w : World) : Prop where
  on : At B w0 b g cap D w
  log : IsLog w lb b L
  lB : B ≤ lb
def Many (D : Dk) : Prop := ∀ f, f < D.l.length → (D.l.getD f Fl.zero).ws.length < 1099511627776
section
variable {B b g cap lb : Nat} {w0 w w1 : World} {D D' : Dk} {L L' : Lg}
theorem LAt.chg (h : LAt B w0 b g cap lb D L w) (hd : IsDisk w1 b g cap D') (hl : IsLog w1 lb b L') (hc : Chg (fun k => k = lb ∨ k = b ∨ k = g) w w1) : LAt B w0 b g cap lb D' L' w1 :=
  ⟨⟨hd, h.on.below.trans (hc.below (by have := h.on.below.size; have := h.on.le; omega) (fun k hk hs => by have := h.on.bB; have := h.on.gB; have := h.lB; omega)), h.on.bB, h.on.gB, h.on.le⟩, hl, h.lB⟩
theorem LAt.chg2 (h : LAt B w0 b g cap lb D L w) (hd : IsDisk w1 b g cap D') (hc : Chg (fun k => k = b ∨ k = g) w w1) : LAt B w0 b g cap lb D' L w1 :=
  h.chg hd (h.log.keep hc (fun e => by have := h.log.ne h.on.disk; omega)) (hc.mono fun k _ h => .inr h)
theorem LAt.grow (h : LAt B w0 b g cap lb D L w) (hb : Below w.heap.size w w1) : LAt B w0 b g cap lb D L w1 := ⟨h.on.grow hb, h.log.below hb, h.lB⟩
theorem LAt.below (h : LAt B w0 b g cap lb D L w) : Below B w0 w := h.on.below
theorem At.newOk (h : At B w0 b g cap D w) (hok : DOk D) (f : Nat) (s : ByteArray) (hdd : D.dead = false) (hf : f + 1 < D.l.length) (hz : (rd (D.l.getD f Fl.zero)).size = 0) (hz1 : (rd (D.l.getD (f + 1) Fl.zero)).size = 0) (hs : s.size ≤ 16384)
    (hm : Many D) (D1 : Dk) (hr : D.writeX (f : Nat) (recS 1 s) = (D1, 0)) (hok1 : DOk D1) (D2 : Dk) (hr2 : D1.syncX (f : Nat) = (D2, 0)) :
    Calls Tryz.prog 48 #[.pointer (some ⟨b, 0, none⟩), .int .i64 (f : Nat), .string s] w fun e w' => ∃ lb, e = .returned (.tuple #[.pointer (some ⟨lb, 0, none⟩), .int .i64 0]) ∧ w.heap.size ≤ lb ∧ LAt B w0 b g cap lb D2 ⟨f, f, 1, 0, false⟩ w' :=
  (newLOk h.disk hok f s hdd hf hz hz1 hs hm D1 hr hok1 D2 hr2).mono fun e w' ⟨lb, h1, h2, h3, h4, h5⟩ => ⟨lb, h1, h2, ⟨h.chg h4 h5, h3, by have := h.below.size; have := h.le; omega⟩⟩
theorem At.newOkC (h : At B w0 b g cap D w) (hok : DOk D) (f : Nat) (s : ByteArray) (hdd : D.dead = false) (hf : f + 1 < D.l.length) (hz : (rd (D.l.getD f Fl.zero)).size = 0) (hz1 : (rd (D.l.getD (f + 1) Fl.zero)).size = 0) (hs : s.size ≤ 16384)
    (hm : Many D) (D1 : Dk) (hr : D.writeX (f : Nat) (recS 1 s) = (D1, 0)) (hok1 : DOk D1) (D2 : Dk) (hr2 : D1.syncX (f : Nat) = (D2, 0)) :
    Calls Tryz.prog 48 #[.pointer (some ⟨b, 0, none⟩), .int .i64 (f : Nat), .string s] w fun e w' => ∃ lb, e = .returned (.tuple #[.pointer (some ⟨lb, 0, none⟩), .int .i64 0]) ∧ w.heap.size ≤ lb ∧ LAt B w0 b g cap lb D2 ⟨f, f, 1, 0, false⟩ w' ∧ Chg (fun k => k = b ∨ k = g) w w' :=
  (newLOk h.disk hok f s hdd hf hz hz1 hs hm D1 hr hok1 D2 hr2).mono fun e w' ⟨lb, h1, h2, h3, h4, h5⟩ => ⟨lb, h1, h2, ⟨h.chg h4 h5, h3, by have := h.below.size; have := h.le; omega⟩, h5⟩
theorem LAt.room (h : LAt B w0 b g cap lb D L w) (hok : DOk D) (hc : L.counts < D.l.length) (r : Int) (hr : roomZ (rd (D.l.getD L.counts Fl.zero)).size L.n = r) :
    Calls Tryz.prog 73 #[.pointer (some ⟨lb, 0, none⟩)] w fun e w' => e = .returned (.int .i64 r) ∧ LAt B w0 b g cap lb D L w' :=
  (roomW h.log h.on.disk hok hc).mono fun e w' ⟨h1, h2⟩ => ⟨by rw [h1, hr], h.grow h2⟩
theorem LAt.records (h : LAt B w0 b g cap lb D L w) : Calls Tryz.prog 75 #[.pointer (some ⟨lb, 0, none⟩)] w fun e w' => e = .returned (.int .i64 (L.n : Nat)) ∧ w' = w := recordsW h.log
theorem LAt.append (h : LAt B w0 b g cap lb D L w) (hok : DOk D) (s : ByteArray) (hdl : L.dead = false) (hs : s.size ≤ 16384) (hc : L.counts < D.l.length) (hrm : ¬ roomZ (rd (D.l.getD L.counts Fl.zero)).size L.n < (s.size : Int))
    (hm : Many D) (hr : D.writeX (L.counts : Nat) (recS (L.n + 1) s) = (D', 0)) :
    Calls Tryz.prog 74 #[.pointer (some ⟨lb, 0, none⟩), .string s] w fun e w' => e = .returned (.int .i64 0) ∧ LAt B w0 b g cap lb D' { L with n := L.n + 1 } w' :=
  (appendOk h.log h.on.disk hok s hdl hs hc hrm hm (by rw [hr])).mono fun e w' ⟨h1, h2, h3, h4⟩ => by rw [hr] at h3; exact ⟨h1, h.chg h3 h2 h4⟩
theorem LAt.sync (h : LAt B w0 b g cap lb D L w) (hok : DOk D) (hdl : L.dead = false) (hr : D.syncX (L.counts : Nat) = (D', 0)) :
    Calls Tryz.prog 76 #[.pointer (some ⟨lb, 0, none⟩)] w fun e w' => e = .returned (.int .i64 0) ∧ LAt B w0 b g cap lb D' L w' :=
  (syncLOk h.log h.on.disk hok hdl (by rw [hr])).mono fun e w' ⟨h1, h2, h3⟩ => by rw [hr] at h2; exact ⟨h1, h.chg2 h2 h3⟩
theorem LAt.checkpoint (h : LAt B w0 b g cap lb D L w) (hok : DOk D) (s : ByteArray) (hdl : L.dead = false) (hs : s.size ≤ 16384) (hg : L.gen < 1099511627776) (hf : L.first ≤ 1048576) (hcn : L.counts ≤ 1048576)
    (hm : Many D) (o : Nat) (ho : 2 * (L.first : Int) + 1 - (L.counts : Int) = (o : Nat)) (D1 D2 D3 : Dk)
    (e1 : D.writeX (o : Nat) (recS (L.gen + 1) s) = (D1, 0)) (e2 : D1.syncX (o : Nat) = (D2, 0)) (e3 : D2.syncX (L.counts : Nat) = (D3, 0)) (e4 : D3.cutX (L.counts : Nat) 0 = (D', 0)) (k1 : DOk D1) (k2 : DOk D2) (k3 : DOk D3) :
    Calls Tryz.prog 78 #[.pointer (some ⟨lb, 0, none⟩), .string s] w fun e w' => e = .returned (.int .i64 0) ∧ LAt B w0 b g cap lb D' { L with counts := o, gen := L.gen + 1, n := 0 } w' :=
  (checkpointOk h.log h.on.disk hok s hdl hs hg hf hcn hm o ho D1 D2 D3 D' e1 e2 e3 e4 k1 k2 k3).mono fun e w' ⟨h1, h2, h3, h4⟩ => ⟨h1, h.chg h3 h2 h4⟩
theorem LAt.appendC (h : LAt B w0 b g cap lb D L w) (hok : DOk D) (s : ByteArray) (hdl : L.dead = false) (hs : s.size ≤ 16384) (hc : L.counts < D.l.length) (hrm : ¬ roomZ (rd (D.l.getD L.counts Fl.zero)).size L.n < (s.size : Int))
    (hm : Many D) (hr : D.writeX (L.counts : Nat) (recS (L.n + 1) s) = (D', 0)) :
    Calls Tryz.prog 74 #[.pointer (some ⟨lb, 0, none⟩), .string s] w fun e w' => e = .returned (.int .i64 0) ∧ LAt B w0 b g cap lb D' { L with n := L.n + 1 } w' ∧ Chg (fun k => k = lb ∨ k = b ∨ k = g) w w' :=
  (appendOk h.log h.on.disk hok s hdl hs hc hrm hm (by rw [hr])).mono fun e w' ⟨h1, h2, h3, h4⟩ => by rw [hr] at h3; exact ⟨h1, h.chg h3 h2 h4, h4⟩
theorem LAt.syncC (h : LAt B w0 b g cap lb D L w) (hok : DOk D) (hdl : L.dead = false) (hr : D.syncX (L.counts : Nat) = (D', 0)) :
    Calls Tryz.prog 76 #[.pointer (some ⟨lb, 0, none⟩)] w fun e w' => e = .returned (.int .i64 0) ∧ LAt B w0 b g cap lb D' L w' ∧ Chg (fun k => k = lb ∨ k = b ∨ k = g) w w' :=
  (syncLOk h.log h.on.disk hok hdl (by rw [hr])).mono fun e w' ⟨h1, h2, h3⟩ => by rw [hr] at h2; exact ⟨h1, h.chg2 h2 h3, h3.mono fun k _ h => .inr h⟩
theorem LAt.checkpointC (h : LAt B w0 b g cap lb D L w) (hok : DOk D) (s : ByteArray) (hdl : L.dead = false) (hs : s.size ≤ 16384) (hg : L.gen < 1099511627776) (hf : L.first ≤ 1048576) (hcn : L.counts ≤ 1048576)
    (hm : Many D) (o : Nat) (ho : 2 * (L.first : Int) + 1 - (L.counts : Int) = (o : Nat)) (D1 D2 D3 : Dk)
    (e1 : D.writeX (o : Nat) (recS (L.gen + 1) s) = (D1, 0)) (e2 : D1.syncX (o : Nat) = (D2, 0)) (e3 : D2.syncX (L.counts : Nat) = (D3, 0)) (e4 : D3.cutX (L.counts : Nat) 0 = (D', 0)) (k1 : DOk D1) (k2 : DOk D2) (k3 : DOk D3) :
    Calls Tryz.prog 78 #[.pointer (some ⟨lb, 0, none⟩), .string s] w fun e w' => e = .returned (.int .i64 0) ∧ LAt B w0 b g cap lb D' { L with counts := o, gen := L.gen + 1, n := 0 } w' ∧ Chg (fun k => k = lb ∨ k = b ∨ k = g) w w' :=
  (checkpointOk h.log h.on.disk hok s hdl hs hg hf hcn hm o ho D1 D2 D3 D' e1 e2 e3 e4 k1 k2 k3).mono fun e w' ⟨h1, h2, h3, h4⟩ => ⟨h1, h.chg h3 h2 h4, h4⟩
theorem At.openOk (h : At B w0 b g cap D w) (hok : DOk D) (f : Nat) (hdd : D.dead = false) (hf : f + 1 < D.l.length) (D1 D2 D3 D4 : Dk)
    (e1 : D.syncX (f : Nat) = (D1, 0)) (k1 : DOk D1) (e2 : D1.syncX ((f : Int) + 1) = (D2, 0)) (k2 : DOk D2) (hd2 : D2.dead = false) (hl2 : D2.l.length = D.l.length)
    (p : Pk) (hp : pkAt f (rd (D2.l.getD f Fl.zero)) (rd (D2.l.getD (f + 1) Fl.zero)) 2 = p) (hg : 0 < p.gen) (rs : List (List Nat)) (hrs : scan ((bs p.bytes).drop p.fin) = rs)
    (h3 : p.fin + lens rs < p.bytes.size → D2.cutX (p.counts : Nat) ((p.fin + lens rs : Nat) : Int) = (D3, 0)) (h3' : ¬ p.fin + lens rs < p.bytes.size → D3 = D2) (k3 : DOk D3) (hl3 : D3.l.length = D.l.length)
    (o : Nat) (ho : 2 * (f : Int) + 1 - (p.counts : Int) = (o : Nat)) (h4 : 0 < (rd (D3.l.getD o Fl.zero)).size → D3.cutX (o : Nat) 0 = (D4, 0)) (h4' : (rd (D3.l.getD o Fl.zero)).size = 0 → D4 = D3) :
    Calls Tryz.prog 77 #[.pointer (some ⟨b, 0, none⟩), .int .i64 (f : Nat)] w fun e w' => ∃ lb v, e = .returned (.tuple #[.pointer (some ⟨lb, 0, none⟩), .string (strOf p.snap), v, .int .i64 0]) ∧ w.heap.size ≤ lb ∧ LAt B w0 b g cap lb D4 ⟨f, p.counts, p.gen, rs.length, false⟩ w' ∧ WS w' v (rs.map strOf) ∧ Chg (fun k => k = b ∨ k = g) w w' :=
  (openLOk h.disk hok f hdd hf D1 D2 D3 D4 e1 k1 e2 k2 hd2 hl2 _ _ rfl rfl p hp.symm hg rs hrs.symm h3 h3' k3 hl3 o ho _ rfl h4 h4').mono fun e w' ⟨lb, v, h1, h2, h3, h4, h5, h6⟩ =>
    ⟨lb, v, h1, h2, ⟨h.chg h4 h6, h3, by have := h.below.size; have := h.le; omega⟩, h5.wsG h.disk.gb, h6⟩
end
end Go.Proofs.YtilpbjcbffbjeaaGreatDoor
