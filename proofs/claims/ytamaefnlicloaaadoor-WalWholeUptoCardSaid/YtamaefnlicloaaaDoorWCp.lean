/- The log's Checkpoint where the disk lives. -/
import Derived.Test.YtamaefnlicloaaaDoorWNew
import Derived.Test.YtamaefnlicloaaaDoorRU
namespace Go.Proofs.YtamaefnlicloaaaDoor
set_option linter.unusedVariables false
set_option maxRecDepth 100000
open Go.RowKit
theorem step_runW {P : Program} {ops : Array Oper} {o : Oper} {a : Act} {w : World} {K : Act → World → Prop} {Q : Exit → Act → World → Prop} {E : Prop} (hgd : o.guard = none) (v : Value) (w' : World)
    (hrun : (execOp a.eval o).run P w = .ok (.value v) w') (h : K (a.put o.dst v) w') : if Region.wanted o (yielded ops a.tmps) = true then Oper.wp P o a w K Q else E := by
  have hw : Region.wanted o (yielded ops a.tmps) = true := by simp [Region.wanted, hgd]
  rw [if_pos hw]
  unfold Oper.wp
  rw [hrun]
  exact h
theorem step_skipW {P : Program} {ops : Array Oper} {o : Oper} {a : Act} {w : World} {K : Act → World → Prop} {Q : Exit → Act → World → Prop} {E : Prop} (hgd : o.guard = none) (w' : World)
    (hrun : (execOp a.eval o).run P w = .ok .skip w') (h : K (a.put o.dst undef) w') : if Region.wanted o (yielded ops a.tmps) = true then Oper.wp P o a w K Q else E := by
  have hw : Region.wanted o (yielded ops a.tmps) = true := by simp [Region.wanted, hgd]
  rw [if_pos hw]
  unfold Oper.wp
  rw [hrun]
  exact h
section
variable {S : Nat → Prop} {w w' : World} {lb b g cap bx : Nat} {L : Lg} {D : Dk}
def BoxAt (w : World) (bx lb : Nat) : Prop := w.cell? ⟨bx, 0, none⟩ = some (.pointer (some ⟨lb, 0, none⟩))
theorem BoxAt.keep (h : BoxAt w bx lb) (hc : Chg S w w') (hn : ¬ S bx) : BoxAt w' bx lb := hc.cell hn h
set_option maxHeartbeats 1600000 in
theorem cp1W (h : IsLog w lb b L) (hx : BoxAt w bx lb) (hbx : bx ≠ b ∧ bx ≠ g ∧ bx < w.heap.size) (hd : IsDisk w b g cap D) (hok : DOk D) (hf : L.first ≤ 1048576) (hcn : L.counts ≤ 1048576) (hr : (D.syncX (2 * (L.first : Int) + 1 - (L.counts : Int))).2 = 0) :
    Calls Tryd.prog 52 #[.pointer (some ⟨bx, 0, none⟩)] w fun e w' => e = .returned .nilIface ∧ IsDisk w' b g cap (D.syncX (2 * (L.first : Int) + 1 - (L.counts : Int))).1 ∧ Chg (fun k => k = b ∨ k = g) w w' := by
  have HL := Lib.hid h
  have HX := Lib.hid hx
  have HD0 := Lib.hid hd
  have HBX := Lib.hid hbx
  have HW := Lib.hid (fun (w1 : World) (hb : Below w.heap.size w w1) => syncA (hd.below hb) hok (2 * (L.first : Int) + 1 - (L.counts : Int)))
  rw [hr] at HW
  clear h hx hd hok hr hbx
  go_enter Tryd.func52, Tryd.ntmps52
  go_wp2_with fail
  refine wp_region_U 8 (fun u => u.cell? ⟨bx, 0, none⟩ = some (.pointer (some ⟨lb, 0, none⟩)) ∧ u.cell? ⟨lb, 0, none⟩ = some (.pointer (some ⟨b, 0, none⟩))) (by kernel_rfl) ?_
  change wpAnyU _ _ _ _ _ _ 9 (Array.replicate 9 false) _ _
  obtain ⟨w2, hw2⟩ : ∃ w2, w2 = w.drew := ⟨_, rfl⟩
  rw [← hw2]
  have HL2 : Hid (IsLog w2 lb b L) := by unfold Hid; rw [hw2]; exact HL.out.below (Below.refl _ _).drew
  have HX2 : Hid (BoxAt w2 bx lb) := by unfold Hid; rw [hw2]; exact HX.out
  have HB2 : Hid (Below w.heap.size w w2) := by unfold Hid; rw [hw2]; exact (Below.refl _ _).drew
  clear hw2
  have HS : Hid ((fun u => u.cell? ⟨bx, 0, none⟩ = some (.pointer (some ⟨lb, 0, none⟩)) ∧ u.cell? ⟨lb, 0, none⟩ = some (.pointer (some ⟨b, 0, none⟩))) w2) := ⟨HX2.out, HL2.out.c0⟩
  refine takeU 0 (v := ?_) rfl (by kernel_rfl) (by kernel_rfl) (fun _ _ _ h => h) rfl (fun u hu => ?_) HS.out ?_
  rotate_left
  · obtain ⟨q0, q1⟩ := hu; go_simp <;> with_reducible rfl
  simp only [Act.put, List.setIfInBounds_toArray, List.set_cons_zero, List.set_cons_succ]
  refine takeU 1 (v := ?_) rfl (by kernel_rfl) (by kernel_rfl) (fun _ _ _ h => h) rfl (fun u hu => ?_) HS.out ?_
  rotate_left
  · obtain ⟨q0, q1⟩ := hu; go_simp <;> with_reducible rfl
  simp only [Act.put, List.setIfInBounds_toArray, List.set_cons_zero, List.set_cons_succ]
  refine takeU 2 (v := ?_) rfl (by kernel_rfl) (by kernel_rfl) (fun _ _ _ h => h) rfl (fun u hu => ?_) HS.out ?_
  rotate_left
  · obtain ⟨q0, q1⟩ := hu; go_simp <;> with_reducible rfl
  simp only [Act.put, List.setIfInBounds_toArray, List.set_cons_zero, List.set_cons_succ]
  refine takeU 3 (v := ?_) rfl (by kernel_rfl) (by kernel_rfl) (fun _ _ _ h => h) rfl (fun u hu => ?_) HS.out ?_
  rotate_left
  · obtain ⟨q0, q1⟩ := hu; go_simp <;> with_reducible rfl
  simp only [Act.put, List.setIfInBounds_toArray, List.set_cons_zero, List.set_cons_succ]
  refine takeU 4 (v := ?_) rfl (by kernel_rfl) (by kernel_rfl) (fun _ _ _ h => h) rfl (fun u hu => ?_) HS.out ?_
  rotate_left
  · obtain ⟨q0, q1⟩ := hu; go_simp <;> with_reducible rfl
  simp only [Act.put, List.setIfInBounds_toArray, List.set_cons_zero, List.set_cons_succ]
  refine oneU 5 (by kernel_rfl) ?_
  refine callU 5 rfl (by kernel_rfl) rfl 48 _ _ rfl #[.pointer (some ⟨lb, 0, none⟩)] (by simp [Act.eval]) (enters_of Tryd.func48 (by kernel_rfl) rfl) (fun v w' => v = .int .i64 (2 * (L.first : Int) + 1 - (L.counts : Int)) ∧ Below w2.heap.size w2 w') ((otherW HL2.out hf hcn).mono fun e w' ⟨h1, h2⟩ => ⟨_, h1, rfl, h2⟩) ?_
  rintro v w3 ⟨rfl, hb3⟩
  have HL3 := Lib.hid (HL2.out.below hb3)
  have HX3 : Hid (BoxAt w3 bx lb) := hb3.cell (block_lt_of_cell HX2.out) |>.trans HX2.out
  have HB3 := Lib.hid (HB2.out.trans (hb3.mono HB2.out.size))
  clear hb3
  refine ⟨⟨HX3.out, HL3.out.c0⟩, ?_⟩
  simp only [Act.put, List.setIfInBounds_toArray, List.set_cons_zero, List.set_cons_succ]
  refine oneU 6 (by kernel_rfl) ?_
  refine callU 6 rfl (by kernel_rfl) rfl 43 _ _ rfl #[.pointer (some ⟨b, 0, none⟩), .int .i64 (2 * (L.first : Int) + 1 - (L.counts : Int))] (by simp [Act.eval]) (enters_of Tryd.func43 (by kernel_rfl) rfl) (fun v w' => v = .int .i64 0 ∧ Hid (IsDisk w' b g cap (D.syncX (2 * (L.first : Int) + 1 - (L.counts : Int))).1 ∧ Chg (fun k => k = b ∨ k = g) w3 w')) ((HW.out _ HB3.out).mono fun e w' ⟨h1, h2, h3⟩ => ⟨_, h1, rfl, h2, h3⟩) ?_
  rintro v w4 ⟨rfl, hK⟩
  have HD4 := Lib.hid hK.out.1
  have HC4 := Lib.hid ((Chg.of_below (fun k => k = b ∨ k = g) HB3.out).trans hK.out.2)
  have HL4 := Lib.hid (HL.out.keep HC4.out (fun e => by have := HL.out.ne HD0.out; omega))
  have HX4 : Hid (BoxAt w4 bx lb) := HX.out.keep HC4.out (fun e => by have := HBX.out; omega)
  refine ⟨⟨HX4.out, HL4.out.c0⟩, ?_⟩
  simp only [Act.put, List.setIfInBounds_toArray, List.set_cons_zero, List.set_cons_succ]
  refine oneU 7 (by kernel_rfl) ?_
  refine callU 7 rfl (by kernel_rfl) rfl 42 _ _ rfl #[.string ⟨#[97, 32, 115, 121, 110, 99]⟩, .int .i64 0] (by simp [Act.eval]) (enters_of Tryd.func42 (by kernel_rfl) rfl) (fun v w' => v = .nilIface ∧ w' = w4) ((stepOk _ w4).mono fun e w' ⟨h1, h2⟩ => ⟨_, h1, rfl, h2⟩) ?_
  rintro v w5 ⟨rfl, rfl⟩
  refine ⟨⟨HX4.out, HL4.out.c0⟩, ?_⟩
  simp only [Act.put, List.setIfInBounds_toArray, List.set_cons_zero, List.set_cons_succ]
  refine oneU 8 (by kernel_rfl) ?_
  refine endU (v := ?_) 8 rfl (by kernel_rfl) (by kernel_rfl) rfl ?_ ?_
  rotate_left
  · go_simp <;> with_reducible rfl
  simp only [Act.put, List.setIfInBounds_toArray, List.set_cons_zero, List.set_cons_succ]
  go_wp2_with fail
  go_ret
  exact ⟨rfl, HD4.out, HC4.out⟩
set_option maxHeartbeats 1600000 in
theorem cp2W (h : IsLog w lb b L) (hx : BoxAt w bx lb) (hbx : bx ≠ b ∧ bx ≠ g ∧ bx < w.heap.size) (hd : IsDisk w b g cap D) (hok : DOk D) (hf : L.first ≤ 1048576) (hcn : L.counts ≤ 1048576) (hr : (D.syncX (L.counts : Nat)).2 = 0) :
    Calls Tryd.prog 53 #[.pointer (some ⟨bx, 0, none⟩)] w fun e w' => e = .returned .nilIface ∧ IsDisk w' b g cap (D.syncX (L.counts : Nat)).1 ∧ Chg (fun k => k = b ∨ k = g) w w' := by
  have HL := Lib.hid h
  have HX := Lib.hid hx
  have HD0 := Lib.hid hd
  have HBX := Lib.hid hbx
  have HW := Lib.hid (fun (w1 : World) (hb : Below w.heap.size w w1) => syncA (hd.below hb) hok (L.counts : Nat))
  rw [hr] at HW
  clear h hx hd hok hr hbx
  go_enter Tryd.func53, Tryd.ntmps53
  go_wp2_with fail
  refine wp_region_U 10 (fun u => u.cell? ⟨bx, 0, none⟩ = some (.pointer (some ⟨lb, 0, none⟩)) ∧ u.cell? ⟨lb, 0, none⟩ = some (.pointer (some ⟨b, 0, none⟩)) ∧ u.cell? ⟨lb, 2, none⟩ = some (.int .i64 (L.counts : Nat))) (by kernel_rfl) ?_
  change wpAnyU _ _ _ _ _ _ 11 (Array.replicate 11 false) _ _
  obtain ⟨w2, hw2⟩ : ∃ w2, w2 = w.drew := ⟨_, rfl⟩
  rw [← hw2]
  have HL2 : Hid (IsLog w2 lb b L) := by unfold Hid; rw [hw2]; exact HL.out.below (Below.refl _ _).drew
  have HX2 : Hid (BoxAt w2 bx lb) := by unfold Hid; rw [hw2]; exact HX.out
  have HB2 : Hid (Below w.heap.size w w2) := by unfold Hid; rw [hw2]; exact (Below.refl _ _).drew
  clear hw2
  have HS : Hid ((fun u => u.cell? ⟨bx, 0, none⟩ = some (.pointer (some ⟨lb, 0, none⟩)) ∧ u.cell? ⟨lb, 0, none⟩ = some (.pointer (some ⟨b, 0, none⟩)) ∧ u.cell? ⟨lb, 2, none⟩ = some (.int .i64 (L.counts : Nat))) w2) := ⟨HX2.out, HL2.out.c0, HL2.out.c2⟩
  refine takeU 0 (v := ?_) rfl (by kernel_rfl) (by kernel_rfl) (fun _ _ _ h => h) rfl (fun u hu => ?_) HS.out ?_
  rotate_left
  · obtain ⟨q0, q1, q2⟩ := hu; go_simp <;> with_reducible rfl
  simp only [Act.put, List.setIfInBounds_toArray, List.set_cons_zero, List.set_cons_succ]
  refine takeU 1 (v := ?_) rfl (by kernel_rfl) (by kernel_rfl) (fun _ _ _ h => h) rfl (fun u hu => ?_) HS.out ?_
  rotate_left
  · obtain ⟨q0, q1, q2⟩ := hu; go_simp <;> with_reducible rfl
  simp only [Act.put, List.setIfInBounds_toArray, List.set_cons_zero, List.set_cons_succ]
  refine takeU 2 (v := ?_) rfl (by kernel_rfl) (by kernel_rfl) (fun _ _ _ h => h) rfl (fun u hu => ?_) HS.out ?_
  rotate_left
  · obtain ⟨q0, q1, q2⟩ := hu; go_simp <;> with_reducible rfl
  simp only [Act.put, List.setIfInBounds_toArray, List.set_cons_zero, List.set_cons_succ]
  refine takeU 3 (v := ?_) rfl (by kernel_rfl) (by kernel_rfl) (fun _ _ _ h => h) rfl (fun u hu => ?_) HS.out ?_
  rotate_left
  · obtain ⟨q0, q1, q2⟩ := hu; go_simp <;> with_reducible rfl
  simp only [Act.put, List.setIfInBounds_toArray, List.set_cons_zero, List.set_cons_succ]
  refine takeU 4 (v := ?_) rfl (by kernel_rfl) (by kernel_rfl) (fun _ _ _ h => h) rfl (fun u hu => ?_) HS.out ?_
  rotate_left
  · obtain ⟨q0, q1, q2⟩ := hu; go_simp <;> with_reducible rfl
  simp only [Act.put, List.setIfInBounds_toArray, List.set_cons_zero, List.set_cons_succ]
  refine takeU 5 (v := ?_) rfl (by kernel_rfl) (by kernel_rfl) (fun _ _ _ h => h) rfl (fun u hu => ?_) HS.out ?_
  rotate_left
  · obtain ⟨q0, q1, q2⟩ := hu; go_simp <;> with_reducible rfl
  simp only [Act.put, List.setIfInBounds_toArray, List.set_cons_zero, List.set_cons_succ]
  refine takeU 6 (v := ?_) rfl (by kernel_rfl) (by kernel_rfl) (fun _ _ _ h => h) rfl (fun u hu => ?_) HS.out ?_
  rotate_left
  · obtain ⟨q0, q1, q2⟩ := hu; go_simp <;> with_reducible rfl
  simp only [Act.put, List.setIfInBounds_toArray, List.set_cons_zero, List.set_cons_succ]
  refine takeU 7 (v := ?_) rfl (by kernel_rfl) (by kernel_rfl) (fun _ _ _ h => h) rfl (fun u hu => ?_) HS.out ?_
  rotate_left
  · obtain ⟨q0, q1, q2⟩ := hu; go_simp <;> with_reducible rfl
  simp only [Act.put, List.setIfInBounds_toArray, List.set_cons_zero, List.set_cons_succ]
  refine oneU 8 (by kernel_rfl) ?_
  refine callU 8 rfl (by kernel_rfl) rfl 43 _ _ rfl #[.pointer (some ⟨b, 0, none⟩), .int .i64 (L.counts : Nat)] (by simp [Act.eval]) (enters_of Tryd.func43 (by kernel_rfl) rfl) (fun v w' => v = .int .i64 0 ∧ Hid (IsDisk w' b g cap (D.syncX (L.counts : Nat)).1 ∧ Chg (fun k => k = b ∨ k = g) w2 w')) ((HW.out _ HB2.out).mono fun e w' ⟨h1, h2, h3⟩ => ⟨_, h1, rfl, h2, h3⟩) ?_
  rintro v w4 ⟨rfl, hK⟩
  have HD4 := Lib.hid hK.out.1
  have HC4 := Lib.hid ((Chg.of_below (fun k => k = b ∨ k = g) HB2.out).trans hK.out.2)
  have HL4 := Lib.hid (HL.out.keep HC4.out (fun e => by have := HL.out.ne HD0.out; omega))
  have HX4 : Hid (BoxAt w4 bx lb) := HX.out.keep HC4.out (fun e => by have := HBX.out; omega)
  refine ⟨⟨HX4.out, HL4.out.c0, HL4.out.c2⟩, ?_⟩
  simp only [Act.put, List.setIfInBounds_toArray, List.set_cons_zero, List.set_cons_succ]
  refine oneU 9 (by kernel_rfl) ?_
  refine callU 9 rfl (by kernel_rfl) rfl 42 _ _ rfl #[.string ⟨#[97, 32, 115, 121, 110, 99]⟩, .int .i64 0] (by simp [Act.eval]) (enters_of Tryd.func42 (by kernel_rfl) rfl) (fun v w' => v = .nilIface ∧ w' = w4) ((stepOk _ w4).mono fun e w' ⟨h1, h2⟩ => ⟨_, h1, rfl, h2⟩) ?_
  rintro v w5 ⟨rfl, rfl⟩
  refine ⟨⟨HX4.out, HL4.out.c0, HL4.out.c2⟩, ?_⟩
  simp only [Act.put, List.setIfInBounds_toArray, List.set_cons_zero, List.set_cons_succ]
  refine oneU 10 (by kernel_rfl) ?_
  refine endU (v := ?_) 10 rfl (by kernel_rfl) (by kernel_rfl) rfl ?_ ?_
  rotate_left
  · go_simp <;> with_reducible rfl
  simp only [Act.put, List.setIfInBounds_toArray, List.set_cons_zero, List.set_cons_succ]
  go_wp2_with fail
  go_ret
  exact ⟨rfl, HD4.out, HC4.out⟩
set_option maxHeartbeats 1600000 in
theorem cp3W (h : IsLog w lb b L) (hx : BoxAt w bx lb) (hbx : bx ≠ b ∧ bx ≠ g ∧ bx < w.heap.size) (hd : IsDisk w b g cap D) (hok : DOk D) (hf : L.first ≤ 1048576) (hcn : L.counts ≤ 1048576) (hr : (D.cutX (L.counts : Nat) 0).2 = 0) :
    Calls Tryd.prog 54 #[.pointer (some ⟨bx, 0, none⟩)] w fun e w' => e = .returned .nilIface ∧ IsDisk w' b g cap (D.cutX (L.counts : Nat) 0).1 ∧ Chg (fun k => k = b ∨ k = g) w w' := by
  have HL := Lib.hid h
  have HX := Lib.hid hx
  have HD0 := Lib.hid hd
  have HBX := Lib.hid hbx
  have HW := Lib.hid (fun (w1 : World) (hb : Below w.heap.size w w1) => cutA (hd.below hb) hok (L.counts : Nat) 0)
  rw [hr] at HW
  clear h hx hd hok hr hbx
  go_enter Tryd.func54, Tryd.ntmps54
  go_wp2_with fail
  refine wp_region_U 10 (fun u => u.cell? ⟨bx, 0, none⟩ = some (.pointer (some ⟨lb, 0, none⟩)) ∧ u.cell? ⟨lb, 0, none⟩ = some (.pointer (some ⟨b, 0, none⟩)) ∧ u.cell? ⟨lb, 2, none⟩ = some (.int .i64 (L.counts : Nat))) (by kernel_rfl) ?_
  change wpAnyU _ _ _ _ _ _ 11 (Array.replicate 11 false) _ _
  obtain ⟨w2, hw2⟩ : ∃ w2, w2 = w.drew := ⟨_, rfl⟩
  rw [← hw2]
  have HL2 : Hid (IsLog w2 lb b L) := by unfold Hid; rw [hw2]; exact HL.out.below (Below.refl _ _).drew
  have HX2 : Hid (BoxAt w2 bx lb) := by unfold Hid; rw [hw2]; exact HX.out
  have HB2 : Hid (Below w.heap.size w w2) := by unfold Hid; rw [hw2]; exact (Below.refl _ _).drew
  clear hw2
  have HS : Hid ((fun u => u.cell? ⟨bx, 0, none⟩ = some (.pointer (some ⟨lb, 0, none⟩)) ∧ u.cell? ⟨lb, 0, none⟩ = some (.pointer (some ⟨b, 0, none⟩)) ∧ u.cell? ⟨lb, 2, none⟩ = some (.int .i64 (L.counts : Nat))) w2) := ⟨HX2.out, HL2.out.c0, HL2.out.c2⟩
  refine takeU 0 (v := ?_) rfl (by kernel_rfl) (by kernel_rfl) (fun _ _ _ h => h) rfl (fun u hu => ?_) HS.out ?_
  rotate_left
  · obtain ⟨q0, q1, q2⟩ := hu; go_simp <;> with_reducible rfl
  simp only [Act.put, List.setIfInBounds_toArray, List.set_cons_zero, List.set_cons_succ]
  refine takeU 1 (v := ?_) rfl (by kernel_rfl) (by kernel_rfl) (fun _ _ _ h => h) rfl (fun u hu => ?_) HS.out ?_
  rotate_left
  · obtain ⟨q0, q1, q2⟩ := hu; go_simp <;> with_reducible rfl
  simp only [Act.put, List.setIfInBounds_toArray, List.set_cons_zero, List.set_cons_succ]
  refine takeU 2 (v := ?_) rfl (by kernel_rfl) (by kernel_rfl) (fun _ _ _ h => h) rfl (fun u hu => ?_) HS.out ?_
  rotate_left
  · obtain ⟨q0, q1, q2⟩ := hu; go_simp <;> with_reducible rfl
  simp only [Act.put, List.setIfInBounds_toArray, List.set_cons_zero, List.set_cons_succ]
  refine takeU 3 (v := ?_) rfl (by kernel_rfl) (by kernel_rfl) (fun _ _ _ h => h) rfl (fun u hu => ?_) HS.out ?_
  rotate_left
  · obtain ⟨q0, q1, q2⟩ := hu; go_simp <;> with_reducible rfl
  simp only [Act.put, List.setIfInBounds_toArray, List.set_cons_zero, List.set_cons_succ]
  refine takeU 4 (v := ?_) rfl (by kernel_rfl) (by kernel_rfl) (fun _ _ _ h => h) rfl (fun u hu => ?_) HS.out ?_
  rotate_left
  · obtain ⟨q0, q1, q2⟩ := hu; go_simp <;> with_reducible rfl
  simp only [Act.put, List.setIfInBounds_toArray, List.set_cons_zero, List.set_cons_succ]
  refine takeU 5 (v := ?_) rfl (by kernel_rfl) (by kernel_rfl) (fun _ _ _ h => h) rfl (fun u hu => ?_) HS.out ?_
  rotate_left
  · obtain ⟨q0, q1, q2⟩ := hu; go_simp <;> with_reducible rfl
  simp only [Act.put, List.setIfInBounds_toArray, List.set_cons_zero, List.set_cons_succ]
  refine takeU 6 (v := ?_) rfl (by kernel_rfl) (by kernel_rfl) (fun _ _ _ h => h) rfl (fun u hu => ?_) HS.out ?_
  rotate_left
  · obtain ⟨q0, q1, q2⟩ := hu; go_simp <;> with_reducible rfl
  simp only [Act.put, List.setIfInBounds_toArray, List.set_cons_zero, List.set_cons_succ]
  refine takeU 7 (v := ?_) rfl (by kernel_rfl) (by kernel_rfl) (fun _ _ _ h => h) rfl (fun u hu => ?_) HS.out ?_
  rotate_left
  · obtain ⟨q0, q1, q2⟩ := hu; go_simp <;> with_reducible rfl
  simp only [Act.put, List.setIfInBounds_toArray, List.set_cons_zero, List.set_cons_succ]
  refine oneU 8 (by kernel_rfl) ?_
  refine callU 8 rfl (by kernel_rfl) rfl 47 _ _ rfl #[.pointer (some ⟨b, 0, none⟩), .int .i64 (L.counts : Nat), .int .i64 0] (by simp [Act.eval]) (enters_of Tryd.func47 (by kernel_rfl) rfl) (fun v w' => v = .int .i64 0 ∧ Hid (IsDisk w' b g cap (D.cutX (L.counts : Nat) 0).1 ∧ Chg (fun k => k = b ∨ k = g) w2 w')) ((HW.out _ HB2.out).mono fun e w' ⟨h1, h2, h3⟩ => ⟨_, h1, rfl, h2, h3⟩) ?_
  rintro v w4 ⟨rfl, hK⟩
  have HD4 := Lib.hid hK.out.1
  have HC4 := Lib.hid ((Chg.of_below (fun k => k = b ∨ k = g) HB2.out).trans hK.out.2)
  have HL4 := Lib.hid (HL.out.keep HC4.out (fun e => by have := HL.out.ne HD0.out; omega))
  have HX4 : Hid (BoxAt w4 bx lb) := HX.out.keep HC4.out (fun e => by have := HBX.out; omega)
  refine ⟨⟨HX4.out, HL4.out.c0, HL4.out.c2⟩, ?_⟩
  simp only [Act.put, List.setIfInBounds_toArray, List.set_cons_zero, List.set_cons_succ]
  refine oneU 9 (by kernel_rfl) ?_
  refine callU 9 rfl (by kernel_rfl) rfl 42 _ _ rfl #[.string ⟨#[97, 32, 99, 117, 116]⟩, .int .i64 0] (by simp [Act.eval]) (enters_of Tryd.func42 (by kernel_rfl) rfl) (fun v w' => v = .nilIface ∧ w' = w4) ((stepOk _ w4).mono fun e w' ⟨h1, h2⟩ => ⟨_, h1, rfl, h2⟩) ?_
  rintro v w5 ⟨rfl, rfl⟩
  refine ⟨⟨HX4.out, HL4.out.c0, HL4.out.c2⟩, ?_⟩
  simp only [Act.put, List.setIfInBounds_toArray, List.set_cons_zero, List.set_cons_succ]
  refine oneU 10 (by kernel_rfl) ?_
  refine endU (v := ?_) 10 rfl (by kernel_rfl) (by kernel_rfl) rfl ?_ ?_
  rotate_left
  · go_simp <;> with_reducible rfl
  simp only [Act.put, List.setIfInBounds_toArray, List.set_cons_zero, List.set_cons_succ]
  go_wp2_with fail
  go_ret
  exact ⟨rfl, HD4.out, HC4.out⟩
end
end Go.Proofs.YtamaefnlicloaaaDoor
