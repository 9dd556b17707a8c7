/- A log in memory, and its small functions.
   The log's write, Sync, Append where the disk lives; Dead, Clone.
   The log's New.
   What Open picks of two files, in plain terms; errors.Join of none. -/
import Derived.Test.YtilpbjcbffbjeaaGreatDoorPkF
import Derived.Test.YtilpbjcbffbjeaaGreatDoorPkD
import Derived.Test.YtilpbjcbffbjeaaGreatDoorPkA
import Derived.Test.YtilpbjcbffbjeaaGreatDoorPkE
namespace Go.Proofs.YtilpbjcbffbjeaaGreatDoor
set_option linter.unusedVariables false
set_option maxRecDepth 100000
open Go.RowKit
set_option linter.unusedSectionVars false
variable [Avoid]
structure Lg where
  first : Nat
  counts : Nat
  gen : Nat
  n : Nat
  dead : Bool
def Lg.cells (L : Lg) (b : Nat) : Array Value := #[.pointer (some ⟨b, 0, none⟩), .int .i64 (L.first : Nat), .int .i64 (L.counts : Nat), .int .i64 (L.gen : Nat), .int .i64 (L.n : Nat), .bool L.dead]
structure IsLog (w : World) (lb b : Nat) (L : Lg) : Prop where
  blk : w.heap[lb]? = some (.cells (L.cells b) 139 (0, 0))
section
variable {S : Nat → Prop} {w w' : World} {lb b g cap : Nat} {L : Lg} {D : Dk}
theorem IsLog.lt (h : IsLog w lb b L) : lb < w.heap.size := (Array.getElem?_eq_some_iff.1 h.blk).1
theorem IsLog.free (h : IsLog w lb b L) (j : Nat) : w.frozen? ⟨lb, j, none⟩ = false := frozen_of_row w lb j _ _ h.blk
theorem IsLog.c0 (h : IsLog w lb b L) : w.cell? ⟨lb, 0, none⟩ = some (.pointer (some ⟨b, 0, none⟩)) := by rw [cell_of_row w lb 0 _ _ _ h.blk]; rfl
theorem IsLog.c1 (h : IsLog w lb b L) : w.cell? ⟨lb, 1, none⟩ = some (.int .i64 (L.first : Nat)) := by rw [cell_of_row w lb 1 _ _ _ h.blk]; rfl
theorem IsLog.c2 (h : IsLog w lb b L) : w.cell? ⟨lb, 2, none⟩ = some (.int .i64 (L.counts : Nat)) := by rw [cell_of_row w lb 2 _ _ _ h.blk]; rfl
theorem IsLog.c3 (h : IsLog w lb b L) : w.cell? ⟨lb, 3, none⟩ = some (.int .i64 (L.gen : Nat)) := by rw [cell_of_row w lb 3 _ _ _ h.blk]; rfl
theorem IsLog.c4 (h : IsLog w lb b L) : w.cell? ⟨lb, 4, none⟩ = some (.int .i64 (L.n : Nat)) := by rw [cell_of_row w lb 4 _ _ _ h.blk]; rfl
theorem IsLog.c5 (h : IsLog w lb b L) : w.cell? ⟨lb, 5, none⟩ = some (.bool L.dead) := by rw [cell_of_row w lb 5 _ _ _ h.blk]; rfl
theorem IsLog.keep (h : IsLog w lb b L) (hc : Chg S w w') (hn : ¬ S lb) : IsLog w' lb b L := ⟨(hc.block lb h.lt hn).trans h.blk⟩
theorem IsLog.below (h : IsLog w lb b L) (hb : Below w.heap.size w w') : IsLog w' lb b L := ⟨(hb.block lb h.lt).trans h.blk⟩
theorem IsLog.grow (h : IsLog w lb b L) (t : Grow w) : IsLog t.val lb b L := h.below t.below
theorem IsLog.muts (h : IsLog w lb b L) : Muts (fun k => k = lb) w := by
  intro k _ hk cur T fr hh
  subst hk
  rw [h.blk] at hh
  injection hh with hh
  injection hh with _ hT _
  subst hT
  unfold Fix
  decide
theorem IsLog.ne (h : IsLog w lb b L) (hd : IsDisk w b g cap D) : lb ≠ b ∧ lb ≠ g := by
  constructor
  · rintro rfl
    obtain ⟨cv, h1, _⟩ := hd.blk
    rw [h.blk] at h1
    injection h1 with h1
    injection h1 with _ hT _
    exact absurd hT (by decide)
  · rintro rfl
    obtain ⟨cv, h1, _⟩ := hd.fs.blk
    rw [h.blk] at h1
    injection h1 with h1
    injection h1 with _ hT _
    exact absurd hT (by decide)
theorem IsLog.setN (h : IsLog w lb b L) (n : Nat) : IsLog (w.setCell ⟨lb, 4, none⟩ (.int .i64 (n : Nat))) lb b { L with n := n } := ⟨by rw [setCell_blk w lb 4 _ h.blk]; rfl⟩
theorem IsLog.setDead (h : IsLog w lb b L) (d : Bool) : IsLog (w.setCell ⟨lb, 5, none⟩ (.bool d)) lb b { L with dead := d } := ⟨by rw [setCell_blk w lb 5 _ h.blk]; rfl⟩
theorem IsLog.setGen (h : IsLog w lb b L) (n : Nat) : IsLog (w.setCell ⟨lb, 3, none⟩ (.int .i64 (n : Nat))) lb b { L with gen := n } := ⟨by rw [setCell_blk w lb 3 _ h.blk]; rfl⟩
theorem IsLog.setCounts (h : IsLog w lb b L) (n : Nat) : IsLog (w.setCell ⟨lb, 2, none⟩ (.int .i64 (n : Nat))) lb b { L with counts := n } := ⟨by rw [setCell_blk w lb 2 _ h.blk]; rfl⟩
theorem IsDisk.log (hd : IsDisk w b g cap D) (h : IsLog w lb b L) (hc : Chg (fun k => k = lb) w w') : IsDisk w' b g cap D :=
  hd.keep hc (fun e => (h.ne hd).1 e.symm) (fun e => (h.ne hd).2 e.symm) h.muts
/-! The small ones. -/
theorem stepOk (s : ByteArray) (w : World) : Calls Tryz.prog 85 #[.string s, .int .i64 0] w fun e w' => e = .returned .nilIface ∧ w' = w := by
  go_enter Tryz.func85, Tryz.ntmps85
  go_wp2_with fail
  go_ret
  exact ⟨rfl, rfl⟩
theorem isNilW (s : ByteArray) (w : World) : Calls Tryz.prog 110 #[.nilIface, .iface 170 (.string s)] w fun e w' => e = .returned (.bool false) ∧ w' = w := by
  have he : ∀ w, (binOp .eql 103 .nilIface (.iface 170 (.string s))).run Tryz.prog w = .ok (.bool false) w := fun w => by kernel_rfl
  go_enter Tryz.func110, Tryz.ntmps110
  go_wp2_with fail
  go_ret
  exact ⟨rfl, rfl⟩
theorem toldOk (lb : Nat) (w : World) : Calls Tryz.prog 86 #[.pointer (some ⟨lb, 0, none⟩), .nilIface] w fun e w' => e = .returned (.int .i64 0) ∧ w' = w := by
  go_enter Tryz.func86, Tryz.ntmps86
  go_wp2_with fail
  refine (isNilW _ _).mono ?_
  rintro e w' ⟨rfl, rfl⟩
  go_wp2_with fail
  go_ret
  exact ⟨rfl, rfl⟩
theorem recordsW (h : IsLog w lb b L) : Calls Tryz.prog 75 #[.pointer (some ⟨lb, 0, none⟩)] w fun e w' => e = .returned (.int .i64 (L.n : Nat)) ∧ w' = w := by
  have h4 := h.c4
  clear h
  go_enter Tryz.func75, Tryz.ntmps75
  go_wp2_with fail
  go_ret
  exact ⟨rfl, rfl⟩
theorem hasW (h : IsDisk w b g cap D) (f : Int) : Calls Tryz.prog 83 #[.pointer (some ⟨b, 0, none⟩), .int .i64 f] w fun e w' => e = .returned (.bool (decide (0 ≤ f ∧ f < (D.l.length : Int) - 1))) ∧ w' = w := by
  have HC := Lib.hid (countW h)
  have h1 := h.fs.len
  have h2 := h.fs.capm
  unfold maxLen at h2
  obtain ⟨m, hm⟩ : ∃ m, m = D.l.length := ⟨_, rfl⟩
  rw [← hm] at HC h1 ⊢
  clear h hm
  by_cases h0 : 0 ≤ f
  · have e1 : Hid (decide (0 ≤ f ∧ f < (m : Int) - 1) = decide (f < (m : Int) - 1)) := by unfold Hid; rw [decide_eq_decide]; omega
    go_enter Tryz.func83, Tryz.ntmps83
    go_wp2_with fail
    refine HC.out.mono ?_
    rintro e w' ⟨rfl, rfl⟩
    go_wp2_with fail
    go_ret
    exact ⟨by rw [e1.out]; rfl, rfl⟩
  · have e2 : Hid (decide (0 ≤ f) = false) := by unfold Hid; rw [decide_eq_false_iff_not]; omega
    have e1 : Hid (decide (0 ≤ f ∧ f < (m : Int) - 1) = false) := by unfold Hid; rw [decide_eq_false_iff_not]; omega
    rw [e1.out]
    go_enter Tryz.func83, Tryz.ntmps83
    go_wp2_with fail
    go_ret
    exact ⟨rfl, rfl⟩
set_option maxHeartbeats 400000 in
theorem otherW (h : IsLog w lb b L) (h1 : L.first ≤ 1048576) (h2 : L.counts ≤ 1048576) : Calls Tryz.prog 102 #[.pointer (some ⟨lb, 0, none⟩)] w fun e w' => e = .returned (.int .i64 (2 * (L.first : Int) + 1 - (L.counts : Int))) ∧ Below w.heap.size w w' := by
  have c1 : ∀ t : Grow w, t.val.cell? ⟨lb, 1, none⟩ = some (.int .i64 (L.first : Nat)) := fun t => (h.grow t).c1
  have c2 : ∀ t : Grow w, t.val.cell? ⟨lb, 2, none⟩ = some (.int .i64 (L.counts : Nat)) := fun t => (h.grow t).c2
  clear h
  go_enter Tryz.func102, Tryz.ntmps102
  go_wp2_with fail
  refine wp_region_fam (by kernel_rfl) (by kernel_rfl) Grow.val (Grow.start w) ?_
  repeat go_big_quiet_step (fail)
  refine wpQuiet_nil ?_
  intro t
  clear c1 c2
  go_wp2_with fail
  go_ret
  exact ⟨rfl, t.below⟩
/-- How long a record may be. -/
def roomZ (z n : Nat) : Int := if 262125 < z ∨ 1099511627776 ≤ n then -1 else min (262125 - (z : Int)) 16384
set_option maxHeartbeats 800000 in
theorem roomW (h : IsLog w lb b L) (hd : IsDisk w b g cap D) (hok : DOk D) (hc : L.counts < D.l.length) :
    Calls Tryz.prog 73 #[.pointer (some ⟨lb, 0, none⟩)] w fun e w' => e = .returned (.int .i64 (roomZ (rd (D.l.getD L.counts Fl.zero)).size L.n)) ∧ Below w.heap.size w w' := by
  have c0 : ∀ t : Grow w, t.val.cell? ⟨lb, 0, none⟩ = some (.pointer (some ⟨b, 0, none⟩)) := fun t => (h.grow t).c0
  have c2 : ∀ t : Grow w, t.val.cell? ⟨lb, 2, none⟩ = some (.int .i64 (L.counts : Nat)) := fun t => (h.grow t).c2
  have c4 : ∀ t : Grow w, t.val.cell? ⟨lb, 4, none⟩ = some (.int .i64 (L.n : Nat)) := fun t => (h.grow t).c4
  have HS := Lib.hid (fun t : Grow w => sizeYes (hd.below t.below) hok L.counts hc)
  have hz := hok.size L.counts hc
  obtain ⟨z, hzz⟩ : ∃ z, z = (rd (D.l.getD L.counts Fl.zero)).size := ⟨_, rfl⟩
  rw [← hzz] at HS hz ⊢
  have HN := hok.n
  clear h hd hok hzz
  go_enter Tryz.func73, Tryz.ntmps73
  go_wp2_with fail
  refine wp_region_fam (by kernel_rfl) (by kernel_rfl) Grow.val (Grow.start w) ?_
  repeat go_big_quiet_step ((with_reducible refine Calls.fam_of (HS.out _) (Grow.more _)))
  refine wpQuiet_nil ?_
  intro t
  clear c0 c2
  by_cases h1 : 262125 < z
  · have h1' : (262144 : Int) - (z : Int) - 11 - 8 < 0 := by omega
    have e1 : Hid (roomZ z L.n = -1) := by unfold Hid roomZ; rw [if_pos (.inl h1)]
    clear c4
    go_wp2_with fail
    go_ret
    exact ⟨by rw [e1.out]; rfl, t.below⟩
  · have h1' : ¬ (262144 : Int) - (z : Int) - 11 - 8 < 0 := by omega
    by_cases h2 : 1099511627776 ≤ L.n
    · have h2' : (1099511627776 : Int) ≤ (L.n : Int) := by omega
      have e1 : Hid (roomZ z L.n = -1) := by unfold Hid roomZ; rw [if_pos (.inr h2)]
      go_wp2_with fail
      go_ret
      exact ⟨by rw [e1.out]; rfl, t.below⟩
    · have h2' : ¬ (1099511627776 : Int) ≤ (L.n : Int) := by omega
      have e1 : Hid (roomZ z L.n = min (262144 - (z : Int) - 11 - 8) 16384) := by unfold Hid roomZ; rw [if_neg (by omega)]; congr 1; omega
      go_wp2_with fail
      go_ret
      exact ⟨by rw [e1.out]; rfl, t.below⟩
end
end Go.Proofs.YtilpbjcbffbjeaaGreatDoor
namespace Go.Proofs.YtilpbjcbffbjeaaGreatDoor
set_option linter.unusedVariables false
set_option maxRecDepth 100000
open Go.RowKit
set_option linter.unusedSectionVars false
variable [Avoid]
section
variable {S : Nat → Prop} {w w' : World} {lb b g cap : Nat} {L : Lg} {D : Dk}
set_option maxHeartbeats 800000 in
theorem writeLOk (h : IsLog w lb b L) (hd : IsDisk w b g cap D) (hok : DOk D) (f n : Nat) (p : ByteArray) (h1 : 1 ≤ n) (h2 : n ≤ 1099511627776) (hp : p.size ≤ 16384)
    (hm : ∀ f, f < D.l.length → (D.l.getD f Fl.zero).ws.length < 1099511627776) (hr : (D.writeX (f : Nat) (recS n p)).2 = 0) :
    Calls Tryz.prog 84 #[.pointer (some ⟨lb, 0, none⟩), .int .i64 (f : Nat), .int .i64 (n : Nat), .string p] w fun e w' => e = .returned .nilIface ∧ IsDisk w' b g cap (D.writeX (f : Nat) (recS n p)).1 ∧ Chg (fun k => k = b ∨ k = g) w w' := by
  have HR := Lib.hid (recordW n p w h1 h2 hp)
  have HW := Lib.hid (fun (w1 : World) (hb : Below w.heap.size w w1) => writeA (hd.below hb) hok (f : Nat) (recS n p) (by rw [size_recS]; omega) hm)
  rw [hr] at HW
  have HL := Lib.hid h
  clear hd hok hm hr h h1 h2
  go_enter Tryz.func84, Tryz.ntmps84
  go_wp2_with fail
  refine HR.out.mono ?_
  rintro e w1 ⟨rfl, hb⟩
  have c0 := (HL.out.below hb).c0
  have HB := Lib.hid hb
  clear hb
  go_wp2_with fail
  refine (HW.out _ HB.out).mono ?_
  rintro e w2 ⟨rfl, hd2, hc2⟩
  have HD := Lib.hid hd2
  have HC := Lib.hid ((Chg.of_below _ HB.out).trans hc2)
  clear hd2 hc2 c0
  go_wp2_with fail
  refine (stepOk _ _).mono ?_
  rintro e w3 ⟨rfl, rfl⟩
  go_wp2_with fail
  go_ret
  exact ⟨rfl, HD.out, HC.out⟩
theorem room_ge {z n m : Nat} (h : ¬ roomZ z n < (m : Int)) : z + 19 + m ≤ 262144 ∧ n < 1099511627776 ∧ m ≤ 16384 := by
  unfold roomZ at h
  by_cases h1 : 262125 < z ∨ 1099511627776 ≤ n
  · rw [if_pos h1] at h; omega
  · rw [if_neg h1] at h; omega
set_option maxHeartbeats 800000 in
theorem appendLong (h : IsLog w lb b L) (s : ByteArray) (hdl : L.dead = false) (hs : 16384 < s.size) :
    Calls Tryz.prog 74 #[.pointer (some ⟨lb, 0, none⟩), .string s] w fun e w' => e = .returned (.int .i64 171) ∧ w' = w := by
  have c5 := h.c5
  rw [hdl] at c5
  clear h hdl
  go_enter Tryz.func74, Tryz.ntmps74
  go_wp2_with fail
  go_ret
  exact ⟨rfl, rfl⟩
set_option maxHeartbeats 800000 in
theorem appendFull (h : IsLog w lb b L) (hd : IsDisk w b g cap D) (hok : DOk D) (s : ByteArray) (hdl : L.dead = false) (hs : s.size ≤ 16384) (hc : L.counts < D.l.length) (hr : roomZ (rd (D.l.getD L.counts Fl.zero)).size L.n < (s.size : Int)) :
    Calls Tryz.prog 74 #[.pointer (some ⟨lb, 0, none⟩), .string s] w fun e w' => e = .returned (.int .i64 172) ∧ Below w.heap.size w w' := by
  have c5 := h.c5
  have HR := Lib.hid (roomW h hd hok hc)
  rw [hdl] at c5
  obtain ⟨z, hz⟩ : ∃ z, z = roomZ (rd (D.l.getD L.counts Fl.zero)).size L.n := ⟨_, rfl⟩
  rw [← hz] at HR hr
  clear h hdl hd hok hc hz
  go_enter Tryz.func74, Tryz.ntmps74
  go_wp2_with fail
  refine HR.out.mono ?_
  rintro e w1 ⟨rfl, hb⟩
  go_wp2_with fail
  go_ret
  exact ⟨rfl, hb⟩
set_option maxHeartbeats 1600000 in
theorem appendOk (h : IsLog w lb b L) (hd : IsDisk w b g cap D) (hok : DOk D) (s : ByteArray) (hdl : L.dead = false) (hs : s.size ≤ 16384) (hc : L.counts < D.l.length) (hrm : ¬ roomZ (rd (D.l.getD L.counts Fl.zero)).size L.n < (s.size : Int))
    (hm : ∀ f, f < D.l.length → (D.l.getD f Fl.zero).ws.length < 1099511627776) (hr : (D.writeX (L.counts : Nat) (recS (L.n + 1) s)).2 = 0) :
    Calls Tryz.prog 74 #[.pointer (some ⟨lb, 0, none⟩), .string s] w fun e w' => e = .returned (.int .i64 0) ∧ IsLog w' lb b { L with n := L.n + 1 } ∧ IsDisk w' b g cap (D.writeX (L.counts : Nat) (recS (L.n + 1) s)).1 ∧ Chg (fun k => k = lb ∨ k = b ∨ k = g) w w' := by
  have c5 := h.c5
  have HR := Lib.hid (roomW h hd hok hc)
  have hrg := room_ge hrm
  have HW := Lib.hid (fun (w1 : World) (hb : Below w.heap.size w w1) => writeLOk (h.below hb) (hd.below hb) hok L.counts (L.n + 1) s (by omega) (by omega) hs hm hr)
  have HL := Lib.hid h
  have HD0 := Lib.hid hd
  have hn := hok.n
  rw [hdl] at c5
  obtain ⟨z, hz⟩ : ∃ z, z = roomZ (rd (D.l.getD L.counts Fl.zero)).size L.n := ⟨_, rfl⟩
  rw [← hz] at HR hrm
  clear h hdl hd hok hm hr hz
  go_enter Tryz.func74, Tryz.ntmps74
  go_wp2_with fail
  refine HR.out.mono ?_
  rintro e w1 ⟨rfl, hb⟩
  have HL1 := Lib.hid (HL.out.below hb)
  have HB := Lib.hid hb
  clear hb c5
  go_wp2_with fail
  refine wp_region_U 14 (fun u => u.cell? ⟨lb, 2, none⟩ = some (.int .i64 (L.counts : Nat)) ∧ u.cell? ⟨lb, 4, none⟩ = some (.int .i64 (L.n : Nat))) (by kernel_rfl) ?_
  change wpAnyU _ _ _ _ _ _ 15 (Array.replicate 15 false) _ _
  obtain ⟨w2, hw2⟩ : ∃ w2, w2 = w1.drew := ⟨_, rfl⟩
  rw [← hw2]
  have HL2 : Hid (IsLog w2 lb b L) := by unfold Hid; rw [hw2]; exact HL1.out.below (Below.refl _ _).drew
  have HB2 : Hid (Below w.heap.size w w2) := by unfold Hid; rw [hw2]; exact HB.out.drew
  have HS : Hid (w2.cell? ⟨lb, 2, none⟩ = some (.int .i64 (L.counts : Nat)) ∧ w2.cell? ⟨lb, 4, none⟩ = some (.int .i64 (L.n : Nat))) := ⟨HL2.out.c2, HL2.out.c4⟩
  clear hw2
  refine takeU 0 (v := ?_) rfl (by kernel_rfl) (by kernel_rfl) (fun _ _ _ h => h) rfl (fun u hu => ?_) HS.out ?_
  rotate_left
  · obtain ⟨q2, q4⟩ := hu; go_simp <;> with_reducible rfl
  simp only [Act.put, List.setIfInBounds_toArray, List.set_cons_zero, List.set_cons_succ]
  refine takeU 1 (v := ?_) rfl (by kernel_rfl) (by kernel_rfl) (fun _ _ _ h => h) rfl (fun u hu => ?_) HS.out ?_
  rotate_left
  · obtain ⟨q2, q4⟩ := hu; go_simp <;> with_reducible rfl
  simp only [Act.put, List.setIfInBounds_toArray, List.set_cons_zero, List.set_cons_succ]
  refine takeU 2 (v := ?_) rfl (by kernel_rfl) (by kernel_rfl) (fun _ _ _ h => h) rfl (fun u hu => ?_) HS.out ?_
  rotate_left
  · obtain ⟨q2, q4⟩ := hu; go_simp <;> with_reducible rfl
  simp only [Act.put, List.setIfInBounds_toArray, List.set_cons_zero, List.set_cons_succ]
  refine takeU 3 (v := ?_) rfl (by kernel_rfl) (by kernel_rfl) (fun _ _ _ h => h) rfl (fun u hu => ?_) HS.out ?_
  rotate_left
  · obtain ⟨q2, q4⟩ := hu; go_simp <;> with_reducible rfl
  simp only [Act.put, List.setIfInBounds_toArray, List.set_cons_zero, List.set_cons_succ]
  refine takeU 4 (v := ?_) rfl (by kernel_rfl) (by kernel_rfl) (fun _ _ _ h => h) rfl (fun u hu => ?_) HS.out ?_
  rotate_left
  · obtain ⟨q2, q4⟩ := hu; go_simp <;> with_reducible rfl
  simp only [Act.put, List.setIfInBounds_toArray, List.set_cons_zero, List.set_cons_succ]
  refine takeU 5 (v := ?_) rfl (by kernel_rfl) (by kernel_rfl) (fun _ _ _ h => h) rfl (fun u hu => ?_) HS.out ?_
  rotate_left
  · obtain ⟨q2, q4⟩ := hu; go_simp <;> with_reducible rfl
  simp only [Act.put, List.setIfInBounds_toArray, List.set_cons_zero, List.set_cons_succ]
  refine takeU 6 (v := ?_) rfl (by kernel_rfl) (by kernel_rfl) (fun _ _ _ h => h) rfl (fun u hu => ?_) HS.out ?_
  rotate_left
  · obtain ⟨q2, q4⟩ := hu; go_simp <;> with_reducible rfl
  simp only [Act.put, List.setIfInBounds_toArray, List.set_cons_zero, List.set_cons_succ]
  refine takeU 7 (v := ?_) rfl (by kernel_rfl) (by kernel_rfl) (fun _ _ _ h => h) rfl (fun u hu => ?_) HS.out ?_
  rotate_left
  · obtain ⟨q2, q4⟩ := hu; go_simp <;> with_reducible rfl
  simp only [Act.put, List.setIfInBounds_toArray, List.set_cons_zero, List.set_cons_succ]
  refine takeU 8 (v := ?_) rfl (by kernel_rfl) (by kernel_rfl) (fun _ _ _ h => h) rfl (fun u hu => ?_) HS.out ?_
  rotate_left
  · obtain ⟨q2, q4⟩ := hu; go_simp <;> with_reducible rfl
  simp only [Act.put, List.setIfInBounds_toArray, List.set_cons_zero, List.set_cons_succ]
  refine takeU 9 (v := ?_) rfl (by kernel_rfl) (by kernel_rfl) (fun _ _ _ h => h) rfl (fun u hu => ?_) HS.out ?_
  rotate_left
  · obtain ⟨q2, q4⟩ := hu; go_simp <;> with_reducible rfl
  simp only [Act.put, List.setIfInBounds_toArray, List.set_cons_zero, List.set_cons_succ]
  refine takeU 10 (v := ?_) rfl (by kernel_rfl) (by kernel_rfl) (fun _ _ _ h => h) rfl (fun u hu => ?_) HS.out ?_
  rotate_left
  · obtain ⟨q2, q4⟩ := hu; go_simp <;> with_reducible rfl
  simp only [Act.put, List.setIfInBounds_toArray, List.set_cons_zero, List.set_cons_succ]
  refine takeU 11 (v := ?_) rfl (by kernel_rfl) (by kernel_rfl) (fun _ _ _ h => h) rfl (fun u hu => ?_) HS.out ?_
  rotate_left
  · obtain ⟨q2, q4⟩ := hu; go_simp <;> with_reducible rfl
  simp only [Act.put, List.setIfInBounds_toArray, List.set_cons_zero, List.set_cons_succ]
  refine oneU 12 (by kernel_rfl) ?_
  refine callU 12 rfl (by kernel_rfl) rfl 84 _ _ rfl #[.pointer (some ⟨lb, 0, none⟩), .int .i64 (L.counts : Nat), .int .i64 ((L.n + 1 : Nat) : Int), .string s] (by simp [Act.eval]; exact IntWalk.i64_in _ (by omega)) (enters_of Tryz.func84 (by kernel_rfl) rfl) (fun v w' => v = .nilIface ∧ Hid (IsDisk w' b g cap (D.writeX (L.counts : Nat) (recS (L.n + 1) s)).1 ∧ Chg (fun k => k = b ∨ k = g) w2 w')) ((HW.out _ HB2.out).mono fun e w' ⟨h1, h2, h3⟩ => ⟨_, h1, rfl, h2, h3⟩) ?_
  rintro v w3 ⟨rfl, hK⟩
  have HD3 := Lib.hid hK.out.1
  have HC3 := Lib.hid ((Chg.of_below (fun k => k = b ∨ k = g) HB2.out).trans hK.out.2)
  have HL3 := Lib.hid (HL.out.keep HC3.out (fun e => by have := HL.out.ne HD0.out; omega))
  refine ⟨⟨HL3.out.c2, HL3.out.c4⟩, ?_⟩
  simp only [Act.put, List.setIfInBounds_toArray, List.set_cons_zero, List.set_cons_succ]
  refine oneU 13 (by kernel_rfl) ?_
  refine callU 13 rfl (by kernel_rfl) rfl 86 _ _ rfl #[.pointer (some ⟨lb, 0, none⟩), .nilIface] (by simp [Act.eval]) (enters_of Tryz.func86 (by kernel_rfl) rfl) (fun v w' => v = .int .i64 0 ∧ w' = w3) ((toldOk lb w3).mono fun e w' ⟨h1, h2⟩ => ⟨_, h1, rfl, h2⟩) ?_
  rintro v w4 ⟨rfl, rfl⟩
  refine ⟨⟨HL3.out.c2, HL3.out.c4⟩, ?_⟩
  simp only [Act.put, List.setIfInBounds_toArray, List.set_cons_zero, List.set_cons_succ]
  refine oneU 14 (by kernel_rfl) ?_
  refine endU (v := ?_) 14 rfl (by kernel_rfl) (by kernel_rfl) rfl ?_ ?_
  rotate_left
  · go_simp <;> with_reducible rfl
  simp only [Act.put, List.setIfInBounds_toArray, List.set_cons_zero, List.set_cons_succ]
  have c4 := HL3.out.c4
  have f4 := HL3.out.free 4
  clear HS HW HL2 HL1
  go_wp2_with fail
  go_ret
  have e1 : ((L.n : Int) + 1) = ((L.n + 1 : Nat) : Int) := by omega
  rw [e1]
  have hc5 : Chg (fun k => k = lb) w4 (w4.setCell ⟨lb, 4, none⟩ (.int .i64 ((L.n + 1 : Nat) : Int))) := Chg.setCell (fun k => k = lb) w4 rfl _
  exact ⟨rfl, HL3.out.setN _, HD3.out.log HL3.out hc5, (HC3.out.mono (fun k _ h => .inr h)).trans (hc5.mono (fun k _ h => .inl h))⟩
set_option maxHeartbeats 1600000 in
theorem syncLOk (h : IsLog w lb b L) (hd : IsDisk w b g cap D) (hok : DOk D) (hdl : L.dead = false) (hr : (D.syncX (L.counts : Nat)).2 = 0) :
    Calls Tryz.prog 76 #[.pointer (some ⟨lb, 0, none⟩)] w fun e w' => e = .returned (.int .i64 0) ∧ IsDisk w' b g cap (D.syncX (L.counts : Nat)).1 ∧ Chg (fun k => k = b ∨ k = g) w w' := by
  have c5 := h.c5
  rw [hdl] at c5
  have HW := Lib.hid (fun (w1 : World) (hb : Below w.heap.size w w1) => syncA (hd.below hb) hok (L.counts : Nat))
  rw [hr] at HW
  have HL := Lib.hid h
  have HD0 := Lib.hid hd
  clear h hd hok hdl hr
  go_enter Tryz.func76, Tryz.ntmps76
  go_wp2_with fail
  refine wp_region_U 12 (fun u => u.cell? ⟨lb, 0, none⟩ = some (.pointer (some ⟨b, 0, none⟩)) ∧ u.cell? ⟨lb, 2, none⟩ = some (.int .i64 (L.counts : Nat))) (by kernel_rfl) ?_
  change wpAnyU _ _ _ _ _ _ 13 (Array.replicate 13 false) _ _
  obtain ⟨w2, hw2⟩ : ∃ w2, w2 = w.drew := ⟨_, rfl⟩
  rw [← hw2]
  have HL2 : Hid (IsLog w2 lb b L) := by unfold Hid; rw [hw2]; exact HL.out.below (Below.refl _ _).drew
  have HB2 : Hid (Below w.heap.size w w2) := by unfold Hid; rw [hw2]; exact (Below.refl _ _).drew
  clear hw2 c5
  have HS : Hid (w2.cell? ⟨lb, 0, none⟩ = some (.pointer (some ⟨b, 0, none⟩)) ∧ w2.cell? ⟨lb, 2, none⟩ = some (.int .i64 (L.counts : Nat))) := ⟨HL2.out.c0, HL2.out.c2⟩
  refine takeU 0 (v := ?_) rfl (by kernel_rfl) (by kernel_rfl) (fun _ _ _ h => h) rfl (fun u hu => ?_) HS.out ?_
  rotate_left
  · obtain ⟨q2, q4⟩ := hu; go_simp <;> with_reducible rfl
  simp only [Act.put, List.setIfInBounds_toArray, List.set_cons_zero, List.set_cons_succ]
  refine takeU 1 (v := ?_) rfl (by kernel_rfl) (by kernel_rfl) (fun _ _ _ h => h) rfl (fun u hu => ?_) HS.out ?_
  rotate_left
  · obtain ⟨q2, q4⟩ := hu; go_simp <;> with_reducible rfl
  simp only [Act.put, List.setIfInBounds_toArray, List.set_cons_zero, List.set_cons_succ]
  refine takeU 2 (v := ?_) rfl (by kernel_rfl) (by kernel_rfl) (fun _ _ _ h => h) rfl (fun u hu => ?_) HS.out ?_
  rotate_left
  · obtain ⟨q2, q4⟩ := hu; go_simp <;> with_reducible rfl
  simp only [Act.put, List.setIfInBounds_toArray, List.set_cons_zero, List.set_cons_succ]
  refine takeU 3 (v := ?_) rfl (by kernel_rfl) (by kernel_rfl) (fun _ _ _ h => h) rfl (fun u hu => ?_) HS.out ?_
  rotate_left
  · obtain ⟨q2, q4⟩ := hu; go_simp <;> with_reducible rfl
  simp only [Act.put, List.setIfInBounds_toArray, List.set_cons_zero, List.set_cons_succ]
  refine takeU 4 (v := ?_) rfl (by kernel_rfl) (by kernel_rfl) (fun _ _ _ h => h) rfl (fun u hu => ?_) HS.out ?_
  rotate_left
  · obtain ⟨q2, q4⟩ := hu; go_simp <;> with_reducible rfl
  simp only [Act.put, List.setIfInBounds_toArray, List.set_cons_zero, List.set_cons_succ]
  refine takeU 5 (v := ?_) rfl (by kernel_rfl) (by kernel_rfl) (fun _ _ _ h => h) rfl (fun u hu => ?_) HS.out ?_
  rotate_left
  · obtain ⟨q2, q4⟩ := hu; go_simp <;> with_reducible rfl
  simp only [Act.put, List.setIfInBounds_toArray, List.set_cons_zero, List.set_cons_succ]
  refine takeU 6 (v := ?_) rfl (by kernel_rfl) (by kernel_rfl) (fun _ _ _ h => h) rfl (fun u hu => ?_) HS.out ?_
  rotate_left
  · obtain ⟨q2, q4⟩ := hu; go_simp <;> with_reducible rfl
  simp only [Act.put, List.setIfInBounds_toArray, List.set_cons_zero, List.set_cons_succ]
  refine takeU 7 (v := ?_) rfl (by kernel_rfl) (by kernel_rfl) (fun _ _ _ h => h) rfl (fun u hu => ?_) HS.out ?_
  rotate_left
  · obtain ⟨q2, q4⟩ := hu; go_simp <;> with_reducible rfl
  simp only [Act.put, List.setIfInBounds_toArray, List.set_cons_zero, List.set_cons_succ]
  refine takeU 8 (v := ?_) rfl (by kernel_rfl) (by kernel_rfl) (fun _ _ _ h => h) rfl (fun u hu => ?_) HS.out ?_
  rotate_left
  · obtain ⟨q2, q4⟩ := hu; go_simp <;> with_reducible rfl
  simp only [Act.put, List.setIfInBounds_toArray, List.set_cons_zero, List.set_cons_succ]
  refine oneU 9 (by kernel_rfl) ?_
  refine callU 9 rfl (by kernel_rfl) rfl 53 _ _ rfl #[.pointer (some ⟨b, 0, none⟩), .int .i64 (L.counts : Nat)] (by simp [Act.eval]) (enters_of Tryz.func53 (by kernel_rfl) rfl) (fun v w' => v = .int .i64 0 ∧ Hid (IsDisk w' b g cap (D.syncX (L.counts : Nat)).1 ∧ Chg (fun k => k = b ∨ k = g) w2 w')) ((HW.out _ HB2.out).mono fun e w' ⟨h1, h2, h3⟩ => ⟨_, h1, rfl, h2, h3⟩) ?_
  rintro v w3 ⟨rfl, hK⟩
  have HD3 := Lib.hid hK.out.1
  have HC3 := Lib.hid ((Chg.of_below (fun k => k = b ∨ k = g) HB2.out).trans hK.out.2)
  have HL3 := Lib.hid (HL.out.keep HC3.out (fun e => by have := HL.out.ne HD0.out; omega))
  refine ⟨⟨HL3.out.c0, HL3.out.c2⟩, ?_⟩
  simp only [Act.put, List.setIfInBounds_toArray, List.set_cons_zero, List.set_cons_succ]
  refine oneU 10 (by kernel_rfl) ?_
  refine callU 10 rfl (by kernel_rfl) rfl 85 _ _ rfl #[.string ⟨#[97, 32, 115, 121, 110, 99]⟩, .int .i64 0] (by simp [Act.eval]) (enters_of Tryz.func85 (by kernel_rfl) rfl) (fun v w' => v = .nilIface ∧ w' = w3) ((stepOk _ w3).mono fun e w' ⟨h1, h2⟩ => ⟨_, h1, rfl, h2⟩) ?_
  rintro v w4 ⟨rfl, rfl⟩
  refine ⟨⟨HL3.out.c0, HL3.out.c2⟩, ?_⟩
  simp only [Act.put, List.setIfInBounds_toArray, List.set_cons_zero, List.set_cons_succ]
  refine oneU 11 (by kernel_rfl) ?_
  refine callU 11 rfl (by kernel_rfl) rfl 86 _ _ rfl #[.pointer (some ⟨lb, 0, none⟩), .nilIface] (by simp [Act.eval]) (enters_of Tryz.func86 (by kernel_rfl) rfl) (fun v w' => v = .int .i64 0 ∧ w' = w4) ((toldOk lb w4).mono fun e w' ⟨h1, h2⟩ => ⟨_, h1, rfl, h2⟩) ?_
  rintro v w5 ⟨rfl, rfl⟩
  refine ⟨⟨HL3.out.c0, HL3.out.c2⟩, ?_⟩
  simp only [Act.put, List.setIfInBounds_toArray, List.set_cons_zero, List.set_cons_succ]
  refine oneU 12 (by kernel_rfl) ?_
  refine endU (v := ?_) 12 rfl (by kernel_rfl) (by kernel_rfl) rfl ?_ ?_
  rotate_left
  · go_simp <;> with_reducible rfl
  simp only [Act.put, List.setIfInBounds_toArray, List.set_cons_zero, List.set_cons_succ]
  go_wp2_with fail
  go_ret
  exact ⟨rfl, HD3.out, HC3.out⟩
end
end Go.Proofs.YtilpbjcbffbjeaaGreatDoor
namespace Go.Proofs.YtilpbjcbffbjeaaGreatDoor
set_option linter.unusedVariables false
set_option maxRecDepth 100000
open Go.RowKit
set_option linter.unusedSectionVars false
variable [Avoid]
section
variable {S : Nat → Prop} {w w' : World} {lb b g cap : Nat} {L : Lg} {D : Dk}
set_option maxHeartbeats 800000 in
theorem newLForm (hd : IsDisk w b g cap D) (hok : DOk D) (f : Nat) (s : ByteArray) (hdd : D.dead = false) (hf : f + 1 < D.l.length) (hz : 0 < (rd (D.l.getD f Fl.zero)).size) :
    Calls Tryz.prog 48 #[.pointer (some ⟨b, 0, none⟩), .int .i64 (f : Nat), .string s] w fun e w' => e = .returned (.tuple #[.pointer none, .int .i64 170]) ∧ Below w.heap.size w w' := by
  have H1 := Lib.hid (deadW hd)
  have H2 := Lib.hid (hasW hd (f : Nat))
  have H3 := Lib.hid (sizeYes hd hok f (by omega))
  rw [decide_eq_true (show (0 : Int) ≤ (f : Int) ∧ (f : Int) < (D.l.length : Int) - 1 by omega)] at H2
  rw [hdd] at H1
  obtain ⟨z, hz'⟩ : ∃ z, z = (rd (D.l.getD f Fl.zero)).size := ⟨_, rfl⟩
  rw [← hz'] at H3 hz
  have hz2 : (0 : Int) < (z : Int) := by omega
  clear hd hok hdd hf hz'
  go_enter Tryz.func48, Tryz.ntmps48
  go_wp2_with fail
  refine H1.out.mono ?_
  rintro e w1 ⟨rfl, rfl⟩
  go_wp2_with fail
  refine H2.out.mono ?_
  rintro e w1 ⟨rfl, rfl⟩
  go_wp2_with fail
  refine H3.out.mono ?_
  rintro e w1 ⟨rfl, hb⟩
  go_wp2_with fail
  go_ret2
  exact ⟨rfl, hb⟩
set_option maxHeartbeats 800000 in
theorem newLLong (hd : IsDisk w b g cap D) (hok : DOk D) (f : Nat) (s : ByteArray) (hdd : D.dead = false) (hf : f + 1 < D.l.length) (hz : (rd (D.l.getD f Fl.zero)).size = 0) (hz1 : (rd (D.l.getD (f + 1) Fl.zero)).size = 0) (hs : 16384 < s.size) :
    Calls Tryz.prog 48 #[.pointer (some ⟨b, 0, none⟩), .int .i64 (f : Nat), .string s] w fun e w' => e = .returned (.tuple #[.pointer none, .int .i64 171]) ∧ Below w.heap.size w w' := by
  have H1 := Lib.hid (deadW hd)
  have H2 := Lib.hid (hasW hd (f : Nat))
  have H3 := Lib.hid (sizeYes hd hok f (by omega))
  have H4 := Lib.hid (fun (w1 : World) (hb : Below w.heap.size w w1) => sizeYes (hd.below hb) hok (f + 1) hf)
  rw [decide_eq_true (show (0 : Int) ≤ (f : Int) ∧ (f : Int) < (D.l.length : Int) - 1 by omega)] at H2
  rw [hdd] at H1
  rw [hz] at H3
  rw [hz1] at H4
  have hn := hok.n
  clear hd hok hdd hz hz1
  go_enter Tryz.func48, Tryz.ntmps48
  go_wp2_with fail
  refine H1.out.mono ?_
  rintro e w1 ⟨rfl, rfl⟩
  go_wp2_with fail
  refine H2.out.mono ?_
  rintro e w1 ⟨rfl, rfl⟩
  go_wp2_with fail
  refine H3.out.mono ?_
  rintro e w1 ⟨rfl, hb⟩
  have HB := Lib.hid hb
  clear hb
  go_wp2_with fail
  refine (H4.out _ HB.out).mono ?_
  rintro e w2 ⟨rfl, hb⟩
  replace HB := Lib.hid (HB.out.trans (hb.mono HB.out.size))
  clear hb
  go_wp2_with fail
  go_ret2
  exact ⟨rfl, HB.out⟩
set_option maxHeartbeats 1600000 in
theorem newLOk (hd : IsDisk w b g cap D) (hok : DOk D) (f : Nat) (s : ByteArray) (hdd : D.dead = false) (hf : f + 1 < D.l.length) (hz : (rd (D.l.getD f Fl.zero)).size = 0) (hz1 : (rd (D.l.getD (f + 1) Fl.zero)).size = 0) (hs : s.size ≤ 16384)
    (hm : ∀ f, f < D.l.length → (D.l.getD f Fl.zero).ws.length < 1099511627776) (D1 : Dk) (hr : D.writeX (f : Nat) (recS 1 s) = (D1, 0)) (hok1 : DOk D1) (D2 : Dk) (hr2 : D1.syncX (f : Nat) = (D2, 0)) :
    Calls Tryz.prog 48 #[.pointer (some ⟨b, 0, none⟩), .int .i64 (f : Nat), .string s] w fun e w' => ∃ lb, e = .returned (.tuple #[.pointer (some ⟨lb, 0, none⟩), .int .i64 0]) ∧ w.heap.size ≤ lb ∧ IsLog w' lb b ⟨f, f, 1, 0, false⟩ ∧ IsDisk w' b g cap D2 ∧ Chg (fun k => k = b ∨ k = g) w w' := by
  have H1 := Lib.hid (deadW hd)
  have H2 := Lib.hid (hasW hd (f : Nat))
  have H3 := Lib.hid (sizeYes hd hok f (by omega))
  have H4 := Lib.hid (fun (w1 : World) (hb : Below w.heap.size w w1) => sizeYes (hd.below hb) hok (f + 1) hf)
  have H5 := Lib.hid (fun (w1 : World) (lb : Nat) (hb : Below w.heap.size w w1) (hl : IsLog w1 lb b ⟨f, f, 1, 0, false⟩) => writeLOk hl (hd.below hb) hok f 1 s (by decide) (by decide) hs hm (by rw [hr]))
  rw [hr] at H5
  have H6 := Lib.hid (fun (w1 : World) (h : IsDisk w1 b g cap D1) => syncA h hok1 (f : Nat))
  rw [hr2] at H6
  rw [decide_eq_true (show (0 : Int) ≤ (f : Int) ∧ (f : Int) < (D.l.length : Int) - 1 by omega)] at H2
  rw [hdd] at H1
  rw [hz] at H3
  rw [hz1] at H4
  have hn := hok.n
  have HD0 := Lib.hid hd
  clear hd hok hdd hz hz1 hm hr hok1 hr2
  go_enter Tryz.func48, Tryz.ntmps48
  go_wp2_with fail
  refine H1.out.mono ?_
  rintro e w1 ⟨rfl, hw⟩
  subst hw
  go_wp2_with fail
  refine H2.out.mono ?_
  rintro e w1 ⟨rfl, hw⟩
  replace hw := hw.symm
  subst hw
  go_wp2_with fail
  refine H3.out.mono ?_
  rintro e w1 ⟨rfl, hb⟩
  have HB := Lib.hid hb
  clear hb
  go_wp2_with fail
  refine (H4.out _ HB.out).mono ?_
  rintro e w2 ⟨rfl, hb⟩
  replace HB := Lib.hid (HB.out.trans (hb.mono HB.out.size))
  clear hb
  go_wp2_with fail
  obtain ⟨W, hW⟩ : ∃ W, W = w2.alloc (.cells (Lg.cells ⟨f, f, 1, 0, false⟩ b) 139) := ⟨_, rfl⟩
  obtain ⟨lb, hlb⟩ : ∃ lb, lb = w2.heap.size := ⟨_, rfl⟩
  have hlog : IsLog W lb b ⟨f, f, 1, 0, false⟩ := ⟨by rw [hW, hlb]; exact heap_at rfl⟩
  have hbW : Below w.heap.size w W := by rw [hW]; exact HB.out.alloc HB.out.size _
  have HLE : Hid (w.heap.size ≤ lb) := by unfold Hid; rw [hlb]; exact HB.out.size
  have HNE := Lib.hid (hlog.ne (HD0.out.below hbW))
  change Calls _ _ #[.pointer (some ⟨w2.heap.size, 0, none⟩), .int .i64 (f : Nat), .int .i64 1, .string s] (w2.alloc (.cells (Lg.cells ⟨f, f, 1, 0, false⟩ b) 139)) _
  rw [← hW, ← hlb]
  have HLOG := Lib.hid hlog
  have HBW := Lib.hid hbW
  have HLB := Lib.hid hlb
  clear hlog hbW hlb hW
  refine (H5.out W lb HBW.out HLOG.out).mono ?_
  rintro e w3 ⟨rfl, hd3, hc3⟩
  have HD3 := Lib.hid hd3
  have HC3 := Lib.hid hc3
  clear hd3 hc3
  go_wp2_with fail
  refine (H6.out _ HD3.out).mono ?_
  rintro e w4 ⟨rfl, hd4, hc4⟩
  have HD4 := Lib.hid hd4
  have HC4 := Lib.hid (HC3.out.trans hc4)
  clear hd4 hc4
  go_wp2_with fail
  refine (stepOk _ _).mono ?_
  rintro e w5 ⟨rfl, rfl⟩
  go_wp2_with fail
  refine (toldOk _ _).mono ?_
  rintro e w6 ⟨rfl, rfl⟩
  go_wp2_with fail
  go_ret2
  have e1 := HLB.out
  refine ⟨lb, by rw [e1]; rfl, HLE.out, HLOG.out.keep HC4.out (fun h => by have := HNE.out; omega), HD4.out, (Chg.of_below _ HBW.out).trans HC4.out⟩
end
end Go.Proofs.YtilpbjcbffbjeaaGreatDoor
namespace Go.Proofs.YtilpbjcbffbjeaaGreatDoor
set_option linter.unusedVariables false
set_option maxRecDepth 100000
open Go.RowKit
structure Pk where
  counts : Nat
  gen : Nat
  snap : List Nat
  bytes : ByteArray
  fin : Nat
def Pk.zero (f : Nat) : Pk := ⟨f, 0, [], ⟨#[]⟩, 0⟩
def Pk.next (p : Pk) (i : Nat) (s : ByteArray) : Pk := match whole (bs s) with
  | some (n, q) => if p.gen < n then ⟨i, n, q, s, 19 + q.length⟩ else p
  | none => p
theorem Pk.next_none (p : Pk) (i : Nat) (s : ByteArray) (h : whole (bs s) = none) : p.next i s = p := by unfold Pk.next; rw [h]
theorem Pk.next_more (p : Pk) (i : Nat) (s : ByteArray) {n : Nat} {q : List Nat} (h : whole (bs s) = some (n, q)) (hn : p.gen < n) : p.next i s = ⟨i, n, q, s, 19 + q.length⟩ := by unfold Pk.next; rw [h]; dsimp only; rw [if_pos hn]
theorem Pk.next_less (p : Pk) (i : Nat) (s : ByteArray) {n : Nat} {q : List Nat} (h : whole (bs s) = some (n, q)) (hn : ¬ p.gen < n) : p.next i s = p := by unfold Pk.next; rw [h]; dsimp only; rw [if_neg hn]
def pkAt (f : Nat) (a c : ByteArray) : Nat → Pk
  | 0 => Pk.zero f
  | 1 => (Pk.zero f).next f a
  | _ => ((Pk.zero f).next f a).next (f + 1) c
theorem Pk.next_counts (p : Pk) (i f : Nat) (s : ByteArray) (h : p.counts = f ∨ p.counts = f + 1) (hi : i = f ∨ i = f + 1) : (p.next i s).counts = f ∨ (p.next i s).counts = f + 1 := by
  unfold Pk.next
  split
  · split
    · exact hi
    · exact h
  · exact h
theorem Pk.next_fin (p : Pk) (i : Nat) (s : ByteArray) (h : p.fin ≤ p.bytes.size) : (p.next i s).fin ≤ (p.next i s).bytes.size := by
  unfold Pk.next
  split
  · rename_i n q hw
    split
    · have := length_whole (bs_lt s) hw
      rw [length_bs] at this
      exact this
    · exact h
  · exact h
theorem pkAt_counts (f : Nat) (a c : ByteArray) (i : Nat) : (pkAt f a c i).counts = f ∨ (pkAt f a c i).counts = f + 1 := by
  match i with
  | 0 => exact .inl rfl
  | 1 => exact Pk.next_counts _ _ _ _ (.inl rfl) (.inl rfl)
  | _ + 2 => exact Pk.next_counts _ _ _ _ (Pk.next_counts _ _ _ _ (.inl rfl) (.inl rfl)) (.inr rfl)
theorem pkAt_fin (f : Nat) (a c : ByteArray) (i : Nat) : (pkAt f a c i).fin ≤ (pkAt f a c i).bytes.size := by
  match i with
  | 0 => exact Nat.le_refl _
  | 1 => exact Pk.next_fin _ _ _ (Nat.le_refl _)
  | _ + 2 => exact Pk.next_fin _ _ _ (Pk.next_fin _ _ _ (Nat.le_refl _))
theorem pkAt_size (f : Nat) (a c : ByteArray) (M : Nat) (ha : a.size ≤ M) (hc : c.size ≤ M) (i : Nat) : (pkAt f a c i).bytes.size ≤ M := by
  have h1 : ∀ (p : Pk) (i : Nat) (s : ByteArray), p.bytes.size ≤ M → s.size ≤ M → (p.next i s).bytes.size ≤ M := by
    intro p i s hp hs
    unfold Pk.next
    split
    · split
      · exact hs
      · exact hp
    · exact hp
  match i with
  | 0 => exact Nat.zero_le _
  | 1 => exact h1 _ _ _ (Nat.zero_le _) ha
  | _ + 2 => exact h1 _ _ _ (h1 _ _ _ (Nat.zero_le _) ha) hc
theorem pkAt_gen (f : Nat) (a c : ByteArray) (i : Nat) : (pkAt f a c i).gen ≤ 1099511627776 := by
  have h1 : ∀ (p : Pk) (i : Nat) (s : ByteArray), p.gen ≤ 1099511627776 → (p.next i s).gen ≤ 1099511627776 := by
    intro p i s hp
    unfold Pk.next
    split
    · rename_i n q hw
      split
      · exact (whole_some (bs_lt s) hw).2.1
      · exact hp
    · exact hp
  match i with
  | 0 => exact Nat.zero_le _
  | 1 => exact h1 _ _ _ (Nat.zero_le _)
  | _ + 2 => exact h1 _ _ _ (h1 _ _ _ (Nat.zero_le _))
/-- Whole at the head of bytes. -/
theorem wholeAt_zero (s : ByteArray) : wholeAt s 0 = (whole (bs s)).map fun x => (x.1, x.2, 19 + x.2.length) := by
  unfold wholeAt
  rw [if_neg (by omega)]
  simp
theorem wholeAt_nat (s : ByteArray) (a : Nat) (h : a ≤ s.size) : wholeAt s (a : Nat) = (whole ((bs s).drop a)).map fun x => (x.1, x.2, a + (19 + x.2.length)) := by
  unfold wholeAt; rw [if_neg (by omega), Int.toNat_natCast]
set_option maxHeartbeats 800000 in
theorem eJoinW (jb : Nat) (w : World) (h0 : w.cell? ⟨jb, 0, none⟩ = some .nilIface) (h1 : w.cell? ⟨jb, 1, none⟩ = some .nilIface) :
    Calls Tryz.prog 101 #[.slice (some ⟨jb, 0, none⟩) 2 2] w fun e w' => e = .returned .nilIface ∧ w' = w := by
  go_enter Tryz.func101, Tryz.ntmps101
  go_wp2_with fail
  go_loopw [3, 11] (fun v3 v11 wr => ∃ i : Nat, i ≤ 2 ∧ v11 = .int .i64 (i : Nat) ∧ v3 = .int .i64 0 ∧ wr = w) (fun _ v _ => (2 - intOf v).toNat)
  case atStart => exact ⟨0, by omega, rfl, rfl, rfl⟩
  case round =>
    obtain ⟨i, hi, rfl, rfl, rfl⟩ := hrel
    rcases i with _ | _ | i
    · go_wp2_with fail
      exact ⟨⟨1, by omega, rfl, rfl, trivial⟩, by simp [intOf]⟩
    · go_wp2_with fail
      exact ⟨⟨2, by omega, rfl, rfl, trivial⟩, by simp [intOf]⟩
    · obtain rfl : i = 0 := by omega
      go_wp2_with fail
      go_ret
      exact ⟨rfl, rfl⟩
end Go.Proofs.YtilpbjcbffbjeaaGreatDoor
