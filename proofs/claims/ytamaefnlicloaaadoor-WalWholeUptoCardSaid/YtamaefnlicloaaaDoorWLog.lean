/- A log in memory, and its small functions. -/
import Derived.Test.YtamaefnlicloaaaDoorWWhole2
import Derived.Test.YtamaefnlicloaaaDoorDWalk8
namespace Go.Proofs.YtamaefnlicloaaaDoor
set_option linter.unusedVariables false
set_option maxRecDepth 100000
open Go.RowKit
structure Lg where
  first : Nat
  counts : Nat
  gen : Nat
  n : Nat
  dead : Bool
def Lg.cells (L : Lg) (b : Nat) : Array Value := #[.pointer (some ⟨b, 0, none⟩), .int .i64 (L.first : Nat), .int .i64 (L.counts : Nat), .int .i64 (L.gen : Nat), .int .i64 (L.n : Nat), .bool L.dead]
structure IsLog (w : World) (lb b : Nat) (L : Lg) : Prop where
  blk : w.heap[lb]? = some (.cells (L.cells b) 84 (0, 0))
section
variable {S : Nat → Prop} {w w' : World} {lb b g cap : Nat} {L : Lg} {D : Dk}
theorem IsLog.lt (h : IsLog w lb b L) : lb < w.heap.size := (Array.getElem?_eq_some_iff.1 h.blk).1
theorem IsLog.free (h : IsLog w lb b L) (j : Nat) : w.frozen? ⟨lb, j, none⟩ = false := frozen_of_row w lb j _ _ h.blk
theorem IsLog.c0 (h : IsLog w lb b L) : w.cell? ⟨lb, 0, none⟩ = some (.pointer (some ⟨b, 0, none⟩)) := by rw [cell_of_row w lb 0 _ _ _ h.blk]; rfl
theorem IsLog.c1 (h : IsLog w lb b L) : w.cell? ⟨lb, 1, none⟩ = some (.int .i64 (L.first : Nat)) := by rw [cell_of_row w lb 1 _ _ _ h.blk]; rfl
theorem IsLog.c2 (h : IsLog w lb b L) : w.cell? ⟨lb, 2, none⟩ = some (.int .i64 (L.counts : Nat)) := by rw [cell_of_row w lb 2 _ _ _ h.blk]; rfl
theorem IsLog.c3 (h : IsLog w lb b L) : w.cell? ⟨lb, 3, none⟩ = some (.int .i64 (L.gen : Nat)) := by rw [cell_of_row w lb 3 _ _ _ h.blk]; rfl
theorem IsLog.c4 (h : IsLog w lb b L) : w.cell? ⟨lb, 4, none⟩ = some (.int .i64 (L.n : Nat)) := by rw [cell_of_row w lb 4 _ _ _ h.blk]; rfl
theorem IsLog.c5 (h : IsLog w lb b L) : w.cell? ⟨lb, 5, none⟩ = some (.bool L.dead) := by rw [cell_of_row w lb 5 _ _ _ h.blk]; rfl
theorem IsLog.keep (h : IsLog w lb b L) (hc : Chg S w w') (hn : ¬ S lb) : IsLog w' lb b L := ⟨(hc.block lb h.lt hn).trans h.blk⟩
theorem IsLog.below (h : IsLog w lb b L) (hb : Below w.heap.size w w') : IsLog w' lb b L := ⟨(hb.block lb h.lt).trans h.blk⟩
theorem IsLog.grow (h : IsLog w lb b L) (t : Grow w) : IsLog t.val lb b L := h.below t.below
theorem IsLog.muts (h : IsLog w lb b L) : Muts (fun k => k = lb) w := by
  intro k _ hk cur T fr hh
  subst hk
  rw [h.blk] at hh
  injection hh with hh
  injection hh with _ hT _
  subst hT
  unfold Fix
  decide
theorem IsLog.ne (h : IsLog w lb b L) (hd : IsDisk w b g cap D) : lb ≠ b ∧ lb ≠ g := by
  constructor
  · rintro rfl
    obtain ⟨cv, h1, _⟩ := hd.blk
    rw [h.blk] at h1
    injection h1 with h1
    injection h1 with _ hT _
    exact absurd hT (by decide)
  · rintro rfl
    obtain ⟨cv, h1, _⟩ := hd.fs.blk
    rw [h.blk] at h1
    injection h1 with h1
    injection h1 with _ hT _
    exact absurd hT (by decide)
theorem IsLog.setN (h : IsLog w lb b L) (n : Nat) : IsLog (w.setCell ⟨lb, 4, none⟩ (.int .i64 (n : Nat))) lb b { L with n := n } := ⟨by rw [setCell_blk w lb 4 _ h.blk]; rfl⟩
theorem IsLog.setDead (h : IsLog w lb b L) (d : Bool) : IsLog (w.setCell ⟨lb, 5, none⟩ (.bool d)) lb b { L with dead := d } := ⟨by rw [setCell_blk w lb 5 _ h.blk]; rfl⟩
theorem IsLog.setGen (h : IsLog w lb b L) (n : Nat) : IsLog (w.setCell ⟨lb, 3, none⟩ (.int .i64 (n : Nat))) lb b { L with gen := n } := ⟨by rw [setCell_blk w lb 3 _ h.blk]; rfl⟩
theorem IsLog.setCounts (h : IsLog w lb b L) (n : Nat) : IsLog (w.setCell ⟨lb, 2, none⟩ (.int .i64 (n : Nat))) lb b { L with counts := n } := ⟨by rw [setCell_blk w lb 2 _ h.blk]; rfl⟩
theorem IsDisk.log (hd : IsDisk w b g cap D) (h : IsLog w lb b L) (hc : Chg (fun k => k = lb) w w') : IsDisk w' b g cap D :=
  hd.keep hc (fun e => (h.ne hd).1 e.symm) (fun e => (h.ne hd).2 e.symm) h.muts
/-! The small ones. -/
theorem stepOk (s : ByteArray) (w : World) : Calls Tryd.prog 42 #[.string s, .int .i64 0] w fun e w' => e = .returned .nilIface ∧ w' = w := by
  go_enter Tryd.func42, Tryd.ntmps42
  go_wp2_with fail
  go_ret
  exact ⟨rfl, rfl⟩
theorem isNilW (s : ByteArray) (w : World) : Calls Tryd.prog 62 #[.nilIface, .iface 103 (.string s)] w fun e w' => e = .returned (.bool false) ∧ w' = w := by
  have he : ∀ w, (binOp .eql 86 .nilIface (.iface 103 (.string s))).run Tryd.prog w = .ok (.bool false) w := fun w => by kernel_rfl
  go_enter Tryd.func62, Tryd.ntmps62
  go_wp2_with fail
  go_ret
  exact ⟨rfl, rfl⟩
theorem toldOk (lb : Nat) (w : World) : Calls Tryd.prog 44 #[.pointer (some ⟨lb, 0, none⟩), .nilIface] w fun e w' => e = .returned (.int .i64 0) ∧ w' = w := by
  go_enter Tryd.func44, Tryd.ntmps44
  go_wp2_with fail
  refine (isNilW _ _).mono ?_
  rintro e w' ⟨rfl, rfl⟩
  go_wp2_with fail
  go_ret
  exact ⟨rfl, rfl⟩
theorem recordsW (h : IsLog w lb b L) : Calls Tryd.prog 18 #[.pointer (some ⟨lb, 0, none⟩)] w fun e w' => e = .returned (.int .i64 (L.n : Nat)) ∧ w' = w := by
  have h4 := h.c4
  clear h
  go_enter Tryd.func18, Tryd.ntmps18
  go_wp2_with fail
  go_ret
  exact ⟨rfl, rfl⟩
theorem hasW (h : IsDisk w b g cap D) (f : Int) : Calls Tryd.prog 40 #[.pointer (some ⟨b, 0, none⟩), .int .i64 f] w fun e w' => e = .returned (.bool (decide (0 ≤ f ∧ f < (D.l.length : Int) - 1))) ∧ w' = w := by
  have HC := Lib.hid (countW h)
  have h1 := h.fs.len
  have h2 := h.fs.capm
  unfold maxLen at h2
  obtain ⟨m, hm⟩ : ∃ m, m = D.l.length := ⟨_, rfl⟩
  rw [← hm] at HC h1 ⊢
  clear h hm
  by_cases h0 : 0 ≤ f
  · have e1 : Hid (decide (0 ≤ f ∧ f < (m : Int) - 1) = decide (f < (m : Int) - 1)) := by unfold Hid; rw [decide_eq_decide]; omega
    go_enter Tryd.func40, Tryd.ntmps40
    go_wp2_with fail
    refine HC.out.mono ?_
    rintro e w' ⟨rfl, rfl⟩
    go_wp2_with fail
    go_ret
    exact ⟨by rw [e1.out]; rfl, rfl⟩
  · have e2 : Hid (decide (0 ≤ f) = false) := by unfold Hid; rw [decide_eq_false_iff_not]; omega
    have e1 : Hid (decide (0 ≤ f ∧ f < (m : Int) - 1) = false) := by unfold Hid; rw [decide_eq_false_iff_not]; omega
    rw [e1.out]
    go_enter Tryd.func40, Tryd.ntmps40
    go_wp2_with fail
    go_ret
    exact ⟨rfl, rfl⟩
set_option maxHeartbeats 400000 in
theorem otherW (h : IsLog w lb b L) (h1 : L.first ≤ 1048576) (h2 : L.counts ≤ 1048576) : Calls Tryd.prog 48 #[.pointer (some ⟨lb, 0, none⟩)] w fun e w' => e = .returned (.int .i64 (2 * (L.first : Int) + 1 - (L.counts : Int))) ∧ Below w.heap.size w w' := by
  have c1 : ∀ t : Grow w, t.val.cell? ⟨lb, 1, none⟩ = some (.int .i64 (L.first : Nat)) := fun t => (h.grow t).c1
  have c2 : ∀ t : Grow w, t.val.cell? ⟨lb, 2, none⟩ = some (.int .i64 (L.counts : Nat)) := fun t => (h.grow t).c2
  clear h
  go_enter Tryd.func48, Tryd.ntmps48
  go_wp2_with fail
  refine wp_region_fam (by kernel_rfl) (by kernel_rfl) Grow.val (Grow.start w) ?_
  repeat go_big_quiet_step (fail)
  refine wpQuiet_nil ?_
  intro t
  clear c1 c2
  go_wp2_with fail
  go_ret
  exact ⟨rfl, t.below⟩
/-- How long a record may be. -/
def roomZ (z n : Nat) : Int := if 262125 < z ∨ 1099511627776 ≤ n then -1 else min (262125 - (z : Int)) 16384
set_option maxHeartbeats 800000 in
theorem roomW (h : IsLog w lb b L) (hd : IsDisk w b g cap D) (hok : DOk D) (hc : L.counts < D.l.length) :
    Calls Tryd.prog 32 #[.pointer (some ⟨lb, 0, none⟩)] w fun e w' => e = .returned (.int .i64 (roomZ (rd (D.l.getD L.counts Fl.zero)).size L.n)) ∧ Below w.heap.size w w' := by
  have c0 : ∀ t : Grow w, t.val.cell? ⟨lb, 0, none⟩ = some (.pointer (some ⟨b, 0, none⟩)) := fun t => (h.grow t).c0
  have c2 : ∀ t : Grow w, t.val.cell? ⟨lb, 2, none⟩ = some (.int .i64 (L.counts : Nat)) := fun t => (h.grow t).c2
  have c4 : ∀ t : Grow w, t.val.cell? ⟨lb, 4, none⟩ = some (.int .i64 (L.n : Nat)) := fun t => (h.grow t).c4
  have HS := Lib.hid (fun t : Grow w => sizeYes (hd.below t.below) hok L.counts hc)
  have hz := hok.size L.counts hc
  obtain ⟨z, hzz⟩ : ∃ z, z = (rd (D.l.getD L.counts Fl.zero)).size := ⟨_, rfl⟩
  rw [← hzz] at HS hz ⊢
  have HN := hok.n
  clear h hd hok hzz
  go_enter Tryd.func32, Tryd.ntmps32
  go_wp2_with fail
  refine wp_region_fam (by kernel_rfl) (by kernel_rfl) Grow.val (Grow.start w) ?_
  repeat go_big_quiet_step ((with_reducible refine Calls.fam_of (HS.out _) (Grow.more _)))
  refine wpQuiet_nil ?_
  intro t
  clear c0 c2
  by_cases h1 : 262125 < z
  · have h1' : (262144 : Int) - (z : Int) - 11 - 8 < 0 := by omega
    have e1 : Hid (roomZ z L.n = -1) := by unfold Hid roomZ; rw [if_pos (.inl h1)]
    clear c4
    go_wp2_with fail
    go_ret
    exact ⟨by rw [e1.out]; rfl, t.below⟩
  · have h1' : ¬ (262144 : Int) - (z : Int) - 11 - 8 < 0 := by omega
    by_cases h2 : 1099511627776 ≤ L.n
    · have h2' : (1099511627776 : Int) ≤ (L.n : Int) := by omega
      have e1 : Hid (roomZ z L.n = -1) := by unfold Hid roomZ; rw [if_pos (.inr h2)]
      go_wp2_with fail
      go_ret
      exact ⟨by rw [e1.out]; rfl, t.below⟩
    · have h2' : ¬ (1099511627776 : Int) ≤ (L.n : Int) := by omega
      have e1 : Hid (roomZ z L.n = min (262144 - (z : Int) - 11 - 8) 16384) := by unfold Hid roomZ; rw [if_neg (by omega)]; congr 1; omega
      go_wp2_with fail
      go_ret
      exact ⟨by rw [e1.out]; rfl, t.below⟩
end
end Go.Proofs.YtamaefnlicloaaaDoor
