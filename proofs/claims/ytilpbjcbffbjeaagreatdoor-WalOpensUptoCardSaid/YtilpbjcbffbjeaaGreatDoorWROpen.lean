/- The document's Open: a dead disk, no files, the syncs, no log. -/
import Derived.Test.YtilpbjcbffbjeaaGreatDoorPkJ
import Derived.Test.YtilpbjcbffbjeaaGreatDoorWRef2
import Derived.Test.YtilpbjcbffbjeaaGreatDoorDDoes1
namespace Go.Proofs.YtilpbjcbffbjeaaGreatDoor
set_option linter.unusedVariables false
set_option maxRecDepth 100000
open Go.RowKit
section
variable {B b g cap : Nat} {w0 w w' : World} {D : Dk}
/-- The document's log in memory. -/
structure IsRLog (w : World) (lb b f c n m : Nat) : Prop where
  blk : w.heap[lb]? = some (.cells #[.pointer (some ⟨b, 0, none⟩), .int .i64 (f : Nat), .int .i64 (c : Nat), .int .i64 (n : Nat), .int .i64 (m : Nat), .bool false] 169 (0, 0))
variable {lb f c n m : Nat}
theorem IsRLog.lt (h : IsRLog w lb b f c n m) : lb < w.heap.size := (Array.getElem?_eq_some_iff.1 h.blk).1
theorem IsRLog.free (h : IsRLog w lb b f c n m) (j : Nat) : w.frozen? ⟨lb, j, none⟩ = false := frozen_of_row w lb j _ _ h.blk
theorem IsRLog.c2 (h : IsRLog w lb b f c n m) : w.cell? ⟨lb, 2, none⟩ = some (.int .i64 (c : Nat)) := by rw [cell_of_row w lb 2 _ _ _ h.blk]; rfl
theorem IsRLog.c3 (h : IsRLog w lb b f c n m) : w.cell? ⟨lb, 3, none⟩ = some (.int .i64 (n : Nat)) := by rw [cell_of_row w lb 3 _ _ _ h.blk]; rfl
theorem IsRLog.c4 (h : IsRLog w lb b f c n m) : w.cell? ⟨lb, 4, none⟩ = some (.int .i64 (m : Nat)) := by rw [cell_of_row w lb 4 _ _ _ h.blk]; rfl
theorem IsRLog.keep {S : Nat → Prop} (h : IsRLog w lb b f c n m) (hc : Chg S w w') (hn : ¬ S lb) : IsRLog w' lb b f c n m := ⟨(hc.block lb h.lt hn).trans h.blk⟩
theorem IsRLog.below (h : IsRLog w lb b f c n m) (hb : Below w.heap.size w w') : IsRLog w' lb b f c n m := ⟨(hb.block lb h.lt).trans h.blk⟩
theorem IsRLog.setC (h : IsRLog w lb b f c n m) (x : Nat) : IsRLog (w.setCell ⟨lb, 2, none⟩ (.int .i64 (x : Nat))) lb b f x n m := ⟨by rw [setCell_blk w lb 2 _ h.blk]; rfl⟩
theorem IsRLog.setG (h : IsRLog w lb b f c n m) (x : Nat) : IsRLog (w.setCell ⟨lb, 3, none⟩ (.int .i64 (x : Nat))) lb b f c x m := ⟨by rw [setCell_blk w lb 3 _ h.blk]; rfl⟩
theorem IsRLog.setN (h : IsRLog w lb b f c n m) (x : Nat) : IsRLog (w.setCell ⟨lb, 4, none⟩ (.int .i64 (x : Nat))) lb b f c n x := ⟨by rw [setCell_blk w lb 4 _ h.blk]; rfl⟩
theorem IsRLog.muts (h : IsRLog w lb b f c n m) : Muts (fun k => k = lb) w := by
  intro k _ hk cur T fr hh
  subst hk
  rw [h.blk] at hh
  injection hh with hh
  injection hh with _ hT _
  subst hT
  unfold Fix
  decide
theorem IsR.log (hd : IsR B w0 w b g cap D) (h : IsRLog w lb b f c n m) (hB : B ≤ lb) (hne : lb ≠ b) (hc : Chg (fun k => k = lb) w w') : IsR B w0 w' b g cap D :=
  hd.keep hc (fun e => hne e.symm) (fun k hk e => by omega) h.muts
/-- What the document's Open hands back. -/
def RoPost (B : Nat) (w0 w : World) (b : Nat) (D' : Dk) (r : OR) (e : Ending) (w' : World) : Prop :=
  (match r with
  | .err k => e = .returned (.tuple #[.pointer none, .string ⟨#[]⟩, .slice none 0 0, .int .i64 k])
  | .ok L snap rs => ∃ lb v, e = .returned (.tuple #[.pointer (some ⟨lb, 0, none⟩), .string (strOf snap), v, .int .i64 0]) ∧ WS w' v (rs.map strOf)) ∧
  (∃ g' cap', IsR B w0 w' b g' cap' D') ∧ Chg (fun k => k = b) w w'
theorem ropenDead (h : IsR B w0 w b g cap D) (hd : D.dead = true) (f : Int) :
    Calls Tryz.prog 79 #[.pointer (some ⟨b, 0, none⟩), .int .i64 f] w (RoPost B w0 w b D (.err 2)) := by
  obtain ⟨⟨v0, c0, hrf⟩, c1, ⟨cv, c2, hcv⟩, c3⟩ := h.cells
  have hfm := hrf.form
  subst hfm
  rw [hd] at c3
  have H := Lib.hid h
  clear h hrf hcv hd c0 c1 c2
  go_enter Tryz.func79, Tryz.ntmps79
  go_wp2_with fail
  (try simp only [Exit.inBlock, Exit.then]); refine bodyPost_ret (results_tmp4 rfl _ _ _) rfl ?_
  exact ⟨rfl, ⟨_, _, H.out⟩, Chg.refl _ _⟩
theorem ropenNo (h : IsR B w0 w b g cap D) (hd : D.dead = false) (f : Int) (hf : ¬ (0 ≤ f ∧ f < (D.l.length : Int) - 1)) :
    Calls Tryz.prog 79 #[.pointer (some ⟨b, 0, none⟩), .int .i64 f] w (RoPost B w0 w b D (.err 170)) := by
  obtain ⟨⟨v0, c0, hrf⟩, c1, ⟨cv, c2, hcv⟩, c3⟩ := h.cells
  have hfm := hrf.form
  subst hfm
  rw [hd] at c3
  have H := Lib.hid h
  have hl := hrf.len
  have hm := hrf.capm
  unfold maxLen at hm
  obtain ⟨m, hmm⟩ : ∃ m, m = D.l.length := ⟨_, rfl⟩
  rw [← hmm] at c0 hl hf
  clear h hrf hcv hd c1 c2 hmm
  by_cases h0 : f < 0
  · clear hf
    go_enter Tryz.func79, Tryz.ntmps79
    go_wp2_with fail
    (try simp only [Exit.inBlock, Exit.then]); refine bodyPost_ret (results_tmp4 rfl _ _ _) rfl ?_
    exact ⟨rfl, ⟨_, _, H.out⟩, Chg.refl _ _⟩
  · have h2 : (m : Int) - 2 < f := by omega
    clear hf
    go_enter Tryz.func79, Tryz.ntmps79
    go_wp2_with fail
    (try simp only [Exit.inBlock, Exit.then]); refine bodyPost_ret (results_tmp4 rfl _ _ _) rfl ?_
    exact ⟨rfl, ⟨_, _, H.out⟩, Chg.refl _ _⟩
set_option maxHeartbeats 800000 in
theorem ropenSync1 (h : IsR B w0 w b g cap D) (hok : DOk D) (f : Nat) (al : D.dead = false) (hf : f + 1 < D.l.length) (D1 : Dk) (e1 : D.syncX (f : Nat) = (D1, 2)) (k1 : DOk D1) :
    Calls Tryz.prog 79 #[.pointer (some ⟨b, 0, none⟩), .int .i64 (f : Nat)] w (RoPost B w0 w b D1 (.err 2)) := by
  obtain ⟨⟨v0, c0, hrf⟩, c1, ⟨cv, c2, hcv⟩, c3⟩ := h.cells
  have hfm := hrf.form
  subst hfm
  rw [al] at c3
  have hl := hrf.len
  have hm := hrf.capm
  unfold maxLen at hm
  obtain ⟨m, hmm⟩ : ∃ m, m = D.l.length := ⟨_, rfl⟩
  rw [← hmm] at c0 hl hf
  have h2 : ¬ (m : Int) - 2 < (f : Int) := by omega
  have h0 : ¬ (f : Int) < 0 := by omega
  have HN : Hid (D.l.length ≤ 32) := hok.n
  have hfi : (f : Int) ≤ 31 := by have := HN.out; omega
  have H1 := Lib.hid (rsyncA h hok (f : Nat))
  rw [e1] at H1
  have H2 := Lib.hid (fun (w1 : World) (g' cap' : Nat) (h : IsR B w0 w1 b g' cap' D1) => rsyncA h k1 ((f : Int) + 1))
  clear h hrf hcv al c1 c2 hmm hok e1 k1 hf
  go_enter Tryz.func79, Tryz.ntmps79
  go_wp2_with fail
  refine H1.out.mono ?_
  rintro e w1 ⟨rfl, ⟨g1, cap1, hr1⟩, hc1⟩
  have HR1 := Lib.hid hr1
  have HC1 := Lib.hid hc1
  clear hr1 hc1 c0 c3
  go_wp2_with fail
  (try simp only [Exit.inBlock, Exit.then]); refine bodyPost_ret (results_tmp4 rfl _ _ _) rfl ?_
  exact ⟨rfl, ⟨_, _, HR1.out⟩, HC1.out⟩
set_option maxHeartbeats 800000 in
theorem ropenSync2 (h : IsR B w0 w b g cap D) (hok : DOk D) (f : Nat) (al : D.dead = false) (hf : f + 1 < D.l.length) (D1 : Dk) (e1 : D.syncX (f : Nat) = (D1, 0)) (k1 : DOk D1) (D2 : Dk) (e2 : D1.syncX ((f : Int) + 1) = (D2, 2)) :
    Calls Tryz.prog 79 #[.pointer (some ⟨b, 0, none⟩), .int .i64 (f : Nat)] w (RoPost B w0 w b D2 (.err 2)) := by
  obtain ⟨⟨v0, c0, hrf⟩, c1, ⟨cv, c2, hcv⟩, c3⟩ := h.cells
  have hfm := hrf.form
  subst hfm
  rw [al] at c3
  have hl := hrf.len
  have hm := hrf.capm
  unfold maxLen at hm
  obtain ⟨m, hmm⟩ : ∃ m, m = D.l.length := ⟨_, rfl⟩
  rw [← hmm] at c0 hl hf
  have h2 : ¬ (m : Int) - 2 < (f : Int) := by omega
  have h0 : ¬ (f : Int) < 0 := by omega
  have HN : Hid (D.l.length ≤ 32) := hok.n
  have hfi : (f : Int) ≤ 31 := by have := HN.out; omega
  have H1 := Lib.hid (rsyncA h hok (f : Nat))
  rw [e1] at H1
  have H2 := Lib.hid (fun (w1 : World) (g' cap' : Nat) (h : IsR B w0 w1 b g' cap' D1) => rsyncA h k1 ((f : Int) + 1))
  rw [e2] at H2
  clear h hrf hcv al c1 c2 hmm hok e1 k1 e2 hf
  go_enter Tryz.func79, Tryz.ntmps79
  go_wp2_with fail
  refine H1.out.mono ?_
  rintro e w1 ⟨rfl, ⟨g1, cap1, hr1⟩, hc1⟩
  have HR1 := Lib.hid hr1
  have HC1 := Lib.hid hc1
  clear hr1 hc1 c0 c3
  go_wp2_with fail
  refine (H2.out _ _ _ HR1.out).mono ?_
  rintro e w2 ⟨rfl, ⟨g2, cap2, hr2⟩, hc2⟩
  have HR2 := Lib.hid hr2
  have HC2 := Lib.hid (HC1.out.trans hc2)
  clear hr2 hc2
  go_wp2_with fail
  (try simp only [Exit.inBlock, Exit.then]); refine bodyPost_ret (results_tmp4 rfl _ _ _) rfl ?_
  exact ⟨rfl, ⟨_, _, HR2.out⟩, HC2.out⟩
end
end Go.Proofs.YtilpbjcbffbjeaaGreatDoor
