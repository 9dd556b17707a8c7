/- Walks of the program's disk: Sync, Cut, Read; each call whole. -/
import Derived.Test.YtamaefnlicloaaaDoorDWalk4
namespace Go.Proofs.YtamaefnlicloaaaDoor
open Go.RowKit
def Dk.setf (D : Dk) (f : Nat) (x : Fl) : Dk := ⟨D.l.set f x, D.armed, D.ch, D.dead⟩
def Dk.sync (D : Dk) (f : Nat) : Dk × Int := if D.armed = 1 then (D.tick.died D.ch, 2) else (D.tick.setf f ⟨rd (D.l.getD f Fl.zero), []⟩, 0)
def Dk.cut (D : Dk) (f : Nat) (n : Nat) : Dk × Int := if D.armed = 1 then (D.tick.died D.ch, 2) else (D.tick.setf f ⟨(D.l.getD f Fl.zero).safe.extract 0 n, (D.l.getD f Fl.zero).ws⟩, 0)
set_option maxRecDepth 100000 in
set_option maxHeartbeats 1600000 in
theorem syncW {b g cap : Nat} {D : Dk} {w : World} (h : IsDisk w b g cap D) (hok : DOk D) (hd : D.dead = false) (f : Nat) (hf : f < D.l.length) :
    Calls Tryd.prog 43 #[.pointer (some ⟨b, 0, none⟩), .int .i64 (f : Nat)] w fun e w' => e = .returned (.int .i64 (D.sync f).2) ∧ IsDisk w' b g cap (D.sync f).1 ∧ Chg (fun k => k = b ∨ k = g) w w' := by
  have HR := Lib.hid (refRead h hd f hf 0)
  have HG := Lib.hid (goesW h hok.armed)
  have HOK := Lib.hid hok
  have hh2 := h.fs.len
  have hh3 := h.fs.capm
  unfold maxLen at hh3
  clear h hok hd
  go_enter Tryd.func43, Tryd.ntmps43
  go_wp2_with fail
  refine HR.out.mono ?_
  rintro e w' ⟨rfl, rfl⟩
  go_wp2_with fail
  refine HG.out.mono ?_
  rintro e w1 ⟨rfl, hid, hc⟩
  have HC1 := Lib.hid (hc.mono (S' := fun k => k = b ∨ k = g) (fun k _ h => .inl h))
  have HID := Lib.hid hid
  clear hid hc HG HR
  by_cases ha : D.armed = 1
  · have HW : Hid (D.sync f = (D.tick.died D.ch, 2)) := by unfold Hid Dk.sync; rw [if_pos ha]
    have hd : decide (D.armed = 1) = true := decide_eq_true ha
    rw [hd]
    obtain ⟨cv, c2, hcv⟩ := HID.out.cells.2.2.1
    have HD := Lib.hid (diesW HID.out HOK.out.tick cv D.ch hcv.rss HOK.out.chl)
    obtain ⟨q, qc, rfl, _⟩ := hcv.rss
    clear hd hcv ha
    go_wp2_with fail
    refine HD.out.mono ?_
    rintro e w8 ⟨rfl, hid8, hc8⟩
    have H8 := Lib.hid (And.intro hid8 (HC1.out.trans hc8))
    clear hid8 hc8 HID c2 HD
    go_wp2_with fail
    go_ret
    rw [HW.out]
    exact ⟨rfl, H8.out⟩
  · have HW : Hid (D.sync f = (D.tick.setf f ⟨rd (D.l.getD f Fl.zero), []⟩, 0)) := by unfold Hid Dk.sync; rw [if_neg ha]
    have hd : decide (D.armed = 1) = false := decide_eq_false ha
    rw [hd]
    have c0 : ∀ t : Grow w1, t.val.cell? ⟨b, 0, none⟩ = some (.slice (some ⟨g, 0, none⟩) D.l.length cap) := fun t => t.cell HID.out.cells.1
    have hsz := HOK.out.size f hf
    have hmn := HOK.out.many f hf
    have h1 := HID.out.fs.safe f hf
    obtain ⟨v, h2, hws⟩ := HID.out.fs.ws f hf
    obtain ⟨x, hx⟩ : ∃ x, x = D.l.getD f Fl.zero := ⟨_, rfl⟩
    have hx2 : x = D.tick.l.getD f Fl.zero := hx
    rw [← hx] at hsz hmn HW
    rw [← hx2] at h1 hws
    obtain ⟨p, c, rfl, _⟩ := hws.form
    have C1 : Hid (∀ t : Grow w1, Calls Tryd.prog 50 #[.agg #[.string x.safe, .slice p x.ws.length c]] t.val fun e w' => e = .returned (.string (rd x)) ∧ Below t.val.heap.size t.val w') := fun t => readW x _ t.val (hws.below t.below) (by omega) (by omega)
    obtain ⟨m, hm⟩ : ∃ m, m = x.ws.length := ⟨_, rfl⟩
    rw [← hm] at h2 C1
    have c1 : ∀ t : Grow w1, t.val.cell? ⟨g, f * 2, none⟩ = some (.string x.safe) := fun t => t.cell h1
    have c2 : ∀ t : Grow w1, t.val.cell? ⟨g, f * 2 + 1, none⟩ = some (.slice p m c) := fun t => t.cell h2
    have i1 : (0 : Int) ≤ (f : Int) := by omega
    have i2 : (f : Int) < (D.l.length : Int) := by omega
    clear hd ha hsz hmn h1 hws hx hx2 hm h2
    go_wp2_with fail
    refine wp_region_fam_tail 15 (by kernel_rfl) (by kernel_rfl) Grow.val (Grow.start w1) ?_
    simp only [List.take_succ_cons, List.take_zero, List.drop_succ_cons, List.drop_zero]
    repeat go_big_quiet_step ((with_reducible refine Calls.fam_of (C1.out _) (Grow.more _)))
    refine wpQuiet_nil ?_
    intro t
    have hid5 := HID.out.below t.below
    have k1 := c1 t
    have k2 := c2 t
    have f1 := hid5.fs.free (f * 2)
    have f2 := hid5.fs.free (f * 2 + 1)
    have hid6 := hid5.files (l' := D.tick.l.set f ⟨rd x, []⟩) ((Chg.setCell (fun k => k = g) t.val (j := f * 2) rfl (.string (rd x))).trans (Chg.setCell (fun k => k = g) _ (j := f * 2 + 1) rfl (.slice none 0 0))) (hid5.fs.setBoth (f := f) hf (rd x)) (by rw [List.length_set])
    have HID6 := Lib.hid hid6
    have HC6 := Lib.hid (HC1.out.trans ((Chg.of_below (fun k => k = b ∨ k = g) t.below).trans ((Chg.setCell (fun k => k = b ∨ k = g) t.val (j := f * 2) (.inr rfl) (.string (rd x))).trans (Chg.setCell (fun k => k = b ∨ k = g) _ (j := f * 2 + 1) (.inr rfl) (.slice none 0 0)))))
    clear c0 c1 c2 C1 hid5 hid6
    go_wp2_with fail
    go_ret
    rw [HW.out]
    exact ⟨rfl, HID6.out, HC6.out⟩
set_option maxRecDepth 100000 in
set_option maxHeartbeats 1600000 in
theorem cutW {b g cap : Nat} {D : Dk} {w : World} (h : IsDisk w b g cap D) (hok : DOk D) (hd : D.dead = false) (f : Nat) (hf : f < D.l.length) (n : Nat) (hw0 : (D.l.getD f Fl.zero).ws.length = 0) (hn : n ≤ (D.l.getD f Fl.zero).safe.size) :
    Calls Tryd.prog 47 #[.pointer (some ⟨b, 0, none⟩), .int .i64 (f : Nat), .int .i64 (n : Nat)] w fun e w' => e = .returned (.int .i64 (D.cut f n).2) ∧ IsDisk w' b g cap (D.cut f n).1 ∧ Chg (fun k => k = b ∨ k = g) w w' := by
  have HR := Lib.hid (refCut h hok hd f hf n hw0 (by omega) (by omega))
  have HI := Lib.hid h
  have HOK := Lib.hid hok
  have hh2 := h.fs.len
  have hh3 := h.fs.capm
  unfold maxLen at hh3
  clear h hok hd
  go_enter Tryd.func47, Tryd.ntmps47
  go_wp2_with fail
  refine HR.out.mono ?_
  rintro e w0 ⟨rfl, hb0⟩
  have HG := Lib.hid (goesW (HI.out.below hb0) HOK.out.armed)
  have HC0 := Lib.hid (Chg.of_below (fun k => k = b ∨ k = g) hb0)
  clear hb0 HI HR
  go_wp2_with fail
  refine HG.out.mono ?_
  rintro e w1 ⟨rfl, hid, hc⟩
  have HC1 := Lib.hid (HC0.out.trans (hc.mono (S' := fun k => k = b ∨ k = g) (fun k _ h => .inl h)))
  have HID := Lib.hid hid
  clear hid hc HG HC0
  by_cases ha : D.armed = 1
  · have HW : Hid (D.cut f n = (D.tick.died D.ch, 2)) := by unfold Hid Dk.cut; rw [if_pos ha]
    have hd : decide (D.armed = 1) = true := decide_eq_true ha
    rw [hd]
    obtain ⟨cv, c2, hcv⟩ := HID.out.cells.2.2.1
    have HD := Lib.hid (diesW HID.out HOK.out.tick cv D.ch hcv.rss HOK.out.chl)
    obtain ⟨q, qc, rfl, _⟩ := hcv.rss
    clear hd hcv ha hw0
    go_wp2_with fail
    refine HD.out.mono ?_
    rintro e w8 ⟨rfl, hid8, hc8⟩
    have H8 := Lib.hid (And.intro hid8 (HC1.out.trans hc8))
    clear hid8 hc8 HID c2 HD
    go_wp2_with fail
    go_ret
    rw [HW.out]
    exact ⟨rfl, H8.out⟩
  · have HW : Hid (D.cut f n = (D.tick.setf f ⟨(D.l.getD f Fl.zero).safe.extract 0 n, (D.l.getD f Fl.zero).ws⟩, 0)) := by unfold Hid Dk.cut; rw [if_neg ha]
    have hd : decide (D.armed = 1) = false := decide_eq_false ha
    rw [hd]
    have c0 : ∀ t : Grow w1, t.val.cell? ⟨b, 0, none⟩ = some (.slice (some ⟨g, 0, none⟩) D.l.length cap) := fun t => t.cell HID.out.cells.1
    have hsz := HOK.out.size f hf
    rw [size_rd] at hsz
    have h1 := HID.out.fs.safe f hf
    obtain ⟨x, hx⟩ : ∃ x, x = D.l.getD f Fl.zero := ⟨_, rfl⟩
    have hx2 : x = D.tick.l.getD f Fl.zero := hx
    rw [← hx] at hsz HW hn
    rw [← hx2] at h1
    have c1 : ∀ t : Grow w1, t.val.cell? ⟨g, f * 2, none⟩ = some (.string x.safe) := fun t => t.cell h1
    have i1 : (0 : Int) ≤ (f : Int) := by omega
    have i2 : (f : Int) < (D.l.length : Int) := by omega
    have i3 : (0 : Int) ≤ (n : Int) := by omega
    have i4 : (n : Int) ≤ (x.safe.size : Int) := by omega
    have HX2 := Lib.hid hx2
    clear hd ha hsz h1 hx hx2 hw0
    go_wp2_with fail
    refine wp_region_fam_tail 17 (by kernel_rfl) (by kernel_rfl) Grow.val (Grow.start w1) ?_
    simp only [List.take_succ_cons, List.take_zero, List.drop_succ_cons, List.drop_zero]
    repeat go_big_quiet_step (fail)
    refine wpQuiet_nil ?_
    intro t
    have hid5 := HID.out.below t.below
    have k1 := c1 t
    have f1 := hid5.fs.free (f * 2)
    have hid6 := hid5.files (l' := D.tick.l.set f ⟨x.safe.extract 0 n, (D.tick.l.getD f Fl.zero).ws⟩) (Chg.setCell (fun k => k = g) t.val (j := f * 2) rfl (.string (x.safe.extract 0 n))) (hid5.fs.setSafe (f := f) hf (x.safe.extract 0 n)) (by rw [List.length_set])
    rw [← HX2.out] at hid6
    have HID6 := Lib.hid hid6
    have HC6 := Lib.hid (HC1.out.trans ((Chg.of_below (fun k => k = b ∨ k = g) t.below).trans (Chg.setCell (fun k => k = b ∨ k = g) t.val (j := f * 2) (.inr rfl) (.string (x.safe.extract 0 n)))))
    clear c0 c1 hid5 hid6 i3 i4
    go_wp2_with fail
    go_ret
    rw [HW.out]
    exact ⟨rfl, HID6.out, HC6.out⟩
end Go.Proofs.YtamaefnlicloaaaDoor
