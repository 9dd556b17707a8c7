/- The document's disk: the other calls, and all of them whole. -/
import Derived.Test.YtilpbjcbffbjeaaGreatDoorDRef9
namespace Go.Proofs.YtilpbjcbffbjeaaGreatDoor
set_option linter.unusedVariables false
set_option maxRecDepth 100000
open Go.RowKit
section
variable {B : Nat} {w0 w : World} {b g cap : Nat} {D : Dk}
theorem RPost.same (h : IsR B w0 w b g cap D) (r : Int) {e : Ending} {w' : World} (h1 : e = .returned (.int .i64 r)) (h2 : Below w.heap.size w w') : RPost B w0 w b (D, r) e w' := ⟨h1, ⟨g, cap, h.grow h2⟩, Chg.of_below _ h2⟩
/-- Behind goes: the power goes, or it does not. -/
theorem IsR.out_no (h : IsR B w0 w b g cap D) (f : Nat) (hf : f < D.l.length) : Calls Tryz.prog 127 #[.pointer (some ⟨b, 0, none⟩), .int .i64 (f : Nat)] w fun e w' => e = .returned (.bool true) ∧ w = w' := by
  have HI := risW h (f : Nat)
  have e : D.out (f : Nat) = false := by unfold Dk.out; rw [decide_eq_false_iff_not]; omega
  rw [e] at HI
  exact HI
theorem IsR.out_yes (h : IsR B w0 w b g cap D) (f : Int) (hf : D.out f = true) : Calls Tryz.prog 127 #[.pointer (some ⟨b, 0, none⟩), .int .i64 f] w fun e w' => e = .returned (.bool false) ∧ w = w' := by
  have HI := risW h f
  rw [hf] at HI
  exact HI
set_option maxRecDepth 100000 in
set_option maxHeartbeats 800000 in
theorem rsyncW (h : IsR B w0 w b g cap D) (hok : DOk D) (hd : D.dead = false) (f : Nat) (hf : f < D.l.length) :
    Calls Tryz.prog 106 #[.pointer (some ⟨b, 0, none⟩), .int .i64 (f : Nat)] w (RPost B w0 w b (D.sync f)) := by
  have HI := Lib.hid (h.out_no f hf)
  have c3 := h.cells.2.2.2
  rw [hd] at c3
  have HG := Lib.hid (rgoesW h hok.armed)
  have HOK := Lib.hid hok
  have H := Lib.hid h
  clear h hd hok
  go_enter Tryz.func106, Tryz.ntmps106
  go_wp2_with fail
  refine HI.out.mono ?_
  rintro e w1 ⟨rfl, rfl⟩
  go_wp2_with fail
  refine HG.out.mono ?_
  rintro e w1 ⟨rfl, hid1, hc1⟩
  have HID1 := Lib.hid hid1
  have HC1 := Lib.hid hc1
  clear hid1 hc1 HG HI c3
  by_cases ha : D.armed = 1
  · have HW : Hid (D.sync f = (D.tick.died D.ch, 2)) := by unfold Hid Dk.sync; rw [if_pos ha]
    have hdd : decide (D.armed = 1) = true := decide_eq_true ha
    rw [hdd]
    obtain ⟨cv, c2, hcv⟩ := HID1.out.chs
    have HD := Lib.hid (rdieW HID1.out HOK.out.tick cv D.ch hcv HOK.out.chl)
    obtain ⟨q, qc, rfl, _⟩ := hcv
    clear hdd ha
    go_wp2_with fail
    refine HD.out.mono ?_
    rintro e w2 ⟨rfl, hid2, hc2⟩
    have H2 := Lib.hid (And.intro hid2 (HC1.out.trans hc2))
    clear hid2 hc2 HC1 HID1 c2 HD
    go_wp2_with fail
    go_ret
    unfold RPost
    rw [HW.out]
    exact ⟨rfl, H2.out⟩
  · have HW : Hid (D.sync f = (D.tick.setf f ⟨rd (D.l.getD f Fl.zero), []⟩, 0)) := by unfold Hid Dk.sync; rw [if_neg ha]
    have hdd : decide (D.armed = 1) = false := decide_eq_false ha
    rw [hdd]
    obtain ⟨v0, c00, hrf⟩ := HID1.out.cells.1
    have hfm := hrf.form
    subst hfm
    have h2 := hrf.len
    have h3 := hrf.capm
    unfold maxLen at h3
    have c1 := hrf.safe f hf
    obtain ⟨u, c2, hws⟩ := hrf.ws f hf
    have htl : D.tick.l = D.l := rfl
    simp only [htl] at c00 h2 c1 c2 hws
    have hsz := HOK.out.size f hf
    have hmn := HOK.out.many f hf
    obtain ⟨x, hx⟩ : ∃ x, x = D.l.getD f Fl.zero := ⟨_, rfl⟩
    rw [← hx] at c1 hws hsz hmn
    obtain ⟨p, c, rfl, _⟩ := hws.form
    have HWH := Lib.hid (rwholeW x (.slice p x.ws.length c) w1 hws (by omega) (by omega))
    have HX := Lib.hid hx
    have hn := HOK.out.n
    have i1 : (0 : Int) ≤ (f : Int) := by omega
    have i2 : (f : Int) < (D.l.length : Int) := by omega
    clear hdd ha hrf hws hx htl hmn
    go_wp2_with fail
    refine HWH.out.mono ?_
    rintro e w2 ⟨rfl, hb2⟩
    have HS := Lib.hid (rsetW (HID1.out.grow hb2) hn f hf ⟨rd x, []⟩ (.slice none 0 0) (WS.nil _))
    have HC2 := Lib.hid (HC1.out.trans (Chg.of_below _ hb2))
    clear hb2 c00 c1 c2
    go_wp2_with fail
    refine HS.out.mono ?_
    rintro e w3 ⟨rfl, hid3, hc3⟩
    have H3 := Lib.hid (And.intro hid3 (HC2.out.trans hc3))
    clear hid3 hc3
    go_wp2_with fail
    go_ret
    unfold RPost
    rw [HW.out, ← HX.out]
    exact ⟨rfl, H3.out⟩
set_option maxRecDepth 100000 in
set_option maxHeartbeats 800000 in
theorem rcutW (h : IsR B w0 w b g cap D) (hok : DOk D) (hd : D.dead = false) (f : Nat) (hf : f < D.l.length) (n : Nat) (hw0 : (D.l.getD f Fl.zero).ws.length = 0) (hn : n ≤ (D.l.getD f Fl.zero).safe.size) :
    Calls Tryz.prog 108 #[.pointer (some ⟨b, 0, none⟩), .int .i64 (f : Nat), .int .i64 (n : Nat)] w (RPost B w0 w b (D.cut f n)) := by
  have HI := Lib.hid (h.out_no f hf)
  have c3 := h.cells.2.2.2
  rw [hd] at c3
  have HG := Lib.hid (rgoesW h hok.armed)
  have HOK := Lib.hid hok
  have H := Lib.hid h
  obtain ⟨v0, c00, hrf⟩ := h.cells.1
  have hfm := hrf.form
  subst hfm
  have h2 := hrf.len
  have h3 := hrf.capm
  unfold maxLen at h3
  have c1 := hrf.safe f hf
  obtain ⟨u, c2, hws⟩ := hrf.ws f hf
  obtain ⟨x, hx⟩ : ∃ x, x = D.l.getD f Fl.zero := ⟨_, rfl⟩
  rw [← hx] at c1 hws hw0 hn
  have hx0 : x.ws = [] := List.eq_nil_of_length_eq_zero hw0
  obtain ⟨p, c, rfl, _⟩ := hws.form
  rw [hw0] at c2
  obtain ⟨S0, hS0⟩ : ∃ s, s = x.safe := ⟨_, rfl⟩
  rw [← hS0] at c1 hn
  have HX := Lib.hid hx
  have HX0 := Lib.hid hx0
  have HS0 := Lib.hid hS0
  have i1 : (0 : Int) ≤ (f : Int) := by omega
  have i2 : (f : Int) < (D.l.length : Int) := by omega
  have i3 : ¬ (S0.size : Int) < (n : Int) := by omega
  have i4 : (n : Int) ≤ (S0.size : Int) := by omega
  have i5 : ¬ (n : Int) < 0 := by omega
  have hnn := hok.n
  clear h hd hok hrf hws hx hx0 hS0 hw0
  go_enter Tryz.func108, Tryz.ntmps108
  go_wp2_with fail
  refine HI.out.mono ?_
  rintro e w1 ⟨rfl, rfl⟩
  go_wp2_with fail
  refine HG.out.mono ?_
  rintro e w1 ⟨rfl, hid1, hc1⟩
  have HID1 := Lib.hid hid1
  have HC1 := Lib.hid hc1
  clear hid1 hc1 HG HI c3 c00 c1 c2
  by_cases ha : D.armed = 1
  · have HW : Hid (D.cut f n = (D.tick.died D.ch, 2)) := by unfold Hid Dk.cut; rw [if_pos ha]
    have hdd : decide (D.armed = 1) = true := decide_eq_true ha
    rw [hdd]
    obtain ⟨cv, c2, hcv⟩ := HID1.out.chs
    have HD := Lib.hid (rdieW HID1.out HOK.out.tick cv D.ch hcv HOK.out.chl)
    obtain ⟨q, qc, rfl, _⟩ := hcv
    clear hdd ha
    go_wp2_with fail
    refine HD.out.mono ?_
    rintro e w2 ⟨rfl, hid2, hc2⟩
    have H2 := Lib.hid (And.intro hid2 (HC1.out.trans hc2))
    clear hid2 hc2 HC1 HID1 c2 HD
    go_wp2_with fail
    go_ret
    unfold RPost
    rw [HW.out]
    exact ⟨rfl, H2.out⟩
  · have HW : Hid (D.cut f n = (D.tick.setf f ⟨(D.l.getD f Fl.zero).safe.extract 0 n, (D.l.getD f Fl.zero).ws⟩, 0)) := by unfold Hid Dk.cut; rw [if_neg ha]
    have hdd : decide (D.armed = 1) = false := decide_eq_false ha
    rw [hdd]
    obtain ⟨v0, c00, hrf⟩ := HID1.out.cells.1
    have hfm := hrf.form
    subst hfm
    have h2 := hrf.len
    have h3 := hrf.capm
    unfold maxLen at h3
    have c1 := hrf.safe f hf
    have htl : D.tick.l = D.l := rfl
    simp only [htl] at c00 h2 c1
    rw [← HX.out, ← HS0.out] at c1
    have HS := Lib.hid (rsetW HID1.out hnn f hf ⟨S0.extract 0 n, []⟩ (.slice none 0 0) (WS.nil _))
    clear hdd ha hrf htl
    go_wp2_with fail
    refine HS.out.mono ?_
    rintro e w3 ⟨rfl, hid3, hc3⟩
    have H3 := Lib.hid (And.intro hid3 (HC1.out.trans hc3))
    clear hid3 hc3 c00 c1
    go_wp2_with fail
    go_ret
    unfold RPost
    rw [HW.out, ← HX.out, HX0.out, ← HS0.out]
    exact ⟨rfl, H3.out⟩
end
end Go.Proofs.YtilpbjcbffbjeaaGreatDoor
