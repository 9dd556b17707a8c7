/- The log's New. -/
import Derived.Test.YtamaefnlicloaaaDoorWLog2
namespace Go.Proofs.YtamaefnlicloaaaDoor
set_option linter.unusedVariables false
set_option maxRecDepth 100000
open Go.RowKit
section
variable {S : Nat → Prop} {w w' : World} {lb b g cap : Nat} {L : Lg} {D : Dk}
set_option maxHeartbeats 800000 in
theorem newLForm (hd : IsDisk w b g cap D) (hok : DOk D) (f : Nat) (s : ByteArray) (hdd : D.dead = false) (hf : f + 1 < D.l.length) (hz : 0 < (rd (D.l.getD f Fl.zero)).size) :
    Calls Tryd.prog 14 #[.pointer (some ⟨b, 0, none⟩), .int .i64 (f : Nat), .string s] w fun e w' => e = .returned (.tuple #[.pointer none, .int .i64 170]) ∧ Below w.heap.size w w' := by
  have H1 := Lib.hid (deadW hd)
  have H2 := Lib.hid (hasW hd (f : Nat))
  have H3 := Lib.hid (sizeYes hd hok f (by omega))
  rw [decide_eq_true (show (0 : Int) ≤ (f : Int) ∧ (f : Int) < (D.l.length : Int) - 1 by omega)] at H2
  rw [hdd] at H1
  obtain ⟨z, hz'⟩ : ∃ z, z = (rd (D.l.getD f Fl.zero)).size := ⟨_, rfl⟩
  rw [← hz'] at H3 hz
  have hz2 : (0 : Int) < (z : Int) := by omega
  clear hd hok hdd hf hz'
  go_enter Tryd.func14, Tryd.ntmps14
  go_wp2_with fail
  refine H1.out.mono ?_
  rintro e w1 ⟨rfl, rfl⟩
  go_wp2_with fail
  refine H2.out.mono ?_
  rintro e w1 ⟨rfl, rfl⟩
  go_wp2_with fail
  refine H3.out.mono ?_
  rintro e w1 ⟨rfl, hb⟩
  go_wp2_with fail
  go_ret2
  exact ⟨rfl, hb⟩
set_option maxHeartbeats 800000 in
theorem newLLong (hd : IsDisk w b g cap D) (hok : DOk D) (f : Nat) (s : ByteArray) (hdd : D.dead = false) (hf : f + 1 < D.l.length) (hz : (rd (D.l.getD f Fl.zero)).size = 0) (hz1 : (rd (D.l.getD (f + 1) Fl.zero)).size = 0) (hs : 16384 < s.size) :
    Calls Tryd.prog 14 #[.pointer (some ⟨b, 0, none⟩), .int .i64 (f : Nat), .string s] w fun e w' => e = .returned (.tuple #[.pointer none, .int .i64 171]) ∧ Below w.heap.size w w' := by
  have H1 := Lib.hid (deadW hd)
  have H2 := Lib.hid (hasW hd (f : Nat))
  have H3 := Lib.hid (sizeYes hd hok f (by omega))
  have H4 := Lib.hid (fun (w1 : World) (hb : Below w.heap.size w w1) => sizeYes (hd.below hb) hok (f + 1) hf)
  rw [decide_eq_true (show (0 : Int) ≤ (f : Int) ∧ (f : Int) < (D.l.length : Int) - 1 by omega)] at H2
  rw [hdd] at H1
  rw [hz] at H3
  rw [hz1] at H4
  have hn := hok.n
  clear hd hok hdd hz hz1
  go_enter Tryd.func14, Tryd.ntmps14
  go_wp2_with fail
  refine H1.out.mono ?_
  rintro e w1 ⟨rfl, rfl⟩
  go_wp2_with fail
  refine H2.out.mono ?_
  rintro e w1 ⟨rfl, rfl⟩
  go_wp2_with fail
  refine H3.out.mono ?_
  rintro e w1 ⟨rfl, hb⟩
  have HB := Lib.hid hb
  clear hb
  go_wp2_with fail
  refine (H4.out _ HB.out).mono ?_
  rintro e w2 ⟨rfl, hb⟩
  replace HB := Lib.hid (HB.out.trans (hb.mono HB.out.size))
  clear hb
  go_wp2_with fail
  go_ret2
  exact ⟨rfl, HB.out⟩
set_option maxHeartbeats 1600000 in
theorem newLOk (hd : IsDisk w b g cap D) (hok : DOk D) (f : Nat) (s : ByteArray) (hdd : D.dead = false) (hf : f + 1 < D.l.length) (hz : (rd (D.l.getD f Fl.zero)).size = 0) (hz1 : (rd (D.l.getD (f + 1) Fl.zero)).size = 0) (hs : s.size ≤ 16384)
    (hm : ∀ f, f < D.l.length → (D.l.getD f Fl.zero).ws.length < 1099511627776) (D1 : Dk) (hr : D.writeX (f : Nat) (recS 1 s) = (D1, 0)) (hok1 : DOk D1) (D2 : Dk) (hr2 : D1.syncX (f : Nat) = (D2, 0)) :
    Calls Tryd.prog 14 #[.pointer (some ⟨b, 0, none⟩), .int .i64 (f : Nat), .string s] w fun e w' => ∃ lb, e = .returned (.tuple #[.pointer (some ⟨lb, 0, none⟩), .int .i64 0]) ∧ w.heap.size ≤ lb ∧ IsLog w' lb b ⟨f, f, 1, 0, false⟩ ∧ IsDisk w' b g cap D2 ∧ Chg (fun k => k = b ∨ k = g) w w' := by
  have H1 := Lib.hid (deadW hd)
  have H2 := Lib.hid (hasW hd (f : Nat))
  have H3 := Lib.hid (sizeYes hd hok f (by omega))
  have H4 := Lib.hid (fun (w1 : World) (hb : Below w.heap.size w w1) => sizeYes (hd.below hb) hok (f + 1) hf)
  have H5 := Lib.hid (fun (w1 : World) (lb : Nat) (hb : Below w.heap.size w w1) (hl : IsLog w1 lb b ⟨f, f, 1, 0, false⟩) => writeLOk hl (hd.below hb) hok f 1 s (by decide) (by decide) hs hm (by rw [hr]))
  rw [hr] at H5
  have H6 := Lib.hid (fun (w1 : World) (h : IsDisk w1 b g cap D1) => syncA h hok1 (f : Nat))
  rw [hr2] at H6
  rw [decide_eq_true (show (0 : Int) ≤ (f : Int) ∧ (f : Int) < (D.l.length : Int) - 1 by omega)] at H2
  rw [hdd] at H1
  rw [hz] at H3
  rw [hz1] at H4
  have hn := hok.n
  have HD0 := Lib.hid hd
  clear hd hok hdd hz hz1 hm hr hok1 hr2
  go_enter Tryd.func14, Tryd.ntmps14
  go_wp2_with fail
  refine H1.out.mono ?_
  rintro e w1 ⟨rfl, hw⟩
  subst hw
  go_wp2_with fail
  refine H2.out.mono ?_
  rintro e w1 ⟨rfl, hw⟩
  replace hw := hw.symm
  subst hw
  go_wp2_with fail
  refine H3.out.mono ?_
  rintro e w1 ⟨rfl, hb⟩
  have HB := Lib.hid hb
  clear hb
  go_wp2_with fail
  refine (H4.out _ HB.out).mono ?_
  rintro e w2 ⟨rfl, hb⟩
  replace HB := Lib.hid (HB.out.trans (hb.mono HB.out.size))
  clear hb
  go_wp2_with fail
  obtain ⟨W, hW⟩ : ∃ W, W = w2.alloc (.cells (Lg.cells ⟨f, f, 1, 0, false⟩ b) 84) := ⟨_, rfl⟩
  obtain ⟨lb, hlb⟩ : ∃ lb, lb = w2.heap.size := ⟨_, rfl⟩
  have hlog : IsLog W lb b ⟨f, f, 1, 0, false⟩ := ⟨by rw [hW, hlb]; exact heap_at rfl⟩
  have hbW : Below w.heap.size w W := by rw [hW]; exact HB.out.alloc HB.out.size _
  have HLE : Hid (w.heap.size ≤ lb) := by unfold Hid; rw [hlb]; exact HB.out.size
  have HNE := Lib.hid (hlog.ne (HD0.out.below hbW))
  change Calls _ _ #[.pointer (some ⟨w2.heap.size, 0, none⟩), .int .i64 (f : Nat), .int .i64 1, .string s] (w2.alloc (.cells (Lg.cells ⟨f, f, 1, 0, false⟩ b) 84)) _
  rw [← hW, ← hlb]
  have HLOG := Lib.hid hlog
  have HBW := Lib.hid hbW
  have HLB := Lib.hid hlb
  clear hlog hbW hlb hW
  refine (H5.out W lb HBW.out HLOG.out).mono ?_
  rintro e w3 ⟨rfl, hd3, hc3⟩
  have HD3 := Lib.hid hd3
  have HC3 := Lib.hid hc3
  clear hd3 hc3
  go_wp2_with fail
  refine (H6.out _ HD3.out).mono ?_
  rintro e w4 ⟨rfl, hd4, hc4⟩
  have HD4 := Lib.hid hd4
  have HC4 := Lib.hid (HC3.out.trans hc4)
  clear hd4 hc4
  go_wp2_with fail
  refine (stepOk _ _).mono ?_
  rintro e w5 ⟨rfl, rfl⟩
  go_wp2_with fail
  refine (toldOk _ _).mono ?_
  rintro e w6 ⟨rfl, rfl⟩
  go_wp2_with fail
  go_ret2
  have e1 := HLB.out
  refine ⟨lb, by rw [e1]; rfl, HLE.out, HLOG.out.keep HC4.out (fun h => by have := HNE.out; omega), HD4.out, (Chg.of_below _ HBW.out).trans HC4.out⟩
end
end Go.Proofs.YtamaefnlicloaaaDoor
