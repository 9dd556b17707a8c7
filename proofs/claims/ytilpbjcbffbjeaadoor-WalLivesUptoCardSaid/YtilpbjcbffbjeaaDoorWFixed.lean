/- The walk of fixed: calls whose answers the document fixes. -/
import Derived.Test.YtilpbjcbffbjeaaDoorPkI
import Derived.Test.YtilpbjcbffbjeaaDoorDFixedW
namespace Go.Proofs.YtilpbjcbffbjeaaDoor
set_option linter.unusedVariables false
set_option maxRecDepth 100000
open Go.RowKit
def cS : ByteArray := ⟨#[115]⟩
def cT : ByteArray := ⟨#[116]⟩
def cA : ByteArray := ⟨#[97]⟩
def cB : ByteArray := ⟨#[98]⟩
def cC : ByteArray := ⟨#[99]⟩
def cAB : ByteArray := ⟨#[97, 98]⟩
def G0 : Dk := dk0 [⟨fe, []⟩, ⟨fe, []⟩]
def G1 : Dk := (G0.writeX 0 (recS 1 cS)).1
def G2 : Dk := (G1.syncX 0).1
def G3 : Dk := (G2.writeX 0 (recS 1 cA)).1
def G4 : Dk := (G3.syncX 0).1
def G5 : Dk := (G4.writeX 0 (recS 2 cB)).1
def G6 : Dk := (G5.writeX 0 (recS 3 cC)).1
def G7 : Dk := (G6.crashX [[0, 99]]).1
def G8 : Dk := ⟨G7.l, 0, G7.ch, false⟩
def G9 : Dk := (G8.syncX 0).1
def G10 : Dk := (G9.syncX 1).1
def G11 : Dk := (G10.cutX 0 40).1
def G13 : Dk := (G11.writeX 1 (recS 2 cT)).1
def G14 : Dk := (G13.syncX 1).1
def G15 : Dk := (G14.syncX 0).1
def G16 : Dk := (G15.cutX 0 0).1
def G17 : Dk := (G16.syncX 0).1
def G18 : Dk := (G17.syncX 1).1
theorem g1 : G0.writeX 0 (recS 1 cS) = (G1, 0) := by kernel_rfl
theorem g2 : G1.syncX 0 = (G2, 0) := by kernel_rfl
theorem g3 : G2.writeX 0 (recS 1 cA) = (G3, 0) := by kernel_rfl
theorem g4 : G3.syncX 0 = (G4, 0) := by kernel_rfl
theorem g5 : G4.writeX 0 (recS 2 cB) = (G5, 0) := by kernel_rfl
theorem g6 : G5.writeX 0 (recS 3 cC) = (G6, 0) := by kernel_rfl
theorem g7 : G6.crashX [[0, 99]] = (G7, 0) := by kernel_rfl
theorem g9 : G8.syncX 0 = (G9, 0) := by kernel_rfl
theorem g10 : G9.syncX 1 = (G10, 0) := by kernel_rfl
theorem g11 : G10.cutX 0 40 = (G11, 0) := by kernel_rfl
theorem g13 : G11.writeX 1 (recS 2 cT) = (G13, 0) := by kernel_rfl
theorem g14 : G13.syncX 1 = (G14, 0) := by kernel_rfl
theorem g15 : G14.syncX 0 = (G15, 0) := by kernel_rfl
theorem g16 : G15.cutX 0 0 = (G16, 0) := by kernel_rfl
theorem g17 : G16.syncX 0 = (G17, 0) := by kernel_rfl
theorem g18 : G17.syncX 1 = (G18, 0) := by kernel_rfl
theorem okG0 : DOk G0 := okF _ (by kernel_rfl) (of_decide_eq_true (by kernel_rfl)) (of_decide_eq_true (by kernel_rfl)) (of_decide_eq_true (by kernel_rfl)) (of_decide_eq_true (by kernel_rfl)) (of_decide_eq_true (by kernel_rfl)) (by kernel_rfl)
theorem okG1 : DOk G1 := okF _ (by kernel_rfl) (of_decide_eq_true (by kernel_rfl)) (of_decide_eq_true (by kernel_rfl)) (of_decide_eq_true (by kernel_rfl)) (of_decide_eq_true (by kernel_rfl)) (of_decide_eq_true (by kernel_rfl)) (by kernel_rfl)
theorem okG2 : DOk G2 := okF _ (by kernel_rfl) (of_decide_eq_true (by kernel_rfl)) (of_decide_eq_true (by kernel_rfl)) (of_decide_eq_true (by kernel_rfl)) (of_decide_eq_true (by kernel_rfl)) (of_decide_eq_true (by kernel_rfl)) (by kernel_rfl)
theorem okG3 : DOk G3 := okF _ (by kernel_rfl) (of_decide_eq_true (by kernel_rfl)) (of_decide_eq_true (by kernel_rfl)) (of_decide_eq_true (by kernel_rfl)) (of_decide_eq_true (by kernel_rfl)) (of_decide_eq_true (by kernel_rfl)) (by kernel_rfl)
theorem okG4 : DOk G4 := okF _ (by kernel_rfl) (of_decide_eq_true (by kernel_rfl)) (of_decide_eq_true (by kernel_rfl)) (of_decide_eq_true (by kernel_rfl)) (of_decide_eq_true (by kernel_rfl)) (of_decide_eq_true (by kernel_rfl)) (by kernel_rfl)
theorem okG5 : DOk G5 := okF _ (by kernel_rfl) (of_decide_eq_true (by kernel_rfl)) (of_decide_eq_true (by kernel_rfl)) (of_decide_eq_true (by kernel_rfl)) (of_decide_eq_true (by kernel_rfl)) (of_decide_eq_true (by kernel_rfl)) (by kernel_rfl)
theorem okG6 : DOk G6 := okF _ (by kernel_rfl) (of_decide_eq_true (by kernel_rfl)) (of_decide_eq_true (by kernel_rfl)) (of_decide_eq_true (by kernel_rfl)) (of_decide_eq_true (by kernel_rfl)) (of_decide_eq_true (by kernel_rfl)) (by kernel_rfl)
theorem okG7 : DOk G7 := okF _ (by kernel_rfl) (of_decide_eq_true (by kernel_rfl)) (of_decide_eq_true (by kernel_rfl)) (of_decide_eq_true (by kernel_rfl)) (of_decide_eq_true (by kernel_rfl)) (of_decide_eq_true (by kernel_rfl)) (by kernel_rfl)
theorem okG8 : DOk G8 := okF _ (by kernel_rfl) (of_decide_eq_true (by kernel_rfl)) (of_decide_eq_true (by kernel_rfl)) (of_decide_eq_true (by kernel_rfl)) (of_decide_eq_true (by kernel_rfl)) (of_decide_eq_true (by kernel_rfl)) (by kernel_rfl)
theorem okG9 : DOk G9 := okF _ (by kernel_rfl) (of_decide_eq_true (by kernel_rfl)) (of_decide_eq_true (by kernel_rfl)) (of_decide_eq_true (by kernel_rfl)) (of_decide_eq_true (by kernel_rfl)) (of_decide_eq_true (by kernel_rfl)) (by kernel_rfl)
theorem okG10 : DOk G10 := okF _ (by kernel_rfl) (of_decide_eq_true (by kernel_rfl)) (of_decide_eq_true (by kernel_rfl)) (of_decide_eq_true (by kernel_rfl)) (of_decide_eq_true (by kernel_rfl)) (of_decide_eq_true (by kernel_rfl)) (by kernel_rfl)
theorem okG11 : DOk G11 := okF _ (by kernel_rfl) (of_decide_eq_true (by kernel_rfl)) (of_decide_eq_true (by kernel_rfl)) (of_decide_eq_true (by kernel_rfl)) (of_decide_eq_true (by kernel_rfl)) (of_decide_eq_true (by kernel_rfl)) (by kernel_rfl)
theorem okG13 : DOk G13 := okF _ (by kernel_rfl) (of_decide_eq_true (by kernel_rfl)) (of_decide_eq_true (by kernel_rfl)) (of_decide_eq_true (by kernel_rfl)) (of_decide_eq_true (by kernel_rfl)) (of_decide_eq_true (by kernel_rfl)) (by kernel_rfl)
theorem okG14 : DOk G14 := okF _ (by kernel_rfl) (of_decide_eq_true (by kernel_rfl)) (of_decide_eq_true (by kernel_rfl)) (of_decide_eq_true (by kernel_rfl)) (of_decide_eq_true (by kernel_rfl)) (of_decide_eq_true (by kernel_rfl)) (by kernel_rfl)
theorem okG15 : DOk G15 := okF _ (by kernel_rfl) (of_decide_eq_true (by kernel_rfl)) (of_decide_eq_true (by kernel_rfl)) (of_decide_eq_true (by kernel_rfl)) (of_decide_eq_true (by kernel_rfl)) (of_decide_eq_true (by kernel_rfl)) (by kernel_rfl)
theorem okG16 : DOk G16 := okF _ (by kernel_rfl) (of_decide_eq_true (by kernel_rfl)) (of_decide_eq_true (by kernel_rfl)) (of_decide_eq_true (by kernel_rfl)) (of_decide_eq_true (by kernel_rfl)) (of_decide_eq_true (by kernel_rfl)) (by kernel_rfl)
theorem okG17 : DOk G17 := okF _ (by kernel_rfl) (of_decide_eq_true (by kernel_rfl)) (of_decide_eq_true (by kernel_rfl)) (of_decide_eq_true (by kernel_rfl)) (of_decide_eq_true (by kernel_rfl)) (of_decide_eq_true (by kernel_rfl)) (by kernel_rfl)
theorem okG18 : DOk G18 := okF _ (by kernel_rfl) (of_decide_eq_true (by kernel_rfl)) (of_decide_eq_true (by kernel_rfl)) (of_decide_eq_true (by kernel_rfl)) (of_decide_eq_true (by kernel_rfl)) (of_decide_eq_true (by kernel_rfl)) (by kernel_rfl)
theorem manyG0 : Many G0 := manyF _ okG0 (by kernel_rfl) (of_decide_eq_true (by kernel_rfl)) (of_decide_eq_true (by kernel_rfl))
theorem manyG2 : Many G2 := manyF _ okG2 (by kernel_rfl) (of_decide_eq_true (by kernel_rfl)) (of_decide_eq_true (by kernel_rfl))
theorem manyG4 : Many G4 := manyF _ okG4 (by kernel_rfl) (of_decide_eq_true (by kernel_rfl)) (of_decide_eq_true (by kernel_rfl))
theorem manyG5 : Many G5 := manyF _ okG5 (by kernel_rfl) (of_decide_eq_true (by kernel_rfl)) (of_decide_eq_true (by kernel_rfl))
theorem manyG11 : Many G11 := manyF _ okG11 (by kernel_rfl) (of_decide_eq_true (by kernel_rfl)) (of_decide_eq_true (by kernel_rfl))
def pk1 : Pk := ⟨0, 1, [115], rd (G10.l.getD 0 Fl.zero), 20⟩
def pk2 : Pk := ⟨1, 2, [116], rd (G18.l.getD 1 Fl.zero), 20⟩
theorem pk1e : pkAt 0 (rd (G10.l.getD 0 Fl.zero)) (rd (G10.l.getD (0 + 1) Fl.zero)) 2 = pk1 := by kernel_rfl
theorem pk2e : pkAt 0 (rd (G18.l.getD 0 Fl.zero)) (rd (G18.l.getD (0 + 1) Fl.zero)) 2 = pk2 := by kernel_rfl
theorem sc1 : scan ((bs pk1.bytes).drop pk1.fin) = [[97]] := by kernel_rfl
theorem sc2 : scan ((bs pk2.bytes).drop pk2.fin) = [] := by kernel_rfl
theorem WS.cell0' {w : World} {v : Value} {x : ByteArray} (h : WS w v [x]) : ∃ g off c, v = .slice (some ⟨g, off, none⟩) 1 c ∧ w.cell? ⟨g, off, none⟩ = some (.string x) := by
  obtain ⟨q, d, e, hc⟩ := h.strs.form
  obtain ⟨g, off, hp, h0⟩ := hc 0 (Nat.zero_lt_one)
  exact ⟨g, off, d, by rw [e, hp]; rfl, h0⟩
theorem WS.cell0n {w : World} {v : Value} (h : WS w v []) : ∃ p c, v = .slice p 0 c := by
  obtain ⟨q, d, e, hc⟩ := h.strs.form
  exact ⟨q, d, e⟩
set_option maxHeartbeats 800000 in
theorem newLForm2 {b g cap : Nat} {w : World} {D : Dk} (hd : IsDisk w b g cap D) (hok : DOk D) (f : Nat) (s : ByteArray) (hdd : D.dead = false) (hf : f + 1 < D.l.length) (hz : (rd (D.l.getD f Fl.zero)).size = 0) (hz1 : 0 < (rd (D.l.getD (f + 1) Fl.zero)).size) :
    Calls Tryd.prog 18 #[.pointer (some ⟨b, 0, none⟩), .int .i64 (f : Nat), .string s] w fun e w' => e = .returned (.tuple #[.pointer none, .int .i64 170]) ∧ Below w.heap.size w w' := by
  have H1 := Lib.hid (deadW hd)
  have H2 := Lib.hid (hasW hd (f : Nat))
  have H3 := Lib.hid (sizeYes hd hok f (by omega))
  have H4 := Lib.hid (fun (w1 : World) (hb : Below w.heap.size w w1) => sizeYes (hd.below hb) hok (f + 1) hf)
  rw [decide_eq_true (show (0 : Int) ≤ (f : Int) ∧ (f : Int) < (D.l.length : Int) - 1 by omega)] at H2
  rw [hdd] at H1
  rw [hz] at H3
  obtain ⟨z, hz'⟩ : ∃ z, z = (rd (D.l.getD (f + 1) Fl.zero)).size := ⟨_, rfl⟩
  rw [← hz'] at H4 hz1
  have hz2 : (0 : Int) < (z : Int) := by omega
  have hn := hok.n
  clear hd hok hdd hz hz'
  go_enter Tryd.func18, Tryd.ntmps18
  go_wp2_with fail
  refine H1.out.mono ?_
  rintro e w1 ⟨rfl, rfl⟩
  go_wp2_with fail
  refine H2.out.mono ?_
  rintro e w1 ⟨rfl, rfl⟩
  go_wp2_with fail
  refine H3.out.mono ?_
  rintro e w1 ⟨rfl, hb⟩
  have HB := Lib.hid hb
  clear hb
  go_wp2_with fail
  refine (H4.out _ HB.out).mono ?_
  rintro e w2 ⟨rfl, hb⟩
  replace HB := Lib.hid (HB.out.trans (hb.mono HB.out.size))
  clear hb
  go_wp2_with fail
  go_ret2
  exact ⟨rfl, HB.out⟩
set_option maxHeartbeats 6400000 in
theorem fixedLW (w : World) : Calls Tryd.prog 19 #[] w fun e w' => e = .returned (.bool true) ∧ Below w.heap.size w w' := by
  have HR := Lib.hid (fun w => recordW 1 cAB w (by decide) (by decide) (by decide))
  obtain ⟨r, hr⟩ : ∃ r, r = recS 1 cAB := ⟨_, rfl⟩
  rw [← hr] at HR
  have hrs : r.size = 21 := by rw [hr]; kernel_rfl
  have hw0 : wholeAt r 0 = some (1, [97, 98], 21) := by rw [hr]; kernel_rfl
  have hw1 : wholeAt r 1 = none := by rw [hr]; kernel_rfl
  have HW0 := Lib.hid (fun w => wholeW r 0 w (by omega))
  have HW1 := Lib.hid (fun w => wholeW r 1 w (by omega))
  rw [hw0] at HW0
  rw [hw1] at HW1
  replace HW0 : Hid (∀ w, Calls Tryd.prog 50 #[.string r, .int .i64 0] w fun e w' => e = .returned (.tuple #[.int .i64 1, .string ⟨#[97, 98]⟩, .int .i64 21, .bool true]) ∧ Below w.heap.size w w') := HW0
  replace HW1 : Hid (∀ w, Calls Tryd.prog 50 #[.string r, .int .i64 1] w fun e w' => e = .returned (.tuple #[.int .i64 0, .string ⟨#[]⟩, .int .i64 0, .bool false]) ∧ Below w.heap.size w w') := HW1
  have hri : (r.size : Int) = 21 := by omega
  clear hr hw0 hw1
  go_enter Tryd.func19, Tryd.ntmps19
  go_wp2_with fail
  refine (HR.out w).mono ?_
  rintro e w1 ⟨rfl, hb1⟩
  have HB1 := Lib.hid hb1
  clear hb1
  go_wp2_with fail
  refine (HW0.out _).mono ?_
  rintro e w2 ⟨rfl, hb⟩
  have HB2 := Lib.hid (HB1.out.trans (hb.mono HB1.out.size))
  clear hb
  go_wp2_with fail
  refine (HW1.out _).mono ?_
  rintro e w3 ⟨rfl, hb⟩
  have HB3 := Lib.hid (HB2.out.trans (hb.mono HB2.out.size))
  clear hb HR HW0 HW1 HB1 HB2
  go_wp2_with fail
  refine (newW _ [fe, fe] (strs_two _ w3.heap.size fe fe (by simp [fe]) (by simp [fe])) (by decide) (fun i hi => by match i, (show i < 2 from hi) with | 0, _ => decide | 1, _ => decide)).mono ?_
  rintro e w4 ⟨hb1, hh⟩
  rcases hh with ⟨hne, _⟩ | ⟨_, b, g, cap, rfl, hid, hbb, hgg⟩
  · exact absurd fx0 hne
  have hbx := HB3.out.size
  have hat : At w.heap.size w b g cap G0 w4 := ⟨hid, (HB3.out.alloc hbx _).trans (hb1.mono (by simp; omega)), by simp at hbb; omega, by simp at hgg; omega, Nat.le_refl _⟩
  have HA := Lib.hid hat
  clear hat hid hbb hgg hb1 hbx HB3
  go_wp2_with fail
  refine (HA.out.newOk okG0 0 cS (by kernel_rfl) (of_decide_eq_true (by kernel_rfl)) (by kernel_rfl) (by kernel_rfl) (by decide) manyG0 G1 g1 okG1 G2 g2).mono ?_
  rintro e w5 ⟨lb, rfl, _, hl⟩
  have HL := Lib.hid hl
  clear hl HA
  go_wp2_with fail
  refine (HL.out.room okG2 (of_decide_eq_true (by kernel_rfl)) 16384 (by kernel_rfl)).mono ?_
  rintro e w6 ⟨rfl, hl⟩
  replace HL := Lib.hid hl
  clear hl
  go_wp2_with fail
  refine (HL.out.append okG2 cA (by rfl) (by decide) (of_decide_eq_true (by kernel_rfl)) (of_decide_eq_true (by kernel_rfl)) manyG2 g3).mono ?_
  rintro e w7 ⟨rfl, hl⟩
  replace HL : Hid (LAt w.heap.size w b g cap lb G3 ⟨0, 0, 1, 1, false⟩ w7) := hl
  clear hl
  go_wp2_with fail
  refine HL.out.records.mono ?_
  rintro e w8 ⟨rfl, rfl⟩
  go_wp2_with fail
  refine (HL.out.sync okG3 (by rfl) g4).mono ?_
  rintro e w9 ⟨rfl, hl⟩
  replace HL := Lib.hid hl
  clear hl
  go_wp2_with fail
  refine (HL.out.append okG4 cB (by rfl) (by decide) (of_decide_eq_true (by kernel_rfl)) (of_decide_eq_true (by kernel_rfl)) manyG4 g5).mono ?_
  rintro e w10 ⟨rfl, hl⟩
  replace HL : Hid (LAt w.heap.size w b g cap lb G5 ⟨0, 0, 1, 2, false⟩ w10) := hl
  clear hl
  go_wp2_with fail
  refine (HL.out.append okG5 cC (by rfl) (by decide) (of_decide_eq_true (by kernel_rfl)) (of_decide_eq_true (by kernel_rfl)) manyG5 g6).mono ?_
  rintro e w11 ⟨rfl, hl⟩
  have HA : Hid (At w.heap.size w b g cap G6 w11) := hl.on
  clear hl HL
  go_wp2_with fail
  obtain ⟨W, hW⟩ : ∃ W, W = (w11.alloc (.cells #[.int .i64 0, .int .i64 99] 3)).alloc (.cells #[.slice (some ⟨w11.heap.size, 0, none⟩) 2 2] 51) := ⟨_, rfl⟩
  have hb : Below w11.heap.size w11 W := by rw [hW]; exact ((Below.refl _ _).alloc (Nat.le_refl _) _).alloc (by simp) _
  have hrs : Rss W (.slice (some ⟨w11.heap.size + 1, 0, none⟩) 1 1) [[0, 99]] := rss_one W w11.heap.size (w11.heap.size + 1) 0 99 (by rw [hW]; simp) (by rw [hW]; simp) (by rw [hW]; simp)
  rw [← hW]
  refine ((HA.out.grow hb).crashF okG6 _ [[0, 99]] hrs (chl_one 0 99) 0 g7).mono ?_
  rintro e w12 ⟨rfl, hat⟩
  replace HA := Lib.hid hat
  clear hat hb hrs hW
  go_wp2_with fail
  refine HA.out.reviveF.mono ?_
  rintro e w13 ⟨rfl, hat⟩
  have hat2 : At w.heap.size w b g cap G8 w13 := hat
  replace HA := Lib.hid hat2
  clear hat hat2
  go_wp2_with fail
  refine (HA.out.openOk okG8 0 (by kernel_rfl) (of_decide_eq_true (by kernel_rfl)) G9 G10 G11 G11 g9 okG9 g10 okG10 (by kernel_rfl) (by kernel_rfl) pk1 pk1e (by decide) [[97]] sc1 (fun _ => g11) (fun h => absurd (of_decide_eq_true (by kernel_rfl)) h) okG11 (by kernel_rfl) 1 (by kernel_rfl) (fun h => absurd (show (rd (G11.l.getD 1 Fl.zero)).size = 0 by kernel_rfl) (by omega)) (fun _ => rfl)).mono ?_
  rintro e w14 ⟨lb2, v, rfl, _, hl, hws, _⟩
  obtain ⟨rg, ro, rc, rfl, rcell⟩ := hws.cell0'
  replace HL : Hid (LAt w.heap.size w b g cap lb2 G11 ⟨0, 0, 1, 1, false⟩ w14) := hl
  have HA := Lib.hid hl.on
  replace rcell : w14.cell? ⟨rg, ro, none⟩ = some (.string ⟨#[97]⟩) := rcell
  rw [show strOf pk1.snap = ⟨#[115]⟩ from rfl]
  clear hl hws
  go_wp2_with fail
  clear rcell HA
  have HS := Lib.hid (sizeYes HL.out.on.disk okG11 0 (of_decide_eq_true (by kernel_rfl)))
  rw [show (rd (G11.l.getD 0 Fl.zero)).size = 40 by kernel_rfl] at HS
  refine HS.out.mono ?_
  rintro e w15 ⟨rfl, hb⟩
  replace HL := Lib.hid (HL.out.grow hb)
  clear hb HS
  go_wp2_with fail
  refine (HL.out.checkpoint okG11 cT (by rfl) (by decide) (by decide) (by decide) (by decide) manyG11 1 (by decide) G13 G14 G15 g13 g14 g15 g16 okG13 okG14 okG15).mono ?_
  rintro e w16 ⟨rfl, hl⟩
  replace HL : Hid (LAt w.heap.size w b g cap lb2 G16 ⟨0, 1, 2, 0, false⟩ w16) := hl
  clear hl
  go_wp2_with fail
  have HS := Lib.hid (sizeYes HL.out.on.disk okG16 0 (of_decide_eq_true (by kernel_rfl)))
  rw [show (rd (G16.l.getD 0 Fl.zero)).size = 0 by kernel_rfl] at HS
  refine HS.out.mono ?_
  rintro e w17 ⟨rfl, hb⟩
  replace HL := Lib.hid (HL.out.grow hb)
  clear hb HS
  go_wp2_with fail
  refine (newLForm2 HL.out.on.disk okG16 0 _ (by kernel_rfl) (of_decide_eq_true (by kernel_rfl)) (by kernel_rfl) (of_decide_eq_true (by kernel_rfl))).mono ?_
  rintro e w18 ⟨rfl, hb⟩
  have HA := Lib.hid (HL.out.grow hb).on
  clear hb HL
  go_wp2_with fail
  refine (HA.out.openOk okG16 0 (by kernel_rfl) (of_decide_eq_true (by kernel_rfl)) G17 G18 G18 G18 g17 okG17 g18 okG18 (by kernel_rfl) (by kernel_rfl) pk2 pk2e (by decide) [] sc2 (fun h => absurd h (of_decide_eq_true (by kernel_rfl))) (fun _ => rfl) okG18 (by kernel_rfl) 0 (by kernel_rfl) (fun h => absurd (show (rd (G18.l.getD 0 Fl.zero)).size = 0 by kernel_rfl) (by omega)) (fun _ => rfl)).mono ?_
  rintro e w19 ⟨lb3, v, rfl, _, hl, hws, _⟩
  obtain ⟨rp, rc2, rfl⟩ := hws.cell0n
  replace HA := Lib.hid hl.on
  rw [show strOf pk2.snap = ⟨#[116]⟩ from rfl]
  clear hl hws
  go_wp2_with fail
  go_ret
  exact ⟨rfl, HA.out.below⟩
end Go.Proofs.YtilpbjcbffbjeaaDoor
