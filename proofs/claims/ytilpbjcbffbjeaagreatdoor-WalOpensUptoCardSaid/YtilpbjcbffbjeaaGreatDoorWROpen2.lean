/- The document's Open where both files are synced. -/
import Derived.Test.YtilpbjcbffbjeaaGreatDoorWROpen
namespace Go.Proofs.YtilpbjcbffbjeaaGreatDoor
set_option linter.unusedVariables false
set_option maxRecDepth 100000
open Go.RowKit
section
variable {B b g cap : Nat} {w0 w w' : World} {D : Dk}
theorem rwhole0_none (s : ByteArray) (h : whole (bs s) = none) (w : World) (hs : s.size ≤ 1099511627776) : Calls Tryz.prog 96 #[.string s, .int .i64 0] w fun e w' => e = .returned (.tuple #[.int .i64 0, .string ⟨#[]⟩, .int .i64 0, .bool false]) ∧ Below w.heap.size w w' := by
  have h1 := rWholeLW s 0 w hs (by omega)
  rw [wholeAt_zero, h] at h1
  exact h1
theorem rwhole0_some (s : ByteArray) {n : Nat} {q : List Nat} (h : whole (bs s) = some (n, q)) (w : World) (hs : s.size ≤ 1099511627776) : Calls Tryz.prog 96 #[.string s, .int .i64 0] w fun e w' => e = .returned (.tuple #[.int .i64 (n : Nat), .string (strOf q), .int .i64 ((19 + q.length : Nat) : Int), .bool true]) ∧ Below w.heap.size w w' := by
  have h1 := rWholeLW s 0 w hs (by omega)
  rw [wholeAt_zero, h] at h1
  exact h1
theorem rwholeN_none (s : ByteArray) (a : Nat) (ha : a ≤ s.size) (h : whole ((bs s).drop a) = none) (w : World) (hs : s.size ≤ 1099511627776) : Calls Tryz.prog 96 #[.string s, .int .i64 (a : Nat)] w fun e w' => e = .returned (.tuple #[.int .i64 0, .string ⟨#[]⟩, .int .i64 0, .bool false]) ∧ Below w.heap.size w w' := by
  have h1 := rWholeLW s a w hs (by omega)
  rw [wholeAt_nat s a ha, h] at h1
  exact h1
theorem rwholeN_some (s : ByteArray) (a : Nat) (ha : a ≤ s.size) {n : Nat} {q : List Nat} (h : whole ((bs s).drop a) = some (n, q)) (w : World) (hs : s.size ≤ 1099511627776) : Calls Tryz.prog 96 #[.string s, .int .i64 (a : Nat)] w fun e w' => e = .returned (.tuple #[.int .i64 (n : Nat), .string (strOf q), .int .i64 ((a + (19 + q.length) : Nat) : Int), .bool true]) ∧ Below w.heap.size w w' := by
  have h1 := rWholeLW s a w hs (by omega)
  rw [wholeAt_nat s a ha, h] at h1
  exact h1
set_option maxHeartbeats 1600000 in
theorem ropenForm (h : IsR B w0 w b g cap D) (hok : DOk D) (f : Nat) (D1 D2 : Dk) (s : Syn D f D1 D2) (A C : ByteArray) (ha : rd (D2.l.getD f Fl.zero) = A) (hc : rd (D2.l.getD (f + 1) Fl.zero) = C) (hA : whole (bs A) = none) (hC : whole (bs C) = none) :
    Calls Tryz.prog 79 #[.pointer (some ⟨b, 0, none⟩), .int .i64 (f : Nat)] w (RoPost B w0 w b D2 (.err 170)) := by
  obtain ⟨⟨v0, c0, hrf⟩, c1, ⟨cv, c2, hcv⟩, c3⟩ := h.cells
  have hfm := hrf.form
  subst hfm
  have hAs : A.size ≤ 262144 := by rw [← ha]; exact s.k2.size f (by have := s.hf; have := s.hl2; omega)
  have hCs : C.size ≤ 262144 := by rw [← hc]; exact s.k2.size (f + 1) (by have := s.hf; have := s.hl2; omega)
  obtain ⟨al, hf, e1, k1, e2, k2, al2, hl2⟩ := s
  rw [al] at c3
  have hl := hrf.len
  have hm := hrf.capm
  unfold maxLen at hm
  obtain ⟨m, hmm⟩ : ∃ m, m = D.l.length := ⟨_, rfl⟩
  rw [← hmm] at c0 hl hf
  have h2 : ¬ (m : Int) - 2 < (f : Int) := by omega
  have h0 : ¬ (f : Int) < 0 := by omega
  have HN : Hid (D.l.length ≤ 32) := hok.n
  have hfi : (f : Int) ≤ 31 := by have := HN.out; omega
  have H1 := Lib.hid (rsyncA h hok (f : Nat))
  rw [e1] at H1
  have H2 := Lib.hid (fun (w1 : World) (g' cap' : Nat) (h : IsR B w0 w1 b g' cap' D1) => rsyncA h k1 ((f : Int) + 1))
  rw [e2] at H2
  have R0 := Lib.hid (fun (w1 : World) (g' cap' : Nat) (h : IsR B w0 w1 b g' cap' D2) => rreadA h k2 (f : Nat))
  have R1 := Lib.hid (fun (w1 : World) (g' cap' : Nat) (h : IsR B w0 w1 b g' cap' D2) => rreadA h k2 ((f : Int) + 1))
  have er0 : D2.readX (f : Nat) = (A, 0) := by
    unfold Dk.readX; rw [if_neg (by rw [al2]; exact Bool.false_ne_true), if_neg (by rw [out_no (by omega) (by omega)]; exact Bool.false_ne_true), Int.toNat_natCast, ha]
  have er1 : D2.readX ((f : Int) + 1) = (C, 0) := by
    unfold Dk.readX; rw [if_neg (by rw [al2]; exact Bool.false_ne_true), if_neg (by rw [out_no (by omega) (by omega)]; exact Bool.false_ne_true), show ((f : Int) + 1).toNat = f + 1 by omega, hc]
  rw [er0] at R0
  rw [er1] at R1
  have HAs := Lib.hid hAs
  have HCs := Lib.hid hCs
  have W1 := Lib.hid (fun w => rwhole0_none A hA w (by omega))
  have W2 := Lib.hid (fun w => rwhole0_none C hC w (by omega))
  have HbB := Lib.hid h.bB
  have Hlt := Lib.hid h.lt
  clear h hrf hcv al c1 c2 hmm hok e1 k1 e2 k2 al2 hl2 hf ha hc hA hC hAs hCs er0 er1
  go_enter Tryz.func79, Tryz.ntmps79
  go_wp2_with fail
  refine H1.out.mono ?_
  rintro e w1 ⟨rfl, ⟨g1, cap1, hr1⟩, hc1⟩
  have HR1 := Lib.hid hr1
  have HC1 := Lib.hid hc1
  clear hr1 hc1 c0 c3
  go_wp2_with fail
  refine (H2.out _ _ _ HR1.out).mono ?_
  rintro e w2 ⟨rfl, ⟨g2, cap2, hr2⟩, hc2⟩
  have HR2 := Lib.hid hr2
  have HC2 := Lib.hid (HC1.out.trans hc2)
  clear hr2 hc2 HR1 HC1
  go_wp2_with fail
  refine (R0.out _ _ _ HR2.out).mono ?_
  rintro e w3 ⟨rfl, hb3⟩
  have HB3 := Lib.hid hb3
  clear hb3
  have HR3 := Lib.hid (HR2.out.grow HB3.out)
  go_wp2_with fail
  refine (R1.out _ _ _ HR3.out).mono ?_
  rintro e w4 ⟨rfl, hb4⟩
  have HB4 := Lib.hid (HB3.out.trans (hb4.mono HB3.out.size))
  clear hb4 HR3
  go_wp2_with fail
  refine (W1.out _).mono ?_
  rintro e w5 ⟨rfl, hb5⟩
  have HB5 := Lib.hid (HB4.out.trans (hb5.mono HB4.out.size))
  clear hb5
  go_wp2_with fail
  refine (W2.out _).mono ?_
  rintro e w6 ⟨rfl, hb6⟩
  have HB6 := Lib.hid (HB5.out.trans (hb6.mono HB5.out.size))
  have HR6 := Lib.hid (HR2.out.grow HB6.out)
  have HC6 := Lib.hid (HC2.out.trans (Chg.of_below _ HB6.out))
  clear hb6 HB3 HB4 HB5 HB6 HR2 HC2 W1 W2 R0 R1 H1 H2
  go_wp2_with fail
  (try simp only [Exit.inBlock, Exit.then]); refine bodyPost_ret (results_tmp4 rfl _ _ _) rfl ?_
  exact ⟨rfl, ⟨_, _, HR6.out.grow ((Below.refl _ _).alloc (Nat.le_refl _) _)⟩, HC6.out.trans (Chg.of_below _ ((Below.refl _ _).alloc (Nat.le_refl _) _))⟩
end
end Go.Proofs.YtilpbjcbffbjeaaGreatDoor
