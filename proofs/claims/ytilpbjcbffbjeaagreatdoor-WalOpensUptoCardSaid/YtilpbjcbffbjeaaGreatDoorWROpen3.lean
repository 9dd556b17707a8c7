/- The document's Open where one file has a snapshot. -/
import Derived.Test.YtilpbjcbffbjeaaGreatDoorWROpen2
namespace Go.Proofs.YtilpbjcbffbjeaaGreatDoor
set_option linter.unusedVariables false
set_option maxRecDepth 100000
open Go.RowKit
section
variable {B b g cap : Nat} {w0 w w' : World} {D : Dk}
set_option maxHeartbeats 12800000 in
theorem ropenFirst (h : IsR B w0 w b g cap D) (hok : DOk D) (f : Nat) (D1 D2 : Dk) (s : Syn D f D1 D2) (A C : ByteArray) (ha : rd (D2.l.getD f Fl.zero) = A) (hc : rd (D2.l.getD (f + 1) Fl.zero) = C) (n1 : Nat) (q1 : List Nat) (hA : whole (bs A) = some (n1, q1)) (hC : whole (bs C) = none)
    (c gn fin : Nat) (q : List Nat) (X : ByteArray) (hcc : c = f) (hgg : gn = n1) (hqq : q = q1) (hXX : X = A) (hff : fin = 19 + q.length) (hfX : fin ≤ X.size) (rs : List (List Nat)) (hrs : rs = scan ((bs X).drop fin)) (D3 : Dk) (r3 : Int)
    (e3 : fin + lens rs < X.size → D2.cutX (c : Nat) ((fin + lens rs : Nat) : Int) = (D3, r3)) (e3' : ¬ fin + lens rs < X.size → D3 = D2 ∧ r3 = 0) (k3 : DOk D3) (hl3 : D3.l.length = D.l.length)
    (o z : Nat) (ho : o = f + 1) (hz : z = (rd (D3.l.getD o Fl.zero)).size) (D4 : Dk) (r4 : Int) (e4 : 0 < z → D3.cutX (o : Nat) 0 = (D4, r4)) (e4' : ¬ 0 < z → D4 = D3 ∧ r4 = 0) (D' : Dk) (r : OR)
    (E1 : r3 ≠ 0 → D' = D3 ∧ r = .err 2) (E2 : r3 = 0 → r4 ≠ 0 → D' = D4 ∧ r = .err 2) (L' : Lg) (E3 : r3 = 0 → r4 = 0 → D' = D4 ∧ r = .ok L' q rs) :
    Calls Tryz.prog 79 #[.pointer (some ⟨b, 0, none⟩), .int .i64 (f : Nat)] w (RoPost B w0 w b D' r) := by
  obtain ⟨⟨v0, c0, hrf⟩, c1, ⟨cv, c2, hcv⟩, c3⟩ := h.cells
  have hfm := hrf.form
  subst hfm
  have hAs : A.size ≤ 262144 := by rw [← ha]; exact s.k2.size f (by have := s.hf; have := s.hl2; omega)
  have hCs : C.size ≤ 262144 := by rw [← hc]; exact s.k2.size (f + 1) (by have := s.hf; have := s.hl2; omega)
  obtain ⟨al, hf, e1, k1, e2, k2, al2, hl2⟩ := s
  rw [al] at c3
  have hl := hrf.len
  have hm := hrf.capm
  unfold maxLen at hm
  obtain ⟨m, hmm⟩ : ∃ m, m = D.l.length := ⟨_, rfl⟩
  rw [← hmm] at c0 hl hf
  have h2 : ¬ (m : Int) - 2 < (f : Int) := by omega
  have h0 : ¬ (f : Int) < 0 := by omega
  have HN : Hid (D.l.length ≤ 32) := hok.n
  have hfi : (f : Int) ≤ 31 := by have := HN.out; omega
  have H1 := Lib.hid (rsyncA h hok (f : Nat))
  rw [e1] at H1
  have H2 := Lib.hid (fun (w1 : World) (g' cap' : Nat) (h : IsR B w0 w1 b g' cap' D1) => rsyncA h k1 ((f : Int) + 1))
  rw [e2] at H2
  have R0 := Lib.hid (fun (w1 : World) (g' cap' : Nat) (h : IsR B w0 w1 b g' cap' D2) => rreadA h k2 (f : Nat))
  have R1 := Lib.hid (fun (w1 : World) (g' cap' : Nat) (h : IsR B w0 w1 b g' cap' D2) => rreadA h k2 ((f : Int) + 1))
  have er0 : D2.readX (f : Nat) = (A, 0) := by
    unfold Dk.readX; rw [if_neg (by rw [al2]; exact Bool.false_ne_true), if_neg (by rw [out_no (by omega) (by omega)]; exact Bool.false_ne_true), Int.toNat_natCast, ha]
  have er1 : D2.readX ((f : Int) + 1) = (C, 0) := by
    unfold Dk.readX; rw [if_neg (by rw [al2]; exact Bool.false_ne_true), if_neg (by rw [out_no (by omega) (by omega)]; exact Bool.false_ne_true), show ((f : Int) + 1).toNat = f + 1 by omega, hc]
  rw [er0] at R0
  rw [er1] at R1
  have HAs := Lib.hid hAs
  have HCs := Lib.hid hCs
  have W1 := Lib.hid (fun w => rwhole0_some A hA w (by omega))
  have W2 := Lib.hid (fun w => rwhole0_none C hC w (by omega))
  have HbB := Lib.hid h.bB
  have Hlt := Lib.hid h.lt
  have HXS : Hid (X.size ≤ 262144) := by rw [hXX]; exact HAs
  obtain ⟨fin2, hfin2⟩ : ∃ n, n = fin + lens rs := ⟨_, rfl⟩
  rw [← hfin2] at e3 e3'
  have H5 := Lib.hid (fun (w1 : World) (g' cap' : Nat) (h : IsR B w0 w1 b g' cap' D2) => rcutA h k2 (c : Nat) (fin2 : Nat))
  have H6 := Lib.hid (fun (w1 : World) (g' cap' : Nat) (h : IsR B w0 w1 b g' cap' D3) => rsizeYes h k3 o (by omega))
  rw [← hz] at H6
  have H8 := Lib.hid (fun (w1 : World) (g' cap' : Nat) (h : IsR B w0 w1 b g' cap' D3) => rcutA h k3 (o : Nat) 0)
  rw [show ((c : Nat) : Int) = (f : Int) by omega] at H5
  rw [show ((o : Nat) : Int) = (f : Int) + 1 by omega] at H6 H8
  rw [show ((c : Nat) : Int) = (f : Int) by omega] at e3
  rw [show ((o : Nat) : Int) = (f : Int) + 1 by omega] at e4
  replace e3 := Lib.hid e3
  replace e3' := Lib.hid e3'
  replace e4 := Lib.hid e4
  replace e4' := Lib.hid e4'
  replace E1 := Lib.hid E1
  replace E2 := Lib.hid E2
  replace E3 := Lib.hid E3
  have HRS := Lib.hid hrs
  have HF2 := Lib.hid hfin2
  have HFX := Lib.hid hfX
  have HCC := Lib.hid hcc
  have HGG := Lib.hid hgg
  have HFF := Lib.hid hff
  subst hXX
  subst hqq
  clear h hrf hcv al c1 c2 hmm hok e1 k1 e2 k2 al2 hl2 hf ha hc hA hC hAs hCs er0 er1 hcc hgg hff hfX hrs k3 hl3 hz ho hfin2
  go_enter Tryz.func79, Tryz.ntmps79
  go_wp2_with fail
  refine H1.out.mono ?_
  rintro e w1 ⟨rfl, ⟨g1, cap1, hr1⟩, hc1⟩
  have HR1 := Lib.hid hr1
  have HC1 := Lib.hid hc1
  clear hr1 hc1 c0 c3
  go_wp2_with fail
  refine (H2.out _ _ _ HR1.out).mono ?_
  rintro e w2 ⟨rfl, ⟨g2, cap2, hr2⟩, hc2⟩
  have HR2 := Lib.hid hr2
  have HC2 := Lib.hid (HC1.out.trans hc2)
  clear hr2 hc2 HR1 HC1
  go_wp2_with fail
  refine (R0.out _ _ _ HR2.out).mono ?_
  rintro e w3 ⟨rfl, hb3⟩
  have HB3 := Lib.hid hb3
  clear hb3
  have HR3 := Lib.hid (HR2.out.grow HB3.out)
  go_wp2_with fail
  refine (R1.out _ _ _ HR3.out).mono ?_
  rintro e w4 ⟨rfl, hb4⟩
  have HB4 := Lib.hid (HB3.out.trans (hb4.mono HB3.out.size))
  clear hb4 HR3
  go_wp2_with fail
  refine (W1.out _).mono ?_
  rintro e w5 ⟨rfl, hb5⟩
  have HB5 := Lib.hid (HB4.out.trans (hb5.mono HB4.out.size))
  clear hb5
  go_wp2_with fail
  refine (W2.out _).mono ?_
  rintro e w6 ⟨rfl, hb6⟩
  have HB6 := Lib.hid (HB5.out.trans (hb6.mono HB5.out.size))
  have HR6 := Lib.hid (HR2.out.grow HB6.out)
  have HC6 := Lib.hid (HC2.out.trans (Chg.of_below _ HB6.out))
  clear hb6 HB3 HB4 HB5 HB6 HR2 HC2 W1 W2 R0 R1 H1 H2
  go_wp2_with fail
  obtain ⟨lb, hlb⟩ : ∃ lb, lb = w6.heap.size := ⟨_, rfl⟩
  obtain ⟨wq, hwq⟩ : ∃ x, x = (w6.alloc (.cells #[.pointer (some ⟨b, 0, none⟩), .int .i64 (f : Nat), .int .i64 (f : Nat), .int .i64 (n1 : Nat), .int .i64 0, .bool false] 169)).alloc (.cells #[] 9) := ⟨_, rfl⟩
  have HBq : Hid (Below w6.heap.size w6 wq) := by unfold Hid; rw [hwq]; exact ((Below.refl _ _).alloc (Nat.le_refl _) _).alloc (by simp) _
  have HLq : Hid (IsRLog wq lb b f c gn 0) := ⟨by
    rw [hwq, hlb, HCC.out, HGG.out]
    have e := heap_alloc_new w6 (.cells #[.pointer (some ⟨b, 0, none⟩), .int .i64 (f : Nat), .int .i64 (f : Nat), .int .i64 (n1 : Nat), .int .i64 0, .bool false] 169)
    rw [show (((f : Nat)) : Int) = (f : Int) by omega]
    exact (((Below.refl _ _).alloc (Nat.le_refl _) _).block _ (by simp)).trans e⟩
  have HOq : Hid (OwnsS wq (w6.heap.size + 1) (.slice (some ⟨w6.heap.size + 1, 0, none⟩) 0 0) []) := by
    have e := OwnsS.empty (w6.alloc (.cells #[.pointer (some ⟨b, 0, none⟩), .int .i64 (f : Nat), .int .i64 (f : Nat), .int .i64 (n1 : Nat), .int .i64 0, .bool false] 169))
    rw [show (w6.alloc (.cells #[.pointer (some ⟨b, 0, none⟩), .int .i64 (f : Nat), .int .i64 (f : Nat), .int .i64 (n1 : Nat), .int .i64 0, .bool false] 169)).heap.size = w6.heap.size + 1 by simp, ← hwq] at e
    exact e
  have HLBW : Hid (w.heap.size ≤ lb) := by unfold Hid; rw [hlb]; exact HC6.out.size
  have HLBB : Hid (B ≤ lb) := by unfold Hid; have := HLBW.out; have := HbB.out; have := Hlt.out; omega
  have HLBN : Hid (lb ≠ b) := by unfold Hid; have := HLBW.out; have := Hlt.out; omega
  rw [← hwq, ← hlb]
  rw [← hlb] at HOq
  have HB7 : Hid (∀ w2, Below (lb + 1) wq w2 → Below w6.heap.size w6 w2) := fun w2 hb => HBq.out.trans (hb.mono (by rw [← hlb]; exact Nat.le_succ _))
  clear hlb hwq HBq
  go_loopw [14, 22] (fun v14 v22 w2 => ∃ (a : Nat) (qs : List (List Nat)), v14 = .int .i64 (a : Nat) ∧ OwnsS w2 (lb + 1) v22 (qs.map strOf) ∧ ScanAt (bs X) fin qs a ∧ Below (lb + 1) wq w2) (fun v _ _ => ((X.size : Int) + 1 - intOf v).toNat)
  case atStart => exact ⟨fin, [], by rw [HFF.out]; rfl, HOq.out, ScanAt.start _ _ (by rw [length_bs]; exact HFX.out), Below.refl _ _⟩
  case round =>
    obtain ⟨a, qs, rfl, ho, hsc, hb⟩ := hrel
    obtain ⟨p20, c20, rfl⟩ := ho.shape
    obtain ⟨m, hm⟩ : ∃ m, m = (qs.map strOf).length := ⟨_, rfl⟩
    rw [← hm] at ho ⊢
    have hml : m = qs.length := by rw [hm, List.length_map]
    have HML := Lib.hid hml
    have HO1 := Lib.hid ho
    have HSC := Lib.hid hsc
    have HB1 := Lib.hid hb
    have hqa : a ≤ X.size := by have := hsc.le; rwa [length_bs] at this
    have hmb : m ≤ 262144 := by
      have h1 := hsc.pos
      have h2 := lens_ge qs
      have := HXS.out
      omega
    have HLw : Hid (IsRLog wr lb b f c gn 0) := ⟨(hb.block lb (Nat.lt_succ_self _)).trans HLq.out.blk⟩
    have HRw : Hid (IsR B w0 wr b _ _ D2) := HR6.out.grow (HB7.out wr hb)
    have HCw : Hid (Chg (fun k => k = lb ∨ k = b) w wr) := (HC6.out.trans (Chg.of_below _ (HB7.out wr hb))).mono (fun k _ h => .inr h)
    clear ho hsc hb hm hml
    rcases hS : whole ((bs X).drop a) with _ | ⟨n, qq⟩
    · have hqr : qs = rs := by rw [HRS.out]; exact HSC.out.done (fun p h => by rw [hS] at h; cases h)
      have hfa : a = fin2 := by rw [HF2.out, ← hqr]; exact HSC.out.pos
      have HWS1 : Hid (WS wr (.slice p20 m c20) (rs.map strOf)) := by unfold Hid; rw [← hqr]; exact HO1.out.ws
      have HMR : Hid (m = rs.length) := by unfold Hid; rw [HML.out, hqr]
      have HW := Lib.hid (fun w => rwholeN_none X a hqa hS w (by have := HXS.out; omega))
      skip
      clear hS hqr HSC HO1
      subst hfa
      go_wp2_with fail
      refine (HW.out _).mono ?_
      rintro e w3 ⟨rfl, hb3⟩
      have HL3 := Lib.hid (HLw.out.below hb3)
      have HD3 := Lib.hid (HRw.out.grow hb3)
      have HWS3 := Lib.hid (HWS1.out.below hb3)
      have HC3 := Lib.hid (HCw.out.trans (Chg.of_below _ hb3))
      clear hb3 HW HWS1 HLw HRw HCw
      have c2 : w3.cell? ⟨lb, 2, none⟩ = some (.int .i64 ((f : Nat))) := by have e := HL3.out.c2; rw [HCC.out] at e; exact e
      have c4 := HL3.out.c4
      have f4 := HL3.out.free 4
      have HL4 : Hid (IsRLog (w3.setCell ⟨lb, 4, none⟩ (.int .i64 (m : Nat))) lb b f c gn m) := HL3.out.setN m
      have hcs : Chg (fun k => k = lb) w3 (w3.setCell ⟨lb, 4, none⟩ (.int .i64 (m : Nat))) := Chg.setCell (fun k => k = lb) w3 rfl _
      have HD4 : Hid (∃ g' cap', IsR B w0 (w3.setCell ⟨lb, 4, none⟩ (.int .i64 (m : Nat))) b g' cap' D2) := ⟨_, _, HD3.out.log HL3.out HLBB.out HLBN.out hcs⟩
      have HW4 : Hid (WS (w3.setCell ⟨lb, 4, none⟩ (.int .i64 (m : Nat))) (.slice p20 m c20) (rs.map strOf)) := HWS3.out.keep hcs HL3.out.muts
      have HC4 : Hid (Chg (fun k => k = lb ∨ k = b) w (w3.setCell ⟨lb, 4, none⟩ (.int .i64 (m : Nat)))) := HC3.out.trans (hcs.mono (fun k _ h => .inl h))
      clear hcs HD3 HWS3 HC3
      by_cases hcut : a < X.size
      · have hci : (a : Int) < (X.size : Int) := by omega
        have H5c := Lib.hid H5.out
        rw [e3.out hcut] at H5c
        clear hcut
        go_wp2_with fail
        clear c2 c4 f4
        obtain ⟨w4, hw4⟩ : ∃ x, x = w3.setCell ⟨lb, 4, none⟩ (.int .i64 (m : Nat)) := ⟨_, rfl⟩
        rw [← hw4] at HL4 HD4 HW4 HC4 ⊢
        clear hw4 HL3
        obtain ⟨g4, cap4, hr4⟩ := HD4.out
        have HR4 := Lib.hid hr4
        clear hr4 HD4
        refine (H5c.out _ _ _ HR4.out).mono ?_
        rintro e w5 ⟨rfl, ⟨g5, cap5, hr5⟩, hc5⟩
        have HR5 := Lib.hid hr5
        have HL5 := Lib.hid (HL4.out.keep hc5 HLBN.out)
        have HSx := Lib.hid (HW4.out.keep hc5 HR4.out.muts)
        have HC5 := Lib.hid (HC4.out.trans (hc5.mono (fun k _ h => Or.inr h)))
        clear hr5 hc5 HL4 HW4 HC4 HR4
        by_cases r3z : r3 = 0
        · subst r3z
          have r3z : Hid ((0 : Int) = 0) := Lib.hid rfl
          have c2 : w5.cell? ⟨lb, 2, none⟩ = some (.int .i64 ((f : Nat))) := by have e := HL5.out.c2; rw [HCC.out] at e; exact e
          go_wp2_with fail
          clear c2
          refine (H6.out _ _ _ HR5.out).mono ?_
          rintro e w7 ⟨rfl, hb7⟩
          have HR7 := Lib.hid (HR5.out.grow hb7)
          have HC7 := Lib.hid (HC5.out.trans (Chg.of_below _ hb7))
          have HS7 := Lib.hid (HSx.out.below hb7)
          clear hb7
          by_cases hz0 : 0 < z
          · have hzi : (0 : Int) < (z : Int) := by omega
            have H8c := Lib.hid H8.out
            rw [e4.out hz0] at H8c
            clear hz0
            go_wp2_with fail
            refine (H8c.out _ _ _ HR7.out).mono ?_
            rintro e w8 ⟨rfl, ⟨g8, cap8, hr8⟩, hc8⟩
            have HR8 := Lib.hid hr8
            have HC8 := Lib.hid (HC7.out.trans (hc8.mono (fun k _ h => Or.inr h)))
            have HS8 := Lib.hid (HS7.out.keep hc8 HR7.out.muts)
            clear hr8 hc8
            by_cases hr4 : r4 = 0
            · have X3 := Lib.hid (E3.out r3z.out hr4)
              subst hr4
              go_wp2_with fail
              (try simp only [Exit.inBlock, Exit.then]); refine bodyPost_ret (results_tmp4 rfl _ _ _) rfl ?_
              obtain ⟨rfl, rfl⟩ := X3.out
              exact ⟨⟨_, _, rfl, HS8.out⟩, ⟨_, _, HR8.out⟩, HC8.out.mono (fun k hk h => h.elim (fun e => absurd hk (by have := HLBW.out; omega)) id)⟩
            · have X2 := Lib.hid (E2.out r3z.out hr4)
              have hr4' : (r4 != 0) = true := by rw [bne_iff_ne]; exact hr4
              clear hr4
              go_wp2_with fail
              (try simp only [Exit.inBlock, Exit.then]); refine bodyPost_ret (results_tmp4 rfl _ _ _) rfl ?_
              obtain ⟨rfl, rfl⟩ := X2.out
              exact ⟨rfl, ⟨_, _, HR8.out⟩, HC8.out.mono (fun k hk h => h.elim (fun e => absurd hk (by have := HLBW.out; omega)) id)⟩
          · have hzi : ¬ (0 : Int) < (z : Int) := by omega
            obtain ⟨rfl, hr4⟩ := e4'.out hz0
            have X3 := Lib.hid (E3.out r3z.out hr4)
            clear hz0 hr4
            go_wp2_with fail
            (try simp only [Exit.inBlock, Exit.then]); refine bodyPost_ret (results_tmp4 rfl _ _ _) rfl ?_
            obtain ⟨rfl, rfl⟩ := X3.out
            exact ⟨⟨_, _, rfl, HS7.out⟩, ⟨_, _, HR7.out⟩, HC7.out.mono (fun k hk h => h.elim (fun e => absurd hk (by have := HLBW.out; omega)) id)⟩
        · have X1 := Lib.hid (E1.out r3z)
          have hr3' : (r3 != 0) = true := by rw [bne_iff_ne]; exact r3z
          clear r3z
          go_wp2_with fail
          (try simp only [Exit.inBlock, Exit.then]); refine bodyPost_ret (results_tmp4 rfl _ _ _) rfl ?_
          obtain ⟨rfl, rfl⟩ := X1.out
          exact ⟨rfl, ⟨_, _, HR5.out⟩, HC5.out.mono (fun k hk h => h.elim (fun e => absurd hk (by have := HLBW.out; omega)) id)⟩
      · have hci : ¬ (a : Int) < (X.size : Int) := by omega
        obtain ⟨h3a, h3b⟩ := e3'.out hcut
        subst h3a
        have r3z : Hid (r3 = 0) := Lib.hid h3b
        clear hcut h3b
        go_wp2_with fail
        clear c2 c4 f4
        obtain ⟨w4, hw4⟩ : ∃ x, x = w3.setCell ⟨lb, 4, none⟩ (.int .i64 (m : Nat)) := ⟨_, rfl⟩
        rw [← hw4] at HL4 HD4 HW4 HC4 ⊢
        clear hw4 HL3
        obtain ⟨g4, cap4, hr4⟩ := HD4.out
        have HR5 := Lib.hid hr4
        clear hr4 HD4
        have HL5 := HL4
        have HSx := HW4
        have HC5 := HC4
        clear HL4 HW4 HC4
        refine (H6.out _ _ _ HR5.out).mono ?_
        rintro e w7 ⟨rfl, hb7⟩
        have HR7 := Lib.hid (HR5.out.grow hb7)
        have HC7 := Lib.hid (HC5.out.trans (Chg.of_below _ hb7))
        have HS7 := Lib.hid (HSx.out.below hb7)
        clear hb7
        by_cases hz0 : 0 < z
        · have hzi : (0 : Int) < (z : Int) := by omega
          have H8c := Lib.hid H8.out
          rw [e4.out hz0] at H8c
          clear hz0
          go_wp2_with fail
          refine (H8c.out _ _ _ HR7.out).mono ?_
          rintro e w8 ⟨rfl, ⟨g8, cap8, hr8⟩, hc8⟩
          have HR8 := Lib.hid hr8
          have HC8 := Lib.hid (HC7.out.trans (hc8.mono (fun k _ h => Or.inr h)))
          have HS8 := Lib.hid (HS7.out.keep hc8 HR7.out.muts)
          clear hr8 hc8
          by_cases hr4 : r4 = 0
          · have X3 := Lib.hid (E3.out r3z.out hr4)
            subst hr4
            go_wp2_with fail
            (try simp only [Exit.inBlock, Exit.then]); refine bodyPost_ret (results_tmp4 rfl _ _ _) rfl ?_
            obtain ⟨rfl, rfl⟩ := X3.out
            exact ⟨⟨_, _, rfl, HS8.out⟩, ⟨_, _, HR8.out⟩, HC8.out.mono (fun k hk h => h.elim (fun e => absurd hk (by have := HLBW.out; omega)) id)⟩
          · have X2 := Lib.hid (E2.out r3z.out hr4)
            have hr4' : (r4 != 0) = true := by rw [bne_iff_ne]; exact hr4
            clear hr4
            go_wp2_with fail
            (try simp only [Exit.inBlock, Exit.then]); refine bodyPost_ret (results_tmp4 rfl _ _ _) rfl ?_
            obtain ⟨rfl, rfl⟩ := X2.out
            exact ⟨rfl, ⟨_, _, HR8.out⟩, HC8.out.mono (fun k hk h => h.elim (fun e => absurd hk (by have := HLBW.out; omega)) id)⟩
        · have hzi : ¬ (0 : Int) < (z : Int) := by omega
          obtain ⟨rfl, hr4⟩ := e4'.out hz0
          have X3 := Lib.hid (E3.out r3z.out hr4)
          clear hz0 hr4
          go_wp2_with fail
          (try simp only [Exit.inBlock, Exit.then]); refine bodyPost_ret (results_tmp4 rfl _ _ _) rfl ?_
          obtain ⟨rfl, rfl⟩ := X3.out
          exact ⟨⟨_, _, rfl, HS7.out⟩, ⟨_, _, HR7.out⟩, HC7.out.mono (fun k hk h => h.elim (fun e => absurd hk (by have := HLBW.out; omega)) id)⟩
    · by_cases hnn : n = qs.length + 1
      · have HW := Lib.hid (fun w => rwholeN_some X a hqa hS w (by have := HXS.out; omega))
        have hnx := HSC.out.next (bs_lt X) (by rw [hS, hnn])
        have HNX := Lib.hid hnx
        have hle2 := hnx.le
        rw [length_bs] at hle2
        have hni2 : (n : Int) = (m : Int) + 1 := by have := HML.out; omega
        have hps := HXS.out
        clear hnx hS hnn
        rw [hni2] at HW
        go_wp2_with fail
        refine (HW.out _).mono ?_
        rintro e w3 ⟨rfl, hb3⟩
        have HO3 := Lib.hid (HO1.out.kept hb3)
        have HB3 := Lib.hid (HB1.out.trans (hb3.mono HLw.out.lt))
        have HZ3 : Hid (lb + 1 ≤ w3.heap.size) := Nat.le_trans HLw.out.lt hb3.size
        clear hb3 HW
        go_wp2_with (at_builtin; refine wpList_append_s rfl _ _ rfl rfl (HO3.out.alloc _) ⟨w3.heap.size, 0, none⟩ 1 (strOf qq) rfl (by simp) ?e1 (by have := HZ3.out; simp; omega) ?_)
        case e1 => rw [List.length_map, ← HML.out]; omega
        intro v4 w4 ho4 hg4
        have HO4 := Lib.hid ho4
        have HB4 := Lib.hid ((HB3.out.alloc HZ3.out _).grown hg4 (by have := HZ3.out; simp; omega) (fun k hk => (HO3.out.block hk).1))
        clear ho4 hg4
        go_wp2_with fail
        refine ⟨⟨a + (19 + qq.length), qs ++ [qq], rfl, by rw [List.map_append]; exact HO4.out, HNX.out, HB4.out⟩, by simp only [intOf]; omega⟩
      · have hni2 : ((n : Int) != (m : Int) + 1) = true := by
          have := HML.out
          rw [bne_iff_ne]; omega
        have hqr : qs = rs := by rw [HRS.out]; exact HSC.out.done (fun p h => by rw [hS] at h; injection h with h; injection h with h1 h2; exact hnn h1)
        have hfa : a = fin2 := by rw [HF2.out, ← hqr]; exact HSC.out.pos
        have HWS1 : Hid (WS wr (.slice p20 m c20) (rs.map strOf)) := by unfold Hid; rw [← hqr]; exact HO1.out.ws
        have HMR : Hid (m = rs.length) := by unfold Hid; rw [HML.out, hqr]
        have HW := Lib.hid (fun w => rwholeN_some X a hqa hS w (by have := HXS.out; omega))
        clear hnn
        clear hS hqr HSC HO1
        subst hfa
        go_wp2_with fail
        refine (HW.out _).mono ?_
        rintro e w3 ⟨rfl, hb3⟩
        have HL3 := Lib.hid (HLw.out.below hb3)
        have HD3 := Lib.hid (HRw.out.grow hb3)
        have HWS3 := Lib.hid (HWS1.out.below hb3)
        have HC3 := Lib.hid (HCw.out.trans (Chg.of_below _ hb3))
        clear hb3 HW HWS1 HLw HRw HCw
        have c2 : w3.cell? ⟨lb, 2, none⟩ = some (.int .i64 ((f : Nat))) := by have e := HL3.out.c2; rw [HCC.out] at e; exact e
        have c4 := HL3.out.c4
        have f4 := HL3.out.free 4
        have HL4 : Hid (IsRLog (w3.setCell ⟨lb, 4, none⟩ (.int .i64 (m : Nat))) lb b f c gn m) := HL3.out.setN m
        have hcs : Chg (fun k => k = lb) w3 (w3.setCell ⟨lb, 4, none⟩ (.int .i64 (m : Nat))) := Chg.setCell (fun k => k = lb) w3 rfl _
        have HD4 : Hid (∃ g' cap', IsR B w0 (w3.setCell ⟨lb, 4, none⟩ (.int .i64 (m : Nat))) b g' cap' D2) := ⟨_, _, HD3.out.log HL3.out HLBB.out HLBN.out hcs⟩
        have HW4 : Hid (WS (w3.setCell ⟨lb, 4, none⟩ (.int .i64 (m : Nat))) (.slice p20 m c20) (rs.map strOf)) := HWS3.out.keep hcs HL3.out.muts
        have HC4 : Hid (Chg (fun k => k = lb ∨ k = b) w (w3.setCell ⟨lb, 4, none⟩ (.int .i64 (m : Nat)))) := HC3.out.trans (hcs.mono (fun k _ h => .inl h))
        clear hcs HD3 HWS3 HC3
        by_cases hcut : a < X.size
        · have hci : (a : Int) < (X.size : Int) := by omega
          have H5c := Lib.hid H5.out
          rw [e3.out hcut] at H5c
          clear hcut
          go_wp2_with fail
          clear c2 c4 f4
          obtain ⟨w4, hw4⟩ : ∃ x, x = w3.setCell ⟨lb, 4, none⟩ (.int .i64 (m : Nat)) := ⟨_, rfl⟩
          rw [← hw4] at HL4 HD4 HW4 HC4 ⊢
          clear hw4 HL3
          obtain ⟨g4, cap4, hr4⟩ := HD4.out
          have HR4 := Lib.hid hr4
          clear hr4 HD4
          refine (H5c.out _ _ _ HR4.out).mono ?_
          rintro e w5 ⟨rfl, ⟨g5, cap5, hr5⟩, hc5⟩
          have HR5 := Lib.hid hr5
          have HL5 := Lib.hid (HL4.out.keep hc5 HLBN.out)
          have HSx := Lib.hid (HW4.out.keep hc5 HR4.out.muts)
          have HC5 := Lib.hid (HC4.out.trans (hc5.mono (fun k _ h => Or.inr h)))
          clear hr5 hc5 HL4 HW4 HC4 HR4
          by_cases r3z : r3 = 0
          · subst r3z
            have r3z : Hid ((0 : Int) = 0) := Lib.hid rfl
            have c2 : w5.cell? ⟨lb, 2, none⟩ = some (.int .i64 ((f : Nat))) := by have e := HL5.out.c2; rw [HCC.out] at e; exact e
            go_wp2_with fail
            clear c2
            refine (H6.out _ _ _ HR5.out).mono ?_
            rintro e w7 ⟨rfl, hb7⟩
            have HR7 := Lib.hid (HR5.out.grow hb7)
            have HC7 := Lib.hid (HC5.out.trans (Chg.of_below _ hb7))
            have HS7 := Lib.hid (HSx.out.below hb7)
            clear hb7
            by_cases hz0 : 0 < z
            · have hzi : (0 : Int) < (z : Int) := by omega
              have H8c := Lib.hid H8.out
              rw [e4.out hz0] at H8c
              clear hz0
              go_wp2_with fail
              refine (H8c.out _ _ _ HR7.out).mono ?_
              rintro e w8 ⟨rfl, ⟨g8, cap8, hr8⟩, hc8⟩
              have HR8 := Lib.hid hr8
              have HC8 := Lib.hid (HC7.out.trans (hc8.mono (fun k _ h => Or.inr h)))
              have HS8 := Lib.hid (HS7.out.keep hc8 HR7.out.muts)
              clear hr8 hc8
              by_cases hr4 : r4 = 0
              · have X3 := Lib.hid (E3.out r3z.out hr4)
                subst hr4
                go_wp2_with fail
                (try simp only [Exit.inBlock, Exit.then]); refine bodyPost_ret (results_tmp4 rfl _ _ _) rfl ?_
                obtain ⟨rfl, rfl⟩ := X3.out
                exact ⟨⟨_, _, rfl, HS8.out⟩, ⟨_, _, HR8.out⟩, HC8.out.mono (fun k hk h => h.elim (fun e => absurd hk (by have := HLBW.out; omega)) id)⟩
              · have X2 := Lib.hid (E2.out r3z.out hr4)
                have hr4' : (r4 != 0) = true := by rw [bne_iff_ne]; exact hr4
                clear hr4
                go_wp2_with fail
                (try simp only [Exit.inBlock, Exit.then]); refine bodyPost_ret (results_tmp4 rfl _ _ _) rfl ?_
                obtain ⟨rfl, rfl⟩ := X2.out
                exact ⟨rfl, ⟨_, _, HR8.out⟩, HC8.out.mono (fun k hk h => h.elim (fun e => absurd hk (by have := HLBW.out; omega)) id)⟩
            · have hzi : ¬ (0 : Int) < (z : Int) := by omega
              obtain ⟨rfl, hr4⟩ := e4'.out hz0
              have X3 := Lib.hid (E3.out r3z.out hr4)
              clear hz0 hr4
              go_wp2_with fail
              (try simp only [Exit.inBlock, Exit.then]); refine bodyPost_ret (results_tmp4 rfl _ _ _) rfl ?_
              obtain ⟨rfl, rfl⟩ := X3.out
              exact ⟨⟨_, _, rfl, HS7.out⟩, ⟨_, _, HR7.out⟩, HC7.out.mono (fun k hk h => h.elim (fun e => absurd hk (by have := HLBW.out; omega)) id)⟩
          · have X1 := Lib.hid (E1.out r3z)
            have hr3' : (r3 != 0) = true := by rw [bne_iff_ne]; exact r3z
            clear r3z
            go_wp2_with fail
            (try simp only [Exit.inBlock, Exit.then]); refine bodyPost_ret (results_tmp4 rfl _ _ _) rfl ?_
            obtain ⟨rfl, rfl⟩ := X1.out
            exact ⟨rfl, ⟨_, _, HR5.out⟩, HC5.out.mono (fun k hk h => h.elim (fun e => absurd hk (by have := HLBW.out; omega)) id)⟩
        · have hci : ¬ (a : Int) < (X.size : Int) := by omega
          obtain ⟨h3a, h3b⟩ := e3'.out hcut
          subst h3a
          have r3z : Hid (r3 = 0) := Lib.hid h3b
          clear hcut h3b
          go_wp2_with fail
          clear c2 c4 f4
          obtain ⟨w4, hw4⟩ : ∃ x, x = w3.setCell ⟨lb, 4, none⟩ (.int .i64 (m : Nat)) := ⟨_, rfl⟩
          rw [← hw4] at HL4 HD4 HW4 HC4 ⊢
          clear hw4 HL3
          obtain ⟨g4, cap4, hr4⟩ := HD4.out
          have HR5 := Lib.hid hr4
          clear hr4 HD4
          have HL5 := HL4
          have HSx := HW4
          have HC5 := HC4
          clear HL4 HW4 HC4
          refine (H6.out _ _ _ HR5.out).mono ?_
          rintro e w7 ⟨rfl, hb7⟩
          have HR7 := Lib.hid (HR5.out.grow hb7)
          have HC7 := Lib.hid (HC5.out.trans (Chg.of_below _ hb7))
          have HS7 := Lib.hid (HSx.out.below hb7)
          clear hb7
          by_cases hz0 : 0 < z
          · have hzi : (0 : Int) < (z : Int) := by omega
            have H8c := Lib.hid H8.out
            rw [e4.out hz0] at H8c
            clear hz0
            go_wp2_with fail
            refine (H8c.out _ _ _ HR7.out).mono ?_
            rintro e w8 ⟨rfl, ⟨g8, cap8, hr8⟩, hc8⟩
            have HR8 := Lib.hid hr8
            have HC8 := Lib.hid (HC7.out.trans (hc8.mono (fun k _ h => Or.inr h)))
            have HS8 := Lib.hid (HS7.out.keep hc8 HR7.out.muts)
            clear hr8 hc8
            by_cases hr4 : r4 = 0
            · have X3 := Lib.hid (E3.out r3z.out hr4)
              subst hr4
              go_wp2_with fail
              (try simp only [Exit.inBlock, Exit.then]); refine bodyPost_ret (results_tmp4 rfl _ _ _) rfl ?_
              obtain ⟨rfl, rfl⟩ := X3.out
              exact ⟨⟨_, _, rfl, HS8.out⟩, ⟨_, _, HR8.out⟩, HC8.out.mono (fun k hk h => h.elim (fun e => absurd hk (by have := HLBW.out; omega)) id)⟩
            · have X2 := Lib.hid (E2.out r3z.out hr4)
              have hr4' : (r4 != 0) = true := by rw [bne_iff_ne]; exact hr4
              clear hr4
              go_wp2_with fail
              (try simp only [Exit.inBlock, Exit.then]); refine bodyPost_ret (results_tmp4 rfl _ _ _) rfl ?_
              obtain ⟨rfl, rfl⟩ := X2.out
              exact ⟨rfl, ⟨_, _, HR8.out⟩, HC8.out.mono (fun k hk h => h.elim (fun e => absurd hk (by have := HLBW.out; omega)) id)⟩
          · have hzi : ¬ (0 : Int) < (z : Int) := by omega
            obtain ⟨rfl, hr4⟩ := e4'.out hz0
            have X3 := Lib.hid (E3.out r3z.out hr4)
            clear hz0 hr4
            go_wp2_with fail
            (try simp only [Exit.inBlock, Exit.then]); refine bodyPost_ret (results_tmp4 rfl _ _ _) rfl ?_
            obtain ⟨rfl, rfl⟩ := X3.out
            exact ⟨⟨_, _, rfl, HS7.out⟩, ⟨_, _, HR7.out⟩, HC7.out.mono (fun k hk h => h.elim (fun e => absurd hk (by have := HLBW.out; omega)) id)⟩
set_option maxHeartbeats 12800000 in
theorem ropenSecond (h : IsR B w0 w b g cap D) (hok : DOk D) (f : Nat) (D1 D2 : Dk) (s : Syn D f D1 D2) (A C : ByteArray) (ha : rd (D2.l.getD f Fl.zero) = A) (hc : rd (D2.l.getD (f + 1) Fl.zero) = C) (n2 : Nat) (q2 : List Nat) (hA : whole (bs A) = none) (hC : whole (bs C) = some (n2, q2))
    (c gn fin : Nat) (q : List Nat) (X : ByteArray) (hcc : c = f + 1) (hgg : gn = n2) (hqq : q = q2) (hXX : X = C) (hff : fin = 19 + q.length) (hfX : fin ≤ X.size) (rs : List (List Nat)) (hrs : rs = scan ((bs X).drop fin)) (D3 : Dk) (r3 : Int)
    (e3 : fin + lens rs < X.size → D2.cutX (c : Nat) ((fin + lens rs : Nat) : Int) = (D3, r3)) (e3' : ¬ fin + lens rs < X.size → D3 = D2 ∧ r3 = 0) (k3 : DOk D3) (hl3 : D3.l.length = D.l.length)
    (o z : Nat) (ho : o = f) (hz : z = (rd (D3.l.getD o Fl.zero)).size) (D4 : Dk) (r4 : Int) (e4 : 0 < z → D3.cutX (o : Nat) 0 = (D4, r4)) (e4' : ¬ 0 < z → D4 = D3 ∧ r4 = 0) (D' : Dk) (r : OR)
    (E1 : r3 ≠ 0 → D' = D3 ∧ r = .err 2) (E2 : r3 = 0 → r4 ≠ 0 → D' = D4 ∧ r = .err 2) (L' : Lg) (E3 : r3 = 0 → r4 = 0 → D' = D4 ∧ r = .ok L' q rs) :
    Calls Tryz.prog 79 #[.pointer (some ⟨b, 0, none⟩), .int .i64 (f : Nat)] w (RoPost B w0 w b D' r) := by
  obtain ⟨⟨v0, c0, hrf⟩, c1, ⟨cv, c2, hcv⟩, c3⟩ := h.cells
  have hfm := hrf.form
  subst hfm
  have hAs : A.size ≤ 262144 := by rw [← ha]; exact s.k2.size f (by have := s.hf; have := s.hl2; omega)
  have hCs : C.size ≤ 262144 := by rw [← hc]; exact s.k2.size (f + 1) (by have := s.hf; have := s.hl2; omega)
  obtain ⟨al, hf, e1, k1, e2, k2, al2, hl2⟩ := s
  rw [al] at c3
  have hl := hrf.len
  have hm := hrf.capm
  unfold maxLen at hm
  obtain ⟨m, hmm⟩ : ∃ m, m = D.l.length := ⟨_, rfl⟩
  rw [← hmm] at c0 hl hf
  have h2 : ¬ (m : Int) - 2 < (f : Int) := by omega
  have h0 : ¬ (f : Int) < 0 := by omega
  have HN : Hid (D.l.length ≤ 32) := hok.n
  have hfi : (f : Int) ≤ 31 := by have := HN.out; omega
  have H1 := Lib.hid (rsyncA h hok (f : Nat))
  rw [e1] at H1
  have H2 := Lib.hid (fun (w1 : World) (g' cap' : Nat) (h : IsR B w0 w1 b g' cap' D1) => rsyncA h k1 ((f : Int) + 1))
  rw [e2] at H2
  have R0 := Lib.hid (fun (w1 : World) (g' cap' : Nat) (h : IsR B w0 w1 b g' cap' D2) => rreadA h k2 (f : Nat))
  have R1 := Lib.hid (fun (w1 : World) (g' cap' : Nat) (h : IsR B w0 w1 b g' cap' D2) => rreadA h k2 ((f : Int) + 1))
  have er0 : D2.readX (f : Nat) = (A, 0) := by
    unfold Dk.readX; rw [if_neg (by rw [al2]; exact Bool.false_ne_true), if_neg (by rw [out_no (by omega) (by omega)]; exact Bool.false_ne_true), Int.toNat_natCast, ha]
  have er1 : D2.readX ((f : Int) + 1) = (C, 0) := by
    unfold Dk.readX; rw [if_neg (by rw [al2]; exact Bool.false_ne_true), if_neg (by rw [out_no (by omega) (by omega)]; exact Bool.false_ne_true), show ((f : Int) + 1).toNat = f + 1 by omega, hc]
  rw [er0] at R0
  rw [er1] at R1
  have HAs := Lib.hid hAs
  have HCs := Lib.hid hCs
  have W1 := Lib.hid (fun w => rwhole0_none A hA w (by omega))
  have W2 := Lib.hid (fun w => rwhole0_some C hC w (by omega))
  have HbB := Lib.hid h.bB
  have Hlt := Lib.hid h.lt
  have HXS : Hid (X.size ≤ 262144) := by rw [hXX]; exact HCs
  obtain ⟨fin2, hfin2⟩ : ∃ n, n = fin + lens rs := ⟨_, rfl⟩
  rw [← hfin2] at e3 e3'
  have H5 := Lib.hid (fun (w1 : World) (g' cap' : Nat) (h : IsR B w0 w1 b g' cap' D2) => rcutA h k2 (c : Nat) (fin2 : Nat))
  have H6 := Lib.hid (fun (w1 : World) (g' cap' : Nat) (h : IsR B w0 w1 b g' cap' D3) => rsizeYes h k3 o (by omega))
  rw [← hz] at H6
  have H8 := Lib.hid (fun (w1 : World) (g' cap' : Nat) (h : IsR B w0 w1 b g' cap' D3) => rcutA h k3 (o : Nat) 0)
  rw [show ((c : Nat) : Int) = (f : Int) + 1 by omega] at H5
  rw [show ((o : Nat) : Int) = (f : Int) by omega] at H6 H8
  rw [show ((c : Nat) : Int) = (f : Int) + 1 by omega] at e3
  rw [show ((o : Nat) : Int) = (f : Int) by omega] at e4
  replace e3 := Lib.hid e3
  replace e3' := Lib.hid e3'
  replace e4 := Lib.hid e4
  replace e4' := Lib.hid e4'
  replace E1 := Lib.hid E1
  replace E2 := Lib.hid E2
  replace E3 := Lib.hid E3
  have HRS := Lib.hid hrs
  have HF2 := Lib.hid hfin2
  have HFX := Lib.hid hfX
  have HCC := Lib.hid hcc
  have HGG := Lib.hid hgg
  have HFF := Lib.hid hff
  subst hXX
  subst hqq
  clear h hrf hcv al c1 c2 hmm hok e1 k1 e2 k2 al2 hl2 hf ha hc hA hC hAs hCs er0 er1 hcc hgg hff hfX hrs k3 hl3 hz ho hfin2
  go_enter Tryz.func79, Tryz.ntmps79
  go_wp2_with fail
  refine H1.out.mono ?_
  rintro e w1 ⟨rfl, ⟨g1, cap1, hr1⟩, hc1⟩
  have HR1 := Lib.hid hr1
  have HC1 := Lib.hid hc1
  clear hr1 hc1 c0 c3
  go_wp2_with fail
  refine (H2.out _ _ _ HR1.out).mono ?_
  rintro e w2 ⟨rfl, ⟨g2, cap2, hr2⟩, hc2⟩
  have HR2 := Lib.hid hr2
  have HC2 := Lib.hid (HC1.out.trans hc2)
  clear hr2 hc2 HR1 HC1
  go_wp2_with fail
  refine (R0.out _ _ _ HR2.out).mono ?_
  rintro e w3 ⟨rfl, hb3⟩
  have HB3 := Lib.hid hb3
  clear hb3
  have HR3 := Lib.hid (HR2.out.grow HB3.out)
  go_wp2_with fail
  refine (R1.out _ _ _ HR3.out).mono ?_
  rintro e w4 ⟨rfl, hb4⟩
  have HB4 := Lib.hid (HB3.out.trans (hb4.mono HB3.out.size))
  clear hb4 HR3
  go_wp2_with fail
  refine (W1.out _).mono ?_
  rintro e w5 ⟨rfl, hb5⟩
  have HB5 := Lib.hid (HB4.out.trans (hb5.mono HB4.out.size))
  clear hb5
  go_wp2_with fail
  refine (W2.out _).mono ?_
  rintro e w6 ⟨rfl, hb6⟩
  have HB6 := Lib.hid (HB5.out.trans (hb6.mono HB5.out.size))
  have HR6 := Lib.hid (HR2.out.grow HB6.out)
  have HC6 := Lib.hid (HC2.out.trans (Chg.of_below _ HB6.out))
  clear hb6 HB3 HB4 HB5 HB6 HR2 HC2 W1 W2 R0 R1 H1 H2
  go_wp2_with fail
  obtain ⟨lb, hlb⟩ : ∃ lb, lb = w6.heap.size := ⟨_, rfl⟩
  obtain ⟨wq, hwq⟩ : ∃ x, x = (w6.alloc (.cells #[.pointer (some ⟨b, 0, none⟩), .int .i64 (f : Nat), .int .i64 ((f : Int) + 1), .int .i64 (n2 : Nat), .int .i64 0, .bool false] 169)).alloc (.cells #[] 9) := ⟨_, rfl⟩
  have HBq : Hid (Below w6.heap.size w6 wq) := by unfold Hid; rw [hwq]; exact ((Below.refl _ _).alloc (Nat.le_refl _) _).alloc (by simp) _
  have HLq : Hid (IsRLog wq lb b f c gn 0) := ⟨by
    rw [hwq, hlb, HCC.out, HGG.out]
    have e := heap_alloc_new w6 (.cells #[.pointer (some ⟨b, 0, none⟩), .int .i64 (f : Nat), .int .i64 ((f : Int) + 1), .int .i64 (n2 : Nat), .int .i64 0, .bool false] 169)
    rw [show (((f + 1 : Nat)) : Int) = (f : Int) + 1 by omega]
    exact (((Below.refl _ _).alloc (Nat.le_refl _) _).block _ (by simp)).trans e⟩
  have HOq : Hid (OwnsS wq (w6.heap.size + 1) (.slice (some ⟨w6.heap.size + 1, 0, none⟩) 0 0) []) := by
    have e := OwnsS.empty (w6.alloc (.cells #[.pointer (some ⟨b, 0, none⟩), .int .i64 (f : Nat), .int .i64 ((f : Int) + 1), .int .i64 (n2 : Nat), .int .i64 0, .bool false] 169))
    rw [show (w6.alloc (.cells #[.pointer (some ⟨b, 0, none⟩), .int .i64 (f : Nat), .int .i64 ((f : Int) + 1), .int .i64 (n2 : Nat), .int .i64 0, .bool false] 169)).heap.size = w6.heap.size + 1 by simp, ← hwq] at e
    exact e
  have HLBW : Hid (w.heap.size ≤ lb) := by unfold Hid; rw [hlb]; exact HC6.out.size
  have HLBB : Hid (B ≤ lb) := by unfold Hid; have := HLBW.out; have := HbB.out; have := Hlt.out; omega
  have HLBN : Hid (lb ≠ b) := by unfold Hid; have := HLBW.out; have := Hlt.out; omega
  rw [← hwq, ← hlb]
  rw [← hlb] at HOq
  have HB7 : Hid (∀ w2, Below (lb + 1) wq w2 → Below w6.heap.size w6 w2) := fun w2 hb => HBq.out.trans (hb.mono (by rw [← hlb]; exact Nat.le_succ _))
  clear hlb hwq HBq
  go_loopw [14, 22] (fun v14 v22 w2 => ∃ (a : Nat) (qs : List (List Nat)), v14 = .int .i64 (a : Nat) ∧ OwnsS w2 (lb + 1) v22 (qs.map strOf) ∧ ScanAt (bs X) fin qs a ∧ Below (lb + 1) wq w2) (fun v _ _ => ((X.size : Int) + 1 - intOf v).toNat)
  case atStart => exact ⟨fin, [], by rw [HFF.out]; rfl, HOq.out, ScanAt.start _ _ (by rw [length_bs]; exact HFX.out), Below.refl _ _⟩
  case round =>
    obtain ⟨a, qs, rfl, ho, hsc, hb⟩ := hrel
    obtain ⟨p20, c20, rfl⟩ := ho.shape
    obtain ⟨m, hm⟩ : ∃ m, m = (qs.map strOf).length := ⟨_, rfl⟩
    rw [← hm] at ho ⊢
    have hml : m = qs.length := by rw [hm, List.length_map]
    have HML := Lib.hid hml
    have HO1 := Lib.hid ho
    have HSC := Lib.hid hsc
    have HB1 := Lib.hid hb
    have hqa : a ≤ X.size := by have := hsc.le; rwa [length_bs] at this
    have hmb : m ≤ 262144 := by
      have h1 := hsc.pos
      have h2 := lens_ge qs
      have := HXS.out
      omega
    have HLw : Hid (IsRLog wr lb b f c gn 0) := ⟨(hb.block lb (Nat.lt_succ_self _)).trans HLq.out.blk⟩
    have HRw : Hid (IsR B w0 wr b _ _ D2) := HR6.out.grow (HB7.out wr hb)
    have HCw : Hid (Chg (fun k => k = lb ∨ k = b) w wr) := (HC6.out.trans (Chg.of_below _ (HB7.out wr hb))).mono (fun k _ h => .inr h)
    clear ho hsc hb hm hml
    rcases hS : whole ((bs X).drop a) with _ | ⟨n, qq⟩
    · have hqr : qs = rs := by rw [HRS.out]; exact HSC.out.done (fun p h => by rw [hS] at h; cases h)
      have hfa : a = fin2 := by rw [HF2.out, ← hqr]; exact HSC.out.pos
      have HWS1 : Hid (WS wr (.slice p20 m c20) (rs.map strOf)) := by unfold Hid; rw [← hqr]; exact HO1.out.ws
      have HMR : Hid (m = rs.length) := by unfold Hid; rw [HML.out, hqr]
      have HW := Lib.hid (fun w => rwholeN_none X a hqa hS w (by have := HXS.out; omega))
      skip
      clear hS hqr HSC HO1
      subst hfa
      go_wp2_with fail
      refine (HW.out _).mono ?_
      rintro e w3 ⟨rfl, hb3⟩
      have HL3 := Lib.hid (HLw.out.below hb3)
      have HD3 := Lib.hid (HRw.out.grow hb3)
      have HWS3 := Lib.hid (HWS1.out.below hb3)
      have HC3 := Lib.hid (HCw.out.trans (Chg.of_below _ hb3))
      clear hb3 HW HWS1 HLw HRw HCw
      have c2 : w3.cell? ⟨lb, 2, none⟩ = some (.int .i64 ((f : Int) + 1)) := by have e := HL3.out.c2; rw [HCC.out] at e; exact e
      have c4 := HL3.out.c4
      have f4 := HL3.out.free 4
      have HL4 : Hid (IsRLog (w3.setCell ⟨lb, 4, none⟩ (.int .i64 (m : Nat))) lb b f c gn m) := HL3.out.setN m
      have hcs : Chg (fun k => k = lb) w3 (w3.setCell ⟨lb, 4, none⟩ (.int .i64 (m : Nat))) := Chg.setCell (fun k => k = lb) w3 rfl _
      have HD4 : Hid (∃ g' cap', IsR B w0 (w3.setCell ⟨lb, 4, none⟩ (.int .i64 (m : Nat))) b g' cap' D2) := ⟨_, _, HD3.out.log HL3.out HLBB.out HLBN.out hcs⟩
      have HW4 : Hid (WS (w3.setCell ⟨lb, 4, none⟩ (.int .i64 (m : Nat))) (.slice p20 m c20) (rs.map strOf)) := HWS3.out.keep hcs HL3.out.muts
      have HC4 : Hid (Chg (fun k => k = lb ∨ k = b) w (w3.setCell ⟨lb, 4, none⟩ (.int .i64 (m : Nat)))) := HC3.out.trans (hcs.mono (fun k _ h => .inl h))
      clear hcs HD3 HWS3 HC3
      by_cases hcut : a < X.size
      · have hci : (a : Int) < (X.size : Int) := by omega
        have H5c := Lib.hid H5.out
        rw [e3.out hcut] at H5c
        clear hcut
        go_wp2_with fail
        clear c2 c4 f4
        obtain ⟨w4, hw4⟩ : ∃ x, x = w3.setCell ⟨lb, 4, none⟩ (.int .i64 (m : Nat)) := ⟨_, rfl⟩
        rw [← hw4] at HL4 HD4 HW4 HC4 ⊢
        clear hw4 HL3
        obtain ⟨g4, cap4, hr4⟩ := HD4.out
        have HR4 := Lib.hid hr4
        clear hr4 HD4
        refine (H5c.out _ _ _ HR4.out).mono ?_
        rintro e w5 ⟨rfl, ⟨g5, cap5, hr5⟩, hc5⟩
        have HR5 := Lib.hid hr5
        have HL5 := Lib.hid (HL4.out.keep hc5 HLBN.out)
        have HSx := Lib.hid (HW4.out.keep hc5 HR4.out.muts)
        have HC5 := Lib.hid (HC4.out.trans (hc5.mono (fun k _ h => Or.inr h)))
        clear hr5 hc5 HL4 HW4 HC4 HR4
        by_cases r3z : r3 = 0
        · subst r3z
          have r3z : Hid ((0 : Int) = 0) := Lib.hid rfl
          have c2 : w5.cell? ⟨lb, 2, none⟩ = some (.int .i64 ((f : Int) + 1)) := by have e := HL5.out.c2; rw [HCC.out] at e; exact e
          go_wp2_with fail
          clear c2
          refine (H6.out _ _ _ HR5.out).mono ?_
          rintro e w7 ⟨rfl, hb7⟩
          have HR7 := Lib.hid (HR5.out.grow hb7)
          have HC7 := Lib.hid (HC5.out.trans (Chg.of_below _ hb7))
          have HS7 := Lib.hid (HSx.out.below hb7)
          clear hb7
          by_cases hz0 : 0 < z
          · have hzi : (0 : Int) < (z : Int) := by omega
            have H8c := Lib.hid H8.out
            rw [e4.out hz0] at H8c
            clear hz0
            go_wp2_with fail
            refine (H8c.out _ _ _ HR7.out).mono ?_
            rintro e w8 ⟨rfl, ⟨g8, cap8, hr8⟩, hc8⟩
            have HR8 := Lib.hid hr8
            have HC8 := Lib.hid (HC7.out.trans (hc8.mono (fun k _ h => Or.inr h)))
            have HS8 := Lib.hid (HS7.out.keep hc8 HR7.out.muts)
            clear hr8 hc8
            by_cases hr4 : r4 = 0
            · have X3 := Lib.hid (E3.out r3z.out hr4)
              subst hr4
              go_wp2_with fail
              (try simp only [Exit.inBlock, Exit.then]); refine bodyPost_ret (results_tmp4 rfl _ _ _) rfl ?_
              obtain ⟨rfl, rfl⟩ := X3.out
              exact ⟨⟨_, _, rfl, HS8.out⟩, ⟨_, _, HR8.out⟩, HC8.out.mono (fun k hk h => h.elim (fun e => absurd hk (by have := HLBW.out; omega)) id)⟩
            · have X2 := Lib.hid (E2.out r3z.out hr4)
              have hr4' : (r4 != 0) = true := by rw [bne_iff_ne]; exact hr4
              clear hr4
              go_wp2_with fail
              (try simp only [Exit.inBlock, Exit.then]); refine bodyPost_ret (results_tmp4 rfl _ _ _) rfl ?_
              obtain ⟨rfl, rfl⟩ := X2.out
              exact ⟨rfl, ⟨_, _, HR8.out⟩, HC8.out.mono (fun k hk h => h.elim (fun e => absurd hk (by have := HLBW.out; omega)) id)⟩
          · have hzi : ¬ (0 : Int) < (z : Int) := by omega
            obtain ⟨rfl, hr4⟩ := e4'.out hz0
            have X3 := Lib.hid (E3.out r3z.out hr4)
            clear hz0 hr4
            go_wp2_with fail
            (try simp only [Exit.inBlock, Exit.then]); refine bodyPost_ret (results_tmp4 rfl _ _ _) rfl ?_
            obtain ⟨rfl, rfl⟩ := X3.out
            exact ⟨⟨_, _, rfl, HS7.out⟩, ⟨_, _, HR7.out⟩, HC7.out.mono (fun k hk h => h.elim (fun e => absurd hk (by have := HLBW.out; omega)) id)⟩
        · have X1 := Lib.hid (E1.out r3z)
          have hr3' : (r3 != 0) = true := by rw [bne_iff_ne]; exact r3z
          clear r3z
          go_wp2_with fail
          (try simp only [Exit.inBlock, Exit.then]); refine bodyPost_ret (results_tmp4 rfl _ _ _) rfl ?_
          obtain ⟨rfl, rfl⟩ := X1.out
          exact ⟨rfl, ⟨_, _, HR5.out⟩, HC5.out.mono (fun k hk h => h.elim (fun e => absurd hk (by have := HLBW.out; omega)) id)⟩
      · have hci : ¬ (a : Int) < (X.size : Int) := by omega
        obtain ⟨h3a, h3b⟩ := e3'.out hcut
        subst h3a
        have r3z : Hid (r3 = 0) := Lib.hid h3b
        clear hcut h3b
        go_wp2_with fail
        clear c2 c4 f4
        obtain ⟨w4, hw4⟩ : ∃ x, x = w3.setCell ⟨lb, 4, none⟩ (.int .i64 (m : Nat)) := ⟨_, rfl⟩
        rw [← hw4] at HL4 HD4 HW4 HC4 ⊢
        clear hw4 HL3
        obtain ⟨g4, cap4, hr4⟩ := HD4.out
        have HR5 := Lib.hid hr4
        clear hr4 HD4
        have HL5 := HL4
        have HSx := HW4
        have HC5 := HC4
        clear HL4 HW4 HC4
        refine (H6.out _ _ _ HR5.out).mono ?_
        rintro e w7 ⟨rfl, hb7⟩
        have HR7 := Lib.hid (HR5.out.grow hb7)
        have HC7 := Lib.hid (HC5.out.trans (Chg.of_below _ hb7))
        have HS7 := Lib.hid (HSx.out.below hb7)
        clear hb7
        by_cases hz0 : 0 < z
        · have hzi : (0 : Int) < (z : Int) := by omega
          have H8c := Lib.hid H8.out
          rw [e4.out hz0] at H8c
          clear hz0
          go_wp2_with fail
          refine (H8c.out _ _ _ HR7.out).mono ?_
          rintro e w8 ⟨rfl, ⟨g8, cap8, hr8⟩, hc8⟩
          have HR8 := Lib.hid hr8
          have HC8 := Lib.hid (HC7.out.trans (hc8.mono (fun k _ h => Or.inr h)))
          have HS8 := Lib.hid (HS7.out.keep hc8 HR7.out.muts)
          clear hr8 hc8
          by_cases hr4 : r4 = 0
          · have X3 := Lib.hid (E3.out r3z.out hr4)
            subst hr4
            go_wp2_with fail
            (try simp only [Exit.inBlock, Exit.then]); refine bodyPost_ret (results_tmp4 rfl _ _ _) rfl ?_
            obtain ⟨rfl, rfl⟩ := X3.out
            exact ⟨⟨_, _, rfl, HS8.out⟩, ⟨_, _, HR8.out⟩, HC8.out.mono (fun k hk h => h.elim (fun e => absurd hk (by have := HLBW.out; omega)) id)⟩
          · have X2 := Lib.hid (E2.out r3z.out hr4)
            have hr4' : (r4 != 0) = true := by rw [bne_iff_ne]; exact hr4
            clear hr4
            go_wp2_with fail
            (try simp only [Exit.inBlock, Exit.then]); refine bodyPost_ret (results_tmp4 rfl _ _ _) rfl ?_
            obtain ⟨rfl, rfl⟩ := X2.out
            exact ⟨rfl, ⟨_, _, HR8.out⟩, HC8.out.mono (fun k hk h => h.elim (fun e => absurd hk (by have := HLBW.out; omega)) id)⟩
        · have hzi : ¬ (0 : Int) < (z : Int) := by omega
          obtain ⟨rfl, hr4⟩ := e4'.out hz0
          have X3 := Lib.hid (E3.out r3z.out hr4)
          clear hz0 hr4
          go_wp2_with fail
          (try simp only [Exit.inBlock, Exit.then]); refine bodyPost_ret (results_tmp4 rfl _ _ _) rfl ?_
          obtain ⟨rfl, rfl⟩ := X3.out
          exact ⟨⟨_, _, rfl, HS7.out⟩, ⟨_, _, HR7.out⟩, HC7.out.mono (fun k hk h => h.elim (fun e => absurd hk (by have := HLBW.out; omega)) id)⟩
    · by_cases hnn : n = qs.length + 1
      · have HW := Lib.hid (fun w => rwholeN_some X a hqa hS w (by have := HXS.out; omega))
        have hnx := HSC.out.next (bs_lt X) (by rw [hS, hnn])
        have HNX := Lib.hid hnx
        have hle2 := hnx.le
        rw [length_bs] at hle2
        have hni2 : (n : Int) = (m : Int) + 1 := by have := HML.out; omega
        have hps := HXS.out
        clear hnx hS hnn
        rw [hni2] at HW
        go_wp2_with fail
        refine (HW.out _).mono ?_
        rintro e w3 ⟨rfl, hb3⟩
        have HO3 := Lib.hid (HO1.out.kept hb3)
        have HB3 := Lib.hid (HB1.out.trans (hb3.mono HLw.out.lt))
        have HZ3 : Hid (lb + 1 ≤ w3.heap.size) := Nat.le_trans HLw.out.lt hb3.size
        clear hb3 HW
        go_wp2_with (at_builtin; refine wpList_append_s rfl _ _ rfl rfl (HO3.out.alloc _) ⟨w3.heap.size, 0, none⟩ 1 (strOf qq) rfl (by simp) ?e1 (by have := HZ3.out; simp; omega) ?_)
        case e1 => rw [List.length_map, ← HML.out]; omega
        intro v4 w4 ho4 hg4
        have HO4 := Lib.hid ho4
        have HB4 := Lib.hid ((HB3.out.alloc HZ3.out _).grown hg4 (by have := HZ3.out; simp; omega) (fun k hk => (HO3.out.block hk).1))
        clear ho4 hg4
        go_wp2_with fail
        refine ⟨⟨a + (19 + qq.length), qs ++ [qq], rfl, by rw [List.map_append]; exact HO4.out, HNX.out, HB4.out⟩, by simp only [intOf]; omega⟩
      · have hni2 : ((n : Int) != (m : Int) + 1) = true := by
          have := HML.out
          rw [bne_iff_ne]; omega
        have hqr : qs = rs := by rw [HRS.out]; exact HSC.out.done (fun p h => by rw [hS] at h; injection h with h; injection h with h1 h2; exact hnn h1)
        have hfa : a = fin2 := by rw [HF2.out, ← hqr]; exact HSC.out.pos
        have HWS1 : Hid (WS wr (.slice p20 m c20) (rs.map strOf)) := by unfold Hid; rw [← hqr]; exact HO1.out.ws
        have HMR : Hid (m = rs.length) := by unfold Hid; rw [HML.out, hqr]
        have HW := Lib.hid (fun w => rwholeN_some X a hqa hS w (by have := HXS.out; omega))
        clear hnn
        clear hS hqr HSC HO1
        subst hfa
        go_wp2_with fail
        refine (HW.out _).mono ?_
        rintro e w3 ⟨rfl, hb3⟩
        have HL3 := Lib.hid (HLw.out.below hb3)
        have HD3 := Lib.hid (HRw.out.grow hb3)
        have HWS3 := Lib.hid (HWS1.out.below hb3)
        have HC3 := Lib.hid (HCw.out.trans (Chg.of_below _ hb3))
        clear hb3 HW HWS1 HLw HRw HCw
        have c2 : w3.cell? ⟨lb, 2, none⟩ = some (.int .i64 ((f : Int) + 1)) := by have e := HL3.out.c2; rw [HCC.out] at e; exact e
        have c4 := HL3.out.c4
        have f4 := HL3.out.free 4
        have HL4 : Hid (IsRLog (w3.setCell ⟨lb, 4, none⟩ (.int .i64 (m : Nat))) lb b f c gn m) := HL3.out.setN m
        have hcs : Chg (fun k => k = lb) w3 (w3.setCell ⟨lb, 4, none⟩ (.int .i64 (m : Nat))) := Chg.setCell (fun k => k = lb) w3 rfl _
        have HD4 : Hid (∃ g' cap', IsR B w0 (w3.setCell ⟨lb, 4, none⟩ (.int .i64 (m : Nat))) b g' cap' D2) := ⟨_, _, HD3.out.log HL3.out HLBB.out HLBN.out hcs⟩
        have HW4 : Hid (WS (w3.setCell ⟨lb, 4, none⟩ (.int .i64 (m : Nat))) (.slice p20 m c20) (rs.map strOf)) := HWS3.out.keep hcs HL3.out.muts
        have HC4 : Hid (Chg (fun k => k = lb ∨ k = b) w (w3.setCell ⟨lb, 4, none⟩ (.int .i64 (m : Nat)))) := HC3.out.trans (hcs.mono (fun k _ h => .inl h))
        clear hcs HD3 HWS3 HC3
        by_cases hcut : a < X.size
        · have hci : (a : Int) < (X.size : Int) := by omega
          have H5c := Lib.hid H5.out
          rw [e3.out hcut] at H5c
          clear hcut
          go_wp2_with fail
          clear c2 c4 f4
          obtain ⟨w4, hw4⟩ : ∃ x, x = w3.setCell ⟨lb, 4, none⟩ (.int .i64 (m : Nat)) := ⟨_, rfl⟩
          rw [← hw4] at HL4 HD4 HW4 HC4 ⊢
          clear hw4 HL3
          obtain ⟨g4, cap4, hr4⟩ := HD4.out
          have HR4 := Lib.hid hr4
          clear hr4 HD4
          refine (H5c.out _ _ _ HR4.out).mono ?_
          rintro e w5 ⟨rfl, ⟨g5, cap5, hr5⟩, hc5⟩
          have HR5 := Lib.hid hr5
          have HL5 := Lib.hid (HL4.out.keep hc5 HLBN.out)
          have HSx := Lib.hid (HW4.out.keep hc5 HR4.out.muts)
          have HC5 := Lib.hid (HC4.out.trans (hc5.mono (fun k _ h => Or.inr h)))
          clear hr5 hc5 HL4 HW4 HC4 HR4
          by_cases r3z : r3 = 0
          · subst r3z
            have r3z : Hid ((0 : Int) = 0) := Lib.hid rfl
            have c2 : w5.cell? ⟨lb, 2, none⟩ = some (.int .i64 ((f : Int) + 1)) := by have e := HL5.out.c2; rw [HCC.out] at e; exact e
            go_wp2_with fail
            clear c2
            refine (H6.out _ _ _ HR5.out).mono ?_
            rintro e w7 ⟨rfl, hb7⟩
            have HR7 := Lib.hid (HR5.out.grow hb7)
            have HC7 := Lib.hid (HC5.out.trans (Chg.of_below _ hb7))
            have HS7 := Lib.hid (HSx.out.below hb7)
            clear hb7
            by_cases hz0 : 0 < z
            · have hzi : (0 : Int) < (z : Int) := by omega
              have H8c := Lib.hid H8.out
              rw [e4.out hz0] at H8c
              clear hz0
              go_wp2_with fail
              refine (H8c.out _ _ _ HR7.out).mono ?_
              rintro e w8 ⟨rfl, ⟨g8, cap8, hr8⟩, hc8⟩
              have HR8 := Lib.hid hr8
              have HC8 := Lib.hid (HC7.out.trans (hc8.mono (fun k _ h => Or.inr h)))
              have HS8 := Lib.hid (HS7.out.keep hc8 HR7.out.muts)
              clear hr8 hc8
              by_cases hr4 : r4 = 0
              · have X3 := Lib.hid (E3.out r3z.out hr4)
                subst hr4
                go_wp2_with fail
                (try simp only [Exit.inBlock, Exit.then]); refine bodyPost_ret (results_tmp4 rfl _ _ _) rfl ?_
                obtain ⟨rfl, rfl⟩ := X3.out
                exact ⟨⟨_, _, rfl, HS8.out⟩, ⟨_, _, HR8.out⟩, HC8.out.mono (fun k hk h => h.elim (fun e => absurd hk (by have := HLBW.out; omega)) id)⟩
              · have X2 := Lib.hid (E2.out r3z.out hr4)
                have hr4' : (r4 != 0) = true := by rw [bne_iff_ne]; exact hr4
                clear hr4
                go_wp2_with fail
                (try simp only [Exit.inBlock, Exit.then]); refine bodyPost_ret (results_tmp4 rfl _ _ _) rfl ?_
                obtain ⟨rfl, rfl⟩ := X2.out
                exact ⟨rfl, ⟨_, _, HR8.out⟩, HC8.out.mono (fun k hk h => h.elim (fun e => absurd hk (by have := HLBW.out; omega)) id)⟩
            · have hzi : ¬ (0 : Int) < (z : Int) := by omega
              obtain ⟨rfl, hr4⟩ := e4'.out hz0
              have X3 := Lib.hid (E3.out r3z.out hr4)
              clear hz0 hr4
              go_wp2_with fail
              (try simp only [Exit.inBlock, Exit.then]); refine bodyPost_ret (results_tmp4 rfl _ _ _) rfl ?_
              obtain ⟨rfl, rfl⟩ := X3.out
              exact ⟨⟨_, _, rfl, HS7.out⟩, ⟨_, _, HR7.out⟩, HC7.out.mono (fun k hk h => h.elim (fun e => absurd hk (by have := HLBW.out; omega)) id)⟩
          · have X1 := Lib.hid (E1.out r3z)
            have hr3' : (r3 != 0) = true := by rw [bne_iff_ne]; exact r3z
            clear r3z
            go_wp2_with fail
            (try simp only [Exit.inBlock, Exit.then]); refine bodyPost_ret (results_tmp4 rfl _ _ _) rfl ?_
            obtain ⟨rfl, rfl⟩ := X1.out
            exact ⟨rfl, ⟨_, _, HR5.out⟩, HC5.out.mono (fun k hk h => h.elim (fun e => absurd hk (by have := HLBW.out; omega)) id)⟩
        · have hci : ¬ (a : Int) < (X.size : Int) := by omega
          obtain ⟨h3a, h3b⟩ := e3'.out hcut
          subst h3a
          have r3z : Hid (r3 = 0) := Lib.hid h3b
          clear hcut h3b
          go_wp2_with fail
          clear c2 c4 f4
          obtain ⟨w4, hw4⟩ : ∃ x, x = w3.setCell ⟨lb, 4, none⟩ (.int .i64 (m : Nat)) := ⟨_, rfl⟩
          rw [← hw4] at HL4 HD4 HW4 HC4 ⊢
          clear hw4 HL3
          obtain ⟨g4, cap4, hr4⟩ := HD4.out
          have HR5 := Lib.hid hr4
          clear hr4 HD4
          have HL5 := HL4
          have HSx := HW4
          have HC5 := HC4
          clear HL4 HW4 HC4
          refine (H6.out _ _ _ HR5.out).mono ?_
          rintro e w7 ⟨rfl, hb7⟩
          have HR7 := Lib.hid (HR5.out.grow hb7)
          have HC7 := Lib.hid (HC5.out.trans (Chg.of_below _ hb7))
          have HS7 := Lib.hid (HSx.out.below hb7)
          clear hb7
          by_cases hz0 : 0 < z
          · have hzi : (0 : Int) < (z : Int) := by omega
            have H8c := Lib.hid H8.out
            rw [e4.out hz0] at H8c
            clear hz0
            go_wp2_with fail
            refine (H8c.out _ _ _ HR7.out).mono ?_
            rintro e w8 ⟨rfl, ⟨g8, cap8, hr8⟩, hc8⟩
            have HR8 := Lib.hid hr8
            have HC8 := Lib.hid (HC7.out.trans (hc8.mono (fun k _ h => Or.inr h)))
            have HS8 := Lib.hid (HS7.out.keep hc8 HR7.out.muts)
            clear hr8 hc8
            by_cases hr4 : r4 = 0
            · have X3 := Lib.hid (E3.out r3z.out hr4)
              subst hr4
              go_wp2_with fail
              (try simp only [Exit.inBlock, Exit.then]); refine bodyPost_ret (results_tmp4 rfl _ _ _) rfl ?_
              obtain ⟨rfl, rfl⟩ := X3.out
              exact ⟨⟨_, _, rfl, HS8.out⟩, ⟨_, _, HR8.out⟩, HC8.out.mono (fun k hk h => h.elim (fun e => absurd hk (by have := HLBW.out; omega)) id)⟩
            · have X2 := Lib.hid (E2.out r3z.out hr4)
              have hr4' : (r4 != 0) = true := by rw [bne_iff_ne]; exact hr4
              clear hr4
              go_wp2_with fail
              (try simp only [Exit.inBlock, Exit.then]); refine bodyPost_ret (results_tmp4 rfl _ _ _) rfl ?_
              obtain ⟨rfl, rfl⟩ := X2.out
              exact ⟨rfl, ⟨_, _, HR8.out⟩, HC8.out.mono (fun k hk h => h.elim (fun e => absurd hk (by have := HLBW.out; omega)) id)⟩
          · have hzi : ¬ (0 : Int) < (z : Int) := by omega
            obtain ⟨rfl, hr4⟩ := e4'.out hz0
            have X3 := Lib.hid (E3.out r3z.out hr4)
            clear hz0 hr4
            go_wp2_with fail
            (try simp only [Exit.inBlock, Exit.then]); refine bodyPost_ret (results_tmp4 rfl _ _ _) rfl ?_
            obtain ⟨rfl, rfl⟩ := X3.out
            exact ⟨⟨_, _, rfl, HS7.out⟩, ⟨_, _, HR7.out⟩, HC7.out.mono (fun k hk h => h.elim (fun e => absurd hk (by have := HLBW.out; omega)) id)⟩
end
end Go.Proofs.YtilpbjcbffbjeaaGreatDoor
