/- The log's Open where the disk lives. -/
import Derived.Test.YtilpbjcbffbjeaaGreatDoorPkG
import Derived.Test.YtilpbjcbffbjeaaGreatDoorPkB
namespace Go.Proofs.YtilpbjcbffbjeaaGreatDoor
set_option linter.unusedVariables false
set_option maxRecDepth 100000
open Go.RowKit
set_option linter.unusedSectionVars false
variable [Avoid]
section
variable {S : Nat → Prop} {w w' : World} {lb b g cap : Nat} {L : Lg} {D : Dk}
theorem out_no {D : Dk} {f : Int} (h0 : 0 ≤ f) (h1 : f < (D.l.length : Int)) : D.out f = false := by
  unfold Dk.out; exact decide_eq_false (by omega)
theorem OwnsS.shape {w : World} {base : Nat} {v : Value} {ss : List ByteArray} (h : OwnsS w base v ss) : ∃ p cap, v = .slice p ss.length cap := by
  obtain ⟨p, cap, hv, _⟩ := @WS.form avoidNone _ _ _ h.ws
  exact ⟨p, cap, hv⟩
theorem OwnsS.keepM {S : Nat → Prop} {w w' : World} {base : Nat} {v : Value} {ss : List ByteArray} (h : OwnsS w base v ss) (hc : Chg S w w') (hm : Muts S w) : OwnsS w' base v ss :=
  row_keep h hc fun k hk _ hS cur fr hh => hm k hk hS _ _ _ hh (.inl rfl)
theorem OwnsS.baseL {w : World} {B base : Nat} {v : Value} {ss : List ByteArray} (h : OwnsS w base v ss) (hB : B ≤ base) : OwnsS w B v ss :=
  ⟨h.1, h.2.imp id (fun ⟨g, cap, cur, e, hh, r⟩ => ⟨g, cap, cur, e, Nat.le_trans hB hh, r⟩)⟩
theorem whole0_none (s : ByteArray) (h : whole (bs s) = none) (w : World) (hs : s.size ≤ 1099511627776) : Calls Tryz.prog 72 #[.string s, .int .i64 0] w fun e w' => e = .returned (.tuple #[.int .i64 0, .string ⟨#[]⟩, .int .i64 0, .bool false]) ∧ Below w.heap.size w w' := by
  have h1 := wholeW s 0 w hs
  rw [wholeAt_zero, h] at h1
  exact h1
theorem whole0_some (s : ByteArray) {n : Nat} {q : List Nat} (h : whole (bs s) = some (n, q)) (w : World) (hs : s.size ≤ 1099511627776) : Calls Tryz.prog 72 #[.string s, .int .i64 0] w fun e w' => e = .returned (.tuple #[.int .i64 (n : Nat), .string (strOf q), .int .i64 ((19 + q.length : Nat) : Int), .bool true]) ∧ Below w.heap.size w w' := by
  have h1 := wholeW s 0 w hs
  rw [wholeAt_zero, h] at h1
  exact h1
theorem wholeN_none (s : ByteArray) (a : Nat) (ha : a ≤ s.size) (h : whole ((bs s).drop a) = none) (w : World) (hs : s.size ≤ 1099511627776) : Calls Tryz.prog 72 #[.string s, .int .i64 (a : Nat)] w fun e w' => e = .returned (.tuple #[.int .i64 0, .string ⟨#[]⟩, .int .i64 0, .bool false]) ∧ Below w.heap.size w w' := by
  have h1 := wholeW s a w hs
  rw [wholeAt_nat s a ha, h] at h1
  exact h1
theorem wholeN_some (s : ByteArray) (a : Nat) (ha : a ≤ s.size) {n : Nat} {q : List Nat} (h : whole ((bs s).drop a) = some (n, q)) (w : World) (hs : s.size ≤ 1099511627776) : Calls Tryz.prog 72 #[.string s, .int .i64 (a : Nat)] w fun e w' => e = .returned (.tuple #[.int .i64 (n : Nat), .string (strOf q), .int .i64 ((a + (19 + q.length) : Nat) : Int), .bool true]) ∧ Below w.heap.size w w' := by
  have h1 := wholeW s a w hs
  rw [wholeAt_nat s a ha, h] at h1
  exact h1
set_option maxHeartbeats 12800000 in
theorem openLOk (hd : IsDisk w b g cap D) (hok : DOk D) (f : Nat) (hdd : D.dead = false) (hf : f + 1 < D.l.length) (D1 D2 D3 D4 : Dk)
    (e1 : D.syncX (f : Nat) = (D1, 0)) (k1 : DOk D1) (e2 : D1.syncX ((f : Int) + 1) = (D2, 0)) (k2 : DOk D2) (hd2 : D2.dead = false) (hl2 : D2.l.length = D.l.length)
    (A C : ByteArray) (ha : rd (D2.l.getD f Fl.zero) = A) (hc : rd (D2.l.getD (f + 1) Fl.zero) = C) (p : Pk) (hp : p = pkAt f A C 2) (hg : 0 < p.gen) (rs : List (List Nat)) (hrs : rs = scan ((bs p.bytes).drop p.fin))
    (h3 : p.fin + lens rs < p.bytes.size → D2.cutX (p.counts : Nat) ((p.fin + lens rs : Nat) : Int) = (D3, 0)) (h3' : ¬ p.fin + lens rs < p.bytes.size → D3 = D2) (k3 : DOk D3) (hl3 : D3.l.length = D.l.length)
    (o : Nat) (ho : 2 * (f : Int) + 1 - (p.counts : Int) = (o : Nat)) (z : Nat) (hz : z = (rd (D3.l.getD o Fl.zero)).size) (h4 : 0 < z → D3.cutX (o : Nat) 0 = (D4, 0)) (h4' : z = 0 → D4 = D3) :
    Calls Tryz.prog 77 #[.pointer (some ⟨b, 0, none⟩), .int .i64 (f : Nat)] w fun e w' => ∃ lb v, e = .returned (.tuple #[.pointer (some ⟨lb, 0, none⟩), .string (strOf p.snap), v, .int .i64 0]) ∧ w.heap.size ≤ lb ∧ IsLog w' lb b ⟨f, p.counts, p.gen, rs.length, false⟩ ∧ IsDisk w' b g cap D4 ∧ OwnsS w' w.heap.size v (rs.map strOf) ∧ Chg (fun k => k = b ∨ k = g) w w' := by
  have hn := hok.n
  have hAs : A.size ≤ 262144 := by rw [← ha]; exact k2.size f (by omega)
  have hCs : C.size ≤ 262144 := by rw [← hc]; exact k2.size (f + 1) (by omega)
  have hps : p.bytes.size ≤ 262144 := by rw [hp]; exact pkAt_size f A C 262144 hAs hCs 2
  have hpf : p.fin ≤ p.bytes.size := by rw [hp]; exact pkAt_fin f A C 2
  have hpc : p.counts = f ∨ p.counts = f + 1 := by rw [hp]; exact pkAt_counts f A C 2
  have hpg : p.gen ≤ 1099511627776 := by rw [hp]; exact pkAt_gen f A C 2
  have H1 := Lib.hid (deadW hd)
  have H2 := Lib.hid (hasW hd (f : Nat))
  rw [decide_eq_true (show (0 : Int) ≤ (f : Int) ∧ (f : Int) < (D.l.length : Int) - 1 by omega)] at H2
  rw [hdd] at H1
  have H3 := Lib.hid (fun (w1 : World) (h : IsDisk w1 b g cap D) => syncA h hok (f : Nat))
  rw [e1] at H3
  have H4 := Lib.hid (fun (w1 : World) (h : IsDisk w1 b g cap D1) => syncA h k1 ((f : Int) + 1))
  rw [e2] at H4
  have R0 := Lib.hid (fun (w1 : World) (h : IsDisk w1 b g cap D2) => readA h k2 (f : Nat))
  have R1 := Lib.hid (fun (w1 : World) (h : IsDisk w1 b g cap D2) => readA h k2 ((f : Int) + 1))
  have er0 : D2.readX (f : Nat) = (A, 0) := by
    unfold Dk.readX; rw [if_neg (by rw [hd2]; exact Bool.false_ne_true), if_neg (by rw [out_no (by omega) (by omega)]; exact Bool.false_ne_true), Int.toNat_natCast, ha]
  have er1 : D2.readX ((f : Int) + 1) = (C, 0) := by
    unfold Dk.readX; rw [if_neg (by rw [hd2]; exact Bool.false_ne_true), if_neg (by rw [out_no (by omega) (by omega)]; exact Bool.false_ne_true), show ((f : Int) + 1).toNat = f + 1 by omega, hc]
  rw [er0] at R0
  rw [er1] at R1
  obtain ⟨fin2, hfin2⟩ : ∃ n, n = p.fin + lens rs := ⟨_, rfl⟩
  rw [← hfin2] at h3 h3'
  have H5 := Lib.hid (fun (w1 : World) (h : IsDisk w1 b g cap D2) => cutA h k2 (p.counts : Nat) (fin2 : Nat))
  have H6 : Hid (∀ (w1 : World) (lb : Nat) (L : Lg), IsLog w1 lb b L → L.first = f → L.counts = p.counts → Calls Tryz.prog 102 #[.pointer (some ⟨lb, 0, none⟩)] w1 fun e w' => e = .returned (.int .i64 (o : Nat)) ∧ Below w1.heap.size w1 w') := fun w1 lb L h h1 h2 =>
    (otherW h (by omega) (by omega)).mono fun e w' ⟨q1, q2⟩ => ⟨by rw [q1, h1, h2, ho], q2⟩
  have H7 := Lib.hid (fun (w1 : World) (h : IsDisk w1 b g cap D3) => sizeYes h k3 o (by omega))
  have H8 := Lib.hid (fun (w1 : World) (h : IsDisk w1 b g cap D3) => cutA h k3 (o : Nat) 0)
  rw [← hz] at H7
  have HH3 := Lib.hid h3
  have HH3' := Lib.hid h3'
  have HH4 := Lib.hid h4
  have HH4' := Lib.hid h4'
  have HP := Lib.hid hp
  have HRS := Lib.hid hrs
  have HF2 := Lib.hid hfin2
  have HO := Lib.hid ho
  have HPF := Lib.hid hpf
  have HPS := Lib.hid hps
  have HPG := Lib.hid hpg
  have HPC := Lib.hid hpc
  have HD0 := Lib.hid hd
  have HAs := Lib.hid hAs
  have HCs := Lib.hid hCs
  have HHG := Lib.hid hg
  have HFN : Hid (f ≤ 31) := by unfold Hid; omega
  have hfi : (f : Int) ≤ 31 := by omega
  clear hd hok hdd e1 k1 e2 k2 hd2 hl2 ha hc hp hg hrs h3 h3' k3 hl3 ho hz h4 h4' er0 er1 hps hpf hpc hpg hfin2 hf hn hAs hCs
  go_enter Tryz.func77, Tryz.ntmps77
  go_wp2_with fail
  refine H1.out.mono ?_
  rintro e w1 ⟨rfl, hw⟩
  subst hw
  go_wp2_with fail
  refine H2.out.mono ?_
  rintro e w1 ⟨rfl, hw⟩
  replace hw := hw.symm
  subst hw
  go_wp2_with fail
  obtain ⟨lb, hlb⟩ : ∃ lb, lb = w.heap.size := ⟨_, rfl⟩
  obtain ⟨W, hW⟩ : ∃ W, W = w.alloc (.cells (Lg.cells ⟨f, f, 0, 0, false⟩ b) 139) := ⟨_, rfl⟩
  have HL0 : Hid (IsLog W lb b ⟨f, f, 0, 0, false⟩) := ⟨by rw [hW, hlb]; exact heap_at rfl⟩
  have HBW : Hid (Below w.heap.size w W) := by unfold Hid; rw [hW]; exact (Below.refl _ _).alloc (Nat.le_refl _) _
  have HDW := Lib.hid (HD0.out.below HBW.out)
  have HNE := Lib.hid (HL0.out.ne HDW.out)
  change Calls _ _ #[.pointer (some ⟨b, 0, none⟩), .int .i64 (f : Nat)] (w.alloc (.cells (Lg.cells ⟨f, f, 0, 0, false⟩ b) 139)) _
  rw [← hW, ← hlb]
  have HLB := Lib.hid hlb
  clear hlb hW
  refine (H3.out W HDW.out).mono ?_
  rintro e w2 ⟨rfl, hd2, hc2⟩
  have HD2 := Lib.hid hd2
  have HC2 := Lib.hid hc2
  clear hd2 hc2 HDW
  go_wp2_with fail
  refine (stepOk _ _).mono ?_
  rintro e w3 ⟨rfl, rfl⟩
  go_wp2_with fail
  refine (H4.out _ HD2.out).mono ?_
  rintro e w4 ⟨rfl, hd3, hc3⟩
  have HD3 := Lib.hid hd3
  have HC3 := Lib.hid (HC2.out.trans hc3)
  clear hd3 hc3 HD2 HC2
  go_wp2_with fail
  refine (stepOk _ _).mono ?_
  rintro e w5 ⟨rfl, rfl⟩
  go_wp2_with fail
  refine (eJoinW _ _ (by simp) (by simp)).mono ?_
  rintro e w6 ⟨rfl, rfl⟩
  go_wp2_with fail
  refine (toldOk _ _).mono ?_
  rintro e w7 ⟨rfl, hw7⟩
  have hb7 : Below w5.heap.size w5 w7 := by rw [hw7]; exact (Below.refl _ _).alloc (Nat.le_refl _) _
  have HD7 := Lib.hid (HD3.out.below hb7)
  have HC7 := Lib.hid (HC3.out.trans (Chg.of_below _ hb7))
  have HL7 := Lib.hid (HL0.out.keep HC7.out (fun e => by have := HNE.out; omega))
  clear hw7 hb7 HD3 HC3
  go_wp2_with fail
  go_loopw [10, 11, 12, 54] (fun v10 v11 v12 v54 wr => ∃ i : Nat, i ≤ 2 ∧ v54 = .int .i64 (i : Nat) ∧ v10 = .string (strOf (pkAt f A C i).snap) ∧ v11 = .string (pkAt f A C i).bytes ∧ v12 = .int .i64 ((pkAt f A C i).fin : Nat) ∧ IsLog wr lb b ⟨f, (pkAt f A C i).counts, (pkAt f A C i).gen, 0, false⟩ ∧ Chg (fun k => k = lb) w7 wr) (fun _ _ _ v _ => (2 - intOf v).toNat)
  case atStart => exact ⟨0, by omega, rfl, rfl, rfl, rfl, HL7.out, Chg.refl _ _⟩
  case round =>
    obtain ⟨i, hi, rfl, rfl, rfl, rfl, hlog, hc⟩ := hrel
    have HLr := Lib.hid hlog
    have HCr := Lib.hid hc
    have HDr := Lib.hid (HD7.out.log HL7.out hc)
    clear hlog hc
    rcases i with _ | _ | i
    · obtain ⟨P, hP⟩ : ∃ P, P = pkAt f A C 0 := ⟨_, rfl⟩
      have HPe := Lib.hid hP
      rw [← hP] at HLr
      rw [← hP]
      clear hP
      rcases hS : whole (bs A) with _ | ⟨n, q⟩
      · have HN : Hid (pkAt f A C 1 = P) := by unfold Hid; rw [HPe.out]; exact Pk.next_none _ _ _ hS
        have HW := Lib.hid (fun w => whole0_none A hS w (by have := HAs.out; omega))
        clear hS
        go_wp2_with fail
        refine (R0.out _ HDr.out).mono ?_
        rintro e w8 ⟨rfl, hb8⟩
        have HB8 := Lib.hid hb8
        clear hb8
        go_wp2_with fail
        refine (HW.out _).mono ?_
        rintro e w9 ⟨rfl, hb9⟩
        have HB9 := Lib.hid (HB8.out.trans (hb9.mono HB8.out.size))
        clear hb9
        go_wp2_with fail
        exact ⟨⟨1, by omega, rfl, by rw [HN.out], by rw [HN.out], by rw [HN.out], by rw [HN.out]; exact HLr.out.below HB9.out, HCr.out.trans (Chg.of_below _ HB9.out)⟩, by simp [intOf]⟩
      · have hw1 := whole_some (bs_lt A) hS
        by_cases hgn : P.gen < n
        · have HN : Hid (pkAt f A C 1 = ⟨f, n, q, A, 19 + q.length⟩) := by unfold Hid; rw [HPe.out] at hgn; exact Pk.next_more _ _ _ hS hgn
          have HW := Lib.hid (fun w => whole0_some A hS w (by have := HAs.out; omega))
          have hgi : (P.gen : Int) < (n : Int) := by omega
          clear hS hgn hw1
          go_wp2_with fail
          refine (R0.out _ HDr.out).mono ?_
          rintro e w8 ⟨rfl, hb8⟩
          have HB8 := Lib.hid hb8
          clear hb8
          go_wp2_with fail
          refine (HW.out _).mono ?_
          rintro e w9 ⟨rfl, hb9⟩
          have HB9 := Lib.hid (HB8.out.trans (hb9.mono HB8.out.size))
          have HL9 := Lib.hid (HLr.out.below HB9.out)
          have c2 := HL9.out.c2
          have c3 := HL9.out.c3
          have f2 := HL9.out.free 2
          have f3 := HL9.out.free 3
          clear hb9
          go_wp2_with fail
          clear c2 c3 f2 f3
          have hfin := (HL9.out.setCounts (f)).setGen n
          have hcs : Chg (fun k => k = lb) w9 ((w9.setCell ⟨lb, 2, none⟩ (.int .i64 ((f : Nat) : Int))).setCell ⟨lb, 3, none⟩ (.int .i64 (n : Nat))) := (Chg.setCell (fun k => k = lb) w9 rfl _).trans (Chg.setCell (fun k => k = lb) _ rfl _)
          rw [show ((f : Nat) : Int) = (f : Int) by omega] at hfin hcs
          exact ⟨⟨1, by omega, rfl, by rw [HN.out], by rw [HN.out], by rw [HN.out]; rfl, by rw [HN.out]; exact hfin, HCr.out.trans ((Chg.of_below _ HB9.out).trans hcs)⟩, by simp [intOf]⟩
        · have HN : Hid (pkAt f A C 1 = P) := by unfold Hid; rw [HPe.out] at hgn ⊢; exact Pk.next_less _ _ _ hS hgn
          have HW := Lib.hid (fun w => whole0_some A hS w (by have := HAs.out; omega))
          have hgi : ¬ (P.gen : Int) < (n : Int) := by omega
          clear hS hgn hw1
          go_wp2_with fail
          refine (R0.out _ HDr.out).mono ?_
          rintro e w8 ⟨rfl, hb8⟩
          have HB8 := Lib.hid hb8
          clear hb8
          go_wp2_with fail
          refine (HW.out _).mono ?_
          rintro e w9 ⟨rfl, hb9⟩
          have HB9 := Lib.hid (HB8.out.trans (hb9.mono HB8.out.size))
          have HL9 := Lib.hid (HLr.out.below HB9.out)
          have c3 := HL9.out.c3
          clear hb9
          go_wp2_with fail
          exact ⟨⟨1, by omega, rfl, by rw [HN.out], by rw [HN.out], by rw [HN.out], by rw [HN.out]; exact HL9.out, HCr.out.trans (Chg.of_below _ HB9.out)⟩, by simp [intOf]⟩
    · obtain ⟨P, hP⟩ : ∃ P, P = pkAt f A C 1 := ⟨_, rfl⟩
      have HPe := Lib.hid hP
      rw [← hP] at HLr
      rw [← hP]
      clear hP
      rcases hS : whole (bs C) with _ | ⟨n, q⟩
      · have HN : Hid (pkAt f A C 2 = P) := by unfold Hid; rw [HPe.out]; exact Pk.next_none _ _ _ hS
        have HW := Lib.hid (fun w => whole0_none C hS w (by have := HCs.out; omega))
        clear hS
        go_wp2_with fail
        refine (R1.out _ HDr.out).mono ?_
        rintro e w8 ⟨rfl, hb8⟩
        have HB8 := Lib.hid hb8
        clear hb8
        go_wp2_with fail
        refine (HW.out _).mono ?_
        rintro e w9 ⟨rfl, hb9⟩
        have HB9 := Lib.hid (HB8.out.trans (hb9.mono HB8.out.size))
        clear hb9
        go_wp2_with fail
        exact ⟨⟨2, by omega, rfl, by rw [HN.out], by rw [HN.out], by rw [HN.out], by rw [HN.out]; exact HLr.out.below HB9.out, HCr.out.trans (Chg.of_below _ HB9.out)⟩, by simp [intOf]⟩
      · have hw1 := whole_some (bs_lt C) hS
        by_cases hgn : P.gen < n
        · have HN : Hid (pkAt f A C 2 = ⟨f + 1, n, q, C, 19 + q.length⟩) := by unfold Hid; rw [HPe.out] at hgn; exact Pk.next_more _ _ _ hS hgn
          have HW := Lib.hid (fun w => whole0_some C hS w (by have := HCs.out; omega))
          have hgi : (P.gen : Int) < (n : Int) := by omega
          clear hS hgn hw1
          go_wp2_with fail
          refine (R1.out _ HDr.out).mono ?_
          rintro e w8 ⟨rfl, hb8⟩
          have HB8 := Lib.hid hb8
          clear hb8
          go_wp2_with fail
          refine (HW.out _).mono ?_
          rintro e w9 ⟨rfl, hb9⟩
          have HB9 := Lib.hid (HB8.out.trans (hb9.mono HB8.out.size))
          have HL9 := Lib.hid (HLr.out.below HB9.out)
          have c2 := HL9.out.c2
          have c3 := HL9.out.c3
          have f2 := HL9.out.free 2
          have f3 := HL9.out.free 3
          clear hb9
          go_wp2_with fail
          clear c2 c3 f2 f3
          have hfin := (HL9.out.setCounts (f + 1)).setGen n
          have hcs : Chg (fun k => k = lb) w9 ((w9.setCell ⟨lb, 2, none⟩ (.int .i64 ((f + 1 : Nat) : Int))).setCell ⟨lb, 3, none⟩ (.int .i64 (n : Nat))) := (Chg.setCell (fun k => k = lb) w9 rfl _).trans (Chg.setCell (fun k => k = lb) _ rfl _)
          rw [show ((f + 1 : Nat) : Int) = (f : Int) + 1 by omega] at hfin hcs
          exact ⟨⟨2, by omega, rfl, by rw [HN.out], by rw [HN.out], by rw [HN.out]; rfl, by rw [HN.out]; exact hfin, HCr.out.trans ((Chg.of_below _ HB9.out).trans hcs)⟩, by simp [intOf]⟩
        · have HN : Hid (pkAt f A C 2 = P) := by unfold Hid; rw [HPe.out] at hgn ⊢; exact Pk.next_less _ _ _ hS hgn
          have HW := Lib.hid (fun w => whole0_some C hS w (by have := HCs.out; omega))
          have hgi : ¬ (P.gen : Int) < (n : Int) := by omega
          clear hS hgn hw1
          go_wp2_with fail
          refine (R1.out _ HDr.out).mono ?_
          rintro e w8 ⟨rfl, hb8⟩
          have HB8 := Lib.hid hb8
          clear hb8
          go_wp2_with fail
          refine (HW.out _).mono ?_
          rintro e w9 ⟨rfl, hb9⟩
          have HB9 := Lib.hid (HB8.out.trans (hb9.mono HB8.out.size))
          have HL9 := Lib.hid (HLr.out.below HB9.out)
          have c3 := HL9.out.c3
          clear hb9
          go_wp2_with fail
          exact ⟨⟨2, by omega, rfl, by rw [HN.out], by rw [HN.out], by rw [HN.out], by rw [HN.out]; exact HL9.out, HCr.out.trans (Chg.of_below _ HB9.out)⟩, by simp [intOf]⟩
    · obtain rfl : i = 0 := by omega
      rw [show pkAt f A C (0 + 1 + 1) = p from HP.out.symm] at HLr
      rw [show pkAt f A C (0 + 1 + 1) = p from HP.out.symm]
      have c3 := HLr.out.c3
      have hg0 : ((p.gen : Int) == 0) = false := by rw [beq_eq_false_iff_ne]; have := HHG.out; omega
      go_wp2_with fail
      obtain ⟨wq, hwq⟩ : ∃ x, x = wr := ⟨_, rfl⟩
      rw [← hwq] at HLr HCr HDr
      rw [← hwq]
      clear hwq c3 hg0 R0 R1 H1 H2 H3 H4
      have HCq : Hid (Chg (fun k => k = lb ∨ k = b ∨ k = g) w wq) := ((Chg.of_below _ HBW.out).trans (HC7.out.mono (fun k _ h => .inr h))).trans (HCr.out.mono (fun k _ h => .inl h))
      clear HC7 HCr HL7 HD7 HL0
      go_loopw [12, 20] (fun v12 v20 w2 => ∃ (a : Nat) (qs : List (List Nat)), v12 = .int .i64 (a : Nat) ∧ OwnsS w2 wq.heap.size v20 (qs.map strOf) ∧ ScanAt (bs p.bytes) p.fin qs a ∧ Below wq.heap.size wq w2) (fun v _ _ => ((p.bytes.size : Int) + 1 - intOf v).toNat)
      case atStart => exact ⟨p.fin, [], rfl, World.ownsRow_nil _ _ _ _, ScanAt.start _ _ (by rw [length_bs]; exact HPF.out), Below.refl _ _⟩
      case round =>
        obtain ⟨a, qs, rfl, ho, hsc, hb⟩ := hrel
        obtain ⟨p20, c20, rfl⟩ := ho.shape
        obtain ⟨m, hm⟩ : ∃ m, m = (qs.map strOf).length := ⟨_, rfl⟩
        rw [← hm] at ho ⊢
        have hml : m = qs.length := by rw [hm, List.length_map]
        have HML := Lib.hid hml
        have HO1 := Lib.hid ho
        have HSC := Lib.hid hsc
        have HB1 := Lib.hid hb
        have hqa : a ≤ p.bytes.size := by have := hsc.le; rwa [length_bs] at this
        have hmb : m ≤ 262144 := by
          have h1 := hsc.pos
          have h2 := lens_ge qs
          have := HPS.out
          omega
        have HLw := Lib.hid (HLr.out.below hb)
        have HDw := Lib.hid (HDr.out.below hb)
        have HCw := Lib.hid (HCq.out.trans (Chg.of_below _ hb))
        clear ho hsc hb hm hml
        rcases hS : whole ((bs p.bytes).drop a) with _ | ⟨n, q⟩
        · have hqr : qs = rs := by rw [HRS.out]; exact HSC.out.done (fun p h => by rw [hS] at h; cases h)
          have hfa : a = fin2 := by rw [HF2.out, ← hqr]; exact HSC.out.pos
          have HMR : Hid (m = rs.length) := by unfold Hid; rw [HML.out, hqr]
          have HWS1 : Hid (OwnsS wr w.heap.size (.slice p20 m c20) (rs.map strOf)) := by unfold Hid; rw [← hqr]; exact HO1.out.baseL HCq.out.size
          have HW := Lib.hid (fun w => wholeN_none p.bytes a hqa hS w (by have := HPS.out; omega))
          skip
          clear hS hqr HSC HO1
          subst hfa
          go_wp2_with fail
          refine (HW.out _).mono ?_
          rintro e w3 ⟨rfl, hb3⟩
          have HL3 := Lib.hid (HLw.out.below hb3)
          have HD3 := Lib.hid (HDw.out.below hb3)
          have HWS3 := Lib.hid (HWS1.out.kept hb3)
          have HC3 := Lib.hid (HCw.out.trans (Chg.of_below _ hb3))
          clear hb3 HW HWS1 HLw HDw HCw
          by_cases hcut : a < p.bytes.size
          · have hci : (a : Int) < (p.bytes.size : Int) := by omega
            have H5c := Lib.hid H5.out
            rw [HH3.out hcut] at H5c
            by_cases hz0 : 0 < z
            · have hzi : (0 : Int) < (z : Int) := by omega
              have H8c := Lib.hid H8.out
              rw [HH4.out hz0] at H8c
              clear hcut hz0
              have c2 := HL3.out.c2
              have c4 := HL3.out.c4
              have f4 := HL3.out.free 4
              have HL4 : Hid (IsLog (w3.setCell ⟨lb, 4, none⟩ (.int .i64 (m : Nat))) lb b ⟨f, p.counts, p.gen, m, false⟩) := HL3.out.setN m
              have hcs : Chg (fun k => k = lb) w3 (w3.setCell ⟨lb, 4, none⟩ (.int .i64 (m : Nat))) := Chg.setCell (fun k => k = lb) w3 rfl _
              have HD4 : Hid (IsDisk (w3.setCell ⟨lb, 4, none⟩ (.int .i64 (m : Nat))) b g cap D2) := HD3.out.log HL3.out hcs
              have HW4 : Hid (OwnsS (w3.setCell ⟨lb, 4, none⟩ (.int .i64 (m : Nat))) w.heap.size (.slice p20 m c20) (rs.map strOf)) := HWS3.out.keepM hcs HL3.out.muts
              have HC4 : Hid (Chg (fun k => k = lb ∨ k = b ∨ k = g) w (w3.setCell ⟨lb, 4, none⟩ (.int .i64 (m : Nat)))) := HC3.out.trans (hcs.mono (fun k _ h => .inl h))
              clear hcs HL3 HD3 HWS3 HC3
              go_wp2_with fail
              clear c2 c4 f4
              obtain ⟨w4, hw4⟩ : ∃ x, x = w3.setCell ⟨lb, 4, none⟩ (.int .i64 (m : Nat)) := ⟨_, rfl⟩
              rw [← hw4] at HL4 HD4 HW4 HC4 ⊢
              clear hw4
              refine (H5c.out w4 HD4.out).mono ?_
              rintro e w5 ⟨rfl, hd5, hc5⟩
              have HD5 := Lib.hid hd5
              have HL5 := Lib.hid (HL4.out.keep hc5 (fun e => by have := HNE.out; omega))
              have HW5 := Lib.hid (HW4.out.keepM hc5 HD4.out.muts)
              have HC5 := Lib.hid (HC4.out.trans (hc5.mono (fun k _ h => .inr h)))
              clear hd5 hc5 HD4 HL4 HW4 HC4
              go_wp2_with fail
              refine (stepOk _ _).mono ?_
              rintro e w6 ⟨rfl, rfl⟩
              go_wp2_with fail
              refine (H6.out w6 lb _ HL5.out rfl rfl).mono ?_
              rintro e w7 ⟨rfl, hb⟩
              have HD7 := Lib.hid (HD5.out.below hb)
              have HL7 := Lib.hid (HL5.out.below hb)
              have HW7 := Lib.hid (HW5.out.kept hb)
              have HC7 := Lib.hid (HC5.out.trans (Chg.of_below _ hb))
              clear hb HD5 HL5 HW5 HC5
              go_wp2_with fail
              refine (H7.out _ HD7.out).mono ?_
              rintro e w8 ⟨rfl, hb⟩
              have HD8 := Lib.hid (HD7.out.below hb)
              have HL8 := Lib.hid (HL7.out.below hb)
              have HW8 := Lib.hid (HW7.out.kept hb)
              have HC8 := Lib.hid (HC7.out.trans (Chg.of_below _ hb))
              clear hb HD7 HL7 HW7 HC7
              go_wp2_with fail
              refine (H6.out _ lb _ HL8.out rfl rfl).mono ?_
              rintro e w9 ⟨rfl, hb⟩
              have HD9 := Lib.hid (HD8.out.below hb)
              have HL9 := Lib.hid (HL8.out.below hb)
              have HW9 := Lib.hid (HW8.out.kept hb)
              have HC9 := Lib.hid (HC8.out.trans (Chg.of_below _ hb))
              clear hb HD8 HL8 HW8 HC8
              go_wp2_with fail
              refine (H8c.out _ HD9.out).mono ?_
              rintro e wA ⟨rfl, hdA, hcA⟩
              have HDA := Lib.hid hdA
              have HLA := Lib.hid (HL9.out.keep hcA (fun e => by have := HNE.out; omega))
              have HWA := Lib.hid (HW9.out.keepM hcA HD9.out.muts)
              have HCA := Lib.hid (HC9.out.trans (hcA.mono (fun k _ h => .inr h)))
              clear hdA hcA HD9 HL9 HW9 HC9
              go_wp2_with fail
              refine (stepOk _ _).mono ?_
              rintro e wB ⟨rfl, rfl⟩
              go_wp2_with fail
              refine (toldOk _ _).mono ?_
              rintro e wC ⟨rfl, rfl⟩
              go_wp2_with fail
              (try simp only [Exit.inBlock, Exit.then]); refine bodyPost_ret (results_tmp4 rfl _ _ _) rfl ?_
              refine ⟨lb, _, rfl, by rw [HLB.out]; exact Nat.le_refl _, ?_, HDA.out, HWA.out, HCA.out.mono (fun k hk h => ?_)⟩
              · rw [← HMR.out]; exact HLA.out
              · rcases h with h | h
                · have := HLB.out; omega
                · exact h
            · have hzi : ¬ (0 : Int) < (z : Int) := by omega
              obtain rfl := HH4'.out (by omega)
              clear hcut hz0
              have c2 := HL3.out.c2
              have c4 := HL3.out.c4
              have f4 := HL3.out.free 4
              have HL4 : Hid (IsLog (w3.setCell ⟨lb, 4, none⟩ (.int .i64 (m : Nat))) lb b ⟨f, p.counts, p.gen, m, false⟩) := HL3.out.setN m
              have hcs : Chg (fun k => k = lb) w3 (w3.setCell ⟨lb, 4, none⟩ (.int .i64 (m : Nat))) := Chg.setCell (fun k => k = lb) w3 rfl _
              have HD4 : Hid (IsDisk (w3.setCell ⟨lb, 4, none⟩ (.int .i64 (m : Nat))) b g cap D2) := HD3.out.log HL3.out hcs
              have HW4 : Hid (OwnsS (w3.setCell ⟨lb, 4, none⟩ (.int .i64 (m : Nat))) w.heap.size (.slice p20 m c20) (rs.map strOf)) := HWS3.out.keepM hcs HL3.out.muts
              have HC4 : Hid (Chg (fun k => k = lb ∨ k = b ∨ k = g) w (w3.setCell ⟨lb, 4, none⟩ (.int .i64 (m : Nat)))) := HC3.out.trans (hcs.mono (fun k _ h => .inl h))
              clear hcs HL3 HD3 HWS3 HC3
              go_wp2_with fail
              clear c2 c4 f4
              obtain ⟨w4, hw4⟩ : ∃ x, x = w3.setCell ⟨lb, 4, none⟩ (.int .i64 (m : Nat)) := ⟨_, rfl⟩
              rw [← hw4] at HL4 HD4 HW4 HC4 ⊢
              clear hw4
              refine (H5c.out w4 HD4.out).mono ?_
              rintro e w5 ⟨rfl, hd5, hc5⟩
              have HD5 := Lib.hid hd5
              have HL5 := Lib.hid (HL4.out.keep hc5 (fun e => by have := HNE.out; omega))
              have HW5 := Lib.hid (HW4.out.keepM hc5 HD4.out.muts)
              have HC5 := Lib.hid (HC4.out.trans (hc5.mono (fun k _ h => .inr h)))
              clear hd5 hc5 HD4 HL4 HW4 HC4
              go_wp2_with fail
              refine (stepOk _ _).mono ?_
              rintro e w6 ⟨rfl, rfl⟩
              go_wp2_with fail
              refine (H6.out w6 lb _ HL5.out rfl rfl).mono ?_
              rintro e w7 ⟨rfl, hb⟩
              have HD7 := Lib.hid (HD5.out.below hb)
              have HL7 := Lib.hid (HL5.out.below hb)
              have HW7 := Lib.hid (HW5.out.kept hb)
              have HC7 := Lib.hid (HC5.out.trans (Chg.of_below _ hb))
              clear hb HD5 HL5 HW5 HC5
              go_wp2_with fail
              refine (H7.out _ HD7.out).mono ?_
              rintro e w8 ⟨rfl, hb⟩
              have HD8 := Lib.hid (HD7.out.below hb)
              have HL8 := Lib.hid (HL7.out.below hb)
              have HW8 := Lib.hid (HW7.out.kept hb)
              have HC8 := Lib.hid (HC7.out.trans (Chg.of_below _ hb))
              clear hb HD7 HL7 HW7 HC7
              go_wp2_with fail
              have HDA := HD8
              have HLA := HL8
              have HWA := HW8
              have HCA := HC8
              clear HD8 HL8 HW8 HC8
              refine (toldOk _ _).mono ?_
              rintro e wC ⟨rfl, rfl⟩
              go_wp2_with fail
              (try simp only [Exit.inBlock, Exit.then]); refine bodyPost_ret (results_tmp4 rfl _ _ _) rfl ?_
              refine ⟨lb, _, rfl, by rw [HLB.out]; exact Nat.le_refl _, ?_, HDA.out, HWA.out, HCA.out.mono (fun k hk h => ?_)⟩
              · rw [← HMR.out]; exact HLA.out
              · rcases h with h | h
                · have := HLB.out; omega
                · exact h
          · have hci : ¬ (a : Int) < (p.bytes.size : Int) := by omega
            obtain rfl := HH3'.out hcut
            by_cases hz0 : 0 < z
            · have hzi : (0 : Int) < (z : Int) := by omega
              have H8c := Lib.hid H8.out
              rw [HH4.out hz0] at H8c
              clear hcut hz0
              have c2 := HL3.out.c2
              have c4 := HL3.out.c4
              have f4 := HL3.out.free 4
              have HL4 : Hid (IsLog (w3.setCell ⟨lb, 4, none⟩ (.int .i64 (m : Nat))) lb b ⟨f, p.counts, p.gen, m, false⟩) := HL3.out.setN m
              have hcs : Chg (fun k => k = lb) w3 (w3.setCell ⟨lb, 4, none⟩ (.int .i64 (m : Nat))) := Chg.setCell (fun k => k = lb) w3 rfl _
              have HD4 : Hid (IsDisk (w3.setCell ⟨lb, 4, none⟩ (.int .i64 (m : Nat))) b g cap D3) := HD3.out.log HL3.out hcs
              have HW4 : Hid (OwnsS (w3.setCell ⟨lb, 4, none⟩ (.int .i64 (m : Nat))) w.heap.size (.slice p20 m c20) (rs.map strOf)) := HWS3.out.keepM hcs HL3.out.muts
              have HC4 : Hid (Chg (fun k => k = lb ∨ k = b ∨ k = g) w (w3.setCell ⟨lb, 4, none⟩ (.int .i64 (m : Nat)))) := HC3.out.trans (hcs.mono (fun k _ h => .inl h))
              clear hcs HL3 HD3 HWS3 HC3
              go_wp2_with fail
              clear c2 c4 f4
              obtain ⟨w4, hw4⟩ : ∃ x, x = w3.setCell ⟨lb, 4, none⟩ (.int .i64 (m : Nat)) := ⟨_, rfl⟩
              rw [← hw4] at HL4 HD4 HW4 HC4 ⊢
              clear hw4
              have HD5 := HD4
              have HL5 := HL4
              have HW5 := HW4
              have HC5 := HC4
              clear HD4 HL4 HW4 HC4
              refine (H6.out w4 lb _ HL5.out rfl rfl).mono ?_
              rintro e w7 ⟨rfl, hb⟩
              have HD7 := Lib.hid (HD5.out.below hb)
              have HL7 := Lib.hid (HL5.out.below hb)
              have HW7 := Lib.hid (HW5.out.kept hb)
              have HC7 := Lib.hid (HC5.out.trans (Chg.of_below _ hb))
              clear hb HD5 HL5 HW5 HC5
              go_wp2_with fail
              refine (H7.out _ HD7.out).mono ?_
              rintro e w8 ⟨rfl, hb⟩
              have HD8 := Lib.hid (HD7.out.below hb)
              have HL8 := Lib.hid (HL7.out.below hb)
              have HW8 := Lib.hid (HW7.out.kept hb)
              have HC8 := Lib.hid (HC7.out.trans (Chg.of_below _ hb))
              clear hb HD7 HL7 HW7 HC7
              go_wp2_with fail
              refine (H6.out _ lb _ HL8.out rfl rfl).mono ?_
              rintro e w9 ⟨rfl, hb⟩
              have HD9 := Lib.hid (HD8.out.below hb)
              have HL9 := Lib.hid (HL8.out.below hb)
              have HW9 := Lib.hid (HW8.out.kept hb)
              have HC9 := Lib.hid (HC8.out.trans (Chg.of_below _ hb))
              clear hb HD8 HL8 HW8 HC8
              go_wp2_with fail
              refine (H8c.out _ HD9.out).mono ?_
              rintro e wA ⟨rfl, hdA, hcA⟩
              have HDA := Lib.hid hdA
              have HLA := Lib.hid (HL9.out.keep hcA (fun e => by have := HNE.out; omega))
              have HWA := Lib.hid (HW9.out.keepM hcA HD9.out.muts)
              have HCA := Lib.hid (HC9.out.trans (hcA.mono (fun k _ h => .inr h)))
              clear hdA hcA HD9 HL9 HW9 HC9
              go_wp2_with fail
              refine (stepOk _ _).mono ?_
              rintro e wB ⟨rfl, rfl⟩
              go_wp2_with fail
              refine (toldOk _ _).mono ?_
              rintro e wC ⟨rfl, rfl⟩
              go_wp2_with fail
              (try simp only [Exit.inBlock, Exit.then]); refine bodyPost_ret (results_tmp4 rfl _ _ _) rfl ?_
              refine ⟨lb, _, rfl, by rw [HLB.out]; exact Nat.le_refl _, ?_, HDA.out, HWA.out, HCA.out.mono (fun k hk h => ?_)⟩
              · rw [← HMR.out]; exact HLA.out
              · rcases h with h | h
                · have := HLB.out; omega
                · exact h
            · have hzi : ¬ (0 : Int) < (z : Int) := by omega
              obtain rfl := HH4'.out (by omega)
              clear hcut hz0
              have c2 := HL3.out.c2
              have c4 := HL3.out.c4
              have f4 := HL3.out.free 4
              have HL4 : Hid (IsLog (w3.setCell ⟨lb, 4, none⟩ (.int .i64 (m : Nat))) lb b ⟨f, p.counts, p.gen, m, false⟩) := HL3.out.setN m
              have hcs : Chg (fun k => k = lb) w3 (w3.setCell ⟨lb, 4, none⟩ (.int .i64 (m : Nat))) := Chg.setCell (fun k => k = lb) w3 rfl _
              have HD4 : Hid (IsDisk (w3.setCell ⟨lb, 4, none⟩ (.int .i64 (m : Nat))) b g cap D4) := HD3.out.log HL3.out hcs
              have HW4 : Hid (OwnsS (w3.setCell ⟨lb, 4, none⟩ (.int .i64 (m : Nat))) w.heap.size (.slice p20 m c20) (rs.map strOf)) := HWS3.out.keepM hcs HL3.out.muts
              have HC4 : Hid (Chg (fun k => k = lb ∨ k = b ∨ k = g) w (w3.setCell ⟨lb, 4, none⟩ (.int .i64 (m : Nat)))) := HC3.out.trans (hcs.mono (fun k _ h => .inl h))
              clear hcs HL3 HD3 HWS3 HC3
              go_wp2_with fail
              clear c2 c4 f4
              obtain ⟨w4, hw4⟩ : ∃ x, x = w3.setCell ⟨lb, 4, none⟩ (.int .i64 (m : Nat)) := ⟨_, rfl⟩
              rw [← hw4] at HL4 HD4 HW4 HC4 ⊢
              clear hw4
              have HD5 := HD4
              have HL5 := HL4
              have HW5 := HW4
              have HC5 := HC4
              clear HD4 HL4 HW4 HC4
              refine (H6.out w4 lb _ HL5.out rfl rfl).mono ?_
              rintro e w7 ⟨rfl, hb⟩
              have HD7 := Lib.hid (HD5.out.below hb)
              have HL7 := Lib.hid (HL5.out.below hb)
              have HW7 := Lib.hid (HW5.out.kept hb)
              have HC7 := Lib.hid (HC5.out.trans (Chg.of_below _ hb))
              clear hb HD5 HL5 HW5 HC5
              go_wp2_with fail
              refine (H7.out _ HD7.out).mono ?_
              rintro e w8 ⟨rfl, hb⟩
              have HD8 := Lib.hid (HD7.out.below hb)
              have HL8 := Lib.hid (HL7.out.below hb)
              have HW8 := Lib.hid (HW7.out.kept hb)
              have HC8 := Lib.hid (HC7.out.trans (Chg.of_below _ hb))
              clear hb HD7 HL7 HW7 HC7
              go_wp2_with fail
              have HDA := HD8
              have HLA := HL8
              have HWA := HW8
              have HCA := HC8
              clear HD8 HL8 HW8 HC8
              refine (toldOk _ _).mono ?_
              rintro e wC ⟨rfl, rfl⟩
              go_wp2_with fail
              (try simp only [Exit.inBlock, Exit.then]); refine bodyPost_ret (results_tmp4 rfl _ _ _) rfl ?_
              refine ⟨lb, _, rfl, by rw [HLB.out]; exact Nat.le_refl _, ?_, HDA.out, HWA.out, HCA.out.mono (fun k hk h => ?_)⟩
              · rw [← HMR.out]; exact HLA.out
              · rcases h with h | h
                · have := HLB.out; omega
                · exact h
        · by_cases hnn : n = qs.length + 1
          · have HW := Lib.hid (fun w => wholeN_some p.bytes a hqa hS w (by have := HPS.out; omega))
            have hnx := HSC.out.next (bs_lt p.bytes) (by rw [hS, hnn])
            have HNX := Lib.hid hnx
            have hle2 := hnx.le
            rw [length_bs] at hle2
            have hni : (n : Int) = (m : Int) + 1 := by have := HML.out; omega
            have hps := HPS.out
            clear hnx hS hnn
            rw [hni] at HW
            go_wp2_with fail
            refine (HW.out _).mono ?_
            rintro e w3 ⟨rfl, hb3⟩
            have HO3 := Lib.hid (HO1.out.kept hb3)
            have HB3 := Lib.hid (HB1.out.trans (hb3.mono HB1.out.size))
            clear hb3 HW
            go_wp2_with (at_builtin; refine wpList_append_s rfl _ _ rfl rfl (HO3.out.alloc _) ⟨w3.heap.size, 0, none⟩ 1 (strOf q) rfl (by simp) ?e1 (by have := HB3.out.size; simp; omega) ?_)
            case e1 => rw [List.length_map, ← HML.out]; omega
            intro v4 w4 ho4 hg4
            have HO4 := Lib.hid ho4
            have HB4 := Lib.hid ((HB3.out.alloc HB3.out.size _).grown hg4 (by have := HB3.out.size; simp; omega) (fun k hk => (HO3.out.block hk).1))
            clear ho4 hg4
            go_wp2_with fail
            refine ⟨⟨a + (19 + q.length), qs ++ [q], rfl, by rw [List.map_append]; exact HO4.out, HNX.out, HB4.out⟩, by simp only [intOf]; omega⟩
          · have hni : ((n : Int) != (m : Int) + 1) = true := by
              have := HML.out
              rw [bne_iff_ne]; omega
            have hqr : qs = rs := by rw [HRS.out]; exact HSC.out.done (fun p h => by rw [hS] at h; injection h with h; injection h with h1 h2; exact hnn h1)
            have hfa : a = fin2 := by rw [HF2.out, ← hqr]; exact HSC.out.pos
            have HMR : Hid (m = rs.length) := by unfold Hid; rw [HML.out, hqr]
            have HWS1 : Hid (OwnsS wr w.heap.size (.slice p20 m c20) (rs.map strOf)) := by unfold Hid; rw [← hqr]; exact HO1.out.baseL HCq.out.size
            have HW := Lib.hid (fun w => wholeN_some p.bytes a hqa hS w (by have := HPS.out; omega))
            clear hnn
            clear hS hqr HSC HO1
            subst hfa
            go_wp2_with fail
            refine (HW.out _).mono ?_
            rintro e w3 ⟨rfl, hb3⟩
            have HL3 := Lib.hid (HLw.out.below hb3)
            have HD3 := Lib.hid (HDw.out.below hb3)
            have HWS3 := Lib.hid (HWS1.out.kept hb3)
            have HC3 := Lib.hid (HCw.out.trans (Chg.of_below _ hb3))
            clear hb3 HW HWS1 HLw HDw HCw
            by_cases hcut : a < p.bytes.size
            · have hci : (a : Int) < (p.bytes.size : Int) := by omega
              have H5c := Lib.hid H5.out
              rw [HH3.out hcut] at H5c
              by_cases hz0 : 0 < z
              · have hzi : (0 : Int) < (z : Int) := by omega
                have H8c := Lib.hid H8.out
                rw [HH4.out hz0] at H8c
                clear hcut hz0
                have c2 := HL3.out.c2
                have c4 := HL3.out.c4
                have f4 := HL3.out.free 4
                have HL4 : Hid (IsLog (w3.setCell ⟨lb, 4, none⟩ (.int .i64 (m : Nat))) lb b ⟨f, p.counts, p.gen, m, false⟩) := HL3.out.setN m
                have hcs : Chg (fun k => k = lb) w3 (w3.setCell ⟨lb, 4, none⟩ (.int .i64 (m : Nat))) := Chg.setCell (fun k => k = lb) w3 rfl _
                have HD4 : Hid (IsDisk (w3.setCell ⟨lb, 4, none⟩ (.int .i64 (m : Nat))) b g cap D2) := HD3.out.log HL3.out hcs
                have HW4 : Hid (OwnsS (w3.setCell ⟨lb, 4, none⟩ (.int .i64 (m : Nat))) w.heap.size (.slice p20 m c20) (rs.map strOf)) := HWS3.out.keepM hcs HL3.out.muts
                have HC4 : Hid (Chg (fun k => k = lb ∨ k = b ∨ k = g) w (w3.setCell ⟨lb, 4, none⟩ (.int .i64 (m : Nat)))) := HC3.out.trans (hcs.mono (fun k _ h => .inl h))
                clear hcs HL3 HD3 HWS3 HC3
                go_wp2_with fail
                clear c2 c4 f4
                obtain ⟨w4, hw4⟩ : ∃ x, x = w3.setCell ⟨lb, 4, none⟩ (.int .i64 (m : Nat)) := ⟨_, rfl⟩
                rw [← hw4] at HL4 HD4 HW4 HC4 ⊢
                clear hw4
                refine (H5c.out w4 HD4.out).mono ?_
                rintro e w5 ⟨rfl, hd5, hc5⟩
                have HD5 := Lib.hid hd5
                have HL5 := Lib.hid (HL4.out.keep hc5 (fun e => by have := HNE.out; omega))
                have HW5 := Lib.hid (HW4.out.keepM hc5 HD4.out.muts)
                have HC5 := Lib.hid (HC4.out.trans (hc5.mono (fun k _ h => .inr h)))
                clear hd5 hc5 HD4 HL4 HW4 HC4
                go_wp2_with fail
                refine (stepOk _ _).mono ?_
                rintro e w6 ⟨rfl, rfl⟩
                go_wp2_with fail
                refine (H6.out w6 lb _ HL5.out rfl rfl).mono ?_
                rintro e w7 ⟨rfl, hb⟩
                have HD7 := Lib.hid (HD5.out.below hb)
                have HL7 := Lib.hid (HL5.out.below hb)
                have HW7 := Lib.hid (HW5.out.kept hb)
                have HC7 := Lib.hid (HC5.out.trans (Chg.of_below _ hb))
                clear hb HD5 HL5 HW5 HC5
                go_wp2_with fail
                refine (H7.out _ HD7.out).mono ?_
                rintro e w8 ⟨rfl, hb⟩
                have HD8 := Lib.hid (HD7.out.below hb)
                have HL8 := Lib.hid (HL7.out.below hb)
                have HW8 := Lib.hid (HW7.out.kept hb)
                have HC8 := Lib.hid (HC7.out.trans (Chg.of_below _ hb))
                clear hb HD7 HL7 HW7 HC7
                go_wp2_with fail
                refine (H6.out _ lb _ HL8.out rfl rfl).mono ?_
                rintro e w9 ⟨rfl, hb⟩
                have HD9 := Lib.hid (HD8.out.below hb)
                have HL9 := Lib.hid (HL8.out.below hb)
                have HW9 := Lib.hid (HW8.out.kept hb)
                have HC9 := Lib.hid (HC8.out.trans (Chg.of_below _ hb))
                clear hb HD8 HL8 HW8 HC8
                go_wp2_with fail
                refine (H8c.out _ HD9.out).mono ?_
                rintro e wA ⟨rfl, hdA, hcA⟩
                have HDA := Lib.hid hdA
                have HLA := Lib.hid (HL9.out.keep hcA (fun e => by have := HNE.out; omega))
                have HWA := Lib.hid (HW9.out.keepM hcA HD9.out.muts)
                have HCA := Lib.hid (HC9.out.trans (hcA.mono (fun k _ h => .inr h)))
                clear hdA hcA HD9 HL9 HW9 HC9
                go_wp2_with fail
                refine (stepOk _ _).mono ?_
                rintro e wB ⟨rfl, rfl⟩
                go_wp2_with fail
                refine (toldOk _ _).mono ?_
                rintro e wC ⟨rfl, rfl⟩
                go_wp2_with fail
                (try simp only [Exit.inBlock, Exit.then]); refine bodyPost_ret (results_tmp4 rfl _ _ _) rfl ?_
                refine ⟨lb, _, rfl, by rw [HLB.out]; exact Nat.le_refl _, ?_, HDA.out, HWA.out, HCA.out.mono (fun k hk h => ?_)⟩
                · rw [← HMR.out]; exact HLA.out
                · rcases h with h | h
                  · have := HLB.out; omega
                  · exact h
              · have hzi : ¬ (0 : Int) < (z : Int) := by omega
                obtain rfl := HH4'.out (by omega)
                clear hcut hz0
                have c2 := HL3.out.c2
                have c4 := HL3.out.c4
                have f4 := HL3.out.free 4
                have HL4 : Hid (IsLog (w3.setCell ⟨lb, 4, none⟩ (.int .i64 (m : Nat))) lb b ⟨f, p.counts, p.gen, m, false⟩) := HL3.out.setN m
                have hcs : Chg (fun k => k = lb) w3 (w3.setCell ⟨lb, 4, none⟩ (.int .i64 (m : Nat))) := Chg.setCell (fun k => k = lb) w3 rfl _
                have HD4 : Hid (IsDisk (w3.setCell ⟨lb, 4, none⟩ (.int .i64 (m : Nat))) b g cap D2) := HD3.out.log HL3.out hcs
                have HW4 : Hid (OwnsS (w3.setCell ⟨lb, 4, none⟩ (.int .i64 (m : Nat))) w.heap.size (.slice p20 m c20) (rs.map strOf)) := HWS3.out.keepM hcs HL3.out.muts
                have HC4 : Hid (Chg (fun k => k = lb ∨ k = b ∨ k = g) w (w3.setCell ⟨lb, 4, none⟩ (.int .i64 (m : Nat)))) := HC3.out.trans (hcs.mono (fun k _ h => .inl h))
                clear hcs HL3 HD3 HWS3 HC3
                go_wp2_with fail
                clear c2 c4 f4
                obtain ⟨w4, hw4⟩ : ∃ x, x = w3.setCell ⟨lb, 4, none⟩ (.int .i64 (m : Nat)) := ⟨_, rfl⟩
                rw [← hw4] at HL4 HD4 HW4 HC4 ⊢
                clear hw4
                refine (H5c.out w4 HD4.out).mono ?_
                rintro e w5 ⟨rfl, hd5, hc5⟩
                have HD5 := Lib.hid hd5
                have HL5 := Lib.hid (HL4.out.keep hc5 (fun e => by have := HNE.out; omega))
                have HW5 := Lib.hid (HW4.out.keepM hc5 HD4.out.muts)
                have HC5 := Lib.hid (HC4.out.trans (hc5.mono (fun k _ h => .inr h)))
                clear hd5 hc5 HD4 HL4 HW4 HC4
                go_wp2_with fail
                refine (stepOk _ _).mono ?_
                rintro e w6 ⟨rfl, rfl⟩
                go_wp2_with fail
                refine (H6.out w6 lb _ HL5.out rfl rfl).mono ?_
                rintro e w7 ⟨rfl, hb⟩
                have HD7 := Lib.hid (HD5.out.below hb)
                have HL7 := Lib.hid (HL5.out.below hb)
                have HW7 := Lib.hid (HW5.out.kept hb)
                have HC7 := Lib.hid (HC5.out.trans (Chg.of_below _ hb))
                clear hb HD5 HL5 HW5 HC5
                go_wp2_with fail
                refine (H7.out _ HD7.out).mono ?_
                rintro e w8 ⟨rfl, hb⟩
                have HD8 := Lib.hid (HD7.out.below hb)
                have HL8 := Lib.hid (HL7.out.below hb)
                have HW8 := Lib.hid (HW7.out.kept hb)
                have HC8 := Lib.hid (HC7.out.trans (Chg.of_below _ hb))
                clear hb HD7 HL7 HW7 HC7
                go_wp2_with fail
                have HDA := HD8
                have HLA := HL8
                have HWA := HW8
                have HCA := HC8
                clear HD8 HL8 HW8 HC8
                refine (toldOk _ _).mono ?_
                rintro e wC ⟨rfl, rfl⟩
                go_wp2_with fail
                (try simp only [Exit.inBlock, Exit.then]); refine bodyPost_ret (results_tmp4 rfl _ _ _) rfl ?_
                refine ⟨lb, _, rfl, by rw [HLB.out]; exact Nat.le_refl _, ?_, HDA.out, HWA.out, HCA.out.mono (fun k hk h => ?_)⟩
                · rw [← HMR.out]; exact HLA.out
                · rcases h with h | h
                  · have := HLB.out; omega
                  · exact h
            · have hci : ¬ (a : Int) < (p.bytes.size : Int) := by omega
              obtain rfl := HH3'.out hcut
              by_cases hz0 : 0 < z
              · have hzi : (0 : Int) < (z : Int) := by omega
                have H8c := Lib.hid H8.out
                rw [HH4.out hz0] at H8c
                clear hcut hz0
                have c2 := HL3.out.c2
                have c4 := HL3.out.c4
                have f4 := HL3.out.free 4
                have HL4 : Hid (IsLog (w3.setCell ⟨lb, 4, none⟩ (.int .i64 (m : Nat))) lb b ⟨f, p.counts, p.gen, m, false⟩) := HL3.out.setN m
                have hcs : Chg (fun k => k = lb) w3 (w3.setCell ⟨lb, 4, none⟩ (.int .i64 (m : Nat))) := Chg.setCell (fun k => k = lb) w3 rfl _
                have HD4 : Hid (IsDisk (w3.setCell ⟨lb, 4, none⟩ (.int .i64 (m : Nat))) b g cap D3) := HD3.out.log HL3.out hcs
                have HW4 : Hid (OwnsS (w3.setCell ⟨lb, 4, none⟩ (.int .i64 (m : Nat))) w.heap.size (.slice p20 m c20) (rs.map strOf)) := HWS3.out.keepM hcs HL3.out.muts
                have HC4 : Hid (Chg (fun k => k = lb ∨ k = b ∨ k = g) w (w3.setCell ⟨lb, 4, none⟩ (.int .i64 (m : Nat)))) := HC3.out.trans (hcs.mono (fun k _ h => .inl h))
                clear hcs HL3 HD3 HWS3 HC3
                go_wp2_with fail
                clear c2 c4 f4
                obtain ⟨w4, hw4⟩ : ∃ x, x = w3.setCell ⟨lb, 4, none⟩ (.int .i64 (m : Nat)) := ⟨_, rfl⟩
                rw [← hw4] at HL4 HD4 HW4 HC4 ⊢
                clear hw4
                have HD5 := HD4
                have HL5 := HL4
                have HW5 := HW4
                have HC5 := HC4
                clear HD4 HL4 HW4 HC4
                refine (H6.out w4 lb _ HL5.out rfl rfl).mono ?_
                rintro e w7 ⟨rfl, hb⟩
                have HD7 := Lib.hid (HD5.out.below hb)
                have HL7 := Lib.hid (HL5.out.below hb)
                have HW7 := Lib.hid (HW5.out.kept hb)
                have HC7 := Lib.hid (HC5.out.trans (Chg.of_below _ hb))
                clear hb HD5 HL5 HW5 HC5
                go_wp2_with fail
                refine (H7.out _ HD7.out).mono ?_
                rintro e w8 ⟨rfl, hb⟩
                have HD8 := Lib.hid (HD7.out.below hb)
                have HL8 := Lib.hid (HL7.out.below hb)
                have HW8 := Lib.hid (HW7.out.kept hb)
                have HC8 := Lib.hid (HC7.out.trans (Chg.of_below _ hb))
                clear hb HD7 HL7 HW7 HC7
                go_wp2_with fail
                refine (H6.out _ lb _ HL8.out rfl rfl).mono ?_
                rintro e w9 ⟨rfl, hb⟩
                have HD9 := Lib.hid (HD8.out.below hb)
                have HL9 := Lib.hid (HL8.out.below hb)
                have HW9 := Lib.hid (HW8.out.kept hb)
                have HC9 := Lib.hid (HC8.out.trans (Chg.of_below _ hb))
                clear hb HD8 HL8 HW8 HC8
                go_wp2_with fail
                refine (H8c.out _ HD9.out).mono ?_
                rintro e wA ⟨rfl, hdA, hcA⟩
                have HDA := Lib.hid hdA
                have HLA := Lib.hid (HL9.out.keep hcA (fun e => by have := HNE.out; omega))
                have HWA := Lib.hid (HW9.out.keepM hcA HD9.out.muts)
                have HCA := Lib.hid (HC9.out.trans (hcA.mono (fun k _ h => .inr h)))
                clear hdA hcA HD9 HL9 HW9 HC9
                go_wp2_with fail
                refine (stepOk _ _).mono ?_
                rintro e wB ⟨rfl, rfl⟩
                go_wp2_with fail
                refine (toldOk _ _).mono ?_
                rintro e wC ⟨rfl, rfl⟩
                go_wp2_with fail
                (try simp only [Exit.inBlock, Exit.then]); refine bodyPost_ret (results_tmp4 rfl _ _ _) rfl ?_
                refine ⟨lb, _, rfl, by rw [HLB.out]; exact Nat.le_refl _, ?_, HDA.out, HWA.out, HCA.out.mono (fun k hk h => ?_)⟩
                · rw [← HMR.out]; exact HLA.out
                · rcases h with h | h
                  · have := HLB.out; omega
                  · exact h
              · have hzi : ¬ (0 : Int) < (z : Int) := by omega
                obtain rfl := HH4'.out (by omega)
                clear hcut hz0
                have c2 := HL3.out.c2
                have c4 := HL3.out.c4
                have f4 := HL3.out.free 4
                have HL4 : Hid (IsLog (w3.setCell ⟨lb, 4, none⟩ (.int .i64 (m : Nat))) lb b ⟨f, p.counts, p.gen, m, false⟩) := HL3.out.setN m
                have hcs : Chg (fun k => k = lb) w3 (w3.setCell ⟨lb, 4, none⟩ (.int .i64 (m : Nat))) := Chg.setCell (fun k => k = lb) w3 rfl _
                have HD4 : Hid (IsDisk (w3.setCell ⟨lb, 4, none⟩ (.int .i64 (m : Nat))) b g cap D4) := HD3.out.log HL3.out hcs
                have HW4 : Hid (OwnsS (w3.setCell ⟨lb, 4, none⟩ (.int .i64 (m : Nat))) w.heap.size (.slice p20 m c20) (rs.map strOf)) := HWS3.out.keepM hcs HL3.out.muts
                have HC4 : Hid (Chg (fun k => k = lb ∨ k = b ∨ k = g) w (w3.setCell ⟨lb, 4, none⟩ (.int .i64 (m : Nat)))) := HC3.out.trans (hcs.mono (fun k _ h => .inl h))
                clear hcs HL3 HD3 HWS3 HC3
                go_wp2_with fail
                clear c2 c4 f4
                obtain ⟨w4, hw4⟩ : ∃ x, x = w3.setCell ⟨lb, 4, none⟩ (.int .i64 (m : Nat)) := ⟨_, rfl⟩
                rw [← hw4] at HL4 HD4 HW4 HC4 ⊢
                clear hw4
                have HD5 := HD4
                have HL5 := HL4
                have HW5 := HW4
                have HC5 := HC4
                clear HD4 HL4 HW4 HC4
                refine (H6.out w4 lb _ HL5.out rfl rfl).mono ?_
                rintro e w7 ⟨rfl, hb⟩
                have HD7 := Lib.hid (HD5.out.below hb)
                have HL7 := Lib.hid (HL5.out.below hb)
                have HW7 := Lib.hid (HW5.out.kept hb)
                have HC7 := Lib.hid (HC5.out.trans (Chg.of_below _ hb))
                clear hb HD5 HL5 HW5 HC5
                go_wp2_with fail
                refine (H7.out _ HD7.out).mono ?_
                rintro e w8 ⟨rfl, hb⟩
                have HD8 := Lib.hid (HD7.out.below hb)
                have HL8 := Lib.hid (HL7.out.below hb)
                have HW8 := Lib.hid (HW7.out.kept hb)
                have HC8 := Lib.hid (HC7.out.trans (Chg.of_below _ hb))
                clear hb HD7 HL7 HW7 HC7
                go_wp2_with fail
                have HDA := HD8
                have HLA := HL8
                have HWA := HW8
                have HCA := HC8
                clear HD8 HL8 HW8 HC8
                refine (toldOk _ _).mono ?_
                rintro e wC ⟨rfl, rfl⟩
                go_wp2_with fail
                (try simp only [Exit.inBlock, Exit.then]); refine bodyPost_ret (results_tmp4 rfl _ _ _) rfl ?_
                refine ⟨lb, _, rfl, by rw [HLB.out]; exact Nat.le_refl _, ?_, HDA.out, HWA.out, HCA.out.mono (fun k hk h => ?_)⟩
                · rw [← HMR.out]; exact HLA.out
                · rcases h with h | h
                  · have := HLB.out; omega
                  · exact h
end
end Go.Proofs.YtilpbjcbffbjeaaGreatDoor
