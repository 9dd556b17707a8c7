/- The walk of WalWhole. -/
import Derived.Test.YtamaefnlicloaaaDoorWRun
import Derived.Test.YtamaefnlicloaaaDoorWFixed
import Derived.Test.YtamaefnlicloaaaDoorWThin
namespace Go.Proofs.YtamaefnlicloaaaDoor
set_option linter.unusedVariables false
set_option maxRecDepth 100000
open Go.RowKit
theorem OwnsS.emptyW (w : World) : OwnsS (w.alloc (.cells #[] 9)) w.heap.size (.slice (some ⟨w.heap.size, 0, none⟩) 0 0) [] :=
  ⟨rfl, .inr ⟨w.heap.size, 0, _, rfl, Nat.le_refl _, heap_alloc_new w _, Nat.le_refl _, Nat.zero_le _, rfl, by simp⟩⟩
theorem strs_three (w : World) (b : Nat) (x y z : ByteArray) (h0 : w.cell? ⟨b, 0, none⟩ = some (.string x)) (h1 : w.cell? ⟨b, 1, none⟩ = some (.string y)) (h2 : w.cell? ⟨b, 2, none⟩ = some (.string z)) : Strs w (.slice (some ⟨b, 0, none⟩) 3 3) [x, y, z] := by
  refine Strs.mk (ss := [x, y, z]) fun i hi => ?_
  match i, (show i < 3 from hi) with
  | 0, _ => exact ⟨b, 0, rfl, h0⟩
  | 1, _ => exact ⟨b, 0, rfl, h1⟩
  | 2, _ => exact ⟨b, 0, rfl, h2⟩
def z3 : List Fl := [Fl.zero, Fl.zero, Fl.zero]
theorem z3_minv : MInv z3 0 := ⟨by decide, by decide, fun f hf => by
    match f, (show f < 3 from hf) with
    | 0, _ => exact of_decide_eq_true (by kernel_rfl)
    | 1, _ => exact of_decide_eq_true (by kernel_rfl)
    | 2, _ => exact of_decide_eq_true (by kernel_rfl), fun f hf => by
    match f, (show f < 3 from hf) with
    | 0, _ => exact Nat.le_refl _
    | 1, _ => exact Nat.le_refl _
    | 2, _ => exact Nat.le_refl _⟩
/-- A text of a slice. -/
theorem Strs.cellAt {w : World} {v : Value} {ss : List ByteArray} (h : Strs w v ss) {p : Option Addr} {n c : Nat} (hv : v = .slice p n c) {i : Nat} (hi : i < ss.length) : ∃ b off, p = some ⟨b, off, none⟩ ∧ w.cell? ⟨b, off + i, none⟩ = some (.string (ss.getD i ⟨#[]⟩)) := by
  obtain ⟨p', c', e, hc⟩ := h.form
  rw [hv] at e
  injection e with e1 e2 e3
  subst e1
  exact hc i hi
theorem appX_zero {l l2 : List Fl} {L L2 : Lg} {s : ByteArray} (h : appX l L s = (0, l2, L2)) : l2 = l.set L.counts ⟨(l.getD L.counts Fl.zero).safe, (l.getD L.counts Fl.zero).ws ++ [recS (L.n + 1) s]⟩ := by
  unfold appX at h
  split at h
  · injection h with h; cases h
  · split at h
    · injection h with h; cases h
    · injection h with _ h
      injection h with h _
      exact h.symm
theorem three {l : List Fl} (h : l.length = 3) (h0 : (l.getD 0 Fl.zero).ws = []) (h1 : (l.getD 1 Fl.zero).ws = []) (h2 : (l.getD 2 Fl.zero).ws = []) : ∀ f, f < l.length → (l.getD f Fl.zero).ws = [] := by
  intro f hf
  rw [h] at hf
  match f, hf with
  | 0, _ => exact h0
  | 1, _ => exact h1
  | 2, _ => exact h2
set_option maxHeartbeats 3200000 in
theorem wholeLaw (snap : ByteArray) (v : Value) (ss : List ByteArray) (cut : Int) (w : World) (hs : Strs w v ss) (hl : ss.length ≤ 1048576) (hsz : snap.size ≤ 1048576) :
    Calls Tryd.prog 4 #[.string snap, v, .int .i64 cut] w fun e w' => e = .returned (.bool true) ∧ Below w.heap.size w w' := by
  obtain ⟨vp, vc, rfl, _⟩ := hs.form
  have HSS := Lib.hid hs
  obtain ⟨m, hm⟩ : ∃ m, m = ss.length := ⟨_, rfl⟩
  rw [← hm] at HSS hl ⊢
  have HMM := Lib.hid hm
  clear hs hm
  go_enter Tryd.func4, Tryd.ntmps4
  go_wp2_with fail
  refine (newW _ [fe, fe, fe] (strs_three _ w.heap.size fe fe fe (by simp [fe]) (by simp [fe]) (by simp [fe])) (by decide) (fun i hi => by match i, (show i < 3 from hi) with | 0, _ => decide | 1, _ => decide | 2, _ => decide)).mono ?_
  rintro e w1 ⟨hb1, hh⟩
  rcases hh with ⟨hne, _⟩ | ⟨_, b, g, cap, rfl, hid, hbb, hgg⟩
  · exact absurd (show newErr [fe, fe, fe] = 0 by decide) hne
  have hat : At w.heap.size w b g cap (dk0 z3) w1 := ⟨hid, ((Below.refl _ _).alloc (Nat.le_refl _) _).trans (hb1.mono (by simp)), by simp at hbb; omega, by simp at hgg; omega, Nat.le_refl _⟩
  have HA := Lib.hid hat
  clear hat hid hbb hgg hb1
  by_cases hbig : 16384 < snap.size
  · have HN := Lib.hid (newLLong HA.out.disk (z3_minv.ok (by omega)) 1 snap rfl (by decide) (by kernel_rfl) (by kernel_rfl) hbig)
    have hbi : (16384 : Int) < (snap.size : Int) := by omega
    clear hbig
    go_wp2_with fail
    refine HN.out.mono ?_
    rintro e w2 ⟨rfl, hb⟩
    have HB := Lib.hid (HA.out.grow hb).below
    clear hb HN
    go_wp2_with fail
    refine (fixedLW _).mono ?_
    rintro e w3 ⟨rfl, hb⟩
    replace HB := Lib.hid (HB.out.trans (hb.mono HB.out.size))
    clear hb
    go_wp2_with fail
    go_ret
    exact ⟨rfl, HB.out⟩
  obtain ⟨hinv, hnew⟩ := newI HA.out z3_minv (by omega) 1 (by decide) (by rfl) (by rfl) snap (by omega)
  have HN := Lib.hid hnew
  have HI := Lib.hid hinv
  clear hinv hnew hbig
  go_wp2_with fail
  refine HN.out.mono ?_
  rintro e w2 ⟨lb, rfl, _, hlat⟩
  have HL := Lib.hid hlat
  clear hlat HN HA
  go_wp2_with fail
  obtain ⟨W, hW⟩ : ∃ W, W = w2.alloc (.cells #[] 9) := ⟨_, rfl⟩
  have hbW : Below w2.heap.size w2 W := by rw [hW]; exact (Below.refl _ _).alloc (Nat.le_refl _) _
  have HO : Hid (OwnsS W w.heap.size (.slice (some ⟨w2.heap.size, 0, none⟩) 0 0) []) := by
    have h := OwnsS.emptyW w2
    rw [← hW] at h
    exact row_base h HL.out.below.size
  have HLW := Lib.hid (HL.out.grow hbW)
  rw [← hW]
  clear hW hbW HL
  go_loopw [9, 11, 12] (fun v9 v11 v12 wr => ∃ (i lb : Nat) (l : List Fl) (L : Lg) (ps : List ByteArray), v12 = .int .i64 (i : Nat) ∧ v9 = .pointer (some ⟨lb, 0, none⟩) ∧ i ≤ m ∧ LAt w.heap.size w b g cap lb (dk0 l) L wr ∧ LInv l (i + 1) 1 L snap ps ∧ OwnsS wr w.heap.size v11 ps ∧ l.length = 3 ∧ l.getD 0 Fl.zero = Fl.zero ∧ Along l ps ∧ (ps = [] → ∃ p, v11 = .slice p 0 0)) (fun _ _ v _ => (m - intOf v).toNat)
  case atStart => exact ⟨0, lb, _, _, [], rfl, rfl, Nat.zero_le _, HLW.out, HI.out, HO.out, by rfl, by rfl, Along.none (three (by rfl) (by rfl) (by rfl) (by rfl)), fun _ => ⟨_, rfl⟩⟩
  case round =>
    obtain ⟨i, lb, l, L, ps, rfl, rfl, him, hlat, hinv, hown, hl3, hl0, hal, hcp⟩ := hrel
    obtain ⟨p11, c11, rfl⟩ := hown.shape
    obtain ⟨q, hq⟩ : ∃ q, q = ps.length := ⟨_, rfl⟩
    rw [← hq] at hown hcp ⊢
    have HALr := Lib.hid hal
    have HCP := Lib.hid hcp
    have HLr := Lib.hid hlat
    have HIr := Lib.hid hinv
    have HOr := Lib.hid hown
    have HQ := Lib.hid hq
    have HL3 := Lib.hid hl3
    have HL0 := Lib.hid hl0
    have hqb : q ≤ 1048576 := by have := hinv.few; omega
    clear hlat hinv hown hq hl3 hl0 hal hcp HLW HI HO
    have HST := Lib.hid (HSS.out.below (HLr.out.below))
    by_cases hlt : i < m
    · have hi1 : (i : Int) < (m : Int) := by omega
      have hi0 : (0 : Int) ≤ (i : Int) := by omega
      obtain ⟨tb, toff, htp, htx⟩ := (HSS.out.below (HLr.out.below)).cellAt (p := vp) (n := m) (c := vc) rfl (i := i) (by rw [← HMM.out]; exact hlt)
      subst htp
      clear htx
      obtain ⟨s, hs⟩ : ∃ s, s = ss.getD i ⟨#[]⟩ := ⟨_, rfl⟩
      have HS := Lib.hid hs
      obtain ⟨k, hk⟩ : ∃ k, k = cut % (m : Int) := ⟨_, rfl⟩
      have HP := Lib.hid (placeW cut m (by omega) hl wr)
      rw [← hk] at HP
      clear hs hk
      go_wp2_with fail
      refine HP.out.mono ?_
      rintro e w2 ⟨rfl, hw⟩
      subst hw
      clear HP
      by_cases heq : k = (i : Int)
      · subst heq
        go_wp2_with fail
        refine (openI HLr.out.on HIr.out (by omega)).mono ?_
        rintro e w3 ⟨lb2, v2, rfl, _, hlat2, hws, hc⟩
        have HO3 := Lib.hid (HOr.out.keepL HLr.out.on.disk HLr.out.log (hc.mono fun k _ h => .inr h))
        have HL3' := Lib.hid hlat2
        obtain ⟨p2, c2, hv2, _⟩ := hws.form
        rw [← HQ.out] at hv2
        subst hv2
        have HSM := Lib.hid (sameW _ _ ps ps w3 hws.strs HO3.out.ws.strs (by rw [← HQ.out]; exact hqb) (by rw [← HQ.out]; exact hqb))
        rw [decide_eq_true rfl] at HSM
        clear hlat2 hws hc HLr HOr
        go_wp2_with fail
        refine HSM.out.mono ?_
        rintro e w4 ⟨rfl, hb⟩
        have HL4 := Lib.hid (HL3'.out.grow hb)
        have HO4 := Lib.hid (HO3.out.kept hb)
        clear hb HSM HL3' HO3
        go_wp2_with fail
        have HR := Lib.hid (recordsW HL4.out.log)
        rw [HIr.out.n, ← HQ.out] at HR
        refine HR.out.mono ?_
        rintro e w5 ⟨rfl, rfl⟩
        obtain ⟨tb', toff', htp, htc⟩ := (HSS.out.below (HL4.out.below)).cellAt (p := some ⟨tb, toff, none⟩) (n := m) (c := vc) rfl (i := i) (by rw [← HMM.out]; exact hlt)
        rw [← HS.out] at htc
        injection htp with htp
        injection htp with ht1 ht2
        subst ht1 ht2
        clear HR
        go_wp2_with fail
        have HIo := Lib.hid HIr.out.op
        have HALo : Hid (Along (opX l 1) ps) := Along.none (three (by rw [length_opX]; exact HL3.out) (by rw [(opX_frame l 1).2 0 (by decide) (by decide), HL0.out]; rfl) (by rw [(opX_get l 1 HIr.out.f1).1]) (by rw [(opX_get l 1 HIr.out.f1).2]))
        have HLo : Hid ((opX l 1).length = 3 ∧ (opX l 1).getD 0 Fl.zero = Fl.zero) := ⟨(opX_frame l 1).1.trans HL3.out, ((opX_frame l 1).2 0 (by decide) (by decide)).trans HL0.out⟩
        obtain ⟨ps', hinv', hcase⟩ := (HIo.out).app s
        have HAP := Lib.hid (appI HL4.out (HIo.out) (by omega) s)
        have hfr := appX_frame (opX l 1) L s
        obtain ⟨r, l2, L2, hX⟩ : ∃ r l2 L2, appX (opX l 1) L s = (r, l2, L2) := ⟨_, _, _, rfl⟩
        have hX0 := hX
        rw [hX] at hinv' hcase HAP hfr
        dsimp only at hinv' hcase HAP hfr
        have HI2 := Lib.hid hinv'
        have HCS := Lib.hid hcase
        have HXE := Lib.hid hX0
        have HF3 : Hid (l2.length = 3 ∧ l2.getD 0 Fl.zero = Fl.zero) := ⟨hfr.1.trans HLo.out.1, (hfr.2 0 (by have := (HIo.out).counts; omega)).trans HLo.out.2⟩
        clear hinv' hcase hfr hX hX0
        go_wp2_with fail
        refine HAP.out.mono ?_
        rintro e w7 ⟨rfl, hlat, hch⟩
        have HL7 := Lib.hid hlat
        have HO7 := Lib.hid (HO4.out.keepL HL4.out.on.disk HL4.out.log hch)
        clear hlat hch htc HAP
        rcases HCS.out with ⟨hr, hps, hss⟩ | ⟨hr, hps, hll⟩
        · subst hr
          have hth := HALo.out.app (s := s) (HIo.out).cl (HIo.out).n
          rw [← appX_zero HXE.out] at hth
          have HTH := Lib.hid hth
          clear hth
          obtain ⟨tb', toff', htp, htc⟩ := (HSS.out.below (HL7.out.below)).cellAt (p := some ⟨tb, toff, none⟩) (n := m) (c := vc) rfl (i := i) (by rw [← HMM.out]; exact hlt)
          rw [← HS.out] at htc
          injection htp with htp
          injection htp with ht1 ht2
          subst ht1 ht2
          go_wp2_with (at_builtin; refine wpList_append_s2 rfl _ _ rfl rfl (HO7.out.alloc _) HCP.out ⟨w7.heap.size, 0, none⟩ 1 s rfl (by simp) ?e1 (by have := HL7.out.below.size; simp; omega) ?_)
          case e1 => rw [← HQ.out]; exact hqb
          intro v8 w8 ho8 hg8 hk8
          have HO8 := Lib.hid ho8
          have hb7 : Below w7.heap.size w7 (w7.alloc (.cells #[.string s] 9)) := (Below.refl _ _).alloc (Nat.le_refl _) _
          have HC8 : Hid (OwnsS (w7.alloc (.cells #[.string s] 9)) w.heap.size (.slice p11 q c11) ps) := HO7.out.alloc _
          have hl8 := HL7.out.grow hb7
          have HL8 : Hid (LAt w.heap.size w b g cap lb2 (dk0 l2) L2 w8) := hl8.appended HC8.out hg8 hk8 HTH.out.1
          clear ho8 hg8 hk8 htc hb7 hl8 HC8
          go_wp2_with fail
          exact ⟨⟨i + 1, lb2, l2, L2, ps', rfl, rfl, by omega, HL8.out, HI2.out, by rw [hps]; exact HO8.out, HF3.out.1, HF3.out.2, by rw [hps]; exact HTH.out.2, fun h => by rw [hps] at h; simp at h⟩, by simp only [intOf]; omega⟩
        · rcases hr with hr | hr
          · subst hr
            go_wp2_with fail
            exact ⟨⟨i + 1, lb2, l2, L2, ps', rfl, rfl, by omega, HL7.out, HI2.out, by rw [hps]; exact HO7.out, HF3.out.1, HF3.out.2, by rw [hps, (show l2 = opX l 1 by injection hll)]; exact HALo.out, by rw [hps]; exact HCP.out⟩, by simp only [intOf]; omega⟩
          · subst hr
            go_wp2_with fail
            exact ⟨⟨i + 1, lb2, l2, L2, ps', rfl, rfl, by omega, HL7.out, HI2.out, by rw [hps]; exact HO7.out, HF3.out.1, HF3.out.2, by rw [hps, (show l2 = opX l 1 by injection hll)]; exact HALo.out, by rw [hps]; exact HCP.out⟩, by simp only [intOf]; omega⟩
      · have hke : (k == (i : Int)) = false := by rw [beq_eq_false_iff_ne]; exact heq
        clear heq
        have HLo : Hid (l.length = 3 ∧ l.getD 0 Fl.zero = Fl.zero) := ⟨HL3.out, HL0.out⟩
        obtain ⟨tb', toff', htp, htc⟩ := (HSS.out.below (HLr.out.below)).cellAt (p := some ⟨tb, toff, none⟩) (n := m) (c := vc) rfl (i := i) (by rw [← HMM.out]; exact hlt)
        rw [← HS.out] at htc
        injection htp with htp
        injection htp with ht1 ht2
        subst ht1 ht2
        go_wp2_with fail
        obtain ⟨ps', hinv', hcase⟩ := (HIr.out).app s
        have HAP := Lib.hid (appI HLr.out (HIr.out) (by omega) s)
        have hfr := appX_frame (l) L s
        obtain ⟨r, l2, L2, hX⟩ : ∃ r l2 L2, appX (l) L s = (r, l2, L2) := ⟨_, _, _, rfl⟩
        have hX0 := hX
        rw [hX] at hinv' hcase HAP hfr
        dsimp only at hinv' hcase HAP hfr
        have HI2 := Lib.hid hinv'
        have HCS := Lib.hid hcase
        have HXE := Lib.hid hX0
        have HF3 : Hid (l2.length = 3 ∧ l2.getD 0 Fl.zero = Fl.zero) := ⟨hfr.1.trans HLo.out.1, (hfr.2 0 (by have := (HIr.out).counts; omega)).trans HLo.out.2⟩
        clear hinv' hcase hfr hX hX0
        go_wp2_with fail
        refine HAP.out.mono ?_
        rintro e w7 ⟨rfl, hlat, hch⟩
        have HL7 := Lib.hid hlat
        have HO7 := Lib.hid (HOr.out.keepL HLr.out.on.disk HLr.out.log hch)
        clear hlat hch htc HAP
        rcases HCS.out with ⟨hr, hps, hss⟩ | ⟨hr, hps, hll⟩
        · subst hr
          have hth := HALr.out.app (s := s) (HIr.out).cl (HIr.out).n
          rw [← appX_zero HXE.out] at hth
          have HTH := Lib.hid hth
          clear hth
          obtain ⟨tb', toff', htp, htc⟩ := (HSS.out.below (HL7.out.below)).cellAt (p := some ⟨tb, toff, none⟩) (n := m) (c := vc) rfl (i := i) (by rw [← HMM.out]; exact hlt)
          rw [← HS.out] at htc
          injection htp with htp
          injection htp with ht1 ht2
          subst ht1 ht2
          go_wp2_with (at_builtin; refine wpList_append_s2 rfl _ _ rfl rfl (HO7.out.alloc _) HCP.out ⟨w7.heap.size, 0, none⟩ 1 s rfl (by simp) ?e1 (by have := HL7.out.below.size; simp; omega) ?_)
          case e1 => rw [← HQ.out]; exact hqb
          intro v8 w8 ho8 hg8 hk8
          have HO8 := Lib.hid ho8
          have hb7 : Below w7.heap.size w7 (w7.alloc (.cells #[.string s] 9)) := (Below.refl _ _).alloc (Nat.le_refl _) _
          have HC8 : Hid (OwnsS (w7.alloc (.cells #[.string s] 9)) w.heap.size (.slice p11 q c11) ps) := HO7.out.alloc _
          have hl8 := HL7.out.grow hb7
          have HL8 : Hid (LAt w.heap.size w b g cap lb (dk0 l2) L2 w8) := hl8.appended HC8.out hg8 hk8 HTH.out.1
          clear ho8 hg8 hk8 htc hb7 hl8 HC8
          go_wp2_with fail
          exact ⟨⟨i + 1, lb, l2, L2, ps', rfl, rfl, by omega, HL8.out, HI2.out, by rw [hps]; exact HO8.out, HF3.out.1, HF3.out.2, by rw [hps]; exact HTH.out.2, fun h => by rw [hps] at h; simp at h⟩, by simp only [intOf]; omega⟩
        · rcases hr with hr | hr
          · subst hr
            go_wp2_with fail
            exact ⟨⟨i + 1, lb, l2, L2, ps', rfl, rfl, by omega, HL7.out, HI2.out, by rw [hps]; exact HO7.out, HF3.out.1, HF3.out.2, by rw [hps, (show l2 = l by injection hll)]; exact HALr.out, by rw [hps]; exact HCP.out⟩, by simp only [intOf]; omega⟩
          · subst hr
            go_wp2_with fail
            exact ⟨⟨i + 1, lb, l2, L2, ps', rfl, rfl, by omega, HL7.out, HI2.out, by rw [hps]; exact HO7.out, HF3.out.1, HF3.out.2, by rw [hps, (show l2 = l by injection hll)]; exact HALr.out, by rw [hps]; exact HCP.out⟩, by simp only [intOf]; omega⟩
    · have hi1 : ¬ (i : Int) < (m : Int) := by omega
      clear hlt
      go_wp2_with fail
      refine (openI HLr.out.on HIr.out (by omega)).mono ?_
      rintro e w3 ⟨lb2, v2, rfl, _, hlat2, hws, hc⟩
      have HO3 := Lib.hid (HOr.out.keepL HLr.out.on.disk HLr.out.log (hc.mono fun k _ h => .inr h))
      have HL3' := Lib.hid hlat2
      obtain ⟨p2, c2, hv2, _⟩ := hws.form
      rw [← HQ.out] at hv2
      subst hv2
      have HSM := Lib.hid (sameW _ _ ps ps w3 hws.strs HO3.out.ws.strs (by rw [← HQ.out]; exact hqb) (by rw [← HQ.out]; exact hqb))
      rw [decide_eq_true rfl] at HSM
      clear hlat2 hws hc HLr HOr
      go_wp2_with fail
      refine HSM.out.mono ?_
      rintro e w4 ⟨rfl, hb⟩
      have HL4 := Lib.hid (HL3'.out.grow hb)
      have HO4 := Lib.hid (HO3.out.kept hb)
      clear hb HSM HL3' HO3
      go_wp2_with fail
      have HSZ := Lib.hid (sizeYes HL4.out.on.disk (HIr.out.op.m.ok (by omega)) 0 (by show 0 < (opX l 1).length; rw [length_opX, HL3.out]; decide))
      rw [show (dk0 (opX l 1)).l = opX l 1 from rfl, (opX_frame l 1).2 0 (by decide) (by decide), HL0.out, show (rd Fl.zero).size = 0 from (by rw [rd_zero]; rfl)] at HSZ
      refine HSZ.out.mono ?_
      rintro e w5 ⟨rfl, hb⟩
      have HB := Lib.hid (HL4.out.grow hb).below
      clear hb HSZ
      go_wp2_with fail
      refine (fixedLW _).mono ?_
      rintro e w6 ⟨rfl, hb⟩
      replace HB := Lib.hid (HB.out.trans (hb.mono HB.out.size))
      clear hb
      go_wp2_with fail
      go_ret
      exact ⟨rfl, HB.out⟩
end Go.Proofs.YtamaefnlicloaaaDoor
