/- The walk of DiskLeaves. -/
import Derived.Test.YtpaldmbffmhphaaDAgain
import Derived.BigQuiet
namespace Go.Proofs.Ytpaldmbffmhphaa
open Go.RowKit
theorem left_plain (x : Fl) (cs : List Int) (h : x.ws.length = 0) : left x cs = rd x := by
  obtain ⟨s, ws⟩ := x
  have h0 : ws = [] := List.eq_nil_of_length_eq_zero h
  subst h0
  rw [left_nil, rd_safe]
/-- What is left of a file: nothing that is not there, or noughts. -/
theorem left_byte (x : Fl) (cs : List Int) (j : Nat) (h : j < (left x cs).size) : (bs (left x cs)).getD j 0 = (bs (rd x)).getD j 0 ∨ (bs (left x cs)).getD j 0 = 0 := by
  have h2 : j < (leftL x cs).length := by rw [← bs_left, length_bs]; exact h
  rw [bs_left, bs_rd]
  exact left_get x cs j h2
theorem bs_getD (s : ByteArray) (j : Nat) : (bs s).getD j 0 = (s.data.toList.getD j 0).toNat := by
  unfold bs
  rw [List.getD_eq_getElem?_getD, List.getElem?_map, List.getD_eq_getElem?_getD]
  cases s.data.toList[j]? <;> rfl
theorem byte_at (s : ByteArray) (j : Nat) (h : j < s.size) : (s.data.toList.getD j 0).toNat = (s[j]'h).toNat := by
  rw [List.getD_eq_getElem?_getD, List.getElem?_eq_getElem (by rw [Array.length_toList]; exact h)]
  rfl
theorem strs_at {w : World} {p : Option Addr} {n c : Nat} {ss : List ByteArray} (h : Strs w (.slice p n c) ss) (i : Nat) (hi : i < ss.length) : ∃ b off, p = some ⟨b, off, none⟩ ∧ w.cell? ⟨b, off + i, none⟩ = some (.string (ss.getD i ⟨#[]⟩)) := by
  obtain ⟨q, d, e, hc⟩ := h.form
  injection e with e1 e2 e3
  subst e1
  exact hc i hi
set_option maxRecDepth 100000 in
set_option maxHeartbeats 3200000 in
theorem leavesLaw {w : World} (v u cv : Value) (ss : List ByteArray) (os : List Opv) (h : Strs w v ss) (hl : ss.length ≤ 1048576) (hm : ∀ i, i < ss.length → (ss.getD i ⟨#[]⟩).size ≤ 1048576)
    (ho : Ops w u os) (hol : os.length ≤ 1048576) (hom : ∀ i, i < os.length → (os.getD i Opv.zero).s.size ≤ 1048576) (C : List (List Int)) (hC : Rss w cv C) (hCl : ∀ i, (C.getD i []).length ≤ 1048576) :
    Calls Try.prog 7 #[v, u, cv] w fun e w' => e = .returned (.bool true) ∧ Below w.heap.size w w' := by
  obtain ⟨vp, vc, hve, _⟩ := h.form
  have ho1 := ho
  have hC1 := hC
  obtain ⟨up, uc, hue, _⟩ := ho1
  obtain ⟨ap, ac, hae, _⟩ := hC1
  have HMADE := Lib.hid (madeW v u ss os h hl hm ho hol hom)
  have HSTR := Lib.hid h
  have HCS := Lib.hid hC
  have HHM := Lib.hid hm
  have HHL := Lib.hid hl
  have HCL := Lib.hid hCl
  have HOL := Lib.hid hol
  subst hve hue hae
  obtain ⟨an, han⟩ : ∃ n, n = C.length := ⟨_, rfl⟩
  obtain ⟨m, hmm⟩ : ∃ m, m = ss.length := ⟨_, rfl⟩
  obtain ⟨on, hon⟩ : ∃ n, n = os.length := ⟨_, rfl⟩
  rw [← han] at HCS
  rw [← hmm, ← hon] at HMADE
  rw [← hmm] at HSTR
  rw [← han, ← hmm, ← hon]
  have HMM := Lib.hid hmm
  clear h ho hC hm hl hol hom hCl han hmm hon
  go_enter Try.func7, Try.ntmps7
  go_wp2_with fail
  refine HMADE.out.mono ?_
  rintro e w1 ⟨hb1, hh⟩
  rcases hh with ⟨hne, rfl⟩ | ⟨he0, b, g, cap, rfl, hat⟩
  · have h0 : (newErr ss == 0) = false := by rw [beq_eq_false_iff_ne]; exact hne
    have HNE := Lib.hid hne
    have HS1 := Lib.hid (HSTR.out.below hb1)
    have HB1 := Lib.hid hb1
    clear hne hb1
    go_wp2_with fail
    refine (rnewW _ ss HS1.out HHL.out HHM.out).mono ?_
    rintro e w2 ⟨hb2, hh⟩
    rcases hh with ⟨_, rfl⟩ | ⟨hx, _⟩
    · have HB2 := Lib.hid hb2
      clear hb2
      go_wp2_with fail
      refine (fixedW w2).mono ?_
      rintro e w3 ⟨rfl, hb3⟩
      have HB3 := Lib.hid hb3
      clear hb3
      go_wp2_with fail
      go_ret
      refine ⟨?_, (HB1.out.trans (HB2.out.mono HB1.out.size)).trans (HB3.out.mono (Nat.le_trans HB1.out.size HB2.out.size))⟩
      show Ending.returned (.bool (newErr ss != 0)) = _
      rw [bne, beq_eq_false_iff_ne.2 HNE.out]
      rfl
    · exact absurd hx HNE.out
  · obtain ⟨hm1, hm2, _⟩ := newErr_good he0
    rw [← HMM.out] at hm1 hm2
    have HIN := Lib.hid (mk_inv he0 os)
    have hlen := length_mk ss os
    obtain ⟨l, hle⟩ : ∃ l, l = mk ss os := ⟨_, rfl⟩
    rw [← hle] at hat HIN hlen
    rw [← HMM.out] at hlen
    have hn0 : os.length ≤ 1048576 := HOL.out
    have OK0 := Lib.hid (HIN.out.ok (by omega))
    have HA := Lib.hid hat
    obtain ⟨L, hL⟩ : ∃ L, L = (dk0 l).after C := ⟨_, rfl⟩
    obtain ⟨R, hR⟩ : ∃ R, R = (dk0 l).files := ⟨_, rfl⟩
    have hLl : L.length = m := by rw [hL, length_after]; exact hlen
    have hRl : R.length = m := by rw [hR, length_files]; exact hlen
    have q1 : (dk0 l).crashX C = (⟨plain L, 0, [], true⟩, 0) := by unfold Dk.crashX; rw [if_neg (dk0_live l)]; unfold Dk.died; rw [← hL]; rfl
    have OK1 : Hid (DOk ⟨plain L, 0, [], true⟩) := by
      have := OK0.out.died C
      unfold Dk.died at this
      rw [← hL] at this
      exact this
    have Q1 := Lib.hid q1
    have HLL := Lib.hid hLl
    have HRL := Lib.hid hRl
    have HL := Lib.hid hL
    have HR := Lib.hid hR
    have HLEN := Lib.hid hlen
    clear hat he0 hlen hle hL hR q1 hLl hRl
    go_wp2_with fail
    refine (HA.out.filesF OK0.out).mono ?_
    rintro e w2 ⟨v2, rfl, hw2, hat, _⟩
    rw [← HR.out] at hw2
    obtain ⟨p2, c2, rfl, _⟩ := hw2.form
    rw [HRL.out] at hw2
    rw [HRL.out]
    have HV2 := Lib.hid hw2
    replace HA := Lib.hid hat
    clear hat hw2
    go_wp2_with fail
    refine (HA.out.afterF OK0.out _ C (HCS.out.below HA.out.below) HCL.out).mono ?_
    rintro e w3 ⟨v3, rfl, hw3, hat, hb3⟩
    rw [← HL.out] at hw3
    obtain ⟨p3, c3, rfl, _⟩ := hw3.form
    rw [HLL.out] at hw3
    rw [HLL.out]
    have HV3 := Lib.hid hw3
    replace HV2 := Lib.hid (HV2.out.below hb3)
    replace HA := Lib.hid hat
    clear hat hw3 hb3
    go_wp2_with fail
    refine (cloneW HA.out.disk OK0.out).mono ?_
    rintro e w4 ⟨b', g', cap', rfl, hid4, hbb, hgg, hb4⟩
    have n1 := HA.out.disk.lt
    have n2 := HA.out.disk.fs.lt
    have n3 : w.heap.size ≤ w3.heap.size := HA.out.below.size
    have HNE : Hid (b ≠ b' ∧ b ≠ g' ∧ g ≠ b' ∧ g ≠ g') := ⟨by omega, by omega, by omega, by omega⟩
    replace HV2 := Lib.hid (HV2.out.below hb4)
    replace HV3 := Lib.hid (HV3.out.below hb4)
    replace HA := Lib.hid (HA.out.grow hb4)
    have HC : Hid (At w.heap.size w b' g' cap' (dk0 l) w4) := ⟨hid4, HA.out.below, by omega, by omega, Nat.le_refl _⟩
    clear hid4 hbb hgg hb4 n1 n2 n3
    go_wp2_with fail
    refine (crashA HC.out.disk OK0.out _ C (HCS.out.below HC.out.below) (fun i => by have := HCL.out i; omega)).mono ?_
    rintro e w5 ⟨rfl, hid, hc⟩
    rw [Q1.out] at hid ⊢
    have HA5 : Hid (At w.heap.size w b g cap (dk0 l) w5) := ⟨HA.out.disk.keep hc (by have := HNE.out; omega) (by have := HNE.out; omega) HC.out.disk.muts, (HC.out.chg hid hc).below, HA.out.bB, HA.out.gB, HA.out.le⟩
    replace HV2 := Lib.hid (HV2.out.keep hc HC.out.disk.muts)
    replace HV3 := Lib.hid (HV3.out.keep hc HC.out.disk.muts)
    replace HC := Lib.hid (HC.out.chg hid hc)
    clear hid hc HA
    go_wp2_with fail
    refine (HC.out.filesF OK1.out).mono ?_
    rintro e w6 ⟨v6, rfl, hw6, hat, hb6⟩
    rw [plain_files] at hw6
    obtain ⟨p6, c6, rfl, _⟩ := hw6.form
    rw [HLL.out] at hw6
    rw [HLL.out]
    have HV6 := Lib.hid hw6
    replace HV2 := Lib.hid (HV2.out.below hb6)
    replace HV3 := Lib.hid (HV3.out.below hb6)
    replace HC := Lib.hid hat
    replace HA5 := Lib.hid (HA5.out.grow hb6)
    clear hat hw6 hb6
    go_wp2_with fail
    refine (sameEq _ _ L L _ HV6.out.strs HV3.out.strs rfl (by have := HLL.out; omega)).mono ?_
    rintro e w7 ⟨rfl, hb7⟩
    rw [decide_eq_true (rfl : L = L)]
    replace HV2 := Lib.hid (HV2.out.below hb7)
    replace HV3 := Lib.hid (HV3.out.below hb7)
    replace HC := Lib.hid (HC.out.grow hb7)
    replace HA5 := Lib.hid (HA5.out.grow hb7)
    clear hb7 HV6
    go_wp2_with fail
    refine (crashA HC.out.disk OK1.out _ C (HCS.out.below HC.out.below) (fun i => by have := HCL.out i; omega)).mono ?_
    rintro e w8 ⟨rfl, hid, hc⟩
    have q2 : (⟨plain L, 0, [], true⟩ : Dk).crashX C = (⟨plain L, 0, [], true⟩, 2) := rfl
    rw [q2] at hid ⊢
    have HA8 : Hid (At w.heap.size w b g cap (dk0 l) w8) := ⟨HA5.out.disk.keep hc (by have := HNE.out; omega) (by have := HNE.out; omega) HC.out.disk.muts, (HC.out.chg hid hc).below, HA5.out.bB, HA5.out.gB, HA5.out.le⟩
    have HV28 := Lib.hid (HV2.out.keep hc HC.out.disk.muts)
    have HV38 := Lib.hid (HV3.out.keep hc HC.out.disk.muts)
    have HC8 := Lib.hid (HC.out.chg hid hc)
    clear hid hc HA5 HV2 HV3 HC q2
    go_wp2_with fail
    go_loopw [13] (fun vi wr => ∃ i : Nat, i ≤ m ∧ vi = .int .i64 (i : Nat) ∧ At w.heap.size w b g cap (dk0 l) wr ∧ At w.heap.size w b' g' cap' ⟨plain L, 0, [], true⟩ wr ∧ WS wr (.slice p2 m c2) R ∧ WS wr (.slice p3 m c3) L) (fun vi _ => (m - intOf vi).toNat)
    case atStart => exact ⟨0, by omega, rfl, HA8.out, HC8.out, HV28.out, HV38.out⟩
    case round =>
      obtain ⟨i, hi, rfl, hat, hct, hws2, hws3⟩ := hrel
      have HA := Lib.hid hat
      have HC := Lib.hid hct
      have HV2 := Lib.hid hws2
      have HV3 := Lib.hid hws3
      clear hat hct hws2 hws3 HA8 HC8 HV28 HV38
      by_cases hlt : i < m
      · have hil : i < (dk0 l).l.length := by show i < l.length; rw [HLEN.out]; exact hlt
        obtain ⟨x, hx⟩ : ∃ x, x = l.getD i Fl.zero := ⟨_, rfl⟩
        obtain ⟨lx, hlx⟩ : ∃ s, s = L.getD i ⟨#[]⟩ := ⟨_, rfl⟩
        obtain ⟨rx, hrx⟩ : ∃ s, s = R.getD i ⟨#[]⟩ := ⟨_, rfl⟩
        have e1 : lx = left x (C.getD i []) := by rw [hlx, HL.out, getD_after _ _ _ hil, hx]; rfl
        have e2 : rx = rd x := by rw [hrx, HR.out, getD_files _ _ hil, hx]; rfl
        have hls : lx.size ≤ rx.size := by rw [e1, e2]; exact size_left _ _
        have hrs : rx.size ≤ 262144 := by rw [e2, hx]; exact HIN.out.size i (by rw [HLEN.out]; exact hlt)
        have hbytes : Hid (∀ j, j < lx.size → (lx.data.toList.getD j 0).toNat = (rx.data.toList.getD j 0).toNat ∨ (lx.data.toList.getD j 0).toNat = 0) := fun j hj => by
          have := left_byte x (C.getD i []) j (by rw [← e1]; exact hj)
          rw [← e1, ← e2, bs_getD, bs_getD] at this
          exact this
        have heq : Hid (x.ws.length = 0 → lx = rx) := fun h => by rw [e1, e2, left_plain x _ h]
        have hww : (dk0 l).l.getD i Fl.zero = x := hx.symm
        have hw0 : ((⟨plain L, 0, [], true⟩ : Dk).l.getD i Fl.zero).ws.length = 0 := by show ((plain L).getD i Fl.zero).ws.length = 0; rw [plain_getD L i (by rw [HLL.out]; exact hlt)]; rfl
        have C1 : Hid (∀ t : Grow wr, Calls Try.prog 14 #[.pointer (some ⟨b', 0, none⟩), .int .i64 (i : Nat)] t.val fun e w' => e = .returned (.int .i64 0) ∧ Below t.val.heap.size t.val w') := fun t => by
          have := waitingYes (HC.out.grow t.below).disk i (by show i < (plain L).length; rw [length_plain, HLL.out]; exact hlt)
          rw [hw0] at this
          exact this.mono fun e w' ⟨h1, h2⟩ => ⟨h1, h2 ▸ Below.refl _ _⟩
        have C2 : Hid (∀ t : Grow wr, ∀ t' : Grow t.val, Calls Try.prog 14 #[.pointer (some ⟨b, 0, none⟩), .int .i64 (i : Nat)] t'.val fun e w' => e = .returned (.int .i64 (x.ws.length : Nat)) ∧ Below t'.val.heap.size t'.val w') := fun t t' => by
          have := waitingYes ((HA.out.grow t.below).grow t'.below).disk i hil
          rw [hww] at this
          exact this.mono fun e w' ⟨h1, h2⟩ => ⟨h1, h2 ▸ Below.refl _ _⟩
        obtain ⟨g2, o2, rfl, x2⟩ := strs_at HV2.out.strs i (by rw [HRL.out]; exact hlt)
        obtain ⟨g3, o3, rfl, x3⟩ := strs_at HV3.out.strs i (by rw [HLL.out]; exact hlt)
        rw [← hrx] at x2
        rw [← hlx] at x3
        have X2 : Hid (∀ t : Grow wr, t.val.cell? ⟨g2, o2 + i, none⟩ = some (.string rx)) := fun t => t.cell x2
        have X3 : Hid (∀ t : Grow wr, t.val.cell? ⟨g3, o3 + i, none⟩ = some (.string lx)) := fun t => t.cell x3
        have c2 := X2.out
        have c3 := X3.out
        have hgt : decide ((rx.size : Int) < (lx.size : Int)) = false := by rw [decide_eq_false_iff_not]; omega
        have i1 : (0 : Int) ≤ (i : Int) := by omega
        have i2 : (i : Int) < (m : Int) := by omega
        clear hil hx hlx hrx e1 e2 hww hw0 x2 x3
        go_wp2_with fail
        refine wp_region_fam (by kernel_rfl) (by kernel_rfl) Grow.val (Grow.start wr) ?_
        repeat go_big_quiet_step ((with_reducible refine Calls.fam_of (C1.out _) (Grow.more _)))
        refine wpQuiet_nil ?_
        intro t
        have x2 := c2 t
        have x3 := c3 t
        clear c2 c3 C1
        go_wp2_with fail
        have HT := Lib.hid t.below
        have X2t : Hid (∀ u : Grow t.val, u.val.cell? ⟨g2, o2 + i, none⟩ = some (.string rx)) := fun u => u.cell x2
        have X3t : Hid (∀ u : Grow t.val, u.val.cell? ⟨g3, o3 + i, none⟩ = some (.string lx)) := fun u => u.cell x3
        have C2t := Lib.hid (C2.out t)
        clear C2
        go_loopw [14] (fun vj wq => ∃ j : Nat, j ≤ lx.size ∧ vj = .int .i64 (j : Nat) ∧ ∃ u : Grow t.val, wq = u.val) (fun vj _ => (lx.size - intOf vj).toNat)
        case atStart => exact ⟨0, Nat.zero_le _, rfl, ⟨t.val, Below.refl _ _⟩, rfl⟩
        case round =>
          obtain ⟨j, hj, rfl, u, rfl⟩ := hrel
          have x2 := X2t.out u
          have x3 := X3t.out u
          by_cases hjl : j < lx.size
          · have y2 := fun u' : Grow u.val => u'.cell x2
            have y3 := fun u' : Grow u.val => u'.cell x3
            have j1 : (0 : Int) ≤ (j : Int) := by omega
            have j2 : (j : Int) < (lx.size : Int) := by omega
            have j3 : (j : Int) < (rx.size : Int) := by omega
            have hjr : j < rx.size := by omega
            have hbt := hbytes.out j hjl
            rw [byte_at lx j hjl, byte_at rx j hjr] at hbt
            by_cases hq : (lx[j]'hjl).toNat = (rx[j]'hjr).toNat
            · have hq1 : (((lx[j]'hjl).toNat : Int) != ((rx[j]'hjr).toNat : Int)) = false := by rw [hq, bne_self_eq_false]
              clear hq hbt
              go_wp2_with fail
              refine wp_region_fam (by kernel_rfl) (by kernel_rfl) Grow.val (Grow.start u.val) ?_
              repeat go_big_quiet_step (fail)
              refine wpQuiet_nil ?_
              intro u'
              go_wp2_with fail
              refine ⟨⟨j + 1, by omega, rfl, ⟨u'.val, u.below.trans (u'.below.mono u.below.size)⟩, rfl⟩, by simp [intOf]; omega⟩
            · have hz0 : (lx[j]'hjl).toNat = 0 := hbt.resolve_left hq
              have hq1 : (((lx[j]'hjl).toNat : Int) != ((rx[j]'hjr).toNat : Int)) = true := by rw [bne_iff_ne]; omega
              have hq2 : (((lx[j]'hjl).toNat : Int) != 0) = false := by rw [hz0]; rfl
              have hq4 : ((lx[j]'hjl).toNat : Int) ≠ ((rx[j]'hjr).toNat : Int) := by omega
              have hq5 : (((lx[j]'hjl).toNat : Int) == ((rx[j]'hjr).toNat : Int)) = false := by rw [beq_eq_false_iff_ne]; exact hq4
              clear hq hbt hz0
              go_wp2_with fail
              refine wp_region_fam (by kernel_rfl) (by kernel_rfl) Grow.val (Grow.start u.val) ?_
              repeat go_big_quiet_step (fail)
              refine wpQuiet_nil ?_
              intro u'
              go_wp2_with fail
              refine ⟨⟨j + 1, by omega, rfl, ⟨u'.val, u.below.trans (u'.below.mono u.below.size)⟩, rfl⟩, by simp [intOf]; omega⟩
          · have y2 := fun u' : Grow u.val => u'.cell x2
            have y3 := fun u' : Grow u.val => u'.cell x3
            have C3 : Hid (∀ u' : Grow u.val, Calls Try.prog 14 #[.pointer (some ⟨b, 0, none⟩), .int .i64 (i : Nat)] u'.val fun e w' => e = .returned (.int .i64 (x.ws.length : Nat)) ∧ Below u'.val.heap.size u'.val w') := fun u' => C2t.out ⟨u'.val, u.below.trans (u'.below.mono u.below.size)⟩
            obtain ⟨n, hn⟩ : ∃ n, n = x.ws.length := ⟨_, rfl⟩
            rw [← hn] at C3
            have HEQ := Lib.hid heq.out
            rw [← hn] at HEQ
            have HFIN : Hid (∀ u' : Grow u.val, At w.heap.size w b g cap (dk0 l) u'.val ∧ At w.heap.size w b' g' cap' ⟨plain L, 0, [], true⟩ u'.val ∧ WS u'.val (.slice (some ⟨g2, o2, none⟩) m c2) R ∧ WS u'.val (.slice (some ⟨g3, o3, none⟩) m c3) L) := fun u' =>
              ⟨((HA.out.grow t.below).grow u.below).grow u'.below, ((HC.out.grow t.below).grow u.below).grow u'.below, ((HV2.out.below t.below).below u.below).below u'.below, ((HV3.out.below t.below).below u.below).below u'.below⟩
            clear hn hj
            by_cases hn0 : n = 0
            · have hq0 : ((n : Int) == 0) = true := by rw [hn0]; rfl
              have hlr := HEQ.out hn0
              have hq1 : (!(lx.toList == rx.toList)) = false := by rw [hlr]; simp
              have hq3 : (lx.toList == rx.toList) = true := by rw [hlr]; simp
              clear hlr
              go_wp2_with fail
              refine wp_region_fam (by kernel_rfl) (by kernel_rfl) Grow.val (Grow.start u.val) ?_
              repeat go_big_quiet_step ((with_reducible refine Calls.fam_of (C3.out _) (Grow.more _)))
              refine wpQuiet_nil ?_
              intro u'
              go_wp2_with fail
              exact ⟨⟨i + 1, by omega, rfl, HFIN.out u'⟩, by simp [intOf]; omega⟩
            · have hq0 : ((n : Int) == 0) = false := by rw [beq_eq_false_iff_ne]; omega
              go_wp2_with fail
              refine wp_region_fam (by kernel_rfl) (by kernel_rfl) Grow.val (Grow.start u.val) ?_
              repeat go_big_quiet_step ((with_reducible refine Calls.fam_of (C3.out _) (Grow.more _)))
              refine wpQuiet_nil ?_
              intro u'
              go_wp2_with fail
              exact ⟨⟨i + 1, by omega, rfl, HFIN.out u'⟩, by simp [intOf]; omega⟩
      · go_wp2_with fail
        refine (fixedW wr).mono ?_
        rintro e w10 ⟨rfl, hb⟩
        have HF := Lib.hid ((HA.out.grow hb).below)
        clear hb
        go_wp2_with fail
        go_ret
        exact ⟨rfl, HF.out⟩
end Go.Proofs.Ytpaldmbffmhphaa
