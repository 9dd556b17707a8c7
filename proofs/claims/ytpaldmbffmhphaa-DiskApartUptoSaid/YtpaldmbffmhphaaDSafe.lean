/- The walk of DiskSafe. -/
import Derived.Test.YtpaldmbffmhphaaDMadeW
import Derived.Test.YtpaldmbffmhphaaDFixedW
import Derived.Test.YtpaldmbffmhphaaDRef1
namespace Go.Proofs.Ytpaldmbffmhphaa
open Go.RowKit
theorem dk0_out {l : List Fl} {f : Nat} (hf : f < l.length) : ¬ (dk0 l).out (f : Nat) = true := by
  rw [(out_dk0 l f).2 ⟨by omega, by omega⟩]; exact Bool.false_ne_true
theorem dk0_live (l : List Fl) : ¬ (dk0 l).dead = true := Bool.false_ne_true
theorem readX_live (l : List Fl) (f : Nat) (hf : f < l.length) : (dk0 l).readX (f : Nat) = (rd (l.getD f Fl.zero), 0) := by
  unfold Dk.readX; rw [if_neg (dk0_live l), if_neg (dk0_out hf)]; rfl
theorem syncX_live (l : List Fl) (f : Nat) (hf : f < l.length) : (dk0 l).syncX (f : Nat) = (dk0 (l.set f ⟨rd (l.getD f Fl.zero), []⟩), 0) := by
  unfold Dk.syncX; rw [if_neg (dk0_live l), if_neg (dk0_out hf)]; rfl
theorem cutX_live (l : List Fl) (f n : Nat) (hf : f < l.length) (h0 : (l.getD f Fl.zero).ws.length = 0) (hn : n ≤ (l.getD f Fl.zero).safe.size) : (dk0 l).cutX (f : Nat) (n : Nat) = (dk0 (l.set f ⟨(l.getD f Fl.zero).safe.extract 0 n, (l.getD f Fl.zero).ws⟩), 0) := by
  unfold Dk.cutX
  rw [if_neg (dk0_live l), if_neg (dk0_out hf), Int.toNat_natCast, Int.toNat_natCast, show (dk0 l).l = l from rfl, if_neg (show ¬ (0 < (l.getD f Fl.zero).ws.length ∨ (n : Int) < 0 ∨ ((l.getD f Fl.zero).safe.size : Int) < n) by omega)]
  rfl
theorem cutX_more (l : List Fl) (f : Nat) (n : Int) (hf : f < l.length) (hn : ((l.getD f Fl.zero).safe.size : Int) < n) : (dk0 l).cutX (f : Nat) n = (dk0 l, 162) := by
  unfold Dk.cutX
  rw [if_neg (dk0_live l), if_neg (dk0_out hf), Int.toNat_natCast, if_pos (.inr (.inr hn))]
theorem place_nat (n : Int) (m : Nat) (hm : 0 < m) : ∃ k : Nat, n % (m : Nat) = (k : Nat) ∧ k < m :=
  ⟨(n % (m : Int)).toNat, by have := Int.emod_nonneg n (show (m : Int) ≠ 0 by omega); omega, by have := Int.emod_nonneg n (show (m : Int) ≠ 0 by omega); have := Int.emod_lt_of_pos n (show (0 : Int) < m by omega); omega⟩
/-- A file of a script's disk is set to another one. -/
theorem MInv.set {l : List Fl} {n : Nat} (h : MInv l n) (f : Nat) (x : Fl) (h1 : (rd x).size ≤ 262144) (h2 : x.ws.length ≤ n) : MInv (l.set f x) n := by
  refine ⟨by rw [List.length_set]; exact h.n, by rw [List.length_set]; exact h.pos, fun i hi => ?_, fun i hi => ?_⟩
  all_goals
    rw [List.length_set] at hi
    by_cases e : f = i
    · subst e; rw [getD_set_self _ _ _ _ hi]; first | exact h1 | exact h2
    · rw [getD_set_ne _ _ _ _ _ e]; first | exact h.size i hi | exact h.many i hi
set_option maxRecDepth 100000 in
set_option maxHeartbeats 3200000 in
theorem safeLaw {w : World} (v u : Value) (ss : List ByteArray) (os : List Opv) (h : Strs w v ss) (hl : ss.length ≤ 1048576) (hm : ∀ i, i < ss.length → (ss.getD i ⟨#[]⟩).size ≤ 1048576)
    (ho : Ops w u os) (hol : os.length ≤ 1048576) (hom : ∀ i, i < os.length → (os.getD i Opv.zero).s.size ≤ 1048576) (file : Int) (va vb : Value) (A : List (List Int)) (hA : Rss w va A) (hAl : ∀ i, (A.getD i []).length ≤ 1048576) (hvb : ∃ p n c, vb = .slice p n c) :
    Calls Try.prog 3 #[v, u, .agg #[.int .i64 file, va, vb]] w fun e w' => e = .returned (.bool true) ∧ Below w.heap.size w w' := by
  obtain ⟨vp, vc, hve, _⟩ := h.form
  have ho1 := ho
  have hA1 := hA
  obtain ⟨up, uc, hue, _⟩ := ho1
  obtain ⟨ap, ac, hae, _⟩ := hA1
  obtain ⟨bp, bn, bc, rfl⟩ := hvb
  obtain ⟨W, hW⟩ : ∃ W, W = w.alloc (.cells #[.int .i64 file, va, .slice bp bn bc] 26) := ⟨_, rfl⟩
  have hbW : Below w.heap.size w W := by rw [hW]; exact (Below.refl _ _).alloc (Nat.le_refl _) _
  have HMADE := Lib.hid (madeW v u ss os (h.below hbW) hl hm (ho.below hbW) hol hom)
  have HSTR := Lib.hid (h.below hbW)
  have HAS := Lib.hid (hA.below hbW)
  have HBW := Lib.hid hbW
  have hsz : W.heap.size = w.heap.size + 1 := by rw [hW]; simp
  have d0 : W.cell? ⟨w.heap.size, 0, none⟩ = some (.int .i64 file) := by rw [hW]; simp
  have d1 : W.cell? ⟨w.heap.size, 1, none⟩ = some va := by rw [hW]; simp
  have HHM := Lib.hid hm
  have HHL := Lib.hid hl
  obtain ⟨bb, hbb⟩ : ∃ bb, bb = w.heap.size := ⟨_, rfl⟩
  have HW := Lib.hid hW
  have HAL := Lib.hid hAl
  have HOL := Lib.hid hol
  rw [← hbb] at d0 d1 hsz
  subst hve hue hae
  obtain ⟨an, han⟩ : ∃ n, n = A.length := ⟨_, rfl⟩
  obtain ⟨m, hmm⟩ : ∃ m, m = ss.length := ⟨_, rfl⟩
  obtain ⟨on, hon⟩ : ∃ n, n = os.length := ⟨_, rfl⟩
  rw [← han] at d1 HAS
  have HD1 := Lib.hid d1
  rw [← hmm, ← hon] at HMADE
  rw [← hmm] at HSTR
  rw [← han] at HW
  rw [← han, ← hmm, ← hon]
  have HMM := Lib.hid hmm
  have HBB := Lib.hid hbb
  clear h ho hA hbW hW hm hl hol hom hAl han hmm hon hbb
  go_enter Try.func3, Try.ntmps3
  go_wp2_with fail
  rw [← HBB.out, ← HW.out]
  refine HMADE.out.mono ?_
  rintro e w1 ⟨hb1, hh⟩
  rcases hh with ⟨hne, rfl⟩ | ⟨he0, b, g, cap, rfl, hat⟩
  · have h0 : (newErr ss == 0) = false := by rw [beq_eq_false_iff_ne]; exact hne
    have HNE := Lib.hid hne
    have HS1 := Lib.hid (HSTR.out.below hb1)
    have HB1 := Lib.hid hb1
    clear hne hb1
    go_wp2_with fail
    refine (rnewW _ ss HS1.out HHL.out HHM.out).mono ?_
    rintro e w2 ⟨hb2, hh⟩
    rcases hh with ⟨_, rfl⟩ | ⟨hx, _⟩
    · have HB2 := Lib.hid hb2
      clear hb2
      go_wp2_with fail
      refine (fixedW w2).mono ?_
      rintro e w3 ⟨rfl, hb3⟩
      have HB3 := Lib.hid hb3
      clear hb3
      go_wp2_with fail
      go_ret
      refine ⟨?_, ((HBW.out.trans (HB1.out.mono HBW.out.size)).trans (HB2.out.mono (Nat.le_trans HBW.out.size HB1.out.size))).trans (HB3.out.mono (Nat.le_trans (Nat.le_trans HBW.out.size HB1.out.size) HB2.out.size))⟩
      show Ending.returned (.bool (newErr ss != 0)) = _
      rw [bne, beq_eq_false_iff_ne.2 HNE.out]
      rfl
    · exact absurd hx HNE.out
  · obtain ⟨hm1, hm2, _⟩ := newErr_good he0
    rw [← HMM.out] at hm1 hm2
    obtain ⟨k, hk, hkm⟩ := place_nat file m hm1
    have HI := Lib.hid (mk_inv he0 os)
    have hlen := length_mk ss os
    obtain ⟨l, hle⟩ : ∃ l, l = mk ss os := ⟨_, rfl⟩
    rw [← hle] at hat HI hlen
    rw [← HMM.out] at hlen
    have hkl : k < l.length := by omega
    have HIN := Lib.hid (HI.out)
    have hn0 : os.length ≤ 1048576 := HOL.out
    have e0 : w1.cell? ⟨bb, 0, none⟩ = some (.int .i64 file) := (hat.below.cell (block_lt_of_cell d0)).trans d0
    have e1 : w1.cell? ⟨bb, 1, none⟩ = some (.slice ap an ac) := (hat.below.cell (block_lt_of_cell d1)).trans d1
    have HA := Lib.hid hat
    obtain ⟨x, hx⟩ : ∃ x, x = l.getD k Fl.zero := ⟨_, rfl⟩
    have hxs := HIN.out.size k hkl
    rw [← hx] at hxs
    obtain ⟨was, hwas⟩ : ∃ was, was = rd x := ⟨_, rfl⟩
    rw [← hwas] at hxs
    -- what each call answers
    have q1 : (dk0 l).readX (k : Nat) = (was, 0) := by rw [readX_live l k hkl, ← hx, hwas]
    have q2 : (dk0 l).syncX (k : Nat) = (dk0 (l.set k ⟨was, []⟩), 0) := by rw [syncX_live l k hkl, ← hx, hwas]
    obtain ⟨l1, hl1⟩ : ∃ l1, l1 = l.set k ⟨was, []⟩ := ⟨_, rfl⟩
    have hI1 : MInv l1 os.length := by rw [hl1]; exact HIN.out.set k _ (by rw [rd_safe]; exact hxs) (Nat.zero_le _)
    have hk1 : k < l1.length := by rw [hl1, List.length_set]; exact hkl
    have g1 : l1.getD k Fl.zero = ⟨was, []⟩ := by rw [hl1, getD_set_self _ _ _ _ hkl]
    rw [← hl1] at q2
    have q3 : (dk0 l1).readX (k : Nat) = (was, 0) := by rw [readX_live l1 k hk1, g1, rd_safe]
    have q4 : ((dk0 l1).after A).getD k ⟨#[]⟩ = was := by rw [getD_after _ _ _ hk1]; show left (l1.getD k Fl.zero) _ = was; rw [g1, left_nil]
    have q4l : ((dk0 l1).after A).length = m := by rw [length_after]; show l1.length = m; rw [hl1, List.length_set, hlen]
    obtain ⟨half, hhalf⟩ : ∃ n, n = was.size / 2 := ⟨_, rfl⟩
    have q5 : (dk0 l1).cutX (k : Nat) (half : Nat) = (dk0 (l1.set k ⟨was.extract 0 half, []⟩), 0) := by rw [cutX_live l1 k half hk1 (by rw [g1]; rfl) (by rw [g1]; show half ≤ was.size; omega), g1]
    obtain ⟨l2, hl2⟩ : ∃ l2, l2 = l1.set k ⟨was.extract 0 half, []⟩ := ⟨_, rfl⟩
    have hI2 : MInv l2 os.length := by rw [hl2]; exact hI1.set k _ (by rw [rd_safe, ByteArray.size_extract]; omega) (Nat.zero_le _)
    have hk2 : k < l2.length := by rw [hl2, List.length_set]; exact hk1
    have g2 : l2.getD k Fl.zero = ⟨was.extract 0 half, []⟩ := by rw [hl2, getD_set_self _ _ _ _ hk1]
    rw [← hl2] at q5
    have hsz2 : (was.extract 0 half).size = half := by rw [ByteArray.size_extract]; omega
    have q6 : (dk0 l2).cutX (k : Nat) ((was.size : Int) + 1) = (dk0 l2, 162) := cutX_more l2 k _ hk2 (by rw [g2]; show ((was.extract 0 half).size : Int) < _; rw [hsz2]; omega)
    have q7 : (dk0 l2).readX (k : Nat) = (was.extract 0 half, 0) := by rw [readX_live l2 k hk2, g2, rd_safe]
    have q8 : (rd ((dk0 l2).l.getD k Fl.zero)).size = half := by show (rd (l2.getD k Fl.zero)).size = half; rw [g2, rd_safe, hsz2]
    have hwz : ((dk0 l1).l.getD k Fl.zero).ws.length = 0 := by show (l1.getD k Fl.zero).ws.length = 0; rw [g1]; rfl
    have Q := Lib.hid (And.intro q1 (And.intro q2 (And.intro q3 (And.intro q4 (And.intro q4l (And.intro q5 (And.intro q6 (And.intro q7 (And.intro q8 hwz)))))))))
    have OK0 := Lib.hid (HIN.out.ok (by omega))
    have OK1 := Lib.hid (hI1.ok (by omega))
    have OK2 := Lib.hid (hI2.ok (by omega))
    have HK := Lib.hid hk
    have HKL := Lib.hid (And.intro hkl (And.intro hk1 hk2))
    have HHF := Lib.hid hhalf
    have HPL := Lib.hid (placeW file m hm1 (by omega) w1)
    rw [hk] at HPL
    have hb01 : Below w.heap.size w w1 := HBW.out.trans (hat.below.mono HBW.out.size)
    have HB01 := Lib.hid hb01
    have HAS1 := Lib.hid (HAS.out.below (hat.below))
    have hws : was.size ≤ 262144 := hxs
    have hi1 : (0 : Int) ≤ (k : Int) := by omega
    clear hat he0 hk hlen hle hkl HI HIN hx hwas hxs q1 q2 q3 q4 q4l q5 q6 q7 q8 hl1 hl2 hI1 hI2 hk1 hk2 g1 g2 hsz2 hwz hhalf hb01 hn0 d0 d1
    go_wp2_with fail
    refine HPL.out.mono ?_
    rintro e w2 ⟨rfl, rfl⟩
    go_wp2_with fail
    refine (HA.out.readF OK0.out (k : Nat) was 0 Q.out.1).mono ?_
    rintro e w2 ⟨rfl, hat⟩
    replace HA := Lib.hid hat
    clear hat
    go_wp2_with fail
    refine (HA.out.syncF OK0.out (k : Nat) 0 Q.out.2.1).mono ?_
    rintro e w3 ⟨rfl, hat⟩
    replace HA := Lib.hid hat
    clear hat
    go_wp2_with fail
    have HWT := Lib.hid (waitingYes HA.out.disk k HKL.out.2.1)
    rw [Q.out.2.2.2.2.2.2.2.2.2] at HWT
    refine HWT.out.mono ?_
    rintro e w4 ⟨rfl, rfl⟩
    clear HWT
    go_wp2_with fail
    refine (HA.out.readF OK1.out (k : Nat) was 0 Q.out.2.2.1).mono ?_
    rintro e w4 ⟨rfl, hat⟩
    replace HA := Lib.hid hat
    have d1 := (hat.below.cell (block_lt_of_cell HD1.out)).trans HD1.out
    clear hat
    go_wp2_with fail
    refine (HA.out.afterF OK1.out _ A (HAS.out.below HA.out.below) HAL.out).mono ?_
    rintro e w5 ⟨v5, rfl, hw5, hat, _⟩
    obtain ⟨p5, c5, hv5, hc5⟩ := hw5.strs.form
    rw [Q.out.2.2.2.2.1] at hv5 hc5
    subst hv5
    obtain ⟨g5, o5, rfl, x5⟩ := hc5 k hkm
    rw [show (ByteArray.empty : ByteArray) = ⟨#[]⟩ from rfl, Q.out.2.2.2.1] at x5
    replace HA := Lib.hid hat
    have hq : Int.tdiv (was.size : Int) 2 = (half : Nat) := by rw [HHF.out, Int.tdiv_eq_ediv_of_nonneg (by omega)]; omega
    have hhb : half ≤ 262144 := by have := HHF.out; omega
    have hh0 : (0 : Int) ≤ (half : Int) := by omega
    have hh1 : (half : Int) ≤ 262144 := by omega
    have hh2 : half ≤ was.size := by have := HHF.out; omega
    clear hat d1 hw5 hc5
    go_wp2_with fail
    refine (HA.out.cutF OK1.out (k : Nat) (half : Nat) 0 Q.out.2.2.2.2.2.1).mono ?_
    rintro e w6 ⟨rfl, hat⟩
    replace HA := Lib.hid hat
    clear hat x5
    go_wp2_with fail
    refine (HA.out.cutF OK2.out (k : Nat) ((was.size : Int) + 1) 162 Q.out.2.2.2.2.2.2.1).mono ?_
    rintro e w7 ⟨rfl, hat⟩
    replace HA := Lib.hid hat
    clear hat
    go_wp2_with fail
    refine (HA.out.readF OK2.out (k : Nat) (was.extract 0 half) 0 Q.out.2.2.2.2.2.2.2.1).mono ?_
    rintro e w8 ⟨rfl, hat⟩
    replace HA := Lib.hid hat
    clear hat
    go_wp2_with fail
    have HSZ := Lib.hid (HA.out.sizeF OK2.out k HKL.out.2.2)
    rw [Q.out.2.2.2.2.2.2.2.2.1] at HSZ
    refine HSZ.out.mono ?_
    rintro e w9 ⟨rfl, hat⟩
    replace HA := Lib.hid hat
    clear hat HSZ
    go_wp2_with fail
    refine (fixedW w9).mono ?_
    rintro e w10 ⟨rfl, hb⟩
    have HF := Lib.hid ((HA.out.grow hb).below)
    clear hb
    go_wp2_with fail
    go_ret
    exact ⟨rfl, HBW.out.trans (HF.out.mono HBW.out.size)⟩
end Go.Proofs.Ytpaldmbffmhphaa
