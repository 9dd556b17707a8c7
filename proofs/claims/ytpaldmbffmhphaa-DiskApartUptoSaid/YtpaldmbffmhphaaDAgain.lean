/- The walk of DiskAgain. -/
import Derived.Test.YtpaldmbffmhphaaDSafe
namespace Go.Proofs.Ytpaldmbffmhphaa
open Go.RowKit
/-- Files that have no unsafe writes. -/
def plain (ss : List ByteArray) : List Fl := ss.map fun s => ⟨s, []⟩
theorem length_plain (ss : List ByteArray) : (plain ss).length = ss.length := List.length_map _
theorem plain_getD (ss : List ByteArray) (i : Nat) (h : i < ss.length) : (plain ss).getD i Fl.zero = ⟨ss.getD i ⟨#[]⟩, []⟩ := by
  unfold plain
  rw [List.getD_eq_getElem?_getD, List.getElem?_map, List.getElem?_eq_getElem h, List.getD_eq_getElem?_getD, List.getElem?_eq_getElem h]; rfl
theorem plain_files (ss : List ByteArray) (n : Nat) (ch : List (List Int)) (d : Bool) : (⟨plain ss, n, ch, d⟩ : Dk).files = ss := by
  unfold Dk.files plain
  dsimp only
  rw [List.map_map]
  conv => rhs; rw [← List.map_id ss]
  exact List.map_congr_left fun s _ => rd_safe s
theorem plain_after (ss : List ByteArray) (n : Nat) (ch : List (List Int)) (d : Bool) (css : List (List Int)) : (⟨plain ss, n, ch, d⟩ : Dk).after css = ss := by
  refine getD_ext _ _ (by rw [length_after]; exact length_plain ss) fun i hi => ?_
  rw [length_after] at hi
  have hi2 : i < ss.length := by rw [← length_plain ss]; exact hi
  rw [getD_after _ _ _ hi]
  show left ((plain ss).getD i Fl.zero) _ = _
  rw [plain_getD ss i hi2, left_nil]
theorem plain_set (ss : List ByteArray) (f : Nat) (h : f < ss.length) : (plain ss).set f ⟨rd ((plain ss).getD f Fl.zero), []⟩ = plain ss := by
  rw [plain_getD ss f h, rd_safe]
  have := set_self (plain ss) f
  rw [plain_getD ss f h] at this
  exact this
set_option maxRecDepth 100000 in
set_option maxHeartbeats 3200000 in
theorem againLaw {w : World} (v u : Value) (ss : List ByteArray) (os : List Opv) (h : Strs w v ss) (hl : ss.length ≤ 1048576) (hm : ∀ i, i < ss.length → (ss.getD i ⟨#[]⟩).size ≤ 1048576)
    (ho : Ops w u os) (hol : os.length ≤ 1048576) (hom : ∀ i, i < os.length → (os.getD i Opv.zero).s.size ≤ 1048576) (file : Int) (va vb : Value) (A B : List (List Int)) (hA : Rss w va A) (hB : Rss w vb B) (hAl : ∀ i, (A.getD i []).length ≤ 1048576) (hBl : ∀ i, (B.getD i []).length ≤ 1048576) :
    Calls Try.prog 5 #[v, u, .agg #[.int .i64 file, va, vb]] w fun e w' => e = .returned (.bool true) ∧ Below w.heap.size w w' := by
  obtain ⟨vp, vc, hve, _⟩ := h.form
  have ho1 := ho
  have hA1 := hA
  have hB1 := hB
  obtain ⟨up, uc, hue, _⟩ := ho1
  obtain ⟨ap, ac, hae, _⟩ := hA1
  obtain ⟨bp, bc, hbe, _⟩ := hB1
  obtain ⟨W, hW⟩ : ∃ W, W = w.alloc (.cells #[.int .i64 file, va, vb] 26) := ⟨_, rfl⟩
  have hbW : Below w.heap.size w W := by rw [hW]; exact (Below.refl _ _).alloc (Nat.le_refl _) _
  have HMADE := Lib.hid (madeW v u ss os (h.below hbW) hl hm (ho.below hbW) hol hom)
  have HSTR := Lib.hid (h.below hbW)
  have HOPS := Lib.hid (ho.below hbW)
  have HAS := Lib.hid (hA.below hbW)
  have HBS := Lib.hid (hB.below hbW)
  have HBW := Lib.hid hbW
  have hsz : W.heap.size = w.heap.size + 1 := by rw [hW]; simp
  have d0 : W.cell? ⟨w.heap.size, 0, none⟩ = some (.int .i64 file) := by rw [hW]; simp
  have d1 : W.cell? ⟨w.heap.size, 1, none⟩ = some va := by rw [hW]; simp
  have d2 : W.cell? ⟨w.heap.size, 2, none⟩ = some vb := by rw [hW]; simp
  have HHM := Lib.hid hm
  have HHL := Lib.hid hl
  obtain ⟨bb, hbb⟩ : ∃ bb, bb = w.heap.size := ⟨_, rfl⟩
  have HW := Lib.hid hW
  have HAL := Lib.hid hAl
  have HBL := Lib.hid hBl
  have HOL := Lib.hid hol
  have HOM := Lib.hid hom
  rw [← hbb] at d0 d1 d2 hsz
  subst hve hue hae hbe
  obtain ⟨an, han⟩ : ∃ n, n = A.length := ⟨_, rfl⟩
  obtain ⟨bn, hbn⟩ : ∃ n, n = B.length := ⟨_, rfl⟩
  obtain ⟨m, hmm⟩ : ∃ m, m = ss.length := ⟨_, rfl⟩
  obtain ⟨on, hon⟩ : ∃ n, n = os.length := ⟨_, rfl⟩
  rw [← han] at d1 HAS
  rw [← hbn] at d2 HBS
  have HD := Lib.hid (And.intro d0 (And.intro d1 d2))
  rw [← hmm, ← hon] at HMADE
  rw [← hmm] at HSTR
  rw [← hon] at HOPS
  rw [← han, ← hbn] at HW
  rw [← han, ← hbn, ← hmm, ← hon]
  have HMM := Lib.hid hmm
  have HON := Lib.hid hon
  have HAN := Lib.hid han
  have HBN := Lib.hid hbn
  have HBB := Lib.hid hbb
  clear h ho hA hB hbW hW hm hl hol hom hAl hBl han hbn hmm hon hbb d0 d1 d2
  go_enter Try.func5, Try.ntmps5
  go_wp2_with fail
  rw [← HBB.out, ← HW.out]
  refine HMADE.out.mono ?_
  rintro e w1 ⟨hb1, hh⟩
  rcases hh with ⟨hne, rfl⟩ | ⟨he0, b, g, cap, rfl, hat⟩
  · have h0 : (newErr ss == 0) = false := by rw [beq_eq_false_iff_ne]; exact hne
    have HNE := Lib.hid hne
    have HS1 := Lib.hid (HSTR.out.below hb1)
    have HB1 := Lib.hid hb1
    clear hne hb1
    go_wp2_with fail
    refine (rnewW _ ss HS1.out HHL.out HHM.out).mono ?_
    rintro e w2 ⟨hb2, hh⟩
    rcases hh with ⟨_, rfl⟩ | ⟨hx, _⟩
    · have HB2 := Lib.hid hb2
      clear hb2
      go_wp2_with fail
      refine (fixedW w2).mono ?_
      rintro e w3 ⟨rfl, hb3⟩
      have HB3 := Lib.hid hb3
      clear hb3
      go_wp2_with fail
      go_ret
      refine ⟨?_, ((HBW.out.trans (HB1.out.mono HBW.out.size)).trans (HB2.out.mono (Nat.le_trans HBW.out.size HB1.out.size))).trans (HB3.out.mono (Nat.le_trans (Nat.le_trans HBW.out.size HB1.out.size) HB2.out.size))⟩
      show Ending.returned (.bool (newErr ss != 0)) = _
      rw [bne, beq_eq_false_iff_ne.2 HNE.out]
      rfl
    · exact absurd hx HNE.out
  · obtain ⟨hm1, hm2, _⟩ := newErr_good he0
    rw [← HMM.out] at hm1 hm2
    have HIN := Lib.hid (mk_inv he0 os)
    have hlen := length_mk ss os
    obtain ⟨l, hle⟩ : ∃ l, l = mk ss os := ⟨_, rfl⟩
    rw [← hle] at hat HIN hlen
    rw [← HMM.out] at hlen
    have hn0 : os.length ≤ 1048576 := HOL.out
    have OK0 := Lib.hid (HIN.out.ok (by omega))
    have e1 : w1.cell? ⟨bb, 1, none⟩ = some (.slice ap an ac) := (hat.below.cell (block_lt_of_cell HD.out.2.1)).trans HD.out.2.1
    have HA := Lib.hid hat
    obtain ⟨S, hS⟩ : ∃ S, S = (dk0 l).after A := ⟨_, rfl⟩
    have hSl : S.length = m := by rw [hS, length_after]; exact hlen
    have q1 : (dk0 l).crashX A = (⟨plain S, 0, [], true⟩, 0) := by unfold Dk.crashX; rw [if_neg (dk0_live l)]; unfold Dk.died; rw [← hS]; rfl
    have OK1 : Hid (DOk ⟨plain S, 0, [], true⟩) := by
      have := OK0.out.died A
      unfold Dk.died at this
      rw [← hS] at this
      exact this
    have OK2 : Hid (DOk (dk0 (plain S))) := ⟨OK1.out.n, OK1.out.pos, OK1.out.size, OK1.out.many, OK1.out.armed, OK1.out.chl⟩
    have Q1 := Lib.hid q1
    have HSL := Lib.hid hSl
    clear hat he0 hlen hle hS q1 hSl
    go_wp2_with fail
    refine (HA.out.crashF OK0.out _ A (HAS.out.below HA.out.below) HAL.out 0 Q1.out).mono ?_
    rintro e w2 ⟨rfl, hat⟩
    replace HA := Lib.hid hat
    clear hat e1
    go_wp2_with fail
    refine (deadW HA.out.disk).mono ?_
    rintro e w3 ⟨rfl, rfl⟩
    go_wp2_with fail
    refine (HA.out.filesF OK1.out).mono ?_
    rintro e w3 ⟨v3, rfl, hw3, hat, _⟩
    rw [plain_files] at hw3
    obtain ⟨p3, c3, rfl, _⟩ := hw3.form
    rw [HSL.out] at hw3
    rw [HSL.out]
    have HV := Lib.hid hw3
    replace HA := Lib.hid hat
    clear hat hw3
    go_wp2_with fail
    refine (reviveW HA.out.disk).mono ?_
    rintro e w4 ⟨rfl, hid, hc⟩
    have hc2 : Chg (fun k => k = b ∨ k = g) w3 w4 := hc.mono fun k _ hk => .inl hk
    have HV4 := Lib.hid (HV.out.keep hc2 HA.out.disk.muts)
    have hat4 : At W.heap.size W b g cap (dk0 (plain S)) w4 := HA.out.chg hid hc2
    have HA4 := Lib.hid hat4
    clear hid hc hc2 HV HA hat4
    go_wp2_with fail
    go_loopw [11] (fun vi wr => ∃ i : Nat, i ≤ m ∧ vi = .int .i64 (i : Nat) ∧ At W.heap.size W b g cap (dk0 (plain S)) wr ∧ WS wr (.slice p3 m c3) S) (fun vi _ => (m - intOf vi).toNat)
    case atStart => exact ⟨0, by omega, rfl, HA4.out, HV4.out⟩
    case round =>
      obtain ⟨i, hi, rfl, hat, hws⟩ := hrel
      have HA := Lib.hid hat
      have HV := Lib.hid hws
      clear hat hws HA4 HV4
      by_cases hlt : i < m
      · have hil : i < (dk0 (plain S)).l.length := by show i < (plain S).length; rw [length_plain, HSL.out]; exact hlt
        have HWT := Lib.hid (waitingYes HA.out.disk i hil)
        have hw0 : ((dk0 (plain S)).l.getD i Fl.zero).ws.length = 0 := by show ((plain S).getD i Fl.zero).ws.length = 0; rw [plain_getD S i (by rw [HSL.out]; exact hlt)]; rfl
        rw [hw0] at HWT
        have HSY := Lib.hid (syncA HA.out.disk OK2.out (i : Nat))
        rw [syncX_live (plain S) i hil, plain_set S i (by rw [HSL.out]; exact hlt)] at HSY
        clear hil hw0
        go_wp2_with fail
        refine HWT.out.mono ?_
        rintro e w5 ⟨rfl, rfl⟩
        go_wp2_with fail
        refine HSY.out.mono ?_
        rintro e w5 ⟨rfl, hid, hc⟩
        have R := Lib.hid (And.intro (HA.out.chg hid hc) (HV.out.keep hc HA.out.disk.muts))
        clear hid hc
        go_wp2_with fail
        exact ⟨⟨i + 1, by omega, rfl, R.out⟩, by simp [intOf]; omega⟩
      · have e2 : wr.cell? ⟨bb, 2, none⟩ = some (.slice bp bn bc) := (HA.out.below.cell (block_lt_of_cell HD.out.2.2)).trans HD.out.2.2
        go_wp2_with fail
        refine (HA.out.afterF OK2.out _ B (HBS.out.below HA.out.below) HBL.out).mono ?_
        rintro e w5 ⟨v5, rfl, hw5, hat, hb5⟩
        rw [show (dk0 (plain S)).after B = S from plain_after S 0 [] false B] at hw5
        obtain ⟨p5, c5, rfl, _⟩ := hw5.form
        rw [HSL.out] at hw5
        rw [HSL.out]
        have HV5 := Lib.hid (HV.out.below hb5)
        have HW5 := Lib.hid hw5
        have HA5 := Lib.hid hat
        clear hat hw5 hb5 e2 HV HA
        go_wp2_with fail
        refine (sameEq _ _ S S _ HW5.out.strs HV5.out.strs rfl (by have := HSL.out; omega)).mono ?_
        rintro e w6 ⟨rfl, hb6⟩
        rw [decide_eq_true (rfl : S = S)]
        have HA6 := Lib.hid (HA5.out.grow hb6)
        have HV6 := Lib.hid (HV5.out.below hb6)
        clear hb6 HA5 HV5 HW5
        have e2 : w6.cell? ⟨bb, 2, none⟩ = some (.slice bp bn bc) := (HA6.out.below.cell (block_lt_of_cell HD.out.2.2)).trans HD.out.2.2
        go_wp2_with fail
        refine (crashA HA6.out.disk OK2.out _ B (HBS.out.below HA6.out.below) (fun i => by have := HBL.out i; omega)).mono ?_
        rintro e w7 ⟨rfl, hid, hc⟩
        have q2 : (dk0 (plain S)).crashX B = (⟨plain S, 0, [], true⟩, 0) := by
          unfold Dk.crashX
          rw [if_neg (dk0_live (plain S))]
          unfold Dk.died
          rw [show (dk0 (plain S)).after B = S from plain_after S 0 [] false B]
          rfl
        rw [q2] at hid ⊢
        have HA7 := Lib.hid (HA6.out.chg hid hc)
        have HV7 := Lib.hid (HV6.out.keep hc HA6.out.disk.muts)
        clear hid hc q2 HA6 HV6 e2
        go_wp2_with fail
        refine (HA7.out.filesF OK1.out).mono ?_
        rintro e w8 ⟨v8, rfl, hw8, hat, hb8⟩
        rw [plain_files] at hw8
        obtain ⟨p8, c8, rfl, _⟩ := hw8.form
        rw [HSL.out] at hw8
        rw [HSL.out]
        have HV8 := Lib.hid (HV7.out.below hb8)
        have HW8 := Lib.hid hw8
        have HA8 := Lib.hid hat
        clear hat hw8 hb8 HA7 HV7
        go_wp2_with fail
        refine (sameEq _ _ S S _ HW8.out.strs HV8.out.strs rfl (by have := HSL.out; omega)).mono ?_
        rintro e w9 ⟨rfl, hb9⟩
        rw [decide_eq_true (rfl : S = S)]
        have HA9 := Lib.hid (HA8.out.grow hb9)
        clear hb9 HA8 HV8 HW8
        go_wp2_with fail
        refine (fixedW w9).mono ?_
        rintro e w10 ⟨rfl, hb⟩
        have HF := Lib.hid ((HA9.out.grow hb).below)
        clear hb
        go_wp2_with fail
        go_ret
        exact ⟨rfl, HBW.out.trans (HF.out.mono HBW.out.size)⟩
end Go.Proofs.Ytpaldmbffmhphaa
