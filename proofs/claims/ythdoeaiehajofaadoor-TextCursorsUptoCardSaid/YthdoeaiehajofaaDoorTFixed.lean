/- fixed: the calls whose answers the document fixes. -/
import Derived.Test.YthdoeaiehajofaaDoorTFromB64
import Derived.Test.YthdoeaiehajofaaDoorTRHex
import Derived.Test.YthdoeaiehajofaaDoorTUnits
import Derived.Test.YthdoeaiehajofaaDoorTFrom
import Derived.Test.YthdoeaiehajofaaDoorTSameS
import Derived.Test.YthdoeaiehajofaaDoorTCur3
namespace Go.Proofs.YthdoeaiehajofaaDoor
set_option linter.unusedVariables false
set_option maxRecDepth 100000
open Go.RowKit
theorem fix1 (w : World) (hgl : Glob w) : Calls Tryd.prog 32 #[.string ⟨#[45, 95, 56]⟩] w fun e w' => e = .returned (.tuple #[.string ⟨#[251, 255]⟩, .int .i64 0]) ∧ Below w.heap.size w w' := by
  refine (fromB64W _ w hgl (by decide)).mono ?_
  rintro e w' ⟨hb, ⟨r, h1, h2, rfl⟩ | ⟨h1, rfl⟩⟩
  · have : r = [251, 255] := C.b64_inj h1 (by decide) (h2.symm.trans (by decide))
    subst this
    exact ⟨rfl, hb⟩
  · exact absurd (show bs ⟨#[45, 95, 56]⟩ = C.b64Of [251, 255] by decide) (h1 [251, 255] (by decide))
theorem fix2 (w : World) (hgl : Glob w) : Calls Tryd.prog 32 #[.string ⟨#[90, 104]⟩] w fun e w' => e = .returned (.tuple #[.string ⟨#[]⟩, .int .i64 11]) ∧ Below w.heap.size w w' := by
  refine (fromB64W _ w hgl (by decide)).mono ?_
  rintro e w' ⟨hb, ⟨r, h1, h2, rfl⟩ | ⟨h1, rfl⟩⟩
  · exact absurd h2 (C.b64_not (.inr (by decide)) r h1)
  · exact ⟨rfl, hb⟩
theorem fix3 (w : World) (hgl : Glob w) : Calls Tryd.prog 12 #[.string ⟨#[240, 159, 152, 128]⟩] w fun e w' => ∃ g c, e = .returned (.tuple #[.slice (some ⟨g, 0, none⟩) 2 c, .int .i64 0]) ∧ Below w.heap.size w w' ∧ w.heap.size ≤ g ∧ w'.cell? ⟨g, 0, none⟩ = some (.int .i64 55357) ∧ w'.cell? ⟨g, 1, none⟩ = some (.int .i64 56832) := by
  have hi : U.Is (bs ⟨#[240, 159, 152, 128]⟩) [128512] := ⟨by decide, by decide⟩
  refine (unitsW _ w hgl (by decide)).mono ?_
  rintro e w' ⟨hb, ⟨rs, v, h1, rfl, h2⟩ | ⟨h1, rfl⟩⟩
  · have : rs = [128512] := U.Is.unique h1 hi
    subst this
    obtain ⟨g, c, rfl, h3⟩ := h2.cell 0 (by decide)
    obtain ⟨g', c', h4, h5⟩ := h2.cell 1 (by decide)
    obtain rfl : g = g' := by injection h4 with h4; injection h4 with h4; injection h4
    exact ⟨g, c, rfl, hb, (h2.block rfl).1, h3, h5⟩
  · exact absurd hi (h1 _)
theorem fix4 (w : World) (p : Nat) (hgl : Glob w) (h0 : w.cell? ⟨p, 0, none⟩ = some (.int .i64 55357)) (h1 : w.cell? ⟨p, 1, none⟩ = some (.int .i64 65536)) : Calls Tryd.prog 14 #[.slice (some ⟨p, 0, none⟩) 2 2] w fun e w' => e = .returned (.tuple #[.string ⟨#[]⟩, .int .i64 14]) ∧ Below w.heap.size w w' := by
  have hz : Ints w (.slice (some ⟨p, 0, none⟩) ([55357, 65536] : List Int).length 2) [55357, 65536] := Ints.mk fun i hi => by
    refine ⟨p, 0, rfl, ?_⟩
    rw [Nat.zero_add]
    rcases i with _ | _ | i
    · exact h0
    · exact h1
    · exact absurd hi (by simp)
  refine (fromUnitsW _ _ w hgl hz (by decide)).mono ?_
  rintro e w' ⟨hb, rfl⟩
  have e1 : (U.jn [55357, 65536]).1 = 14 := by decide
  refine ⟨?_, hb⟩
  unfold fu
  rw [if_neg (by rw [e1]; decide), e1]
def cd : ByteArray := ⟨#[97, 98, 44, 99, 100]⟩
theorem fix6 : till cd 0 44 = (⟨#[97, 98]⟩, 0, 3) := by rfl
theorem fix7 : till cd 3 44 = (⟨#[]⟩, 17, 3) := by rfl
theorem fix8 : took cd 3 1 = (⟨#[99]⟩, 0, 4) := by rfl
theorem fix13 (w : World) : Calls Tryd.prog 34 #[.string ⟨#[0, 255, 97]⟩] w fun e w' => e = .returned (.string ⟨#[48, 48, 102, 102, 54, 49]⟩) ∧ Below w.heap.size w w' := by
  refine (hexW ⟨#[0, 255, 97]⟩ w (by decide)).mono ?_
  rintro e w' ⟨rfl, hb⟩
  exact ⟨rfl, hb⟩
theorem no_hit (m : Nat) (h1 : 1 ≤ m) (h2 : m ≤ 4) : ¬ U.hit [192, 128] m := by
  rcases m with _ | _ | _ | _ | _ | m
  · omega
  · decide
  · decide
  · decide
  · decide
  · omega
theorem fix14 (w : World) (hgl : Glob w) : Calls Tryd.prog 18 #[.string ⟨#[192, 128]⟩] w fun e w' => e = .returned (.bool false) ∧ Below w.heap.size w w' := by
  refine (utf8W _ w hgl (by decide)).mono ?_
  rintro e w' ⟨hb, ⟨rs, h1, rfl⟩ | ⟨h1, rfl⟩⟩
  · have e : bs ⟨#[192, 128]⟩ = [192, 128] := rfl
    cases rs with
    | nil => exact absurd h1.1 (by decide)
    | cons r rs =>
      have h2 := h1.1
      rw [e, U.encs_cons] at h2
      exact absurd (U.hit_of (h1.2 r (by simp)) h2).1 (no_hit _ (U.enc_length r).1 (U.enc_length r).2)
  · exact ⟨rfl, hb⟩
theorem fixT (w : World) : Calls Tryd.prog 19 #[.string ⟨#[97]⟩, .string ⟨#[97]⟩] w fun e w' => e = .returned (.bool true) ∧ Below w.heap.size w w' := by
  refine (sameSW ⟨#[97]⟩ ⟨#[97]⟩ w (by decide) (by decide)).mono ?_
  rintro e w' ⟨rfl, hb⟩
  exact ⟨by rw [decide_eq_true rfl], hb⟩
theorem fixF (w : World) : Calls Tryd.prog 19 #[.string ⟨#[97]⟩, .string ⟨#[98]⟩] w fun e w' => e = .returned (.bool false) ∧ Below w.heap.size w w' := by
  refine (sameSW ⟨#[97]⟩ ⟨#[98]⟩ w (by decide) (by decide)).mono ?_
  rintro e w' ⟨rfl, hb⟩
  exact ⟨by rw [decide_eq_false (by intro h; have := congrArg bs h; exact absurd this (by decide))], hb⟩
set_option maxHeartbeats 4000000 in
theorem fixedW (w : World) (hgl : Glob w) : Calls Tryd.prog 16 #[] w fun e w' => e = .returned (.bool true) ∧ Below w.heap.size w w' := by
  have HG := Lib.hid hgl
  clear hgl
  obtain ⟨n, hn⟩ : ∃ n, n = w.heap.size := ⟨_, rfl⟩
  rw [← hn]
  have HN := Lib.hid hn
  have HLT : Hid (2 < n) := by unfold Hid; rw [hn]; exact HG.out.lt
  clear hn
  go_enter Tryd.func16, Tryd.ntmps16
  go_wp2_with fail
  refine (fix1 w HG.out).mono ?_
  rintro e w1 ⟨rfl, hb⟩
  have HB1 : Hid (Below n w w1) := by unfold Hid; rw [HN.out]; exact hb
  have HZ1 : Hid (n ≤ w1.heap.size) := by unfold Hid; rw [HN.out]; exact hb.size
  have HG1 := Lib.hid (HG.out.below HB1.out HLT.out)
  clear hb
  go_wp2_with fail
  refine (fix2 w1 HG1.out).mono ?_
  rintro e w2 ⟨rfl, hb⟩
  have HB2 := Lib.hid (HB1.out.trans (hb.mono HZ1.out))
  have HZ2 := Lib.hid (Nat.le_trans HZ1.out hb.size)
  have HG2 := Lib.hid (HG.out.below HB2.out HLT.out)
  clear hb
  go_wp2_with fail
  refine (fix3 w2 HG2.out).mono ?_
  rintro e w3 ⟨g, c, rfl, hb, hg, u0, u1⟩
  have HB3 := Lib.hid (HB2.out.trans (hb.mono HZ2.out))
  have HZ3 := Lib.hid (Nat.le_trans HZ2.out hb.size)
  have HG3 := Lib.hid (HG.out.below HB3.out HLT.out)
  have HGL := Lib.hid (block_lt_of_cell u0)
  have U0 := Lib.hid u0
  have U1 := Lib.hid u1
  clear hb u0 u1 hg
  go_wp2_with fail
  refine (fix4 (w3.alloc (.cells #[.int .i64 55357, .int .i64 65536] 3)) w3.heap.size (HG3.out.below ((Below.refl _ _).alloc (Nat.le_refl _) _) HG3.out.lt) (by simp) (by simp)).mono ?_
  rintro e w4 ⟨rfl, hb⟩
  have hb34 : Below w3.heap.size w3 w4 := ((Below.refl _ _).alloc (Nat.le_refl _) _).trans (hb.mono (by simp))
  have HB4 := Lib.hid (HB3.out.trans (hb34.mono HZ3.out))
  have HZ4 := Lib.hid (Nat.le_trans HZ3.out hb34.size)
  have V0 := Lib.hid ((hb34.cell (p := ⟨g, 0, none⟩) HGL.out).trans U0.out)
  have V1 := Lib.hid ((hb34.cell (p := ⟨g, 1, none⟩) HGL.out).trans U1.out)
  have HGL4 := Lib.hid (Nat.lt_of_lt_of_le HGL.out hb34.size)
  clear hb hb34
  go_wp2_with fail
  refine (openW _ w4).mono ?_
  rintro e w5 ⟨rfl, rfl⟩
  obtain ⟨b, hbk⟩ : ∃ b, b = w4.heap.size := ⟨_, rfl⟩
  obtain ⟨w5, hw5⟩ : ∃ w5, w5 = w4.alloc (.cells #[.string cd, .int .i64 0] 70) := ⟨_, rfl⟩
  have HB5 : Hid (Below n w w5) := by unfold Hid; rw [hw5]; exact HB4.out.alloc HZ4.out _
  have HZ5 : Hid (n ≤ w5.heap.size) := by unfold Hid; rw [hw5, szA]; have := HZ4.out; omega
  have HC5 : Hid (IsC w5 b 70 cd 0) := by unfold Hid; rw [hw5, hbk]; exact IsC.new w4 70 cd (by decide)
  have HBK : Hid (n ≤ b) := by unfold Hid; rw [hbk]; exact HZ4.out
  have a0 : w5.cell? ⟨g, 0, none⟩ = some (.int .i64 55357) := by rw [hw5, World.cell?_alloc_lt _ _ ⟨g, 0, none⟩ HGL4.out]; exact V0.out
  have a1 : w5.cell? ⟨g, 1, none⟩ = some (.int .i64 56832) := by rw [hw5, World.cell?_alloc_lt _ _ ⟨g, 1, none⟩ HGL4.out]; exact V1.out
  rw [← hbk, show w4.alloc (.cells #[.string ⟨#[97, 98, 44, 99, 100]⟩, .int .i64 0] 70) = w5 from hw5.symm]
  clear hbk hw5
  go_wp2_with fail
  have h6 := untilCW w5 44 (by decide) HC5.out
  rw [fix6] at h6
  refine h6.mono ?_
  rintro e w6 ⟨rfl, hc, hgr⟩
  have HB6 := Lib.hid (HB5.out.trans (grown_below hgr HBK.out HZ5.out))
  have HZ6 := Lib.hid (Nat.le_trans HZ5.out hgr.size)
  have HC6 := Lib.hid hc
  clear h6 hc hgr a0 a1
  go_wp2_with fail
  have h7 := untilCW w6 44 (by decide) HC6.out
  rw [fix7] at h7
  refine h7.mono ?_
  rintro e w7 ⟨rfl, hc, hgr⟩
  have HB7 := Lib.hid (HB6.out.trans (grown_below hgr HBK.out HZ6.out))
  have HZ7 := Lib.hid (Nat.le_trans HZ6.out hgr.size)
  have HC7 := Lib.hid hc
  clear h7 hc hgr
  go_wp2_with fail
  have h8 := withinCW w7 1 HC7.out (by decide) (by decide)
  rw [fix8] at h8
  refine h8.mono ?_
  rintro e w8 ⟨hc, hgr, ⟨hx, _⟩ | ⟨_, d, hd, rfl, hcd⟩⟩
  · exact absurd rfl hx
  have HB8 := Lib.hid (HB7.out.trans (grown_below hgr HBK.out HZ7.out))
  have HZ8 := Lib.hid (Nat.le_trans HZ7.out hgr.size)
  have HC8 := Lib.hid hc
  have HD8 := Lib.hid hcd
  have HDB : Hid (some d ≠ some b) := by unfold Hid; intro e; injection e with e; have := HC7.out.lt; omega
  clear h8 hc hcd hgr hd
  go_wp2_with fail
  refine (byteCW w8 HC8.out).mono ?_
  rintro e w9 (⟨hlt, rfl, hc, hgr⟩ | ⟨hge, rfl, hc, hgr⟩)
  case inr => exact absurd hge (by decide)
  have HB9 := Lib.hid (HB8.out.trans (grown_below hgr HBK.out HZ8.out))
  have HZ9 := Lib.hid (Nat.le_trans HZ8.out hgr.size)
  have HC9 := Lib.hid hc
  have HD9 := Lib.hid (HD8.out.same (hgr.block d HD8.out.lt HDB.out))
  have hq : (bs cd).getD 4 0 = 100 := by decide
  rw [hq]
  clear hc hgr hlt hq
  go_wp2_with fail
  refine (byteCW w9 HC9.out).mono ?_
  rintro e wA (⟨hlt, rfl, hc, hgr⟩ | ⟨hge, rfl, hc, hgr⟩)
  case inl => exact absurd hlt (by decide)
  have HBA := Lib.hid (HB9.out.trans (grown_below hgr HBK.out HZ9.out))
  have HZA := Lib.hid (Nat.le_trans HZ9.out hgr.size)
  have HCA := Lib.hid hc
  have HDA := Lib.hid (HD9.out.same (hgr.block d HD9.out.lt HDB.out))
  clear hc hgr hge
  go_wp2_with fail
  refine (leftCW wA HDA.out).mono ?_
  rintro e wB ⟨rfl, rfl⟩
  go_wp2_with fail
  refine (atCW wA.drew HCA.out.drew).mono ?_
  rintro e wB ⟨rfl, rfl⟩
  go_wp2_with fail
  refine (fix13 wA.drew).mono ?_
  rintro e wB ⟨rfl, hb⟩
  have HBB := Lib.hid (HBA.out.drew.trans (hb.mono HZA.out))
  have HZB := Lib.hid (Nat.le_trans HZA.out hb.size)
  have HGB := Lib.hid (HG.out.below HBB.out HLT.out)
  clear hb
  go_wp2_with fail
  refine (fix14 wB HGB.out).mono ?_
  rintro e wC ⟨rfl, hb⟩
  have HBC := Lib.hid (HBB.out.trans (hb.mono HZB.out))
  have HZC := Lib.hid (Nat.le_trans HZB.out hb.size)
  clear hb
  go_wp2_with fail
  refine (fixT wC).mono ?_
  rintro e wD ⟨rfl, hb⟩
  have HBD := Lib.hid (HBC.out.trans (hb.mono HZC.out))
  have HZD := Lib.hid (Nat.le_trans HZC.out hb.size)
  clear hb
  go_wp2_with fail
  refine (fixF wD).mono ?_
  rintro e wE ⟨rfl, hb⟩
  have HBE := Lib.hid (HBD.out.trans (hb.mono HZD.out))
  clear hb
  go_wp2_with fail
  go_ret
  exact ⟨rfl, HBE.out⟩
end Go.Proofs.YthdoeaiehajofaaDoor
