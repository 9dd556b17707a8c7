/- The law TextSame, walked. -/
import Derived.Test.YthdoeaiehajofaaDoorTFixed
namespace Go.Proofs.YthdoeaiehajofaaDoor
set_option linter.unusedVariables false
set_option maxRecDepth 100000
open Go.RowKit
set_option maxHeartbeats 1000000 in
theorem sameLaw (s t : ByteArray) (w : World) (hgl : Glob w) (hs : s.size ≤ 2305843009213693951) (ht : t.size ≤ 2305843009213693951) :
    Calls Tryd.prog 5 #[.string s, .string t] w fun e w' => e = .returned (.bool true) ∧ Below w.heap.size w w' := by
  have HG := Lib.hid hgl
  have hF : Hid (∀ w0, Calls Tryd.prog 19 #[.string s, .string (s ++ ⟨#[120]⟩)] w0 fun e w' => e = .returned (.bool false) ∧ Below w0.heap.size w0 w') := fun w0 => by
    refine (sameSW _ _ w0 (by omega) (by rw [ByteArray.size_append]; have : (⟨#[120]⟩ : ByteArray).size = 1 := rfl; omega)).mono ?_
    rintro e w' ⟨rfl, hb⟩
    exact ⟨by rw [decide_eq_false (fun h => by have := congrArg ByteArray.size h; rw [ByteArray.size_append] at this; have h1 : (⟨#[120]⟩ : ByteArray).size = 1 := rfl; omega)], hb⟩
  have hT : Hid (∀ w0 (u : ByteArray), u.size ≤ 4611686018427387904 → Calls Tryd.prog 19 #[.string u, .string u] w0 fun e w' => e = .returned (.bool true) ∧ Below w0.heap.size w0 w') := fun w0 u hu => by
    refine (sameSW _ _ w0 hu hu).mono ?_
    rintro e w' ⟨rfl, hb⟩
    exact ⟨by rw [decide_eq_true rfl], hb⟩
  have HST : Hid ((s ++ t).size ≤ 4611686018427387904) := by unfold Hid; rw [ByteArray.size_append]; omega
  have HS2 : Hid (s.size ≤ 4611686018427387904) := by unfold Hid; omega
  have HE : Hid (∀ w0, Calls Tryd.prog 19 #[.string s, .string t] w0 fun e w' => e = .returned (.bool (decide (s = t))) ∧ Below w0.heap.size w0 w') := fun w0 => sameSW s t w0 (by omega) (by omega)
  obtain ⟨q, hq⟩ : ∃ q, decide (s = t) = q := ⟨_, rfl⟩
  have e1 : (s.toList == t.toList) = q := by rw [toList_beq, hq]
  rw [hq] at HE
  clear hgl hq
  go_enter Tryd.func5, Tryd.ntmps5
  go_wp2_with fail
  refine (fixedW w HG.out).mono ?_
  rintro e w1 ⟨rfl, hb⟩
  have HB1 := Lib.hid hb
  clear hb
  go_wp2_with fail
  refine (HE.out w1).mono ?_
  rintro e w2 ⟨rfl, hb⟩
  have HB2 := Lib.hid (HB1.out.trans (hb.mono HB1.out.size))
  clear hb
  cases q
  all_goals
    go_wp2_with fail
    refine (hT.out w2 s HS2.out).mono ?_
    rintro e w3 ⟨rfl, hb⟩
    have HB3 := Lib.hid (HB2.out.trans (hb.mono HB2.out.size))
    clear hb
    go_wp2_with fail
    refine (hF.out w3).mono ?_
    rintro e w4 ⟨rfl, hb⟩
    have HB4 := Lib.hid (HB3.out.trans (hb.mono HB3.out.size))
    clear hb
    go_wp2_with fail
    refine (hT.out w4 _ HST.out).mono ?_
    rintro e w5 ⟨rfl, hb⟩
    have HB5 := Lib.hid (HB4.out.trans (hb.mono HB4.out.size))
    clear hb
    go_wp2_with fail
    go_ret
    exact ⟨rfl, HB5.out⟩
end Go.Proofs.YthdoeaiehajofaaDoor
