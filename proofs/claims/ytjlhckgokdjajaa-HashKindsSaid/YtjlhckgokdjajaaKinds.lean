/- The walk of HashKinds. -/
import Derived.Test.YtjlhckgokdjajaaUni
import Derived.Test.YtjlhckgokdjajaaFixed
namespace Go.Proofs.Ytjlhckgokdjajaa
open Go.RowKit
set_option maxRecDepth 100000 in
set_option maxHeartbeats 400000 in
theorem kinds0 (key s : ByteArray) (w : World) (hk : key.size ≤ 576460752303423488) (hs : s.size ≤ 576460752303423000) :
    Calls Try.prog 5 #[.int .i64 0, .string key, .string s] w fun e w' => e = .returned (.bool true) ∧ Below w.heap.size w w' := by
  have HK := Lib.hid hk
  have HS := Lib.hid hs
  clear hk hs
  go_enter Try.func5, Try.ntmps5
  go_wp2_with fail
  refine (sumK 0 (by decide) s _ (by have := HS.out; omega)).mono ?_
  rintro e w1 ⟨rfl, hb1⟩
  go_wp2_with fail
  refine (macK 0 (by decide) key s _ HK.out HS.out).mono ?_
  rintro e w2 ⟨rfl, hb2⟩
  have HB2 := Lib.hid (hb1.trans (hb2.mono hb1.size))
  clear hb1 hb2
  go_wp2_with fail
  refine (newK 0 (by decide) _).mono ?_
  rintro e w3 ⟨b, rfl, hH, hb3, hge⟩
  have HB3 := Lib.hid (HB2.out.trans (hb3.mono HB2.out.size))
  have HGE := Lib.hid (Nat.le_trans HB2.out.size hge)
  have HH := Lib.hid hH
  clear hH hb3 hge HB2
  go_wp2_with fail
  refine (fixedW _).mono ?_
  rintro e w4 ⟨rfl, hb4⟩
  have HB4 := Lib.hid (HB3.out.trans (hb4.mono HB3.out.size))
  have HH4 := Lib.hid (HH.out.same (hb4.block b HH.out.lt))
  clear hb4 HB3 HH
  go_wp2_with fail
  refine (writeK b [] s _ HH4.out (by have := HS.out; simp; omega)).mono ?_
  rintro e w5 ⟨rfl, hH5, hg5⟩
  have HB5 := Lib.hid (HB4.out.trans (grown_below hg5 HGE.out HB4.out.size))
  have HH5 := Lib.hid hH5
  clear hH5 hg5 HB4 HH4
  go_wp2_with fail
  refine (hsumK b _ _ HH5.out (by have := HS.out; simp [length_bs]; omega)).mono ?_
  rintro e w6 ⟨rfl, hb6⟩
  rw [List.nil_append]
  have HB6 := Lib.hid (HB5.out.trans (hb6.mono HB5.out.size))
  have HH6 := Lib.hid (HH5.out.same (hb6.block b HH5.out.lt))
  clear hb6 HB5 HH5
  go_wp2_with fail
  refine (sizeK b _ _ HH6.out).mono ?_
  rintro e w7 ⟨rfl, rfl⟩
  rw [List.nil_append, length_bs]
  have ha : ((strOf (Sha.sum (kd 0) (bs s))).size : Int) = 32 := by rw [size_strOf]; show ((Sha.sum Sha.k32 (bs s)).length : Int) = 32; rw [Sha.length_sum32]; rfl
  have hm : ((strOf (Sha.mac (kd 0) (bs key) (bs s))).size : Int) = 32 := by rw [size_strOf]; show ((Sha.sum Sha.k32 _).length : Int) = 32; rw [Sha.length_sum32]; rfl
  go_wp2_with fail
  refine (sum256W s _ (by have := HS.out; omega)).mono ?_
  rintro e w8 ⟨rfl, hb8⟩
  rw [show strOf (Sha.sum Sha.k32 (bs s)) = strOf (Sha.sum (kd 0) (bs s)) from rfl]
  have HB8 := Lib.hid (HB6.out.trans (hb8.mono HB6.out.size))
  clear hb8 HB6 HH6
  go_wp2_with fail
  refine (mac256W key s _ HK.out HS.out).mono ?_
  rintro e w9 ⟨rfl, hb9⟩
  rw [show strOf (Sha.mac Sha.k32 (bs key) (bs s)) = strOf (Sha.mac (kd 0) (bs key) (bs s)) from rfl]
  have HB9 := Lib.hid (HB8.out.trans (hb9.mono HB8.out.size))
  clear hb9 HB8
  go_wp2_with fail
  go_ret
  exact ⟨rfl, HB9.out⟩
set_option maxRecDepth 100000 in
set_option maxHeartbeats 400000 in
theorem kinds1 (key s : ByteArray) (w : World) (hk : key.size ≤ 576460752303423488) (hs : s.size ≤ 576460752303423000) :
    Calls Try.prog 5 #[.int .i64 1, .string key, .string s] w fun e w' => e = .returned (.bool true) ∧ Below w.heap.size w w' := by
  have HK := Lib.hid hk
  have HS := Lib.hid hs
  clear hk hs
  go_enter Try.func5, Try.ntmps5
  go_wp2_with fail
  refine (sumK 1 (by decide) s _ (by have := HS.out; omega)).mono ?_
  rintro e w1 ⟨rfl, hb1⟩
  go_wp2_with fail
  refine (macK 1 (by decide) key s _ HK.out HS.out).mono ?_
  rintro e w2 ⟨rfl, hb2⟩
  have HB2 := Lib.hid (hb1.trans (hb2.mono hb1.size))
  clear hb1 hb2
  go_wp2_with fail
  refine (newK 1 (by decide) _).mono ?_
  rintro e w3 ⟨b, rfl, hH, hb3, hge⟩
  have HB3 := Lib.hid (HB2.out.trans (hb3.mono HB2.out.size))
  have HGE := Lib.hid (Nat.le_trans HB2.out.size hge)
  have HH := Lib.hid hH
  clear hH hb3 hge HB2
  go_wp2_with fail
  refine (fixedW _).mono ?_
  rintro e w4 ⟨rfl, hb4⟩
  have HB4 := Lib.hid (HB3.out.trans (hb4.mono HB3.out.size))
  have HH4 := Lib.hid (HH.out.same (hb4.block b HH.out.lt))
  clear hb4 HB3 HH
  go_wp2_with fail
  refine (writeK b [] s _ HH4.out (by have := HS.out; simp; omega)).mono ?_
  rintro e w5 ⟨rfl, hH5, hg5⟩
  have HB5 := Lib.hid (HB4.out.trans (grown_below hg5 HGE.out HB4.out.size))
  have HH5 := Lib.hid hH5
  clear hH5 hg5 HB4 HH4
  go_wp2_with fail
  refine (hsumK b _ _ HH5.out (by have := HS.out; simp [length_bs]; omega)).mono ?_
  rintro e w6 ⟨rfl, hb6⟩
  rw [List.nil_append]
  have HB6 := Lib.hid (HB5.out.trans (hb6.mono HB5.out.size))
  have HH6 := Lib.hid (HH5.out.same (hb6.block b HH5.out.lt))
  clear hb6 HB5 HH5
  go_wp2_with fail
  refine (sizeK b _ _ HH6.out).mono ?_
  rintro e w7 ⟨rfl, rfl⟩
  rw [List.nil_append, length_bs]
  have ha : ((strOf (Sha.sum (kd 1) (bs s))).size : Int) = 48 := by rw [size_strOf]; show ((Sha.sum Sha.k64 (bs s)).length : Int) = 48; rw [Sha.length_sum64]; rfl
  have hm : ((strOf (Sha.mac (kd 1) (bs key) (bs s))).size : Int) = 48 := by rw [size_strOf]; show ((Sha.sum Sha.k64 _).length : Int) = 48; rw [Sha.length_sum64]; rfl
  go_wp2_with fail
  refine (sum384W s _ (by have := HS.out; omega)).mono ?_
  rintro e w8 ⟨rfl, hb8⟩
  rw [show strOf (Sha.sum Sha.k64 (bs s)) = strOf (Sha.sum (kd 1) (bs s)) from rfl]
  have HB8 := Lib.hid (HB6.out.trans (hb8.mono HB6.out.size))
  clear hb8 HB6 HH6
  go_wp2_with fail
  go_ret
  exact ⟨rfl, HB8.out⟩
set_option maxRecDepth 100000 in
set_option maxHeartbeats 400000 in
theorem kindsNo (k : Int) (h0 : k ≠ 0) (h1 : k ≠ 1) (key s : ByteArray) (w : World) :
    Calls Try.prog 5 #[.int .i64 k, .string key, .string s] w fun e w' => e = .returned (.bool true) ∧ Below w.heap.size w w' := by
  have H0 := Lib.hid h0
  have H1 := Lib.hid h1
  clear h0 h1
  go_enter Try.func5, Try.ntmps5
  go_wp2_with fail
  refine (sumNo k H0.out H1.out s _).mono ?_
  rintro e w1 ⟨rfl, rfl⟩
  go_wp2_with fail
  refine (macNo k H0.out H1.out key s _).mono ?_
  rintro e w2 ⟨rfl, hb2⟩
  have HB2 := Lib.hid hb2
  clear hb2
  go_wp2_with fail
  refine (newNo k H0.out H1.out _).mono ?_
  rintro e w3 ⟨rfl, rfl⟩
  go_wp2_with fail
  refine (fixedW _).mono ?_
  rintro e w4 ⟨rfl, hb4⟩
  have HB4 := Lib.hid (HB2.out.trans (hb4.mono HB2.out.size))
  clear hb4 HB2
  have h0 : (k != 0) = true := by simpa using H0.out
  have h1 : (k != 1) = true := by simpa using H1.out
  go_wp2_with fail
  go_ret
  exact ⟨rfl, HB4.out⟩
theorem kindsW (k : Int) (key s : ByteArray) (w : World) (hk : key.size ≤ 576460752303423488) (hs : s.size ≤ 576460752303423000) :
    Calls Try.prog 5 #[.int .i64 k, .string key, .string s] w fun e w' => e = .returned (.bool true) ∧ Below w.heap.size w w' := by
  by_cases h0 : k = 0
  · subst h0; exact kinds0 key s w hk hs
  by_cases h1 : k = 1
  · subst h1; exact kinds1 key s w hk hs
  exact kindsNo k h0 h1 key s w
end Go.Proofs.Ytjlhckgokdjajaa
