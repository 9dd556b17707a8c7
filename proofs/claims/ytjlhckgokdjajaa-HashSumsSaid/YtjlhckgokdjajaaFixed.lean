/- The walk of 'fixed'. -/
import Derived.Test.YtjlhckgokdjajaaMac
namespace Go.Proofs.Ytjlhckgokdjajaa
open Go.RowKit
namespace Sha
def jefe : List Nat := [74, 101, 102, 101]
def want : List Nat := [119, 104, 97, 116, 32, 100, 111, 32, 121, 97, 32, 119, 97, 110, 116, 32, 102, 111, 114, 32, 110, 111, 116, 104, 105, 110, 103, 63]
theorem jefe_want : (mac k32 jefe want).take 4 = [91, 220, 193, 70] := by decide +kernel
theorem length_mac32 (k s : List Nat) : (mac k32 k s).length = 32 := length_sum32 _
theorem length_mac64 (k s : List Nat) : (mac k64 k s).length = 48 := length_sum64 _
theorem mac_lt (κ : Kind) (k s : List Nat) : ∀ c ∈ mac κ k s, c < 256 := sum_lt κ _
end Sha
theorem extract_strOf (l : List Nat) (a b : Nat) : (strOf l).extract a b = strOf ((l.take b).drop a) := by
  apply ByteArray.ext
  simp [strOf, List.drop_take]
set_option maxRecDepth 100000 in
set_option maxHeartbeats 400000 in
theorem fixedW (w : World) : Calls Try.prog 13 #[] w fun e w' => e = .returned (.bool true) ∧ Below w.heap.size w w' := by
  obtain ⟨s, hs⟩ : ∃ s, s = strOf (Sha.sum Sha.k32 [97, 98, 99]) := ⟨_, rfl⟩
  obtain ⟨m, hm⟩ : ∃ s, s = strOf (Sha.mac Sha.k32 Sha.jefe Sha.want) := ⟨_, rfl⟩
  obtain ⟨t, ht⟩ : ∃ s, s = strOf (Sha.sum Sha.k64 [97, 98, 99]) := ⟨_, rfl⟩
  have s1 : s.size = 32 := by rw [hs, size_strOf, Sha.length_sum32]
  have m1 : m.size = 32 := by rw [hm, size_strOf, Sha.length_mac32]
  have t1 : t.size = 48 := by rw [ht, size_strOf, Sha.length_sum64]
  have s2 : (s.extract 0 4).toList = [186, 120, 22, 191] := by rw [hs, extract_strOf, Sha.abc32]; decide +kernel
  have s3 : (s.extract 28 s.size).toList = [242, 0, 21, 173] := by rw [s1, hs, extract_strOf, Sha.abc32]; decide +kernel
  have m2 : (m.extract 0 4).toList = [91, 220, 193, 70] := by rw [hm, extract_strOf, Sha.jefe_want]; decide +kernel
  have t2 : (t.extract 0 4).toList = [203, 0, 117, 63] := by rw [ht, extract_strOf, Sha.abc64]; decide +kernel
  have t3 : (t.extract 44 t.size).toList = [52, 200, 37, 167] := by rw [t1, ht, extract_strOf, Sha.abc64]; decide +kernel
  have HS := Lib.hid hs
  have HM := Lib.hid hm
  have HT := Lib.hid ht
  have HF := Lib.hid (And.intro s2 (And.intro s3 (And.intro m2 (And.intro t2 t3))))
  have HN := Lib.hid (And.intro s1 (And.intro m1 t1))
  clear hs hm ht s1 m1 t1 s2 s3 m2 t2 t3
  go_enter Try.func13, Try.ntmps13
  go_wp2_with fail
  refine (sum256W ⟨#[97, 98, 99]⟩ _ (by decide)).mono ?_
  rintro e w1 ⟨rfl, hb1⟩
  rw [show bs ⟨#[97, 98, 99]⟩ = [97, 98, 99] from rfl, ← HS.out]
  go_wp2_with fail
  refine (mac256W _ _ _ (by decide) (by decide)).mono ?_
  rintro e w2 ⟨rfl, hb2⟩
  rw [show ∀ a b, bs a = Sha.jefe → bs b = Sha.want → strOf (Sha.mac Sha.k32 (bs a) (bs b)) = m from fun a b h1 h2 => by rw [h1, h2, HM.out] ]
  rotate_left
  rfl
  rfl
  go_wp2_with fail
  refine (sum384W ⟨#[97, 98, 99]⟩ _ (by decide)).mono ?_
  rintro e w3 ⟨rfl, hb3⟩
  rw [show bs ⟨#[97, 98, 99]⟩ = [97, 98, 99] from rfl, ← HT.out]
  have HB3 := Lib.hid ((hb1.trans (hb2.mono hb1.size)).trans (hb3.mono (Nat.le_trans hb1.size hb2.size)))
  clear hb1 hb2 hb3
  go_wp2_with fail
  refine (new1 _).mono ?_
  rintro e w4 ⟨b, rfl, hB, hbel, hge⟩
  have HH4 := Lib.hid (isH64_new hB)
  have HB4 := Lib.hid (HB3.out.trans (hbel.mono HB3.out.size))
  have HGE := Lib.hid (Nat.le_trans HB3.out.size hge)
  clear hB hbel hge HB3
  go_wp2_with fail
  refine (write64 b [] _ _ HH4.out (by decide)).mono ?_
  rintro e w5 ⟨rfl, hH5, hg5⟩
  have HH5 := Lib.hid hH5
  have HB5 := Lib.hid (HB4.out.trans (grown_below hg5 HGE.out HB4.out.size))
  clear hH5 hg5 HB4 HH4
  go_wp2_with fail
  refine (write64 b _ _ _ HH5.out (by decide)).mono ?_
  rintro e w6 ⟨rfl, hH6, hg6⟩
  have HH6 := Lib.hid hH6
  have HB6 := Lib.hid (HB5.out.trans (grown_below hg6 HGE.out HB5.out.size))
  clear hH6 hg6 HB5 HH5
  go_wp2_with fail
  refine (sumNo 2 (by decide) (by decide) _ _).mono ?_
  rintro e w7 ⟨rfl, rfl⟩
  go_wp2_with fail
  refine (newNo (-1) (by decide) (by decide) _).mono ?_
  rintro e w7 ⟨rfl, rfl⟩
  obtain ⟨s2, s3, m2, t2, t3⟩ := HF.out
  obtain ⟨s1, m1, t1⟩ := HN.out
  have s1' : (s.size : Int) = 32 := by omega
  have m1' : (m.size : Int) = 32 := by omega
  have t1' : (t.size : Int) = 48 := by omega
  clear s1 m1 t1
  go_wp2_with fail
  refine (sum64 b _ _ HH6.out (by decide)).mono ?_
  rintro e w8 ⟨rfl, hb8⟩
  rw [show ([] ++ bs ⟨#[97]⟩ ++ bs ⟨#[98, 99]⟩ : List Nat) = [97, 98, 99] from rfl, ← HT.out]
  have HB8 := Lib.hid (HB6.out.trans (hb8.mono HB6.out.size))
  have HH7 := Lib.hid (HH6.out.same (hb8.block b HH6.out.lt))
  clear hb8 HB6 HH6
  go_wp2_with fail
  obtain ⟨_, _, _, hHB, _⟩ := HH7.out
  refine (sizeW hHB).mono ?_
  rintro e w9 ⟨rfl, rfl⟩
  rw [show ([] ++ bs ⟨#[97]⟩ ++ bs ⟨#[98, 99]⟩ : List Nat).length = 3 from rfl]
  clear hHB
  go_wp2_with fail
  go_ret
  exact ⟨rfl, HB8.out⟩
end Go.Proofs.Ytjlhckgokdjajaa
