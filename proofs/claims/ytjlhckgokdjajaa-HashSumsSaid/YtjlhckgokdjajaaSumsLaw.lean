/- The walks of HashSums and HashMacs. -/
import Derived.Test.YtjlhckgokdjajaaRTop
import Derived.Test.YtjlhckgokdjajaaFixed
namespace Go.Proofs.Ytjlhckgokdjajaa
open Go.RowKit
set_option maxRecDepth 100000 in
set_option maxHeartbeats 800000 in
theorem sumsLaw (k : Int) (s : ByteArray) (w : World) (hs : s.size ≤ 140737488351232) :
    Calls Try.prog 3 #[.int .i64 k, .string s] w fun e w' => e = .returned (.bool true) ∧ Below w.heap.size w w' := by
  have key : ∀ (v : ByteArray) (z : Int) (hp : ∀ u, Calls Try.prog 11 #[.int .i64 k, .string s] u fun e w' => e = .returned (.tuple #[.string v, .int .i64 z]) ∧ Below u.heap.size u w')
      (hr : ∀ u, Calls Try.prog 12 #[.int .i64 k, .string s] u fun e w' => e = .returned (.tuple #[.string v, .int .i64 z]) ∧ Below u.heap.size u w'),
      Calls Try.prog 3 #[.int .i64 k, .string s] w fun e w' => e = .returned (.bool true) ∧ Below w.heap.size w w' := by
    intro v z hp hr
    have HP := Lib.hid hp
    have HR := Lib.hid hr
    clear hp hr
    go_enter Try.func3, Try.ntmps3
    go_wp2_with fail
    refine (HP.out _).mono ?_
    rintro e w1 ⟨rfl, hb1⟩
    have HB1 := Lib.hid hb1
    clear hb1
    go_wp2_with fail
    refine (HR.out _).mono ?_
    rintro e w2 ⟨rfl, hb2⟩
    have HB2 := Lib.hid (HB1.out.trans (hb2.mono HB1.out.size))
    clear hb2 HB1
    go_wp2_with fail
    refine (fixedW _).mono ?_
    rintro e w3 ⟨rfl, hb3⟩
    have HB3 := Lib.hid (HB2.out.trans (hb3.mono HB2.out.size))
    clear hb3 HB2
    go_wp2_with fail
    go_ret
    exact ⟨rfl, HB3.out⟩
  by_cases h0 : k = 0
  · subst h0
    exact key _ _ (fun u => sumK 0 (by decide) s u (by omega)) (fun u => rsumK kindOf0 s u (by omega))
  by_cases h1 : k = 1
  · subst h1
    exact key _ _ (fun u => sumK 1 (by decide) s u (by omega)) (fun u => rsumK kindOf1 s u (by omega))
  · exact key _ _ (fun u => (sumNo k h0 h1 s u).mono fun e w' ⟨h, hw⟩ => ⟨h, hw ▸ Below.refl _ _⟩) (fun u => rsumNo k (by omega) s u)
set_option maxRecDepth 100000 in
set_option maxHeartbeats 800000 in
theorem macsLaw (k : Int) (key s : ByteArray) (w : World) (hk : key.size ≤ 140737488351232) (hs : s.size ≤ 140737488351232) :
    Calls Try.prog 4 #[.int .i64 k, .string key, .string s] w fun e w' => e = .returned (.bool true) ∧ Below w.heap.size w w' := by
  have main : ∀ (v : ByteArray) (z : Int) (hp : ∀ u, Calls Try.prog 14 #[.int .i64 k, .string key, .string s] u fun e w' => e = .returned (.tuple #[.string v, .int .i64 z]) ∧ Below u.heap.size u w')
      (hr : ∀ u, Calls Try.prog 15 #[.int .i64 k, .string key, .string s] u fun e w' => e = .returned (.tuple #[.string v, .int .i64 z]) ∧ Below u.heap.size u w'),
      Calls Try.prog 4 #[.int .i64 k, .string key, .string s] w fun e w' => e = .returned (.bool true) ∧ Below w.heap.size w w' := by
    intro v z hp hr
    have HP := Lib.hid hp
    have HR := Lib.hid hr
    clear hp hr
    go_enter Try.func4, Try.ntmps4
    go_wp2_with fail
    refine (HP.out _).mono ?_
    rintro e w1 ⟨rfl, hb1⟩
    have HB1 := Lib.hid hb1
    clear hb1
    go_wp2_with fail
    refine (HR.out _).mono ?_
    rintro e w2 ⟨rfl, hb2⟩
    have HB2 := Lib.hid (HB1.out.trans (hb2.mono HB1.out.size))
    clear hb2 HB1
    go_wp2_with fail
    refine (fixedW _).mono ?_
    rintro e w3 ⟨rfl, hb3⟩
    have HB3 := Lib.hid (HB2.out.trans (hb3.mono HB2.out.size))
    clear hb3 HB2
    go_wp2_with fail
    go_ret
    exact ⟨rfl, HB3.out⟩
  by_cases h0 : k = 0
  · subst h0
    exact main _ _ (fun u => macK 0 (by decide) key s u (by omega) (by omega)) (fun u => rmacK kindOf0 key s u (by omega) (by omega))
  by_cases h1 : k = 1
  · subst h1
    exact main _ _ (fun u => macK 1 (by decide) key s u (by omega) (by omega)) (fun u => rmacK kindOf1 key s u (by omega) (by omega))
  · exact main _ _ (fun u => macNo k h0 h1 key s u) (fun u => rmacNo k (by omega) key s u)
end Go.Proofs.Ytjlhckgokdjajaa
