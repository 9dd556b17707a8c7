/- The document's Rune and May. -/
import Derived.Test.YthdoeaiehajofaaDoorTUnits
namespace Go.Proofs.YthdoeaiehajofaaDoor
set_option linter.unusedVariables false
set_option maxRecDepth 20000
open Go.RowKit
set_option maxHeartbeats 4000000 in
theorem rRuneW (n : Nat) (hn : n ≤ 1114111) (w : World) : Calls Tryd.prog 44 #[.int .i64 (n : Int)] w fun e w' => e = .returned (.string (strOf (U.enc n))) ∧ Below w.heap.size w w' := by
  obtain ⟨z, hz⟩ : ∃ z : Int, z = (n : Int) := ⟨_, rfl⟩
  have HZ0 := hz
  rw [← hz]
  have z0 : 0 ≤ z := by omega
  have z1 : z ≤ 1114111 := by omega
  by_cases a : z < 128
  · have EN : Hid (U.enc n = [n]) := by
      unfold Hid U.enc
      rw [if_pos (by omega)]
    have HZ := Lib.hid hz
    have z2 : z ≤ 127 := by omega
    clear HZ0 hz z1
    go_enter Tryd.func44, Tryd.ntmps44
    go_wp2_with (with_reducible refine wpList_bytes_string (o := ⟨some 9, _, _, _, _, _⟩) rfl 36 9 _ rfl Tryd.underlying36 Tryd.underlying5 Tryd.underlying9 w.heap.size 0 1 1 rfl [n] rfl ?c1 ?_)
    case c1 =>
      intro j hj
      obtain rfl : j = 0 := by omega
      rw [HZ.out]
      simp
    go_wp2_with fail
    go_ret
    rw [EN.out]
    exact ⟨rfl, (Below.refl _ _).alloc (Nat.le_refl _) _⟩
  by_cases b : z < 2048
  · have a1 : ¬ z < 128 := a
    obtain ⟨q0, hq0⟩ : ∃ q : Int, z.tdiv 64 = q := ⟨_, rfl⟩
    have eq0 : q0 = z / 64 := by rw [← hq0, Int.tdiv_eq_ediv_of_nonneg (by omega)]
    obtain ⟨q1, hq1⟩ : ∃ q : Int, z.tmod 64 = q := ⟨_, rfl⟩
    have eq1 : q1 = z % 64 := by rw [← hq1, Int.tmod_eq_emod_of_nonneg (by omega)]
    obtain ⟨x0, hx0⟩ : ∃ x : Nat, x = 192 + n / 64 := ⟨_, rfl⟩
    have y0 : 192 + q0 = (x0 : Int) := by omega
    have b0 : x0 < 256 := by omega
    obtain ⟨x1, hx1⟩ : ∃ x : Nat, x = 128 + n % 64 := ⟨_, rfl⟩
    have y1 : 128 + q1 = (x1 : Int) := by omega
    have b1 : x1 < 256 := by omega
    have EN : Hid (U.enc n = [x0, x1]) := by
      unfold Hid U.enc
      rw [if_neg (by omega), if_pos (by omega), hx0, hx1]
    have lq0 : 0 ≤ q0 := by omega
    have mq0 : q0 ≤ 17408 := by omega
    have lq1 : 0 ≤ q1 := by omega
    have mq1 : q1 ≤ 63 := by omega
    clear HZ0 hz hx0 hx1 eq0 eq1
    go_enter Tryd.func44, Tryd.ntmps44
    go_wp2_with (with_reducible refine wpList_bytes_string (o := ⟨some 22, _, _, _, _, _⟩) rfl 36 9 _ rfl Tryd.underlying36 Tryd.underlying5 Tryd.underlying9 w.heap.size 0 2 2 rfl [x0, x1] rfl ?c2 ?_)
    try (case c2 => intro j hj; rcases j with _|_|j <;> first | (simp; done) | omega)
    go_wp2_with fail
    go_ret
    rw [EN.out]
    exact ⟨rfl, (Below.refl _ _).alloc (Nat.le_refl _) _⟩
  by_cases c : z < 65536
  · have a1 : ¬ z < 128 := a
    obtain ⟨q0, hq0⟩ : ∃ q : Int, z.tdiv 4096 = q := ⟨_, rfl⟩
    have eq0 : q0 = z / 4096 := by rw [← hq0, Int.tdiv_eq_ediv_of_nonneg (by omega)]
    obtain ⟨d1, hd1⟩ : ∃ q : Int, z.tdiv 64 = q := ⟨_, rfl⟩
    have ed1 : d1 = z / 64 := by rw [← hd1, Int.tdiv_eq_ediv_of_nonneg (by omega)]
    obtain ⟨q1, hq1⟩ : ∃ q : Int, d1.tmod 64 = q := ⟨_, rfl⟩
    have eq1 : q1 = d1 % 64 := by rw [← hq1, Int.tmod_eq_emod_of_nonneg (by omega)]
    obtain ⟨q2, hq2⟩ : ∃ q : Int, z.tmod 64 = q := ⟨_, rfl⟩
    have eq2 : q2 = z % 64 := by rw [← hq2, Int.tmod_eq_emod_of_nonneg (by omega)]
    obtain ⟨x0, hx0⟩ : ∃ x : Nat, x = 224 + n / 4096 := ⟨_, rfl⟩
    have y0 : 224 + q0 = (x0 : Int) := by omega
    have b0 : x0 < 256 := by omega
    obtain ⟨x1, hx1⟩ : ∃ x : Nat, x = 128 + n / 64 % 64 := ⟨_, rfl⟩
    have y1 : 128 + q1 = (x1 : Int) := by omega
    have b1 : x1 < 256 := by omega
    obtain ⟨x2, hx2⟩ : ∃ x : Nat, x = 128 + n % 64 := ⟨_, rfl⟩
    have y2 : 128 + q2 = (x2 : Int) := by omega
    have b2 : x2 < 256 := by omega
    have EN : Hid (U.enc n = [x0, x1, x2]) := by
      unfold Hid U.enc
      rw [if_neg (by omega), if_neg (by omega), if_pos (by omega), hx0, hx1, hx2]
    have lq0 : 0 ≤ q0 := by omega
    have mq0 : q0 ≤ 17408 := by omega
    have ld1 : 0 ≤ d1 := by omega
    have md1 : d1 ≤ 17408 := by omega
    have lq1 : 0 ≤ q1 := by omega
    have mq1 : q1 ≤ 63 := by omega
    have lq2 : 0 ≤ q2 := by omega
    have mq2 : q2 ≤ 63 := by omega
    clear HZ0 hz hx0 hx1 hx2 eq0 ed1 eq1 eq2
    go_enter Tryd.func44, Tryd.ntmps44
    go_wp2_with (with_reducible refine wpList_bytes_string (o := ⟨some 40, _, _, _, _, _⟩) rfl 36 9 _ rfl Tryd.underlying36 Tryd.underlying5 Tryd.underlying9 w.heap.size 0 3 3 rfl [x0, x1, x2] rfl ?c3 ?_)
    try (case c3 => intro j hj; rcases j with _|_|_|j <;> first | (simp; done) | omega)
    go_wp2_with fail
    go_ret
    rw [EN.out]
    exact ⟨rfl, (Below.refl _ _).alloc (Nat.le_refl _) _⟩
  · have a1 : ¬ z < 128 := a
    obtain ⟨q0, hq0⟩ : ∃ q : Int, z.tdiv 262144 = q := ⟨_, rfl⟩
    have eq0 : q0 = z / 262144 := by rw [← hq0, Int.tdiv_eq_ediv_of_nonneg (by omega)]
    obtain ⟨d1, hd1⟩ : ∃ q : Int, z.tdiv 4096 = q := ⟨_, rfl⟩
    have ed1 : d1 = z / 4096 := by rw [← hd1, Int.tdiv_eq_ediv_of_nonneg (by omega)]
    obtain ⟨q1, hq1⟩ : ∃ q : Int, d1.tmod 64 = q := ⟨_, rfl⟩
    have eq1 : q1 = d1 % 64 := by rw [← hq1, Int.tmod_eq_emod_of_nonneg (by omega)]
    obtain ⟨d2, hd2⟩ : ∃ q : Int, z.tdiv 64 = q := ⟨_, rfl⟩
    have ed2 : d2 = z / 64 := by rw [← hd2, Int.tdiv_eq_ediv_of_nonneg (by omega)]
    obtain ⟨q2, hq2⟩ : ∃ q : Int, d2.tmod 64 = q := ⟨_, rfl⟩
    have eq2 : q2 = d2 % 64 := by rw [← hq2, Int.tmod_eq_emod_of_nonneg (by omega)]
    obtain ⟨q3, hq3⟩ : ∃ q : Int, z.tmod 64 = q := ⟨_, rfl⟩
    have eq3 : q3 = z % 64 := by rw [← hq3, Int.tmod_eq_emod_of_nonneg (by omega)]
    obtain ⟨x0, hx0⟩ : ∃ x : Nat, x = 240 + n / 262144 := ⟨_, rfl⟩
    have y0 : 240 + q0 = (x0 : Int) := by omega
    have b0 : x0 < 256 := by omega
    obtain ⟨x1, hx1⟩ : ∃ x : Nat, x = 128 + n / 4096 % 64 := ⟨_, rfl⟩
    have y1 : 128 + q1 = (x1 : Int) := by omega
    have b1 : x1 < 256 := by omega
    obtain ⟨x2, hx2⟩ : ∃ x : Nat, x = 128 + n / 64 % 64 := ⟨_, rfl⟩
    have y2 : 128 + q2 = (x2 : Int) := by omega
    have b2 : x2 < 256 := by omega
    obtain ⟨x3, hx3⟩ : ∃ x : Nat, x = 128 + n % 64 := ⟨_, rfl⟩
    have y3 : 128 + q3 = (x3 : Int) := by omega
    have b3 : x3 < 256 := by omega
    have EN : Hid (U.enc n = [x0, x1, x2, x3]) := by
      unfold Hid U.enc
      rw [if_neg (by omega), if_neg (by omega), if_neg (by omega), hx0, hx1, hx2, hx3]
    have lq0 : 0 ≤ q0 := by omega
    have mq0 : q0 ≤ 17408 := by omega
    have ld1 : 0 ≤ d1 := by omega
    have md1 : d1 ≤ 17408 := by omega
    have lq1 : 0 ≤ q1 := by omega
    have mq1 : q1 ≤ 63 := by omega
    have ld2 : 0 ≤ d2 := by omega
    have md2 : d2 ≤ 17408 := by omega
    have lq2 : 0 ≤ q2 := by omega
    have mq2 : q2 ≤ 63 := by omega
    have lq3 : 0 ≤ q3 := by omega
    have mq3 : q3 ≤ 63 := by omega
    clear HZ0 hz hx0 hx1 hx2 hx3 eq0 ed1 eq1 ed2 eq2 eq3
    go_enter Tryd.func44, Tryd.ntmps44
    go_wp2_with (with_reducible refine wpList_bytes_string (o := ⟨some 60, _, _, _, _, _⟩) rfl 36 9 _ rfl Tryd.underlying36 Tryd.underlying5 Tryd.underlying9 w.heap.size 0 4 4 rfl [x0, x1, x2, x3] rfl ?c4 ?_)
    try (case c4 => intro j hj; rcases j with _|_|_|_|j <;> first | (simp; done) | omega)
    go_wp2_with fail
    go_ret
    rw [EN.out]
    exact ⟨rfl, (Below.refl _ _).alloc (Nat.le_refl _) _⟩
theorem mayW (n : Nat) (w : World) (hn : n ≤ 9223372036854775807) : Calls Tryd.prog 67 #[.int .i64 (n : Int)] w fun e w' => e = .returned (.bool (decide (U.may n))) ∧ w' = w := by
  obtain ⟨z, hz⟩ : ∃ z : Int, z = (n : Int) := ⟨_, rfl⟩
  rw [← hz]
  have z0 : 0 ≤ z := by omega
  by_cases a : z ≤ 1114111
  · by_cases b : z < 55296
    · have e : decide (U.may n) = true := decide_eq_true ⟨by omega, by omega⟩
      rw [e]
      clear hz e
      go_enter Tryd.func67, Tryd.ntmps67
      go_wp2_with fail
      go_ret
      exact ⟨rfl, rfl⟩
    · by_cases c : 57343 < z
      · have e : decide (U.may n) = true := decide_eq_true ⟨by omega, by omega⟩
        rw [e]
        clear hz e
        go_enter Tryd.func67, Tryd.ntmps67
        go_wp2_with fail
        go_ret
        exact ⟨rfl, rfl⟩
      · have e : decide (U.may n) = false := decide_eq_false (fun h => by have := h.2; omega)
        rw [e]
        clear hz e
        go_enter Tryd.func67, Tryd.ntmps67
        go_wp2_with fail
        go_ret
        exact ⟨rfl, rfl⟩
  · have e : decide (U.may n) = false := decide_eq_false (fun h => by have := h.1; omega)
    rw [e]
    clear hz e
    go_enter Tryd.func67, Tryd.ntmps67
    go_wp2_with fail
    go_ret
    exact ⟨rfl, rfl⟩
end Go.Proofs.YthdoeaiehajofaaDoor
