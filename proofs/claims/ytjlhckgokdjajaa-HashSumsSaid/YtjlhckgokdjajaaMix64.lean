/- The walks of ror and mixed of 64 bits: written out of those of 32 bits. -/
import Derived.Test.YtjlhckgokdjajaaMix
namespace Go.Proofs.Ytjlhckgokdjajaa
open Go.RowKit
theorem shl_nat64 (x n : Nat) : (x : Int) * 2 ^ n % 18446744073709551616 = ((x * 2 ^ n % 2 ^ 64 : Nat) : Int) := by simp
theorem rorI64 (x : Nat) (n : Int) (hx : x < 2 ^ 64) (h0 : 0 ≤ n) (h1 : n ≤ 64) :
    bits BinOp.or IntKind.u64 ((x : Int) / 2 ^ n.toNat) ((x : Int) * 2 ^ (64 - n).toNat % 18446744073709551616) = (Sha.ror 64 x n.toNat : Nat) := by
  obtain ⟨m, rfl⟩ := Int.eq_ofNat_of_zero_le h0
  have e : (64 - (m : Int)).toNat = 64 - m := by omega
  rw [e, Int.toNat_natCast, shr_nat, shl_nat64]
  exact or_u64 _ _ (shr_lt 64 x m hx) (Nat.mod_lt _ (by decide))

set_option maxHeartbeats 400000 in
theorem ror64 (n : Int) (ax ab : Addr) (x : Nat) (w : World) (hx : w.cell? ax = some (.int .u64 (x : Int))) (hb : w.cell? ab = some (.int .i64 64)) (h0 : 0 ≤ n) (h1 : n ≤ 64) (hl : x < 2 ^ 64) :
    Calls Try.prog 46 #[.int .i64 n, .pointer (some ax), .pointer (some ab)] w fun e w' => e = .returned (.int .u64 (Sha.ror 64 x n.toNat : Nat)) ∧ ∃ k, w' = w.drewN k := by
  have HR := Lib.hid (rorI64 x n hl h0 h1)
  clear hl
  go_enter Try.func46, Try.ntmps46
  go_wp2
  go_quiet (fail)
  go_wp2
  go_ret
  exact ⟨by rw [← HR.out]; rfl, _, rfl⟩

theorem mixI64 (x a b c : Nat) (hx : x < 2 ^ 64) (sh : Bool) (v : Nat) (hv : v = if sh then x / 2 ^ c else Sha.ror 64 x c) :
    bits BinOp.xor IntKind.u64 (bits BinOp.xor IntKind.u64 (Sha.ror 64 x a : Nat) (Sha.ror 64 x b : Nat)) (v : Nat) = (Sha.mix 64 x a b c sh : Nat) := by
  have hl : v < 2 ^ 64 := by
    rw [hv]; split
    · exact shr_lt 64 x c hx
    · exact ror_lt 64 x c hx
  rw [xor_u64 _ _ (ror_lt 64 x a hx) (ror_lt 64 x b hx), xor_u64 _ _ (Nat.xor_lt_two_pow (ror_lt 64 x a hx) (ror_lt 64 x b hx)) hl, hv]
  rfl

set_option maxHeartbeats 400000 in
theorem mixed64 (x : Nat) (a b c : Int) (w : World) (hl : x < 2 ^ 64) (ha0 : 0 ≤ a) (ha1 : a ≤ 64) (hb0 : 0 ≤ b) (hb1 : b ≤ 64) (hc0 : 0 ≤ c) (hc1 : c ≤ 64) (sh : Bool) :
    Calls Try.prog 42 #[.int .u64 (x : Int), .agg #[.int .i64 a, .int .i64 b, .int .i64 c], .int .i64 64, .bool sh] w fun e w' =>
      e = .returned (.int .u64 (Sha.mix 64 x a.toNat b.toNat c.toNat sh : Nat)) ∧ Below w.heap.size w w' := by
  have hbel : ∀ n, Below w.heap.size w ((((w.alloc (.cells #[.int .u64 (x : Int)] 58)).alloc (.cells #[.int .i64 a, .int .i64 b, .int .i64 c] 48)).alloc (.cells #[.int .i64 64] 3)).drewN n) :=
    below_drewN ((((Below.refl _ _).alloc (Nat.le_refl _) _).alloc (by simp) _).alloc (by simp; omega) _)
  have Hbel := Lib.hid hbel
  have Hl := Lib.hid hl
  clear hbel hl
  cases sh
  · go_enter Try.func42, Try.ntmps42
    go_wp2_with fail
    refine (ror64 c _ _ x _ ?_ ?_ hc0 hc1 Hl.out).mono ?_
    · go_simp
    · go_simp
    rintro e w1 ⟨rfl, k, rfl⟩
    go_wp2_with fail
    refine wp_region_fam (by kernel_rfl) (by kernel_rfl) (fun n => (((w.alloc (.cells #[.int .u64 (x : Int)] 58)).alloc (.cells #[.int .i64 a, .int .i64 b, .int .i64 c] 48)).alloc (.cells #[.int .i64 64] 3)).drewN n) ⟨k + 1, by simp⟩ ?_
    repeat go_big_quiet_step ((refine Calls.fam_of (ror64 _ _ _ x _ ?_ ?_ (by assumption) (by assumption) Hl.out) ?_; go_simp; go_simp; (rintro _ ⟨k, rfl⟩; exact ⟨_, World.drewN_drewN _ _ _⟩)))
    refine wpQuiet_nil ?_
    intro t
    go_wp2
    go_ret
    refine ⟨?_, Hbel.out _⟩
    rw [← mixI64 x a.toNat b.toNat c.toNat Hl.out false _ rfl]
    rfl
  · go_enter Try.func42, Try.ntmps42
    go_wp2_with fail
    go_quiet ((refine Calls.quiet_of (ror64 _ _ _ x _ ?_ ?_ (by assumption) (by assumption) Hl.out) <;> go_simp))
    go_wp2
    go_ret
    refine ⟨?_, Hbel.out _⟩
    rw [← mixI64 x a.toNat b.toNat c.toNat Hl.out true _ rfl]
    simp only [if_true, ← shr_nat]
    rfl
end Go.Proofs.Ytjlhckgokdjajaa
