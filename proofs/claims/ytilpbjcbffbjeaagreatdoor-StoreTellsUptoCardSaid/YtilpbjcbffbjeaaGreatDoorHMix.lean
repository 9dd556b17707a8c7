/- The walks of ror and mixed, of 32 and of 64 bits. -/
import Derived.Test.YtilpbjcbffbjeaaGreatDoorProg
import Derived.Test.YtilpbjcbffbjeaaGreatDoorPkA
import Derived.Test.YtilpbjcbffbjeaaGreatDoorHSpec
import Derived.WalkKit
import Derived.WalkSpells
namespace Go.Proofs.YtilpbjcbffbjeaaGreatDoor
set_option linter.unusedVariables false
open Go.RowKit

theorem ror_lt (w x n : Nat) (hx : x < 2 ^ w) : Sha.ror w x n < 2 ^ w :=
  Nat.or_lt_two_pow (Nat.lt_of_le_of_lt (Nat.div_le_self _ _) hx) (Nat.mod_lt _ (Nat.two_pow_pos w))
theorem shr_lt (w x n : Nat) (hx : x < 2 ^ w) : x / 2 ^ n < 2 ^ w := Nat.lt_of_le_of_lt (Nat.div_le_self _ _) hx
theorem mix_lt (w x a b c : Nat) (sh : Bool) (hx : x < 2 ^ w) : Sha.mix w x a b c sh < 2 ^ w := by
  refine Nat.xor_lt_two_pow (Nat.xor_lt_two_pow (ror_lt w x a hx) (ror_lt w x b hx)) ?_
  split
  · exact shr_lt w x c hx
  · exact ror_lt w x c hx

theorem shr_nat (x n : Nat) : (x : Int) / 2 ^ n = ((x / 2 ^ n : Nat) : Int) := by simp
theorem shl_nat32 (x n : Nat) : (x : Int) * 2 ^ n % 4294967296 = ((x * 2 ^ n % 2 ^ 32 : Nat) : Int) := by simp
theorem rorI32 (x : Nat) (n : Int) (hx : x < 2 ^ 32) (h0 : 0 ≤ n) (h1 : n ≤ 32) :
    bits BinOp.or IntKind.u32 ((x : Int) / 2 ^ n.toNat) ((x : Int) * 2 ^ (32 - n).toNat % 4294967296) = (Sha.ror 32 x n.toNat : Nat) := by
  obtain ⟨m, rfl⟩ := Int.eq_ofNat_of_zero_le h0
  have e : (32 - (m : Int)).toNat = 32 - m := by omega
  rw [e, Int.toNat_natCast, shr_nat, shl_nat32]
  exact or_u32 _ _ (shr_lt 32 x m hx) (Nat.mod_lt _ (by decide))

set_option maxHeartbeats 400000 in
theorem ror32 (n : Int) (ax ab : Addr) (x : Nat) (w : World) (hx : w.cell? ax = some (.int .u32 (x : Int))) (hb : w.cell? ab = some (.int .i64 32)) (h0 : 0 ≤ n) (h1 : n ≤ 32) (hl : x < 2 ^ 32) :
    Calls Tryz.prog 179 #[.int .i64 n, .pointer (some ax), .pointer (some ab)] w fun e w' => e = .returned (.int .u32 (Sha.ror 32 x n.toNat : Nat)) ∧ ∃ k, w' = w.drewN k := by
  have HR := Lib.hid (rorI32 x n hl h0 h1)
  clear hl
  go_enter Tryz.func179, Tryz.ntmps179
  go_wp2
  go_quiet (fail)
  go_wp2
  go_ret
  exact ⟨by rw [← HR.out]; rfl, _, rfl⟩

theorem mixI32 (x a b c : Nat) (hx : x < 2 ^ 32) (sh : Bool) (v : Nat) (hv : v = if sh then x / 2 ^ c else Sha.ror 32 x c) :
    bits BinOp.xor IntKind.u32 (bits BinOp.xor IntKind.u32 (Sha.ror 32 x a : Nat) (Sha.ror 32 x b : Nat)) (v : Nat) = (Sha.mix 32 x a b c sh : Nat) := by
  have hl : v < 2 ^ 32 := by
    rw [hv]; split
    · exact shr_lt 32 x c hx
    · exact ror_lt 32 x c hx
  rw [xor_u32 _ _ (ror_lt 32 x a hx) (ror_lt 32 x b hx), xor_u32 _ _ (Nat.xor_lt_two_pow (ror_lt 32 x a hx) (ror_lt 32 x b hx)) hl, hv]
  rfl

set_option maxHeartbeats 400000 in
theorem mixed32 (x : Nat) (a b c : Int) (w : World) (hl : x < 2 ^ 32) (ha0 : 0 ≤ a) (ha1 : a ≤ 32) (hb0 : 0 ≤ b) (hb1 : b ≤ 32) (hc0 : 0 ≤ c) (hc1 : c ≤ 32) (sh : Bool) :
    Calls Tryz.prog 170 #[.int .u32 (x : Int), .agg #[.int .i64 a, .int .i64 b, .int .i64 c], .int .i64 32, .bool sh] w fun e w' =>
      e = .returned (.int .u32 (Sha.mix 32 x a.toNat b.toNat c.toNat sh : Nat)) ∧ Below w.heap.size w w' := by
  have hbel : ∀ n, Below w.heap.size w ((((w.alloc (.cells #[.int .u32 (x : Int)] 237)).alloc (.cells #[.int .i64 a, .int .i64 b, .int .i64 c] 227)).alloc (.cells #[.int .i64 32] 3)).drewN n) :=
    below_drewN ((((Below.refl _ _).alloc (Nat.le_refl _) _).alloc (by simp) _).alloc (by simp; omega) _)
  have Hbel := Lib.hid hbel
  have Hl := Lib.hid hl
  clear hbel hl
  cases sh
  · go_enter Tryz.func170, Tryz.ntmps170
    go_wp2_with fail
    refine (ror32 c _ _ x _ ?_ ?_ hc0 hc1 Hl.out).mono ?_
    · go_simp
    · go_simp
    rintro e w1 ⟨rfl, k, rfl⟩
    go_wp2_with fail
    refine wp_region_fam (by kernel_rfl) (by kernel_rfl) (fun n => (((w.alloc (.cells #[.int .u32 (x : Int)] 237)).alloc (.cells #[.int .i64 a, .int .i64 b, .int .i64 c] 227)).alloc (.cells #[.int .i64 32] 3)).drewN n) ⟨k + 1, by simp⟩ ?_
    repeat go_big_quiet_step ((refine Calls.fam_of (ror32 _ _ _ x _ ?_ ?_ (by assumption) (by assumption) Hl.out) ?_; go_simp; go_simp; (rintro _ ⟨k, rfl⟩; exact ⟨_, World.drewN_drewN _ _ _⟩)))
    refine wpQuiet_nil ?_
    intro t
    go_wp2
    go_ret
    refine ⟨?_, Hbel.out _⟩
    rw [← mixI32 x a.toNat b.toNat c.toNat Hl.out false _ rfl]
    rfl
  · go_enter Tryz.func170, Tryz.ntmps170
    go_wp2_with fail
    go_quiet ((refine Calls.quiet_of (ror32 _ _ _ x _ ?_ ?_ (by assumption) (by assumption) Hl.out) <;> go_simp))
    go_wp2
    go_ret
    refine ⟨?_, Hbel.out _⟩
    rw [← mixI32 x a.toNat b.toNat c.toNat Hl.out true _ rfl]
    simp only [if_true, ← shr_nat]
    rfl
end Go.Proofs.YtilpbjcbffbjeaaGreatDoor
