/- The walk of the reference's bytes. -/
import Derived.Test.YtjlhckgokdjajaaRor
import Derived.Test.YtjlhckgokdjajaaTold
namespace Go.Proofs.Ytjlhckgokdjajaa
open Go.RowKit
/-- A number's bytes, so many, the highest first. -/
def rbAt (x many j : Nat) : Nat := if 7 < many - 1 - j then 0 else x / 2 ^ (8 * (many - 1 - j)) % 256
def rb (x many : Nat) : List Nat := (List.range many).map (rbAt x many)
theorem length_rb (x many : Nat) : (rb x many).length = many := by simp [rb]
theorem rbTo_succ (x many j : Nat) : (List.range (j + 1)).map (rbAt x many) = (List.range j).map (rbAt x many) ++ [rbAt x many j] := by simp [List.range_succ]
theorem rb_lt (x many : Nat) : ∀ c ∈ rb x many, c < 256 := by
  intro c hc
  obtain ⟨j, _, rfl⟩ := List.mem_map.1 hc
  unfold rbAt
  split
  · decide
  · exact Nat.mod_lt _ (by decide)
def bits_and (a b : Int) : Int := bits .and .u64 a b
set_option maxRecDepth 100000 in
set_option maxHeartbeats 400000 in
theorem rbytesW (x many : Nat) (hx : x < 2 ^ 64) (hm : many ≤ 1000) (w : World) :
    Calls Try.prog 38 #[.int .u64 (x : Nat), .int .i64 (many : Nat)] w fun e w' => ∃ v, e = .returned v ∧ Owns w' w.heap.size 5 v (rb x many) ∧ Below w.heap.size w w' := by
  have HX := Lib.hid hx
  clear hx
  go_enter Try.func38, Try.ntmps38
  go_wp2_with fail
  have ho : Owns (w.alloc (.cells #[] 5)) w.heap.size 5 (.slice (some ⟨w.heap.size, 0, none⟩) 0 0) [] := Owns.lit w [] #[] (Nat.le_refl _) rfl (by decide)
  have hb : Below w.heap.size w (w.alloc (.cells #[] 5)) := (Below.refl _ _).alloc (Nat.le_refl _) _
  have hs : w.heap.size ≤ (w.alloc (.cells #[] 5)).heap.size := by simp
  obtain ⟨W1, hW1⟩ : ∃ v, v = w.alloc (.cells #[] 5) := ⟨_, rfl⟩
  rw [← hW1] at ho hb hs ⊢
  obtain ⟨base, hbase⟩ : ∃ b, b = w.heap.size := ⟨_, rfl⟩
  rw [← hbase] at ho hb hs ⊢
  have HO := Lib.hid ho
  have HB := Lib.hid hb
  have HS := Lib.hid hs
  have HBASE := Lib.hid hbase
  clear ho hb hs hW1 hbase
  go_loopw [5, 6] (fun vl vi wr => ∃ (z : Int) (j : Nat), -1 ≤ z ∧ z + 1 + j = many ∧ vi = .int .i64 z ∧ Owns wr base 5 vl ((List.range j).map (rbAt x many)) ∧ base ≤ wr.heap.size ∧ Below base w wr) (fun _ vi _ => (intOf vi + 1).toNat)
  case atStart => exact ⟨(many : Int) - 1, 0, by omega, by omega, rfl, HO.out, HS.out, HB.out⟩
  case round =>
    obtain ⟨z, j, hz1, hz2, rfl, ho, hs, hb⟩ := hrel
    have HO := Lib.hid ho
    have HB := Lib.hid hb
    have HS := Lib.hid hs
    have hzm : z + 1 + j ≤ many := by omega
    have hzm2 : (many : Int) ≤ z + 1 + j := by omega
    clear ho hb hs hz2
    by_cases hz : 0 ≤ z
    · obtain ⟨i, rfl⟩ := Int.eq_ofNat_of_zero_le hz
      have hrb : rbAt x many j = if 7 < i then 0 else x / 2 ^ (8 * i) % 256 := by unfold rbAt; rw [show many - 1 - j = i by omega]
      by_cases h7 : 7 < i
      · rw [if_pos h7] at hrb
        have HRB := Lib.hid hrb
        clear hrb
        go_wp2_with (at_builtin; refine wpList_append_bytes rfl _ _ 42 rfl Try.underlying42 info5 rfl (HO.out.alloc _) ⟨wr.heap.size, 0, none⟩ 1 1 [0] rfl rfl ?c1 ?c2 ?c3 ?_)
        case c1 => intro k hk; obtain rfl : k = 0 := by omega
                   simp [Addr.add]
        case c2 => rw [List.length_map, List.length_range]; simp; omega
        case c3 => have := HS.out; simp; omega
        intro v' w2 ho2 hg2 _
        rw [← HRB.out, ← rbTo_succ] at ho2
        have HO2 := Lib.hid ho2
        have HB2 := Lib.hid ((HB.out.alloc HS.out _).grown hg2 (by have := HS.out; simp; omega) (fun k hk => (HO.out.block hk).1))
        have HS2 : Hid (base ≤ w2.heap.size) := Nat.le_trans (Nat.le_trans HS.out (by simp)) hg2.size
        clear ho2 hg2
        go_wp2_with fail
        exact ⟨⟨(i : Int) - 1, j + 1, by omega, by omega, rfl, HO2.out, HS2.out, HB2.out⟩, by simp [intOf]⟩
      · rw [if_neg h7] at hrb
        obtain ⟨q, hq⟩ : ∃ q, q = x / 2 ^ (8 * i) := ⟨_, rfl⟩
        have hq64 : q < 18446744073709551616 := by rw [hq]; exact Nat.lt_of_le_of_lt (Nat.div_le_self _ _) HX.out
        have hqq : (x : Int) / 2 ^ (8 * i) = (q : Int) := by rw [hq, shr_nat]
        rw [← hq] at hrb
        obtain ⟨c, hc⟩ : ∃ c, c = q % 256 := ⟨_, rfl⟩
        have hc256 : c < 256 := by omega
        rw [← hc] at hrb
        have hand : bits_and (q : Int) 255 = (c : Int) := by
          have := and_u64 q 255 hq64 (by decide)
          refine Eq.trans this ?_
          rw [show 255 = 2 ^ 8 - 1 from rfl, Nat.and_two_pow_sub_one_eq_mod, hc]
        unfold bits_and at hand
        have HRB := Lib.hid hrb
        clear hrb hq hc
        go_wp2_with (at_builtin; refine wpList_append_bytes rfl _ _ 42 rfl Try.underlying42 info5 rfl (HO.out.alloc _) ⟨wr.heap.size, 0, none⟩ 1 1 [c] rfl rfl ?d1 ?d2 ?d3 ?_)
        case d1 => intro k hk; obtain rfl : k = 0 := by omega
                   simp [Addr.add]
        case d2 => rw [List.length_map, List.length_range]; simp; omega
        case d3 => have := HS.out; simp; omega
        intro v' w2 ho2 hg2 _
        rw [← HRB.out, ← rbTo_succ] at ho2
        have HO2 := Lib.hid ho2
        have HB2 := Lib.hid ((HB.out.alloc HS.out _).grown hg2 (by have := HS.out; simp; omega) (fun k hk => (HO.out.block hk).1))
        have HS2 : Hid (base ≤ w2.heap.size) := Nat.le_trans (Nat.le_trans HS.out (by simp)) hg2.size
        clear ho2 hg2
        go_wp2_with fail
        exact ⟨⟨(i : Int) - 1, j + 1, by omega, by omega, rfl, HO2.out, HS2.out, HB2.out⟩, by simp [intOf]⟩
    · have hjm : j = many := by omega
      go_wp2_with fail
      go_ret
      have h := HBASE.out
      subst h
      exact ⟨_, rfl, by rw [hjm] at HO; exact HO.out, HB.out⟩
end Go.Proofs.Ytjlhckgokdjajaa
