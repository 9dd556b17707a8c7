/- The program's Same. -/
import Derived.Test.YthdoeaiehajofaaDoorTSame
namespace Go.Proofs.YthdoeaiehajofaaDoor
set_option linter.unusedVariables false
set_option maxRecDepth 20000
open Go.RowKit
theorem or_u8' (a b : Nat) (ha : a < 2 ^ 8) (hb : b < 2 ^ 8) : bits .or .u8 (a : Int) (b : Int) = ((a ||| b : Nat) : Int) := by
  show IntKind.u8.wrap ((BitVec.ofInt 8 (a : Int) ||| BitVec.ofInt 8 (b : Int)).toNat : Int) = _
  rw [BitVec.toNat_or, toNat_ofInt_nat 8 a ha, toNat_ofInt_nat 8 b hb]; exact wrap_u8_nat _ (Nat.or_lt_two_pow ha hb)
theorem or_eq_zero (a b : Nat) : a ||| b = 0 ↔ a = 0 ∧ b = 0 := by
  constructor
  · intro h
    refine ⟨?_, ?_⟩ <;>
    · apply Nat.eq_of_testBit_eq
      intro i
      have := congrArg (fun x => x.testBit i) h
      simp only [Nat.testBit_or, Nat.zero_testBit, Bool.or_eq_false_iff] at this
      simp [this]
  · rintro ⟨rfl, rfl⟩; rfl
theorem xor_eq_zero (a b : Nat) : a ^^^ b = 0 ↔ a = b := by
  constructor
  · intro h
    apply Nat.eq_of_testBit_eq
    intro i
    have := congrArg (fun x => x.testBit i) h
    simp only [Nat.testBit_xor, Nat.zero_testBit] at this
    revert this
    cases a.testBit i <;> cases b.testBit i <;> simp
  · rintro rfl; exact Nat.xor_self a
theorem bs_ext (s t : ByteArray) (hl : s.size = t.size) (h : ∀ i, i < s.size → (bs s).getD i 0 = (bs t).getD i 0) : s = t := by
  apply bs_inj
  refine List.ext_getElem (by rw [length_bs, length_bs, hl]) fun i h1 h2 => ?_
  have := h i (by rw [← length_bs]; exact h1)
  rwa [List.getD_eq_getElem?_getD, List.getElem?_eq_getElem h1, List.getD_eq_getElem?_getD, List.getElem?_eq_getElem h2] at this
set_option maxHeartbeats 1000000 in
theorem sameSW (s t : ByteArray) (w : World) (h1 : s.size ≤ 4611686018427387904) (h2 : t.size ≤ 4611686018427387904) : Calls Tryd.prog 19 #[.string s, .string t] w fun e w' => e = .returned (.bool (decide (s = t))) ∧ Below w.heap.size w w' := by
  by_cases hl : s.size = t.size
  · have HL := Lib.hid hl
    have hle : ((s.size : Int) == (t.size : Int)) = true := by rw [hl]; exact beq_self_eq_true _
    clear hl
    go_enter Tryd.func19, Tryd.ntmps19
    go_wp2_with fail
    go_loopw [5, 6] (fun v5 v6 wr => ∃ i d : Nat, i ≤ s.size ∧ v6 = .int .i64 (i : Nat) ∧ v5 = .int .u8 (d : Int) ∧ d < 256 ∧ Below w.heap.size w wr ∧ (d = 0 ↔ ∀ j, j < i → (bs s).getD j 0 = (bs t).getD j 0)) (fun _ v6 _ => (s.size - intOf v6).toNat)
    case atStart => exact ⟨0, 0, by omega, rfl, rfl, by omega, Below.refl _ _, by simp⟩
    case round =>
      obtain ⟨i, d, hi, rfl, rfl, hd, hb, hs⟩ := hrel
      have HB := Lib.hid hb
      have HS := Lib.hid hs
      clear hb hs
      by_cases hlt : i < s.size
      · have hlt2 : i < t.size := by rw [← HL.out]; exact hlt
        obtain ⟨x, hx⟩ : ∃ x, s[i].toNat = x := ⟨_, rfl⟩
        obtain ⟨y, hy⟩ : ∃ y, t[i].toNat = y := ⟨_, rfl⟩
        have bx : x < 256 := by rw [← hx]; exact UInt8.toNat_lt _
        have by' : y < 256 := by rw [← hy]; exact UInt8.toNat_lt _
        have HX : Hid ((bs s).getD i 0 = x) := by unfold Hid; rw [← hx, get_bs s i hlt]
        have HY : Hid ((bs t).getD i 0 = y) := by unfold Hid; rw [← hy, get_bs t i hlt2]
        obtain ⟨q, hq⟩ : ∃ q, q = x ^^^ y := ⟨_, rfl⟩
        have hqb : q < 256 := by rw [hq]; exact Nat.xor_lt_two_pow (n := 8) bx by'
        have e1 : bits .xor .u8 (x : Int) (y : Int) = (q : Int) := by rw [hq]; exact xor_u8 x y bx by'
        obtain ⟨r, hr⟩ : ∃ r, r = d ||| q := ⟨_, rfl⟩
        have hrb : r < 256 := by rw [hr]; exact Nat.or_lt_two_pow (n := 8) hd hqb
        have e2 : bits .or .u8 (d : Int) (q : Int) = (r : Int) := by rw [hr]; exact or_u8' d q hd hqb
        have HR : Hid (r = 0 ↔ d = 0 ∧ x = y) := by unfold Hid; rw [hr, or_eq_zero, hq, xor_eq_zero]
        clear hq hr
        go_wp2_with fail
        go_region
        go_wp2_with fail
        refine ⟨⟨i + 1, r, by omega, rfl, rfl, hrb, HB.out.drew, ?_⟩, by simp [intOf]; omega⟩
        rw [HR.out, HS.out]
        constructor
        · rintro ⟨h1, h2⟩ j hj
          by_cases e : j = i
          · subst e; rw [HX.out, HY.out]; exact h2
          · exact h1 j (by omega)
        · intro h
          exact ⟨fun j hj => h j (by omega), by have := h i (by omega); rwa [HX.out, HY.out] at this⟩
      · have hie : i = s.size := by omega
        by_cases hd0 : d = 0
        · have hz : ((d : Int) == 0) = true := by rw [hd0]; rfl
          have HST : Hid (s = t) := bs_ext s t HL.out (fun j hj => HS.out.1 hd0 j (by omega))
          clear hd0
          go_wp2_with fail
          go_ret
          exact ⟨by rw [decide_eq_true HST.out]; rfl, HB.out⟩
        · have hz : ((d : Int) == 0) = false := by rw [beq_eq_false_iff_ne]; omega
          have HST : Hid (¬ s = t) := fun e => hd0 (HS.out.2 (fun j hj => by rw [e]))
          clear hd0
          go_wp2_with fail
          go_ret
          exact ⟨by rw [decide_eq_false HST.out]; rfl, HB.out⟩
  · rw [decide_eq_false (fun e => hl (by rw [e]))]
    have hle : ((s.size : Int) == (t.size : Int)) = false := by rw [beq_eq_false_iff_ne]; omega
    clear hl
    go_enter Tryd.func19, Tryd.ntmps19
    go_wp2_with fail
    go_ret
    exact ⟨rfl, Below.refl _ _⟩
end Go.Proofs.YthdoeaiehajofaaDoor
