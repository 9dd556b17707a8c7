/- Until; the document's Take and Until. -/
import Derived.Test.YthdoeaiehajofaaDoorTCur2
import Derived.Test.YthdoeaiehajofaaDoorStep
namespace Go.Proofs.YthdoeaiehajofaaDoor
set_option linter.unusedVariables false
set_option maxRecDepth 20000
open Go.RowKit
/-- What Until answers. -/
def till (s : ByteArray) (k : Nat) (c : Nat) : ByteArray × Int × Nat :=
  if ((bs s).drop k).idxOf c < s.size - k then (s.extract k (k + ((bs s).drop k).idxOf c), 0, k + ((bs s).drop k).idxOf c + 1) else (⟨#[]⟩, 17, k)
theorem indexByte_list (c : Nat) (hc : c < 256) : ∀ l : List UInt8, Lib.indexByte l c.toUInt8 = if (l.map (·.toNat)).idxOf c < l.length then (((l.map (·.toNat)).idxOf c : Nat) : Int) else -1
  | [] => rfl
  | b :: l => by
    have ih := indexByte_list c hc l
    have e0 : (b == c.toUInt8) = (b.toNat == c) := by
      by_cases h : b.toNat = c
      · subst h
        rw [show b.toNat.toUInt8 = b from UInt8.ofNat_toNat]
        simp
      · have : ¬ b = c.toUInt8 := by
          rintro rfl
          apply h
          show (UInt8.ofNat c).toNat = c
          rw [UInt8.toNat_ofNat']
          exact Nat.mod_eq_of_lt hc
        rw [beq_eq_false_iff_ne.2 h, beq_eq_false_iff_ne.2 this]
    unfold Lib.indexByte
    rw [e0, ih, List.map_cons, List.idxOf_cons, List.length_cons]
    by_cases h : (b.toNat == c) = true
    · rw [if_pos h, h]; simp
    · rw [if_neg h, Bool.not_eq_true _ |>.mp h]
      by_cases h2 : (l.map (·.toNat)).idxOf c < l.length
      · rw [if_pos h2, if_neg (by rw [beq_iff_eq]; omega), if_pos (by simp; omega)]; simp
      · rw [if_neg h2, if_pos (by rfl), if_neg (by simp; omega)]
theorem indexByte_bs (s : ByteArray) (c : Nat) (hc : c < 256) : Lib.indexByte s.data.toList c.toUInt8 = if (bs s).idxOf c < s.size then (((bs s).idxOf c : Nat) : Int) else -1 := by
  rw [indexByte_list c hc]; rfl
set_option maxHeartbeats 1000000 in
theorem untilCW {b : Nat} {s : ByteArray} {k : Nat} (w : World) (c : Nat) (hc : c < 256) (h : IsC w b 70 s k) :
    Calls Tryd.prog 26 #[.pointer (some ⟨b, 0, none⟩), .int .u8 (c : Nat)] w fun e w' => e = .returned (.tuple #[.string (till s k c).1, .int .i64 (till s k c).2.1]) ∧ IsC w' b 70 s (till s k c).2.2 ∧ w.grownBy w' (some b) := by
  have hle := h.le
  have hsm := h.small
  obtain ⟨n, hn⟩ : ∃ n, n = ((bs s).drop k).idxOf c := ⟨_, rfl⟩
  obtain ⟨t, ht⟩ : ∃ t, t = s.extract k s.size := ⟨_, rfl⟩
  have hcut : ∀ w, (Instr.slice 9 (.string s) (some (.int .i64 (k : Int))) none none).run Tryd.prog w = .ok (.string t) w := fun w => by rw [ht]; exact cutFrom s _ k rfl hle w
  have hi : ∀ w, Calls Tryd.prog 45 #[.string t, .int .u8 (c : Nat)] w fun e w' => e = .returned (.int .i64 (if n < s.size - k then (n : Int) else -1)) ∧ w' = w := fun w => by
    refine (Tryd.strings_IndexByte t (c : Nat) w).mono fun e w' he => ?_
    rw [show ((c : Int)).toNat = c from Int.toNat_natCast c, indexByte_bs t c hc, ht, bs_from, ← hn, ByteArray.size_extract, Nat.min_self] at he
    exact he
  unfold till
  rw [← hn]
  have HI := Lib.hid hi
  have c0 := h.c0
  have c1 := h.c1
  by_cases hlt : n < s.size - k
  · rw [if_pos hlt]
    rw [if_pos hlt] at HI
    have hs : ∀ w, (Instr.slice 9 (.string (s.extract k (k + (n + 1)))) none (some (.int .i64 (n : Int))) none).run Tryd.prog w = .ok (.string (s.extract k (k + n))) w := fun w => by
      rw [cutTo (s.extract k (k + (n + 1))) _ n rfl (by rw [ByteArray.size_extract]; omega) w]
      congr 2
      apply bs_inj
      rw [bs_extract, bs_extract, bs_extract, List.drop_zero, List.take_take]
      congr 1
      omega
    have hk : ∀ w, IsC w b 70 s k → Calls Tryd.prog 23 #[.pointer (some ⟨b, 0, none⟩), .int .i64 ((n : Int) + 1)] w fun e w' => e = .returned (.tuple #[.string (s.extract k (k + (n + 1))), .int .i64 0]) ∧ IsC w' b 70 s (k + n + 1) ∧ w.grownBy w' (some b) := fun w h => by
      refine (takeCW w ((n : Int) + 1) h (by omega) (by omega)).mono fun e w' he => ?_
      unfold took at he
      rw [if_neg (by omega), if_neg (by omega), show ((n : Int) + 1).toNat = n + 1 by omega] at he
      exact he
    have HK := Lib.hid hk
    have HH := Lib.hid h
    have hn1 : n ≤ 4611686018427387904 := by omega
    clear hi hk h hn ht hlt
    go_enter Tryd.func26, Tryd.ntmps26
    go_wp2_with fail
    go_region_law (refine step_calls (by rfl) 45 _ _ (by rfl) #[.string t, .int .u8 (c : Nat)] (by simp [Act.eval, Act.put]) (enters_of Tryd.func45 (by kernel_rfl) rfl) (.int .i64 (n : Int)) _ (HI.out _) ?_; rintro _ rfl)
    all_goals go_wp2_with (go_at_call 23; refine (HK.out _ HH.out.drew).mono ?_; rintro e w' ⟨rfl, q1, q2⟩)
    all_goals go_ret2
    all_goals exact ⟨rfl, q1, (grown_drew (World.grownBy.refl _ _)).trans q2⟩
  · rw [if_neg hlt]
    rw [if_neg hlt] at HI
    have HH := Lib.hid h
    clear hi h hn ht hlt
    go_enter Tryd.func26, Tryd.ntmps26
    go_wp2_with fail
    go_region_law (refine step_calls (by rfl) 45 _ _ (by rfl) #[.string t, .int .u8 (c : Nat)] (by simp [Act.eval, Act.put]) (enters_of Tryd.func45 (by kernel_rfl) rfl) (.int .i64 (-1)) _ (HI.out _) ?_; rintro _ rfl)
    all_goals go_wp2_with fail
    all_goals go_ret2
    all_goals exact ⟨rfl, HH.out.drew, grown_drew (World.grownBy.refl _ _)⟩
end Go.Proofs.YthdoeaiehajofaaDoor
