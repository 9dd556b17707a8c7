/- Take, Byte, Within, Clone. -/
import Derived.Test.YthdoeaiehajofaaDoorTCur
namespace Go.Proofs.YthdoeaiehajofaaDoor
set_option linter.unusedVariables false
open Go.RowKit
set_option maxHeartbeats 1000000 in
theorem takeCW {b : Nat} {s : ByteArray} {k : Nat} (w : World) (n : Int) (h : IsC w b 70 s k) (hn1 : -9223372036854775808 ≤ n) (hn2 : n ≤ 9223372036854775807) :
    Calls Tryd.prog 23 #[.pointer (some ⟨b, 0, none⟩), .int .i64 n] w fun e w' => e = .returned (.tuple #[.string (took s k n).1, .int .i64 (took s k n).2.1]) ∧ IsC w' b 70 s (took s k n).2.2 ∧ w.grownBy w' (some b) := by
  unfold took
  by_cases hn : n < 0
  · rw [if_pos hn]
    go_enter Tryd.func23, Tryd.ntmps23
    go_wp2_with fail
    go_ret2
    exact ⟨rfl, h, World.grownBy.refl _ _⟩
  rw [if_neg hn]
  have hle := h.le
  have hsm := h.small
  by_cases hm : (s.size : Int) - k < n
  · rw [if_pos hm]
    have HH := Lib.hid h
    go_enter Tryd.func23, Tryd.ntmps23
    go_wp2_with (go_at_call 21; refine (leftCW _ HH.out).mono ?_; rintro e w' ⟨rfl, rfl⟩)
    go_ret2
    exact ⟨rfl, HH.out.drew, grown_drew (World.grownBy.refl _ _)⟩
  rw [if_neg hm]
  obtain ⟨m, rfl⟩ : ∃ m : Nat, n = m := ⟨n.toNat, by omega⟩
  rw [Int.toNat_natCast]
  have c0 := h.c0
  have c1 := h.c1
  have f1 := h.free 1
  have h2 := h.set (k + m) (by omega)
  have d0 := h2.c0
  have d1 := h2.c1
  have ee : ((k + m : Nat) : Int) = (k : Int) + (m : Int) := by omega
  rw [ee] at d0 d1
  have e1 : ((k : Int) + (m : Int) - (m : Int)) = (k : Int) := by omega
  have e2 : ((k : Int) + (m : Int)).toNat = k + m := by omega
  have hsl : ∀ w, (Instr.slice 9 (.string s) (some (.int .i64 (k : Int))) (some (.int .i64 ((k : Int) + (m : Int)))) none).run Tryd.prog w = .ok (.string (s.extract k (k + m))) w := fun w => cutS s _ _ k (k + m) rfl (by omega) (by omega) (by omega) w
  have HH := Lib.hid h
  have H2 := Lib.hid h2
  have EE := Lib.hid ee
  clear h h2 ee d0 d1
  go_enter Tryd.func23, Tryd.ntmps23
  go_wp2_with (go_at_call 21; refine (leftCW _ HH.out).mono ?_; rintro e w' ⟨rfl, rfl⟩)
  go_region
  go_wp2_with fail
  go_ret2
  refine ⟨?_, ?_, ?_⟩
  · rfl
  · have := H2.out.drew.drew
    rw [EE.out] at this
    exact this
  · exact grown_drew (grown_drew (grown_set (World.grownBy.refl _ _) _ rfl _))
theorem size_extract_le (s : ByteArray) (a b : Nat) : (s.extract a b).size ≤ s.size := by rw [ByteArray.size_extract]; omega
theorem get_bs (s : ByteArray) (k : Nat) (h : k < s.size) : s[k].toNat = (bs s).getD k 0 := by
  have h2 : k < s.data.size := h
  unfold bs
  rw [List.getD_eq_getElem?_getD, List.getElem?_map, Array.getElem?_toList, Array.getElem?_eq_getElem h2]
  rfl
/-- Byte. -/
theorem byteCW {b : Nat} {s : ByteArray} {k : Nat} (w : World) (h : IsC w b 70 s k) :
    Calls Tryd.prog 25 #[.pointer (some ⟨b, 0, none⟩)] w fun e w' =>
      (∃ hk : k < s.size, e = .returned (.tuple #[.int .u8 ((bs s).getD k 0 : Nat), .int .i64 0]) ∧ IsC w' b 70 s (k + 1) ∧ w.grownBy w' (some b)) ∨
      (k = s.size ∧ e = .returned (.tuple #[.int .u8 0, .int .i64 15]) ∧ IsC w' b 70 s k ∧ w.grownBy w' (some b)) := by
  have ht := takeCW w 1 h (by omega) (by omega)
  unfold took at ht
  rw [if_neg (by omega)] at ht
  have h1 := h.le
  by_cases hk : k < s.size
  · rw [if_neg (by omega)] at ht
    have hz : (s.extract k (k + 1)).size = 1 := by rw [ByteArray.size_extract]; omega
    obtain ⟨t, hT⟩ : ∃ t, t = s.extract k (k + 1) := ⟨_, rfl⟩
    rw [show k + (1 : Int).toNat = k + 1 from rfl] at ht
    rw [← hT] at ht hz
    have hz0 : 0 < t.size := by omega
    have hg : t[0].toNat = (bs s).getD k 0 := by
      rw [get_bs t 0 hz0, hT, bs_extract]
      simp [List.getD_eq_getElem?_getD]
    have HT := Lib.hid hT
    have HK := Lib.hid hk
    have HG := Lib.hid hg
    have HH := Lib.hid ht
    clear ht hT h hg
    go_enter Tryd.func25, Tryd.ntmps25
    go_wp2_with (go_at_call 23; refine HH.out.mono ?_; rintro e w' ⟨rfl, q1, q2⟩)
    go_ret2
    exact .inl ⟨HK.out, by rw [← HG.out]; rfl, q1, q2⟩
  · rw [if_pos (by omega)] at ht
    have hk2 : k = s.size := by omega
    have HH := Lib.hid ht
    have HK := Lib.hid hk2
    clear ht hk2 h
    go_enter Tryd.func25, Tryd.ntmps25
    go_wp2_with (go_at_call 23; refine HH.out.mono ?_; rintro e w' ⟨rfl, q1, q2⟩)
    go_ret2
    exact .inr ⟨HK.out, rfl, q1, q2⟩
/-- Within. -/
theorem withinCW {b : Nat} {s : ByteArray} {k : Nat} (w : World) (n : Int) (h : IsC w b 70 s k) (hn1 : -9223372036854775808 ≤ n) (hn2 : n ≤ 9223372036854775807) :
    Calls Tryd.prog 22 #[.pointer (some ⟨b, 0, none⟩), .int .i64 n] w fun e w' => IsC w' b 70 s (took s k n).2.2 ∧ w.grownBy w' (some b) ∧
      (((took s k n).2.1 ≠ 0 ∧ e = .returned (.tuple #[.pointer none, .int .i64 (took s k n).2.1])) ∨
       ((took s k n).2.1 = 0 ∧ ∃ c, w.heap.size ≤ c ∧ e = .returned (.tuple #[.pointer (some ⟨c, 0, none⟩), .int .i64 0]) ∧ IsC w' c 70 (took s k n).1 0)) := by
  have ht := takeCW w n h hn1 hn2
  have hsz : (took s k n).1.size ≤ 4611686018427387904 := by
    unfold took
    split
    · exact Nat.zero_le _
    split
    · exact Nat.zero_le _
    · exact Nat.le_trans (size_extract_le _ _ _) h.small
  obtain ⟨⟨t, x, m⟩, hR⟩ : ∃ r, r = took s k n := ⟨_, rfl⟩
  rw [← hR] at ht hsz ⊢
  simp only at ht hsz ⊢
  have HH := Lib.hid ht
  clear ht hR h hn1 hn2
  by_cases hx : x = 0
  · subst hx
    have HZ := Lib.hid hsz
    clear hsz
    go_enter Tryd.func22, Tryd.ntmps22
    go_wp2_with (first | (go_at_call 23; refine HH.out.mono ?_; rintro e w1 ⟨rfl, q1, q2⟩) | (go_at_call 20; refine (openW _ _).mono ?_; rintro e w' ⟨rfl, rfl⟩))
    go_ret2
    exact ⟨q1.same (Below.heap_alloc _ _ _ q1.lt), q2.trans (World.grownBy_alloc _ _ _), .inr ⟨trivial, _, q2.size, rfl, IsC.new _ _ _ HZ.out⟩⟩
  · have hb : (x == 0) = false := by rw [beq_eq_false_iff_ne]; exact hx
    have HX := Lib.hid hx
    clear hx
    go_enter Tryd.func22, Tryd.ntmps22
    go_wp2_with (first | (go_at_call 23; refine HH.out.mono ?_; rintro e w1 ⟨rfl, q1, q2⟩) | (go_at_call 20; refine (openW _ _).mono ?_; rintro e w' ⟨rfl, rfl⟩))
    go_ret2
    exact ⟨q1, q2, .inl ⟨HX.out, rfl⟩⟩
/-- Clone. -/
theorem cloneCW {b : Nat} {s : ByteArray} {k : Nat} (w : World) (h : IsC w b 70 s k) :
    Calls Tryd.prog 29 #[.pointer (some ⟨b, 0, none⟩)] w fun e w' => e = .returned (.pointer (some ⟨w.heap.size, 0, none⟩)) ∧ IsC w' w.heap.size 70 s k ∧ Below w.heap.size w w' := by
  have c0 := h.c0
  have c1 := h.c1
  have HH := Lib.hid h
  clear h
  go_enter Tryd.func29, Tryd.ntmps29
  go_wp2
  go_ret
  exact ⟨rfl, ⟨heap_alloc_new _ _, HH.out.le, HH.out.small⟩, (Below.refl _ _).alloc (Nat.le_refl _) _⟩
end Go.Proofs.YthdoeaiehajofaaDoor
