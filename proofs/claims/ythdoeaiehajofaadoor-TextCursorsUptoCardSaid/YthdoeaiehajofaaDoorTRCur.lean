/- The document's cursor: Take and Until. -/
import Derived.Test.YthdoeaiehajofaaDoorTCur3
namespace Go.Proofs.YthdoeaiehajofaaDoor
set_option linter.unusedVariables false
set_option maxRecDepth 20000
open Go.RowKit
set_option maxHeartbeats 1000000 in
theorem rtakeW {b : Nat} {s : ByteArray} {k : Nat} (w : World) (n : Int) (h : IsC w b 50 s k) (hn1 : -9223372036854775808 ≤ n) (hn2 : n ≤ 9223372036854775807) :
    Calls Tryd.prog 27 #[.pointer (some ⟨b, 0, none⟩), .int .i64 n] w fun e w' => e = .returned (.tuple #[.string (took s k n).1, .int .i64 (took s k n).2.1]) ∧ IsC w' b 50 s (took s k n).2.2 ∧ w.grownBy w' (some b) := by
  unfold took
  by_cases hn : n < 0
  · rw [if_pos hn]
    go_enter Tryd.func27, Tryd.ntmps27
    go_wp2_with fail
    go_ret2
    exact ⟨rfl, h, World.grownBy.refl _ _⟩
  rw [if_neg hn]
  have hle := h.le
  have hsm := h.small
  have c0 := h.c0
  have c1 := h.c1
  by_cases hm : (s.size : Int) - k < n
  · rw [if_pos hm]
    have HH := Lib.hid h
    clear h
    go_enter Tryd.func27, Tryd.ntmps27
    go_wp2_with fail
    go_region
    go_wp2_with fail
    go_ret2
    exact ⟨rfl, HH.out.drew, grown_drew (World.grownBy.refl _ _)⟩
  rw [if_neg hm]
  obtain ⟨m, rfl⟩ : ∃ m : Nat, n = m := ⟨n.toNat, by omega⟩
  rw [Int.toNat_natCast]
  have f1 := h.free 1
  have h2 := h.set (k + m) (by omega)
  have ee : ((k + m : Nat) : Int) = (k : Int) + (m : Int) := by omega
  have e1 : ((k : Int) + (m : Int) - (m : Int)) = (k : Int) := by omega
  have hsl : ∀ w, (Instr.slice 9 (.string s) (some (.int .i64 (k : Int))) (some (.int .i64 ((k : Int) + (m : Int)))) none).run Tryd.prog w = .ok (.string (s.extract k (k + m))) w := fun w => cutS s _ _ k (k + m) rfl (by omega) (by omega) (by omega) w
  have H2 := Lib.hid h2
  have EE := Lib.hid ee
  clear h h2 ee
  go_enter Tryd.func27, Tryd.ntmps27
  go_wp2_with fail
  go_region
  go_wp2_with fail
  go_region
  go_wp2_with fail
  go_ret2
  refine ⟨rfl, ?_, ?_⟩
  · have := H2.out.drew.drew
    rw [EE.out] at this
    exact this
  · exact grown_drew (grown_drew (grown_set (World.grownBy.refl _ _) _ rfl _))
theorem not_idx {c : Nat} {l : List Nat} {i : Nat} (h : ∀ j, j < i → l.getD j 0 ≠ c) (hi : i ≤ l.length) : i ≤ l.idxOf c := by
  induction l generalizing i with
  | nil => simpa using hi
  | cons a l ih =>
    rw [List.idxOf_cons]
    cases i with
    | zero => omega
    | succ i =>
      have h0 := h 0 (by omega)
      rw [show (a == c) = false from beq_eq_false_iff_ne.2 (by simpa using h0)]
      have := ih (i := i) (fun j hj => by have := h (j + 1) (by omega); simpa using this) (by simpa using hi)
      simp; omega
theorem idx_is {c : Nat} {l : List Nat} {i : Nat} (h : ∀ j, j < i → l.getD j 0 ≠ c) (hi : i < l.length) (hc : l.getD i 0 = c) : l.idxOf c = i := by
  have h1 := not_idx h (by omega)
  rcases Nat.lt_or_ge i (l.idxOf c) with h2 | h2
  · have h3 : l.idxOf c ≤ i := by
      clear h h1 h2
      induction l generalizing i with
      | nil => simp at hi
      | cons a l ih =>
        rw [List.idxOf_cons]
        cases i with
        | zero => rw [show (a == c) = true by simpa using hc]; simp
        | succ i =>
          cases hac : (a == c)
          · have := ih (i := i) (by simpa using hi) (by simpa using hc)
            simp; omega
          · simp
    omega
  · omega
set_option maxHeartbeats 1000000 in
theorem runtilW {b : Nat} {s : ByteArray} {k : Nat} (w : World) (c : Nat) (hc : c < 256) (h : IsC w b 50 s k) :
    Calls Tryd.prog 28 #[.pointer (some ⟨b, 0, none⟩), .int .u8 (c : Nat)] w fun e w' => e = .returned (.tuple #[.string (till s k c).1, .int .i64 (till s k c).2.1]) ∧ IsC w' b 50 s (till s k c).2.2 ∧ w.grownBy w' (some b) := by
  have hle := h.le
  have hsm := h.small
  have c0 := h.c0
  have c1 := h.c1
  have f1 := h.free 1
  obtain ⟨R, hR⟩ : ∃ R, R = till s k c := ⟨_, rfl⟩
  rw [← hR]
  have HH := Lib.hid h
  have HR := Lib.hid hR
  clear h hR
  go_enter Tryd.func28, Tryd.ntmps28
  go_wp2_with fail
  go_loopw [6] (fun vi wr => ∃ i : Nat, k ≤ i ∧ i ≤ s.size ∧ vi = .int .i64 (i : Nat) ∧ wr = w ∧ (∀ j, j < i - k → ((bs s).drop k).getD j 0 ≠ c)) (fun vi _ => (s.size - intOf vi).toNat)
  case atStart => exact ⟨k, by omega, hle, rfl, rfl, fun j hj => by omega⟩
  case round =>
    obtain ⟨i, hi1, hi2, rfl, rfl, hno⟩ := hrel
    have HN := Lib.hid hno
    clear hno
    by_cases hlt : i < s.size
    · have hg : s[i].toNat = (bs s).getD i 0 := get_bs s i hlt
      obtain ⟨x, hx⟩ : ∃ x, x = s[i].toNat := ⟨_, rfl⟩
      have hdi : ((bs s).drop k).getD (i - k) 0 = x := by rw [hx, hg, List.getD_eq_getElem?_getD, List.getElem?_drop, List.getD_eq_getElem?_getD, show k + (i - k) = i by omega]
      have HD := Lib.hid hdi
      clear hg hdi
      by_cases hxc : x = c
      · subst hxc
        have hb : ((s[i].toNat : Int) == (x : Int)) = true := by rw [← hx]; exact beq_self_eq_true _
        have h2 := HH.out.set (i + 1) (by omega)
        have hsl : ∀ w, (Instr.slice 9 (.string s) (some (.int .i64 (k : Int))) (some (.int .i64 (i : Int))) none).run Tryd.prog w = .ok (.string (s.extract k i)) w := fun w => cutS s _ _ k i rfl rfl (by omega) (by omega) w
        have H2 := Lib.hid h2
        clear h2 hx
        go_wp2_with fail
        go_region
        go_wp2_with fail
        go_ret2
        have e : till s k x = (s.extract k i, 0, i + 1) := by
          unfold till
          have e1 : ((bs s).drop k).idxOf x = i - k := idx_is HN.out (by rw [List.length_drop, length_bs]; omega) HD.out
          rw [e1, if_pos (by omega), show k + (i - k) = i by omega]
        rw [HR.out, e]
        exact ⟨rfl, H2.out.drew, grown_drew (grown_set (World.grownBy.refl _ _) _ rfl _)⟩
      · have hb : ((s[i].toNat : Int) == (c : Int)) = false := by rw [← hx, beq_eq_false_iff_ne]; omega
        have HX := Lib.hid hxc
        clear hx hxc
        go_wp2_with fail
        refine ⟨⟨i + 1, by omega, by omega, rfl, trivial, fun j hj => ?_⟩, by simp [intOf]; omega⟩
        by_cases e : j = i - k
        · rw [e, HD.out]; exact HX.out
        · exact HN.out j (by omega)
    · go_wp2_with fail
      go_ret2
      have e : till s k c = (⟨#[]⟩, 17, k) := by
        unfold till
        have := not_idx HN.out (by rw [List.length_drop, length_bs]; omega)
        rw [if_neg (by omega)]
      rw [HR.out, e]
      exact ⟨rfl, HH.out, World.grownBy.refl _ _⟩
end Go.Proofs.YthdoeaiehajofaaDoor
