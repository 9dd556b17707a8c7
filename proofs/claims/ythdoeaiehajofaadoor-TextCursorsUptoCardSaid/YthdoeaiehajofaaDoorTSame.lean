/- The program's Same; the law's same. -/
import Derived.Test.YthdoeaiehajofaaDoorTRFrom
namespace Go.Proofs.YthdoeaiehajofaaDoor
set_option linter.unusedVariables false
set_option maxRecDepth 20000
open Go.RowKit
theorem zs_ext (zs ys : List Int) (hl : zs.length = ys.length) (h : ∀ i, i < zs.length → zs.getD i 0 = ys.getD i 0) : zs = ys := by
  refine List.ext_getElem hl fun i h1 h2 => ?_
  have := h i h1
  rwa [List.getD_eq_getElem?_getD, List.getElem?_eq_getElem h1, List.getD_eq_getElem?_getD, List.getElem?_eq_getElem h2] at this
theorem lsameLen (v u : Value) (zs ys : List Int) (w : World) (h : Ints w v zs) (k : Ints w u ys) (hl : zs.length ≠ ys.length) (h1 : zs.length ≤ 1099511627776) (h2 : ys.length ≤ 1099511627776) :
    Calls Tryd.prog 17 #[v, u] w fun e w' => e = .returned (.bool false) ∧ Below w.heap.size w w' := by
  obtain ⟨p, c, rfl, _⟩ := h.form
  obtain ⟨q, d, rfl, _⟩ := k.form
  obtain ⟨n, hn⟩ : ∃ n, n = zs.length := ⟨_, rfl⟩
  obtain ⟨m, hm⟩ : ∃ m, m = ys.length := ⟨_, rfl⟩
  rw [← hn, ← hm] at hl
  rw [← hn] at h1 ⊢
  rw [← hm] at h2 ⊢
  have h0 : ((n : Int) == (m : Int)) = false := by rw [beq_eq_false_iff_ne]; omega
  clear h k hn hm
  go_enter Tryd.func17, Tryd.ntmps17
  go_wp2_with fail
  go_ret
  exact ⟨rfl, Below.refl _ _⟩
set_option maxHeartbeats 1000000 in
theorem lsameEq (v u : Value) (zs ys : List Int) (w : World) (h : Ints w v zs) (k : Ints w u ys) (hl : zs.length = ys.length) (h1 : zs.length ≤ 1099511627776) :
    Calls Tryd.prog 17 #[v, u] w fun e w' => e = .returned (.bool (decide (zs = ys))) ∧ Below w.heap.size w w' := by
  obtain ⟨p, c, rfl, hc⟩ := h.form
  obtain ⟨q, d, rfl, hd⟩ := k.form
  obtain ⟨n, hn⟩ : ∃ n, n = zs.length := ⟨_, rfl⟩
  rw [← hl]
  rw [← hn] at h1 ⊢
  have HL := Lib.hid hl
  have HN := Lib.hid hn
  have HC := Lib.hid hc
  have HD := Lib.hid hd
  clear h k hn hl hc hd
  go_enter Tryd.func17, Tryd.ntmps17
  go_wp2_with fail
  go_loopw [5] (fun vi wr => ∃ i : Nat, i ≤ n ∧ vi = .int .i64 (i : Nat) ∧ Below w.heap.size w wr ∧ (∀ j, j < i → zs.getD j 0 = ys.getD j 0)) (fun vi _ => (n - intOf vi).toNat)
  case atStart => exact ⟨0, by omega, rfl, Below.refl _ _, fun j hj => by omega⟩
  case round =>
    obtain ⟨i, hi, rfl, hb, hs⟩ := hrel
    have HB := Lib.hid hb
    have HS := Lib.hid hs
    by_cases hlt : i < n
    · obtain ⟨b1, o1, rfl, x1⟩ := HC.out i (by rw [← HN.out]; exact hlt)
      obtain ⟨b2, o2, rfl, x2⟩ := HD.out i (by rw [← HL.out, ← HN.out]; exact hlt)
      have y1 := (hb.cell (block_lt_of_cell x1)).trans x1
      have y2 := (hb.cell (block_lt_of_cell x2)).trans x2
      obtain ⟨s, hs1⟩ : ∃ s, s = zs.getD i 0 := ⟨_, rfl⟩
      obtain ⟨t, ht1⟩ : ∃ t, t = ys.getD i 0 := ⟨_, rfl⟩
      rw [← hs1] at y1
      rw [← ht1] at y2
      have S1 := Lib.hid hs1
      have T1 := Lib.hid ht1
      clear hb hs x1 x2 hs1 ht1
      by_cases hst : s = t
      · have hsd : (s == t) = true := beq_iff_eq.2 hst
        have HST := Lib.hid hst
        clear hst
        go_wp2_with fail
        go_region
        go_wp2_with fail
        refine ⟨⟨i + 1, by omega, rfl, HB.out.drew, fun j hj => ?_⟩, by simp [intOf]; omega⟩
        by_cases e : j = i
        · subst e; rw [← S1.out, ← T1.out]; exact HST.out
        · exact HS.out j (by omega)
      · have hsd : (s == t) = false := beq_eq_false_iff_ne.2 hst
        go_wp2_with fail
        go_region
        go_wp2_with fail
        go_ret
        refine ⟨?_, HB.out.drew⟩
        have hne : zs ≠ ys := fun e => hst (by rw [S1.out, T1.out, e])
        rw [decide_eq_false hne]
        rfl
    · have hie : i = n := by omega
      go_wp2_with fail
      go_ret
      refine ⟨?_, HB.out⟩
      rw [decide_eq_true (zs_ext zs ys HL.out (fun j hj => HS.out j (by rw [hie, HN.out]; exact hj)))]
      rfl
theorem lsameW (v u : Value) (zs ys : List Int) (w : World) (h : Ints w v zs) (k : Ints w u ys) (h1 : zs.length ≤ 1099511627776) (h2 : ys.length ≤ 1099511627776) :
    Calls Tryd.prog 17 #[v, u] w fun e w' => e = .returned (.bool (decide (zs = ys))) ∧ Below w.heap.size w w' := by
  by_cases hl : zs.length = ys.length
  · exact lsameEq v u zs ys w h k hl h1
  · rw [decide_eq_false (fun e => hl (by rw [e]))]
    exact lsameLen v u zs ys w h k hl h1 h2
end Go.Proofs.YthdoeaiehajofaaDoor
