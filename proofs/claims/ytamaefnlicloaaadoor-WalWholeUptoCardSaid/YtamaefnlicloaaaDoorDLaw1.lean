/- What the laws of the disk share: place, Same, New. -/
import Derived.Test.YtamaefnlicloaaaDoorDWalk8
import Derived.RegionTactic
import Derived.ChangeAlike
namespace Go.Proofs.YtamaefnlicloaaaDoor
set_option linter.unusedVariables false
open Go.RowKit
theorem tmod_emod (n : Int) (m : Nat) (hm : 0 < m) : n % (m : Int) = if n.tmod m < 0 then n.tmod m + m else n.tmod m := by
  have h1 : -(m : Int) < n.tmod m := by have := Int.lt_tmod_of_pos n (show (0 : Int) < m by omega); omega
  have h2 : n.tmod m < (m : Int) := Int.tmod_lt_of_pos n (by omega)
  have h : n % (m : Int) = (n.tmod m) % (m : Int) := by
    conv => lhs; rw [← Int.mul_tdiv_add_tmod n m]
    rw [Int.mul_add_emod_self_left]
  rw [h]
  split
  · rw [← Int.add_emod_right, Int.emod_eq_of_lt (by omega) (by omega)]
  · rw [Int.emod_eq_of_lt (by omega) (by omega)]
set_option maxHeartbeats 400000 in
theorem placeW (n : Int) (m : Nat) (hm : 0 < m) (hm2 : m ≤ 1048576) (w : World) : Calls Tryd.prog 15 #[.int .i64 n, .int .i64 (m : Nat)] w fun e w' => e = .returned (.int .i64 (n % (m : Nat))) ∧ w = w' := by
  rw [tmod_emod n m hm]
  have h1 : -(m : Int) < n.tmod m := by have := Int.lt_tmod_of_pos n (show (0 : Int) < m by omega); omega
  have h2 : n.tmod m < (m : Int) := Int.tmod_lt_of_pos n (by omega)
  have h0 : ((m : Int) == 0) = false := by rw [beq_eq_false_iff_ne]; omega
  obtain ⟨r, hr⟩ : ∃ r, r = n.tmod m := ⟨_, rfl⟩
  rw [← hr] at h1 h2 ⊢
  by_cases hn : r < 0
  · rw [if_pos hn]
    go_enter Tryd.func15, Tryd.ntmps15
    go_wp2_with fail
    go_ret
    exact ⟨by rw [hr]; rfl, rfl⟩
  · rw [if_neg hn]
    go_enter Tryd.func15, Tryd.ntmps15
    go_wp2_with fail
    go_ret
    exact ⟨by subst hr; rfl, rfl⟩
theorem toList_beq (s t : ByteArray) : (s.toList == t.toList) = decide (s = t) := by
  by_cases h : s = t
  · subst h; simp
  · rw [decide_eq_false h, beq_eq_false_iff_ne]
    intro e
    rw [ByteArray.toList_eq, ByteArray.toList_eq] at e
    exact h (ByteArray.ext (Array.toList_inj.1 e))
theorem getD_ext (ss ts : List ByteArray) (hl : ss.length = ts.length) (h : ∀ i, i < ss.length → ss.getD i ⟨#[]⟩ = ts.getD i ⟨#[]⟩) : ss = ts := by
  refine List.ext_getElem hl fun i h1 h2 => ?_
  have := h i h1
  rwa [List.getD_eq_getElem?_getD, List.getElem?_eq_getElem h1, List.getD_eq_getElem?_getD, List.getElem?_eq_getElem h2] at this
set_option maxHeartbeats 400000 in
theorem sameLen (v u : Value) (ss ts : List ByteArray) (w : World) (h : Strs w v ss) (k : Strs w u ts) (hl : ss.length ≠ ts.length) (h1 : ss.length ≤ 140737488355328) (h2 : ts.length ≤ 140737488355328) :
    Calls Tryd.prog 17 #[v, u] w fun e w' => e = .returned (.bool false) ∧ Below w.heap.size w w' := by
  obtain ⟨p, c, rfl, _⟩ := h.form
  obtain ⟨q, d, rfl, _⟩ := k.form
  obtain ⟨n, hn⟩ : ∃ n, n = ss.length := ⟨_, rfl⟩
  obtain ⟨m, hm⟩ : ∃ m, m = ts.length := ⟨_, rfl⟩
  rw [← hn, ← hm] at hl
  rw [← hn] at h1 ⊢
  rw [← hm] at h2 ⊢
  have h0 : ((n : Int) == (m : Int)) = false := by rw [beq_eq_false_iff_ne]; omega
  clear h k hn hm
  go_enter Tryd.func17, Tryd.ntmps17
  go_wp2_with fail
  go_ret
  exact ⟨rfl, Below.refl _ _⟩
set_option maxHeartbeats 400000 in
theorem sameEq (v u : Value) (ss ts : List ByteArray) (w : World) (h : Strs w v ss) (k : Strs w u ts) (hl : ss.length = ts.length) (h1 : ss.length ≤ 1048576) :
    Calls Tryd.prog 17 #[v, u] w fun e w' => e = .returned (.bool (decide (ss = ts))) ∧ Below w.heap.size w w' := by
  obtain ⟨p, c, rfl, hc⟩ := h.form
  obtain ⟨q, d, rfl, hd⟩ := k.form
  obtain ⟨n, hn⟩ : ∃ n, n = ss.length := ⟨_, rfl⟩
  rw [← hl]
  rw [← hn] at h1 ⊢
  have HL := Lib.hid hl
  have HN := Lib.hid hn
  have HC := Lib.hid hc
  have HD := Lib.hid hd
  clear h k hn hl hc hd
  go_enter Tryd.func17, Tryd.ntmps17
  go_wp2_with fail
  go_loopw [5] (fun vi wr => ∃ i : Nat, i ≤ n ∧ vi = .int .i64 (i : Nat) ∧ Below w.heap.size w wr ∧ (∀ j, j < i → ss.getD j ⟨#[]⟩ = ts.getD j ⟨#[]⟩)) (fun vi _ => (n - intOf vi).toNat)
  case atStart => exact ⟨0, by omega, rfl, Below.refl _ _, fun j hj => by omega⟩
  case round =>
    obtain ⟨i, hi, rfl, hb, hs⟩ := hrel
    have HB := Lib.hid hb
    have HS := Lib.hid hs
    by_cases hlt : i < n
    · obtain ⟨b1, o1, rfl, x1⟩ := HC.out i (by rw [← HN.out]; exact hlt)
      obtain ⟨b2, o2, rfl, x2⟩ := HD.out i (by rw [← HL.out, ← HN.out]; exact hlt)
      have y1 := (hb.cell (block_lt_of_cell x1)).trans x1
      have y2 := (hb.cell (block_lt_of_cell x2)).trans x2
      rw [show (ByteArray.empty : ByteArray) = ⟨#[]⟩ from rfl] at y1 y2
      obtain ⟨s, hs1⟩ : ∃ s, s = ss.getD i ⟨#[]⟩ := ⟨_, rfl⟩
      obtain ⟨t, ht1⟩ : ∃ t, t = ts.getD i ⟨#[]⟩ := ⟨_, rfl⟩
      rw [← hs1] at y1
      rw [← ht1] at y2
      have S1 := Lib.hid hs1
      have T1 := Lib.hid ht1
      clear hb hs x1 x2 hs1 ht1
      by_cases hst : s = t
      · have hsd : (s.toList == t.toList) = true := by rw [toList_beq]; exact decide_eq_true hst
        go_wp2_with fail
        go_region
        go_wp2_with fail
        refine ⟨⟨i + 1, by omega, rfl, HB.out.drew, fun j hj => ?_⟩, by simp [intOf]; omega⟩
        by_cases e : j = i
        · subst e; rw [← S1.out, ← T1.out]; exact hst
        · exact HS.out j (by omega)
      · have hsd : (s.toList == t.toList) = false := by rw [toList_beq]; exact decide_eq_false hst
        go_wp2_with fail
        go_region
        go_wp2_with fail
        go_ret
        refine ⟨?_, HB.out.drew⟩
        have hne : ss ≠ ts := fun e => hst (by rw [S1.out, T1.out, e])
        rw [decide_eq_false hne]
        rfl
    · have hie : i = n := by omega
      go_wp2_with fail
      go_ret
      refine ⟨?_, HB.out⟩
      rw [decide_eq_true (getD_ext ss ts HL.out (fun j hj => HS.out j (by rw [hie, HN.out]; exact hj)))]
      rfl
theorem sameW (v u : Value) (ss ts : List ByteArray) (w : World) (h : Strs w v ss) (k : Strs w u ts) (h1 : ss.length ≤ 1048576) (h2 : ts.length ≤ 1048576) :
    Calls Tryd.prog 17 #[v, u] w fun e w' => e = .returned (.bool (decide (ss = ts))) ∧ Below w.heap.size w w' := by
  by_cases hl : ss.length = ts.length
  · exact sameEq v u ss ts w h k hl h1
  · rw [decide_eq_false (fun e => hl (by rw [e]))]
    exact sameLen v u ss ts w h k hl (by omega) (by omega)
/-- New, whatever came in. -/
theorem newW {w : World} (v : Value) (ss : List ByteArray) (h : Strs w v ss) (hl : ss.length ≤ 1048576) (hm : ∀ i, i < ss.length → (ss.getD i ⟨#[]⟩).size ≤ 1048576) :
    Calls Tryd.prog 13 #[v] w fun e w' => Below w.heap.size w w' ∧
      ((newErr ss ≠ 0 ∧ e = .returned (.tuple #[.pointer none, .int .i64 (newErr ss)])) ∨
       (newErr ss = 0 ∧ ∃ b g cap, e = .returned (.tuple #[.pointer (some ⟨b, 0, none⟩), .int .i64 0]) ∧ IsDisk w' b g cap (newDk ss) ∧ w.heap.size ≤ b ∧ w.heap.size ≤ g)) := by
  by_cases hb : ss.length = 0 ∨ 32 < ss.length
  · have e0 : newErr ss = 160 := by unfold newErr; rw [if_pos hb]
    refine (newBad v ss h hb (by omega)).mono fun e w' ⟨h1, h2⟩ => ⟨h2, .inl ⟨by rw [e0]; decide, by rw [e0]; exact h1⟩⟩
  · refine (newGood v ss h (by omega) (by omega) (fun i hi => by have := hm i hi; omega)).mono fun e w' ⟨h2, h1⟩ => ⟨h2, ?_⟩
    rcases h1 with ⟨h3, h4⟩ | ⟨h3, h4⟩
    · have e0 : newErr ss = 161 := by unfold newErr; rw [if_neg hb, if_pos h3]
      exact .inl ⟨by rw [e0]; decide, by rw [e0]; exact h4⟩
    · have e0 : newErr ss = 0 := by unfold newErr; rw [if_neg hb, h3]; rfl
      exact .inr ⟨e0, h4⟩
/-- What a good New has seen. -/
theorem newErr_good {ss : List ByteArray} (h : newErr ss = 0) : 0 < ss.length ∧ ss.length ≤ 32 ∧ ∀ i, i < ss.length → (ss.getD i ⟨#[]⟩).size ≤ 262144 := by
  unfold newErr at h
  split at h
  · exact absurd h (by decide)
  split at h
  · exact absurd h (by decide)
  rename_i h1 h2
  refine ⟨by omega, by omega, fun i hi => ?_⟩
  rw [List.getD_eq_getElem?_getD, List.getElem?_eq_getElem hi]
  rw [Bool.not_eq_true, List.any_eq_false] at h2
  have := h2 _ (List.getElem_mem hi)
  simpa using this
theorem newDk_ok {ss : List ByteArray} (h : newErr ss = 0) : DOk (newDk ss) := by
  obtain ⟨h1, h2, h3⟩ := newErr_good h
  have hgd : ∀ i, i < ss.length → (newDk ss).l.getD i Fl.zero = ⟨ss.getD i ⟨#[]⟩, []⟩ := fun i hi => by
    show (ss.map fun s => (⟨s, []⟩ : Fl)).getD i Fl.zero = _
    rw [List.getD_eq_getElem?_getD, List.getElem?_map, List.getElem?_eq_getElem hi, List.getD_eq_getElem?_getD, List.getElem?_eq_getElem hi]; rfl
  have hl : (newDk ss).l.length = ss.length := List.length_map _
  refine ⟨by rw [hl]; exact h2, by rw [hl]; exact h1, fun i hi => ?_, fun i hi => ?_, Nat.zero_le _, fun i => Nat.zero_le _⟩
  · rw [hl] at hi; rw [hgd i hi, rd_safe]; exact h3 i hi
  · rw [hl] at hi; rw [hgd i hi]; exact Nat.zero_le _
end Go.Proofs.YtamaefnlicloaaaDoor
