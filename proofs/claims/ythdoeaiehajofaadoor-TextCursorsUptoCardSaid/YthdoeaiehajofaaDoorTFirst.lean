/- The document's first. -/
import Derived.Test.YthdoeaiehajofaaDoorTRune
import Derived.Test.YthdoeaiehajofaaDoorRU
import Derived.Deep.CutBlock
import Derived.Deep.CutRange
import Derived.Deep.DeepCutAuto
namespace Go.Proofs.YthdoeaiehajofaaDoor
set_option linter.unusedVariables false
set_option maxRecDepth 20000
open Go.RowKit
def FirstPost (w : World) (s : ByteArray) (e : Ending) (w' : World) : Prop := Below w.heap.size w w' ∧
  ((∃ n x, U.may n ∧ bs s = U.enc n ++ x ∧ e = .returned (.tuple #[.int .i64 (n : Int), .int .i64 ((U.enc n).length : Nat)])) ∨
   ((∀ n x, U.may n → bs s ≠ U.enc n ++ x) ∧ e = .returned (.tuple #[.int .i64 0, .int .i64 0])))
theorem getD_of (s : ByteArray) (k x : Nat) (h : k < s.size) (e : s[k].toNat = x) : (bs s).getD k 0 = x := by rw [← e, get_bs s k h]
theorem byte_lt (s : ByteArray) (k x : Nat) (h : k < s.size) (e : s[k].toNat = x) : x < 256 := by rw [← e]; exact UInt8.toNat_lt _
theorem toList_beq (s t : ByteArray) : (s.toList == t.toList) = decide (s = t) := by
  by_cases h : s = t
  · subst h; simp
  · rw [decide_eq_false h, beq_eq_false_iff_ne]
    intro e
    rw [ByteArray.toList_eq, ByteArray.toList_eq] at e
    exact h (ByteArray.ext (Array.toList_inj.1 e))
theorem first_hit {w w2 w3 : World} {s u t : ByteArray} {N i : Nat} {e : Ending} (h1 : Below w.heap.size w w2) (h2 : Below w2.heap.size w2 w3) (hN : N = U.num (bs s) i) (hl : i ≤ (bs s).length) (hm : U.may N) (hu : bs u = U.enc N) (ht : bs t = (bs s).take i) (hut : u = t)
    (he : e = .returned (.tuple #[.int .i64 (N : Int), .int .i64 (i : Nat)])) : FirstPost w s e w3 := by
  have hh : U.hit (bs s) i := ⟨hl, by rw [← hN]; exact hm, by rw [← hN, ← hu, hut, ht]⟩
  obtain ⟨_, h4, h5⟩ := U.of_hit hh
  rw [← hN] at h4 h5
  exact ⟨h1.trans (h2.mono h1.size), .inl ⟨N, _, hm, h4, by rw [h5]; exact he⟩⟩
theorem first_no {s u t : ByteArray} {N i : Nat} (hn : ∀ j, 1 ≤ j → j < i → ¬ U.hit (bs s) j) (hN : N = U.num (bs s) i) (hu : bs u = U.enc N) (ht : bs t = (bs s).take i) (hut : ¬ u = t) : ∀ j, 1 ≤ j → j < i + 1 → ¬ U.hit (bs s) j := by
  intro j h1 h2 hh
  by_cases e : j = i
  · subst e
    exact hut (bs_inj (by rw [hu, ht, hN]; exact hh.2.2))
  · exact hn j h1 (by omega) hh
theorem first_not {s : ByteArray} {N i : Nat} (hn : ∀ j, 1 ≤ j → j < i → ¬ U.hit (bs s) j) (hN : N = U.num (bs s) i) (hm : ¬ U.may N) : ∀ j, 1 ≤ j → j < i + 1 → ¬ U.hit (bs s) j := by
  intro j h1 h2 hh
  by_cases e : j = i
  · subst e
    exact hm (by rw [hN]; exact hh.2.1)
  · exact hn j h1 (by omega) hh
theorem first_none {s : ByteArray} {i : Nat} (hn : ∀ j, 1 ≤ j → j < i → ¬ U.hit (bs s) j) (hi : i = 5 ∨ s.size < i) : ∀ n x, U.may n → bs s ≠ U.enc n ++ x := by
  intro n x hm he
  have h1 := (U.hit_of hm he).1
  have h2 := U.enc_length n
  have h3 := h1.1
  rw [length_bs] at h3
  exact hn _ h2.1 (by omega) h1
set_option maxHeartbeats 8000000 in
theorem firstW (s : ByteArray) (w : World) (hs : s.size ≤ 16777216) : Calls Tryd.prog 57 #[.string s] w (FirstPost w s) := by
  go_enter Tryd.func57, Tryd.ntmps57
  go_wp2_with fail
  go_loopw [4] (fun v4 wr => ∃ i : Nat, 1 ≤ i ∧ i ≤ 5 ∧ i ≤ s.size + 1 ∧ v4 = .int .i64 (i : Nat) ∧ Below w.heap.size w wr ∧ ∀ j, 1 ≤ j → j < i → ¬ U.hit (bs s) j) (fun v4 _ => (5 - intOf v4).toNat)
  case atStart => exact ⟨1, by omega, by omega, by omega, rfl, Below.refl _ _, fun j h1 h2 => by omega⟩
  case round =>
    obtain ⟨i, hi1, hi5, hi6, rfl, hb, hn⟩ := hrel
    have HB := Lib.hid hb
    have HN := Lib.hid hn
    clear hb hn
    by_cases hend : i = 5 ∨ s.size < i
    · have HE := Lib.hid hend
      by_cases h5 : i = 5
      · subst h5
        clear hend
        go_wp2_with fail
        go_ret2
        exact ⟨HB.out, .inr ⟨first_none HN.out (.inl rfl), rfl⟩⟩
      · have hle : i ≤ 4 := by omega
        have hlt : s.size < i := by omega
        clear hend h5
        go_wp2_with fail
        go_ret2
        exact ⟨HB.out, .inr ⟨first_none HN.out HE.out, rfl⟩⟩
    · have h4 : i = 1 ∨ i = 2 ∨ i = 3 ∨ i = 4 := by omega
      have hsz : i ≤ s.size := by omega
      have p0 : 0 < s.size := by omega
      have hle : i ≤ 4 := by omega
      have H4 := Lib.hid h4
      clear hend hi5 hi6 h4
      go_upto_block 2 with fail
      go_cut [4, 5] (fun v4 v5 wx => v4 = .int .i64 (i : Nat) ∧ v5 = .int .i64 ((U.num (bs s) i : Nat) : Int) ∧ Below w.heap.size w wx)
      case first =>
        rcases H4.out with rfl | rfl | rfl | rfl
        · have b0 : 0 < s.size := p0
          obtain ⟨x0, hx0⟩ : ∃ x, s[0].toNat = x := ⟨_, rfl⟩
          have b0 := byte_lt s 0 x0 p0 hx0
          have g0 := getD_of s 0 x0 p0 hx0
          have Y : Hid (((U.num (bs s) 1 : Nat) : Int) = (x0 : Int)) := by unfold Hid U.num; simp only; rw [g0]
          clear g0
          go_wp2_with fail
          go_meet
          rw [Y.out]
          refine ⟨rfl, ?_, HB.out⟩
          first | rfl | (congr 1; rw [wrap64_of] <;> omega) | (congr 1; unfold wrap64; omega)
        · have b0 : 0 < s.size := p0
          have p1 : 1 < s.size := by omega
          obtain ⟨x0, hx0⟩ : ∃ x, s[0].toNat = x := ⟨_, rfl⟩
          have b0 := byte_lt s 0 x0 p0 hx0
          have g0 := getD_of s 0 x0 p0 hx0
          obtain ⟨x1, hx1⟩ : ∃ x, s[1].toNat = x := ⟨_, rfl⟩
          have b1 := byte_lt s 1 x1 p1 hx1
          have g1 := getD_of s 1 x1 p1 hx1
          have Y : Hid (((U.num (bs s) 2 : Nat) : Int) = (x0 : Int) % 32 * 64 + (x1 : Int) % 64) := by unfold Hid U.num; simp only; rw [g0, g1]; omega
          clear g0 g1
          go_wp2_with fail
          go_region
          go_wp2_with fail
          go_meet
          rw [Y.out]
          exact ⟨rfl, rfl, HB.out.drew⟩
        · have b0 : 0 < s.size := p0
          have p1 : 1 < s.size := by omega
          have p2 : 2 < s.size := by omega
          obtain ⟨x0, hx0⟩ : ∃ x, s[0].toNat = x := ⟨_, rfl⟩
          have b0 := byte_lt s 0 x0 p0 hx0
          have g0 := getD_of s 0 x0 p0 hx0
          obtain ⟨x1, hx1⟩ : ∃ x, s[1].toNat = x := ⟨_, rfl⟩
          have b1 := byte_lt s 1 x1 p1 hx1
          have g1 := getD_of s 1 x1 p1 hx1
          obtain ⟨x2, hx2⟩ : ∃ x, s[2].toNat = x := ⟨_, rfl⟩
          have b2 := byte_lt s 2 x2 p2 hx2
          have g2 := getD_of s 2 x2 p2 hx2
          have Y : Hid (((U.num (bs s) 3 : Nat) : Int) = (x0 : Int) % 16 * 4096 + (x1 : Int) % 64 * 64 + (x2 : Int) % 64) := by unfold Hid U.num; simp only; rw [g0, g1, g2]; omega
          clear g0 g1 g2
          go_wp2_with fail
          go_region
          go_wp2_with fail
          go_meet
          rw [Y.out]
          exact ⟨rfl, rfl, HB.out.drew⟩
        · have b0 : 0 < s.size := p0
          have p1 : 1 < s.size := by omega
          have p2 : 2 < s.size := by omega
          have p3 : 3 < s.size := by omega
          obtain ⟨x0, hx0⟩ : ∃ x, s[0].toNat = x := ⟨_, rfl⟩
          have b0 := byte_lt s 0 x0 p0 hx0
          have g0 := getD_of s 0 x0 p0 hx0
          obtain ⟨x1, hx1⟩ : ∃ x, s[1].toNat = x := ⟨_, rfl⟩
          have b1 := byte_lt s 1 x1 p1 hx1
          have g1 := getD_of s 1 x1 p1 hx1
          obtain ⟨x2, hx2⟩ : ∃ x, s[2].toNat = x := ⟨_, rfl⟩
          have b2 := byte_lt s 2 x2 p2 hx2
          have g2 := getD_of s 2 x2 p2 hx2
          obtain ⟨x3, hx3⟩ : ∃ x, s[3].toNat = x := ⟨_, rfl⟩
          have b3 := byte_lt s 3 x3 p3 hx3
          have g3 := getD_of s 3 x3 p3 hx3
          have Y : Hid (((U.num (bs s) 4 : Nat) : Int) = (x0 : Int) % 8 * 262144 + (x1 : Int) % 64 * 4096 + (x2 : Int) % 64 * 64 + (x3 : Int) % 64) := by unfold Hid U.num; simp only; rw [g0, g1, g2, g3]; omega
          clear g0 g1 g2 g3
          go_wp2_with fail
          go_region
          go_wp2_with fail
          go_meet
          rw [Y.out]
          exact ⟨rfl, rfl, HB.out.drew⟩
      case rest =>
        obtain ⟨rfl, rfl, hb⟩ := hcut
        obtain ⟨N, hN⟩ : ∃ N, N = U.num (bs s) i := ⟨_, rfl⟩
        rw [← hN]
        have HNN := Lib.hid hN
        have bN : N ≤ 2097151 := by
          rw [hN]
          have h0 := U.getD_lt (bs_lt s) 0
          unfold U.num
          split <;> omega
        have HT : Hid (∀ w, (Instr.slice 9 (.string s) none (some (.int .i64 (i : Int))) none).run Tryd.prog w = .ok (.string (s.extract 0 i)) w) := fun w => cutTo s _ i rfl hsz w
        obtain ⟨t, ht⟩ : ∃ t, t = s.extract 0 i := ⟨_, rfl⟩
        rw [← ht] at HT
        have hcut := HT.out
        have hbt : bs t = (bs s).take i := by rw [ht, bs_extract, List.drop_zero]; rfl
        have HBT := Lib.hid hbt
        have LENH : Hid (i ≤ (bs s).length) := by unfold Hid; rw [length_bs]; exact hsz
        have HB2 := Lib.hid hb
        clear hN ht hbt hb
        by_cases hm : U.may N
        · have HM : Hid (∀ w, Calls Tryd.prog 67 #[.int .i64 (N : Int)] w fun e w' => e = .returned (.bool true) ∧ w' = w) := fun w => by
            have h := mayW N w (by omega)
            rw [decide_eq_true hm] at h; exact h
          have HMM := Lib.hid hm
          obtain ⟨u, hu⟩ : ∃ u, u = strOf (U.enc N) := ⟨_, rfl⟩
          have HR : Hid (∀ w, Calls Tryd.prog 44 #[.int .i64 (N : Int)] w fun e w' => e = .returned (.string u) ∧ Below w.heap.size w w') := fun w => by rw [hu]; exact rRuneW N hm.1 w
          have hbu : bs u = U.enc N := by rw [hu, bs_strOf _ (U.enc_lt N hm)]
          have HBU := Lib.hid hbu
          clear hm hu hbu
          by_cases hut : u = t
          · have hsd : (u.toList == t.toList) = true := by rw [toList_beq]; exact decide_eq_true hut
            have HUT := Lib.hid hut
            clear hut
            go_wp2_with fail
            go_region_with (first | (go_at_call 67; refine (HM.out _).mono ?_; rintro e w' ⟨rfl, rfl⟩) | (go_at_call 44; refine (HR.out _).mono ?_; rintro e w3 ⟨rfl, hb3⟩))
            all_goals go_wp2_with fail
            all_goals go_ret2
            all_goals exact first_hit HB2.out.drew hb3 HNN.out LENH.out HMM.out HBU.out HBT.out HUT.out rfl
          · have hsd : (u.toList == t.toList) = false := by rw [toList_beq]; exact decide_eq_false hut
            have HUT := Lib.hid hut
            clear hut
            go_wp2_with fail
            go_region_with (first | (go_at_call 67; refine (HM.out _).mono ?_; rintro e w' ⟨rfl, rfl⟩) | (go_at_call 44; refine (HR.out _).mono ?_; rintro e w3 ⟨rfl, hb3⟩))
            all_goals go_wp2_with fail
            all_goals exact ⟨⟨i + 1, by omega, by omega, by omega, rfl, HB2.out.drew.trans (hb3.mono HB2.out.drew.size), first_no HN.out HNN.out HBU.out HBT.out HUT.out⟩, by simp [intOf]; omega⟩
        · have HM : Hid (∀ w, Calls Tryd.prog 67 #[.int .i64 (N : Int)] w fun e w' => e = .returned (.bool false) ∧ w' = w) := fun w => by
            have h := mayW N w (by omega)
            rw [decide_eq_false hm] at h; exact h
          have HMM := Lib.hid hm
          clear hm
          go_wp2_with fail
          refine wp_region_U 9 (fun u => u = wc.drew) (by kernel_rfl) ?_
          change wpAnyU _ _ _ _ _ _ 10 (Array.replicate 10 false) _ _
          have HW : (fun u => u = wc.drew) wc.drew := rfl
          refine takeU 0 (v := ?_) rfl (by kernel_rfl) (by kernel_rfl) (fun _ _ _ h => h) rfl (fun u hu => ?_) HW ?_
          rotate_left
          · skip; go_simp <;> with_reducible rfl
          simp only [Act.put, List.setIfInBounds_toArray, List.set_cons_zero, List.set_cons_succ]
          refine oneU 1 (by kernel_rfl) ?_
          refine callU 1 rfl (by kernel_rfl) rfl 67 _ _ rfl #[.int .i64 (N : Int)] (by simp [Act.eval]) (enters_of Tryd.func67 (by kernel_rfl) rfl) (fun v w' => v = .bool false ∧ w' = wc.drew) ((HM.out _).mono fun e w' h => ⟨_, h.1, rfl, h.2⟩) ?_
          rintro _ _ ⟨rfl, rfl⟩
          refine ⟨rfl, ?_⟩
          simp only [Act.put, List.setIfInBounds_toArray, List.set_cons_zero, List.set_cons_succ]
          refine takeU 2 (v := ?_) rfl (by kernel_rfl) (by kernel_rfl) (fun _ _ _ h => h) rfl (fun u hu => ?_) HW ?_
          rotate_left
          · skip; go_simp <;> with_reducible rfl
          simp only [Act.put, List.setIfInBounds_toArray, List.set_cons_zero, List.set_cons_succ]
          refine skipU 3 rfl (by kernel_rfl) (by kernel_rfl) (fun _ _ _ h => h) rfl HW ?_
          simp only [Act.put, List.setIfInBounds_toArray, List.set_cons_zero, List.set_cons_succ]
          refine skipU 4 rfl (by kernel_rfl) (by kernel_rfl) (fun _ _ _ h => h) rfl HW ?_
          simp only [Act.put, List.setIfInBounds_toArray, List.set_cons_zero, List.set_cons_succ]
          refine skipU 5 rfl (by kernel_rfl) (by kernel_rfl) (fun _ _ _ h => h) rfl HW ?_
          simp only [Act.put, List.setIfInBounds_toArray, List.set_cons_zero, List.set_cons_succ]
          refine skipU 6 rfl (by kernel_rfl) (by kernel_rfl) (fun _ _ _ h => h) rfl HW ?_
          simp only [Act.put, List.setIfInBounds_toArray, List.set_cons_zero, List.set_cons_succ]
          refine skipU 7 rfl (by kernel_rfl) (by kernel_rfl) (fun _ _ _ h => h) rfl HW ?_
          simp only [Act.put, List.setIfInBounds_toArray, List.set_cons_zero, List.set_cons_succ]
          refine skipU 8 rfl (by kernel_rfl) (by kernel_rfl) (fun _ _ _ h => h) rfl HW ?_
          simp only [Act.put, List.setIfInBounds_toArray, List.set_cons_zero, List.set_cons_succ]
          refine oneU 9 (by kernel_rfl) ?_
          refine endU (v := ?_) 9 rfl (by kernel_rfl) (by kernel_rfl) rfl ?_ ?_
          rotate_left
          · go_simp <;> with_reducible rfl
          simp only [Act.put, List.setIfInBounds_toArray, List.set_cons_zero, List.set_cons_succ]
          go_wp2_with fail
          refine ⟨⟨i + 1, by omega, by omega, by omega, rfl, HB2.out.drew, first_not HN.out HNN.out HMM.out⟩, by simp [intOf]; omega⟩
end Go.Proofs.YthdoeaiehajofaaDoor
