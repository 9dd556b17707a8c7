/- The document's Hex. -/
import Derived.Test.YthdoeaiehajofaaDoorTHex
import Derived.Test.YthdoeaiehajofaaDoorRU
import Derived.Test.YthdoeaiehajofaaDoorLoose
namespace Go.Proofs.YthdoeaiehajofaaDoor
set_option linter.unusedVariables false
set_option maxRecDepth 100000
open Go.RowKit
set_option maxHeartbeats 2000000 in
theorem rhexW (s : ByteArray) (w : World) (hs : s.size ≤ 67108864) : Calls Tryd.prog 35 #[.string s] w fun e w' => e = .returned (.string (strOf (C.hexOf (bs s)))) ∧ Below w.heap.size w w' := by
  go_enter Tryd.func35, Tryd.ntmps35
  go_wp2_with fail
  go_loopw [3, 4] (fun v3 v wr => ∃ i : Nat, i ≤ s.size ∧ v = .int .i64 (i : Nat) ∧ Owns wr w.heap.size 5 v3 (C.hexOf ((bs s).take i)) ∧ Below w.heap.size w wr) (fun _ v _ => (s.size - intOf v).toNat)
  case atStart =>
    exact ⟨0, by omega, rfl, Owns.lit (l := []) w _ (Nat.le_refl _) (by simp [nums]) (by show 0 ≤ maxLen; decide), (Below.refl _ _).alloc (Nat.le_refl _) _⟩
  case round =>
    obtain ⟨i, hi, rfl, hown, hbe⟩ := hrel
    obtain ⟨p3, c3, rfl⟩ := hown.shape
    obtain ⟨L, hL⟩ : ∃ L, L = (C.hexOf ((bs s).take i)).length := ⟨_, rfl⟩
    rw [← hL] at hown ⊢
    have HO := Lib.hid hown
    have HE := Lib.hid hbe
    have HLEN : Hid (L ≤ 134217728) := by unfold Hid; rw [hL, C.hexOf_length, List.length_take]; omega
    have HL := Lib.hid hL
    clear hown hbe hL
    by_cases hlt : i < s.size
    · obtain ⟨x, hx⟩ : ∃ x, s[i].toNat = x := ⟨_, rfl⟩
      have bx : x < 256 := by rw [← hx]; exact UInt8.toNat_lt _
      have HX : Hid ((bs s).getD i 0 = x) := by unfold Hid; rw [← hx, get_bs s i hlt]
      have i1 := fun w => idxSm .u8 ((x : Int) / 16) (x / 16) (by omega) (by omega) w
      have i2 := fun w => idxSm .u8 ((x : Int) % 16) (x % 16) (by omega) (by omega) w
      have HT := Lib.hid (hexOf_take (bs s) i (by rw [length_bs]; exact hlt))
      rw [HX.out] at HT
      obtain ⟨y0, hy0⟩ : ∃ y, C.sm.getD (x / 16) 0 = y := ⟨_, rfl⟩
      obtain ⟨y1, hy1⟩ : ∃ y, C.sm.getD (x % 16) 0 = y := ⟨_, rfl⟩
      rw [hy0] at HT i1
      rw [hy1] at HT i2
      clear hy0 hy1
      have q1 : IntKind.u8.wrap ((x : Int) / 16) = (x : Int) / 16 := by rw [IntKind.wrap_u8]; omega
      have q2 : IntKind.u8.wrap ((x : Int) % 16) = (x : Int) % 16 := by rw [IntKind.wrap_u8]; omega
      have q3 : (x : Int).tmod 16 = (x : Int) % 16 := Int.tmod_eq_emod_of_nonneg (by omega)
      go_wp2_with fail
      refine wp_region_U 13 (fun _ => True) (by kernel_rfl) ?_
      change wpAnyU _ _ _ _ _ _ 14 (Array.replicate 14 false) _ _
      obtain ⟨w2, hw2⟩ : ∃ w2, w2 = wr.drew := ⟨_, rfl⟩
      rw [← hw2]
      have HO2 : Hid (Owns w2 w.heap.size 5 (.slice p3 L c3) (C.hexOf ((bs s).take i))) := by unfold Hid; rw [hw2]; exact HO.out.below (Below.refl _ _).drew
      have HB2 : Hid (Below w.heap.size w w2) := by unfold Hid; rw [hw2]; exact HE.out.drew
      clear hw2
      refine takeU 0 (v := ?_) rfl (by kernel_rfl) (by kernel_rfl) (fun _ _ _ h => h) rfl (fun u hu => ?_) trivial ?_
      rotate_left
      · skip; go_simp <;> with_reducible rfl
      simp only [Act.put, List.setIfInBounds_toArray, List.set_cons_zero, List.set_cons_succ]
      refine takeU 1 (v := ?_) rfl (by kernel_rfl) (by kernel_rfl) (fun _ _ _ h => h) rfl (fun u hu => ?_) trivial ?_
      rotate_left
      · skip; go_simp <;> with_reducible rfl
      simp only [Act.put, List.setIfInBounds_toArray, List.set_cons_zero, List.set_cons_succ]
      refine takeU 2 (v := ?_) rfl (by kernel_rfl) (by kernel_rfl) (fun _ _ _ h => h) rfl (fun u hu => ?_) trivial ?_
      rotate_left
      · skip; go_simp <;> with_reducible rfl
      simp only [Act.put, List.setIfInBounds_toArray, List.set_cons_zero, List.set_cons_succ]
      refine takeU 3 (v := ?_) rfl (by kernel_rfl) (by kernel_rfl) (fun _ _ _ h => h) rfl (fun u hu => ?_) trivial ?_
      rotate_left
      · skip; go_simp <;> with_reducible rfl
      simp only [Act.put, List.setIfInBounds_toArray, List.set_cons_zero, List.set_cons_succ]
      refine takeU 4 (v := ?_) rfl (by kernel_rfl) (by kernel_rfl) (fun _ _ _ h => h) rfl (fun u hu => ?_) trivial ?_
      rotate_left
      · skip; go_simp <;> with_reducible rfl
      simp only [Act.put, List.setIfInBounds_toArray, List.set_cons_zero, List.set_cons_succ]
      refine takeU 5 (v := ?_) rfl (by kernel_rfl) (by kernel_rfl) (fun _ _ _ h => h) rfl (fun u hu => ?_) trivial ?_
      rotate_left
      · skip; go_simp <;> with_reducible rfl
      simp only [Act.put, List.setIfInBounds_toArray, List.set_cons_zero, List.set_cons_succ]
      refine takeU 6 (v := ?_) rfl (by kernel_rfl) (by kernel_rfl) (fun _ _ _ h => h) rfl (fun u hu => ?_) trivial ?_
      rotate_left
      · skip; go_simp <;> with_reducible rfl
      simp only [Act.put, List.setIfInBounds_toArray, List.set_cons_zero, List.set_cons_succ]
      refine takeU 7 (v := ?_) rfl (by kernel_rfl) (by kernel_rfl) (fun _ _ _ h => h) rfl (fun u hu => ?_) trivial ?_
      rotate_left
      · skip; go_simp <;> with_reducible rfl
      simp only [Act.put, List.setIfInBounds_toArray, List.set_cons_zero, List.set_cons_succ]
      refine takeU 8 (v := ?_) rfl (by kernel_rfl) (by kernel_rfl) (fun _ _ _ h => h) rfl (fun u hu => ?_) trivial ?_
      rotate_left
      · skip; go_simp <;> with_reducible rfl
      simp only [Act.put, List.setIfInBounds_toArray, List.set_cons_zero, List.set_cons_succ]
      refine takeU 9 (v := ?_) rfl (by kernel_rfl) (by kernel_rfl) (fun _ _ _ h => h) rfl (fun u hu => ?_) trivial ?_
      rotate_left
      · skip; go_simp <;> with_reducible rfl
      simp only [Act.put, List.setIfInBounds_toArray, List.set_cons_zero, List.set_cons_succ]
      refine takeU 10 (v := ?_) rfl (by kernel_rfl) (by kernel_rfl) (fun _ _ _ h => h) rfl (fun u hu => ?_) trivial ?_
      rotate_left
      · skip; go_simp <;> with_reducible rfl
      simp only [Act.put, List.setIfInBounds_toArray, List.set_cons_zero, List.set_cons_succ]
      refine oneU 11 (by kernel_rfl) ?_
      refine someU 11 rfl (by kernel_rfl) ?_
      refine step_run rfl (.slice (some ⟨w2.heap.size, 0, none⟩) 2 2) (w2.alloc (.cells #[.int .u8 (y0 : Int), .int .u8 (y1 : Int)] 5)) (by go_simp) ?_
      refine ⟨trivial, ?_⟩
      simp only [Act.put, List.setIfInBounds_toArray, List.set_cons_zero, List.set_cons_succ]
      refine oneU 12 (by kernel_rfl) ?_
      refine someU 12 rfl (by kernel_rfl) ?_
      refine step_append_b rfl _ _ 36 rfl Tryd.underlying36 infoU8 rfl (HO2.out.alloc _) ⟨w2.heap.size, 0, none⟩ 2 2 [y0, y1] rfl rfl (fun j hj => by rcases j with _ | _ | j <;> first | (simp [Addr.add]; done) | omega) (by rw [← HL.out]; have := HLEN.out; omega) (by rw [szA]; have := HB2.out.size; omega) ?_
      intro v5 w5 ho5 hg5
      have HO5 := Lib.hid ho5
      have HB5 := Lib.hid ((HB2.out.alloc HB2.out.size _).grown hg5 (by rw [szA]; have := HB2.out.size; omega) (fun k hk => (HO2.out.block hk).1))
      clear ho5 hg5 HO2 HB2
      refine ⟨trivial, ?_⟩
      simp only [Act.put, List.setIfInBounds_toArray, List.set_cons_zero, List.set_cons_succ]
      refine oneU 13 (by kernel_rfl) ?_
      refine endU (v := ?_) 13 rfl (by kernel_rfl) (by kernel_rfl) rfl ?_ ?_
      rotate_left
      · go_simp <;> with_reducible rfl
      simp only [Act.put, List.setIfInBounds_toArray, List.set_cons_zero, List.set_cons_succ]
      go_wp2_with fail
      refine ⟨⟨i + 1, by omega, rfl, ?_, HB5.out⟩, by simp [intOf]; omega⟩
      rw [HT.out]
      exact HO5.out
    · have e : (bs s).take i = bs s := List.take_of_length_le (by rw [length_bs]; omega)
      rw [e] at HO
      clear e
      go_wp2_with (with_reducible refine wpList_owned_string rfl 36 9 _ rfl Tryd.underlying36 Tryd.underlying5 Tryd.underlying9 rfl HO.out ?_)
      go_ret
      exact ⟨rfl, HE.out⟩
end Go.Proofs.YthdoeaiehajofaaDoor
